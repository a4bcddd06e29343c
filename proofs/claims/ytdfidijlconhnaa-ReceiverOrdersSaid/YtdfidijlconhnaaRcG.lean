/- The receiver: goOn. -/
import Derived.Test.YtdfidijlconhnaaRcO
namespace Go.Proofs.Ytdfidijlconhnaa
open Go.RowKit Asn
attribute [local go_sem] Oper.semAt_some

/-- One packet's piece, added. -/
def eatS (s : RJ × List (List UInt8)) (p : Pk) : RJ × List (List UInt8) :=
  ((RJ.add s.1 p.b (hasF p.fl 1)).1, if (RJ.add s.1 p.b (hasF p.fl 1)).2.2.1 then s.2 ++ [(RJ.add s.1 p.b (hasF p.fl 1)).2.1] else s.2)
/-- How many are taken; what comes of them; is it the end? -/
def goX : List Pk → RJ × List (List UInt8) → Nat × (RJ × List (List UInt8)) × Bool
  | [], s => (0, s, false)
  | p :: l, s => if hasF p.fl 2 then (1, s, true) else ((goX l (eatS s p)).1 + 1, (goX l (eatS s p)).2)
def NoFin (l : List Pk) : Prop := ∀ p ∈ l, hasF p.fl 2 = false
theorem goX_no : ∀ (l : List Pk) (s : RJ × List (List UInt8)), NoFin l → goX l s = (l.length, l.foldl eatS s, false)
  | [], _, _ => rfl
  | p :: l, s, h => by
    rw [goX, h p List.mem_cons_self, goX_no l _ (fun q hq => h q (List.mem_cons_of_mem _ hq))]
    rfl
theorem goX_fin : ∀ (l : List Pk) (s : RJ × List (List UInt8)) (x : Pk) (t : List Pk), NoFin l → hasF x.fl 2 = true → goX (l ++ x :: t) s = (l.length + 1, l.foldl eatS s, true)
  | [], s, x, t, _, hx => by rw [List.nil_append, goX, hx]; rfl
  | p :: l, s, x, t, h, hx => by
    rw [List.cons_append, goX, h p List.mem_cons_self, goX_fin l _ x t (fun q hq => h q (List.mem_cons_of_mem _ hq)) hx]
    rfl
theorem runF_mem : ∀ (f : Nat) (L : List Pk) (n : Int) (p : Pk), p ∈ runF f L n → p ∈ L
  | 0, _, _, _, h => by simp [runF] at h
  | f + 1, L, n, p, h => by
    rw [runF] at h
    split at h
    · simp at h
    · rename_i q hq
      rcases List.mem_cons.1 h with rfl | h
      · exact (getP_mem hq).1
      · exact (List.eraseP_sublist).subset (runF_mem f _ _ p h)
theorem runP_mem {L : List Pk} {n : Int} {p : Pk} (h : p ∈ runP L n) : p ∈ L := runF_mem _ _ _ _ h
theorem eats_len : ∀ (l : List Pk) (s : RJ × List (List UInt8)), (l.foldl eatS s).2.length ≤ s.2.length + l.length
  | [], _ => Nat.le_refl _
  | p :: l, s => by
    have h1 := eats_len l (eatS s p)
    have h2 : (eatS s p).2.length ≤ s.2.length + 1 := by
      unfold eatS
      dsimp only
      split <;> simp
    simp only [List.foldl_cons, List.length_cons]
    omega
theorem tails_snoc (rs : List (Option Addr × Nat × List UInt8)) (r : Option Addr × Nat × List UInt8) : tails (rs ++ [r]) = tails rs * bsl r.1 r.2.2.length r.2.1 r.2.2 := by
  induction rs with
  | nil => show bsl _ _ _ _ * (1 : Asn) = (1 : Asn) * _; rw [sep_one, one_sep]
  | cons a l ih =>
    have h : ∀ (x : Option Addr × Nat × List UInt8) (l : List (Option Addr × Nat × List UInt8)), tails (x :: l) = bsl x.1 x.2.2.length x.2.1 x.2.2 * tails l := fun _ _ => rfl
    rw [List.cons_append, h, h, ih, sep_assoc]
/-- A packet whose payload may be read. -/
def PkOk (F : Asn) (p : Pk) : Prop := rd F 1 p.A p.n (bytes p.b) ∧ p.n ≤ 9223372036854775807 ∧ p.fl ≤ 9223372036854775807
/-- A box of messages. -/
def BoxO (b : Nat) (out : List (List UInt8)) : Asn := Asn.ex fun x : Option Addr × Nat => Asn.blk b 67 #[.slice x.1 out.length x.2] * bbsl x.1 out.length x.2 out
def JG (y g : Nat) (k : RcK) (V : Nat → Nat) (ba : Nat) (F : Asn) (s : RJ × List (List UInt8)) : Asn :=
  Asn.ex fun j : JoinM => Asn.fact (j.rj = s.1) * (JoinAt k.jb j * (BoxO (y + 1) s.2 * (Asn.blk y 74 #[.pointer (some ⟨g, 0, none⟩)] * (BitAt k.bb V k.win ba * F))))
def GoF (y g : Nat) (k : RcK) (next arr iss pen : Nat) (don : Bool) (L : List Pk) (V : Nat → Nat) (ba : Nat) (F : Asn) (s : RJ × List (List UInt8)) : Asn :=
  Asn.blk (y + 2) 74 #[.pointer (some ⟨g, 0, none⟩)] * (RcB g k next arr iss pen don * (MapAt k.mb (rowsP L) * JG y g k V ba F s))
def FinX (c : Code) (q pre : List Pk) (x : Pk) : Prop := c = .exit 0 ∧ q = pre ++ [x] ∧ NoFin pre ∧ hasF x.fl 2 = true
/-- What goOn leaves. -/
def GoP (E : World) (F : Asn) (g : Nat) (k : RcK) (next arr iss pen : Nat) (L : List Pk) (V : Nat → Nat) (ba : Nat) (r : Nat × (RJ × List (List UInt8)) × Bool) (e : Ending) (w' : World) : Prop :=
  ∃ A c j', e = .returned (.slice A r.2.1.2.length c) ∧ j'.rj = r.2.1.1 ∧ Sat E w' (bbsl A r.2.1.2.length c r.2.1.2 * (RcB g k (next + r.1) arr iss (if r.2.2 then 0 else pen) r.2.2 * (MapAt k.mb (rowsP (if r.2.2 then [] else restR L next r.1)) *
    (BitAt k.bb (advB V ba).1 k.win (advB V ba).2 * (JoinAt k.jb j' * F)))))
theorem ordered_call (w : World) (p : Option Addr) : Calls Try.prog 99 #[.pointer p] w fun e w' => e = .returned (.func (.func 109) #[] #[.pointer (some ⟨w.heap.size, 0, none⟩)]) ∧ w' = w.alloc (.cells #[.pointer p] 74) := by
  go_enter Try.func99, Try.ntmps99
  go_wp2_with fail
  go_ret
  exact ⟨rfl, rfl⟩
theorem has_fin (w : World) (fl : Int) (h : fl ≤ 9223372036854775807) : Calls Try.prog 74 #[.int .i64 fl, .int .i64 4] w fun e w' => e = .returned (.bool (hasF fl 2)) ∧ w = w' := has_flag w fl 2 (by decide) h
theorem has_end (w : World) (fl : Int) (h : fl ≤ 9223372036854775807) : Calls Try.prog 74 #[.int .i64 fl, .int .i64 2] w fun e w' => e = .returned (.bool (hasF fl 1)) ∧ w = w' := has_flag w fl 1 (by decide) h
theorem has_trim (w : World) (fl : Int) (h : fl ≤ 9223372036854775807) : Calls Try.prog 74 #[.int .i64 fl, .int .i64 8] w fun e w' => e = .returned (.bool (hasF fl 3)) ∧ w = w' := has_flag w fl 3 (by decide) h
theorem has_bounced (w : World) (fl : Int) (h : fl ≤ 9223372036854775807) : Calls Try.prog 74 #[.int .i64 fl, .int .i64 16] w fun e w' => e = .returned (.bool (hasF fl 4)) ∧ w = w' := has_flag w fl 4 (by decide) h
set_option maxHeartbeats 8000000 in
set_option maxRecDepth 100000 in
theorem rc_goOn {E w : World} {F : Asn} {g : Nat} {k : RcK} {next arr iss pen : Nat} {L : List Pk} {V : Nat → Nat} {ba : Nat} {j : JoinM}
    (hs : Sat E w (RcB g k next arr iss pen false * (MapAt k.mb (rowsP L) * (BitAt k.bb V k.win ba * (JoinAt k.jb j * F))))) (hb : next + L.length ≤ 4611686018427387904) (hl : L.length ≤ 1000) (hok : ∀ p ∈ L, PkOk F p)
    (hV : Small V) (h0 : 1 ≤ k.win) (h256 : k.win ≤ 256) (hba : ba ≤ 1152921504606846977) :
    Calls Try.prog 79 #[.pointer (some ⟨g, 0, none⟩)] w (GoP E F g k next arr iss pen L V ba (goX (runP L next) (j.rj, []))) := by
  have hs1 := ((hs.alloc #[.pointer (some ⟨g, 0, none⟩)] 74).alloc #[.slice none 0 0] 67).alloc #[.pointer (some ⟨g, 0, none⟩)] 74
  rw [World.size_alloc, World.size_alloc] at hs1
  have HS1 := hide hs1
  clear hs1
  have HOK := hide hok
  clear hok
  refine callsIn_wide.1 (callsIn_of_wp_marks (F := Fence.wide) (n := 0) Try.func79 rfl trivial (wpIn_wide.2 ?_) rfl)
  simp only [Try.ntmps79, List.size_toArray, List.length_cons, List.length_nil, Nat.reduceAdd, Nat.reduceSub, Array.replicate_succ, Array.replicate_zero, List.push_toArray, List.append_toArray, List.nil_append, List.cons_append]
  go_wp2_with (go_at_call 99; refine (ordered_call _ _).mono ?_; rintro e w' ⟨rfl, rfl⟩)
  obtain ⟨y, hy⟩ : ∃ y, y = w.heap.size := ⟨_, rfl⟩
  rw [← hy] at HS1 ⊢
  clear hs hy
  refine wpIn_wide.1 (wpIn_rangeFunc_sm (E := E) (α := Pk) (R := (1 : Asn)) (ord_seq E (y + 2) g k L next arr iss pen false hb) rfl (enters_of Try.func109 (by kernel_rfl) rfl) (fun _ => by rfl)
    (fun pre => Asn.fact (NoFin pre) * JG y g k V ba F (pre.foldl eatS (j.rj, []))) (fun c q => Asn.ex fun x : List Pk × Pk => Asn.fact (FinX c q x.1 x.2) * GoF y g k (next + q.length) arr iss 0 true [] V ba F (x.1.foldl eatS (j.rj, []))) ?h0 ?round ?done ?stop)
  case h0 =>
    have h1 := (unhide HS1).perm (show _ = Asn.blk (y + 1) 67 #[.slice none 0 0] * (OrdM (y + 2) g k L next arr iss pen false 0 * (JoinAt k.jb j * (Asn.blk y 74 #[.pointer (some ⟨g, 0, none⟩)] * (BitAt k.bb V k.win ba * F)))) by unfold OrdM; simp only [restR, Nat.add_zero]; ac_rfl)
    have h2 : Sat E _ (BoxO (y + 1) [] * (OrdM (y + 2) g k L next arr iss pen false 0 * (JoinAt k.jb j * (Asn.blk y 74 #[.pointer (some ⟨g, 0, none⟩)] * (BitAt k.bb V k.win ba * F))))) :=
      Sat.mkEx (none, 0) (Sat.csa (Sat.f2 (Sat.bbslMk (rs := []) ((Sat.slNil (e := 22) (z := 1) h1).perm (by rw [show tails [] = 1 from rfl, one_sep]; rfl)))))
    have h3 : Sat E _ (JG y g k V ba F (j.rj, []) * OrdM (y + 2) g k L next arr iss pen false 0) := Sat.mkEx j (Sat.csa (Sat.mkFact rfl (h2.perm (by ac_rfl))))
    exact (Sat.mkFact (p := NoFin []) (fun p hp => by simp at hp) h3).perm (by rw [sep_one]; ac_rfl)
  case round =>
    rintro l pre x ⟨t, ht⟩ T W hsW
    have hmem : x ∈ L := runP_mem (n := (next : Int)) (by rw [ht]; simp)
    have hpre : pre.length ≤ 1000 := by
      have := runP_len L next
      rw [ht, List.length_append] at this
      omega
    obtain ⟨hrd, hn, hfl⟩ := (unhide HOK) x hmem
    obtain ⟨pk, fl, pa, sr, ds, co, q, pu, A, n, c, b⟩ := x
    have HRD := hide hrd
    simp only [Pk.val, Pk.cells]
    dsimp only at hn hfl
    clear hrd ht hmem HS1
    have hnew := hsW.alloc #[.int .i64 pk, .int .i64 fl, .int .i64 pa, .int .i64 sr, .int .i64 ds, .int .i64 co, .int .i64 q, .int .i64 pu, .slice A n c] 79
    have HNEW := hide hnew
    clear hnew hsW
    obtain ⟨z, hz⟩ : ∃ z, z = W.heap.size := ⟨_, rfl⟩
    rw [← hz] at HNEW
    have HZ := hide hz
    gi_wp2
    refine ⟨Asn.blk z 79 #[.int .i64 pk, .int .i64 fl, .int .i64 pa, .int .i64 sr, .int .i64 ds, .int .i64 co, .int .i64 q, .int .i64 pu, .slice A n c] * (OrdM (y + 2) g k L next arr iss pen false (pre.length + 1) * (Asn.fact (NoFin pre) * JG y g k V ba F (pre.foldl eatS (j.rj, [])))), (unhide HNEW).perm (by ac_rfl), ?_⟩
    intro W2 T3 rec hs2
    rw [← hz]
    clear hz HNEW HZ
    obtain ⟨hnf, hs3⟩ := Sat.fact (p := NoFin pre) (F := JG y g k V ba F (pre.foldl eatS (j.rj, [])) * (Asn.blk z 79 #[.int .i64 pk, .int .i64 fl, .int .i64 pa, .int .i64 sr, .int .i64 ds, .int .i64 co, .int .i64 q, .int .i64 pu, .slice A n c] * (OrdM (y + 2) g k L next arr iss pen false (pre.length + 1) * (Asn.obj l (.loop rec) * T3)))) (hs2.perm (by ac_rfl))
    obtain ⟨j1, hs4⟩ := hs3.ex
    obtain ⟨hj1, hs5⟩ := hs4.asc.fact
    obtain ⟨s, hse⟩ : ∃ s, s = pre.foldl eatS (j.rj, []) := ⟨_, rfl⟩
    rw [← hse] at hj1 hs5
    have hs6 := hs5.perm (show _ = (Asn.blk z 79 #[.int .i64 pk, .int .i64 fl, .int .i64 pa, .int .i64 sr, .int .i64 ds, .int .i64 co, .int .i64 q, .int .i64 pu, .slice A n c] * (RcB g k (next + (pre.length + 1)) arr iss pen false * (MapAt k.mb (rowsP (restR L next (pre.length + 1))) * (Asn.blk (y + 2) 74 #[.pointer (some ⟨g, 0, none⟩)] * (BoxO (y + 1) s.2 * (BitAt k.bb V k.win ba * (F * (Asn.obj l (.loop rec) * T3)))))))) * (Asn.blk y 74 #[.pointer (some ⟨g, 0, none⟩)] * JoinAt k.jb j1) by unfold OrdM; ac_rfl)
    have d1 : W2.cell? ⟨z, 1, none⟩ = some (.int .i64 fl) := hs6.asc.cell 1
    have d2 : W2.cell? ⟨y, 0, none⟩ = some (.pointer (some ⟨g, 0, none⟩)) := hs6.f2.cell 0
    have HNF := hide hnf
    have HJ1 := hide hj1
    have HSE := hide hse
    have HS6 := hide hs6
    clear hs2 hs3 hs4 hs5 hs6 hnf hj1 hse
    cases hfin : hasF fl 2 with
    | true =>
      have HFIN := hide hfin
      have hF := rc_finish (L := rowsP (restR L next (pre.length + 1))) ((unhide HS6).perm (show _ = RcB g k (next + (pre.length + 1)) arr iss pen false * (MapAt k.mb (rowsP (restR L next (pre.length + 1))) * (Asn.blk z 79 #[.int .i64 pk, .int .i64 fl, .int .i64 pa, .int .i64 sr, .int .i64 ds, .int .i64 co, .int .i64 q, .int .i64 pu, .slice A n c] * (Asn.blk (y + 2) 74 #[.pointer (some ⟨g, 0, none⟩)] * (BoxO (y + 1) s.2 * (BitAt k.bb V k.win ba * (F * (Asn.obj l (.loop rec) * T3 * (Asn.blk y 74 #[.pointer (some ⟨g, 0, none⟩)] * JoinAt k.jb j1)))))))) by ac_rfl))
      have HF := hide hF
      clear hF hfin HS6
      gi_wp2_with (gi_at_call 74; refine (CallsIn.inRound l (callsIn_wide.2 (has_fin _ _ hfl))).mono ?_; rintro e w' ⟨rfl, rfl⟩; rw [unhide HFIN])
      refine (CallsIn.inRound l (callsIn_wide.2 (unhide HF))).mono ?_
      rintro e W3 ⟨⟨v, rfl⟩, hs7⟩
      have HS7 := hide hs7
      clear hs7 HF
      gi_wp2
      have h8 : Sat E _ (JG y g k V ba F s * (Asn.blk z 79 #[.int .i64 pk, .int .i64 fl, .int .i64 pa, .int .i64 sr, .int .i64 ds, .int .i64 co, .int .i64 q, .int .i64 pu, .slice A n c] * (Asn.blk (y + 2) 74 #[.pointer (some ⟨g, 0, none⟩)] * (RcB g k (next + (pre.length + 1)) arr iss 0 true * (MapAt k.mb [] * (Asn.obj l (.loop rec) * T3)))))) := Sat.mkEx j1 (Sat.csa (Sat.mkFact (unhide HJ1) ((unhide HS7).perm (by ac_rfl))))
      have h9 := Sat.mkFact (p := FinX (.exit 0) (pre ++ [(⟨pk, fl, pa, sr, ds, co, q, pu, A, n, c, b⟩ : Pk)]) pre (⟨pk, fl, pa, sr, ds, co, q, pu, A, n, c, b⟩ : Pk)) ⟨rfl, rfl, unhide HNF, unhide HFIN⟩ (h8.perm (show _ = GoF y g k (next + (pre.length + 1)) arr iss 0 true [] V ba F s * ((Asn.obj l (.loop rec) * T3) * Asn.blk z 79 #[.int .i64 pk, .int .i64 fl, .int .i64 pa, .int .i64 sr, .int .i64 ds, .int .i64 co, .int .i64 q, .int .i64 pu, .slice A n c]) by unfold GoF; ac_rfl))
      have h10 : Sat E _ ((Asn.ex fun x : List Pk × Pk => Asn.fact (FinX (.exit 0) (pre ++ [(⟨pk, fl, pa, sr, ds, co, q, pu, A, n, c, b⟩ : Pk)]) x.1 x.2) * GoF y g k (next + (pre.length + 1)) arr iss 0 true [] V ba F (x.1.foldl eatS (j.rj, []))) * ((Asn.obj l (.loop rec) * T3) * Asn.blk z 79 #[.int .i64 pk, .int .i64 fl, .int .i64 pa, .int .i64 sr, .int .i64 ds, .int .i64 co, .int .i64 q, .int .i64 pu, .slice A n c])) := Sat.mkEx (pre, (⟨pk, fl, pa, sr, ds, co, q, pu, A, n, c, b⟩ : Pk)) (Sat.csa (by rw [← unhide HSE]; exact h9))
      have h11 := h10.perm (show _ = Asn.blk z 79 #[.int .i64 pk, .int .i64 fl, .int .i64 pa, .int .i64 sr, .int .i64 ds, .int .i64 co, .int .i64 q, .int .i64 pu, .slice A n c] * (((1 : Asn) * (Asn.ex fun x : List Pk × Pk => Asn.fact (FinX (.exit 0) (pre ++ [(⟨pk, fl, pa, sr, ds, co, q, pu, A, n, c, b⟩ : Pk)]) x.1 x.2) * GoF y g k (next + (pre.length + 1)) arr iss 0 true [] V ba F (x.1.foldl eatS (j.rj, [])))) * (Asn.obj l (.loop rec) * T3)) by rw [one_sep]; ac_rfl)
      have h12 := h11.right
      exact h12
    | false =>
      have HFIN := hide hfin
      obtain ⟨xe, hxe⟩ : ∃ xe, xe = hasF fl 1 := ⟨_, rfl⟩
      obtain ⟨r, hr⟩ : ∃ r, r = RJ.add j1.rj b xe := ⟨_, rfl⟩
      have HADD : Hid (∀ (W : World) (G : Asn), Sat E W (JoinAt k.jb j1 * G) → RdW W A n 1 (bytes b) → Calls Try.prog 101 #[.pointer (some ⟨k.jb, 0, none⟩), .slice A n c, .bool xe] W fun e w' => ∃ j' X A2 n2 c2,
          e = .returned (.tuple #[.slice A2 n2 c2, .bool r.2.2.1, .int .i64 r.2.2.2]) ∧ Sat E w' (JoinAt k.jb j' * (X * G)) ∧ j'.rj = r.1 ∧ (X = bsl A2 n2 c2 r.2.1 ∨ (X = 1 ∧ A2 = none ∧ n2 = 0 ∧ c2 = 0 ∧ r.2.1 = [])) ∧ n2 ≤ 65536) := by
        intro W G h1 h2
        rw [hr]
        exact add_any E W G k.jb n c j1 A b xe h1 h2 hn
      have HHE : Hid (∀ W : World, Calls Try.prog 74 #[.int .i64 fl, .int .i64 2] W fun e w' => e = .returned (.bool xe) ∧ Below W.heap.size W w') := by
        intro W
        refine (has_end W fl hfl).mono ?_
        rintro e w' ⟨rfl, rfl⟩
        rw [hxe]
        exact ⟨rfl, Below.refl _ _⟩
      have HR := hide hr
      have HXE := hide hxe
      clear hr hxe hfin
      obtain ⟨r1, msg, ok, er⟩ := r
      gi_upto_region 6 with (gi_at_call 74; refine (CallsIn.inRound l (callsIn_wide.2 (has_fin _ _ hfl))).mono ?_; rintro e w' ⟨rfl, rfl⟩; rw [unhide HFIN])
      have HK6 := hide ((unhide HS6).perm (show _ = (Asn.blk y 74 #[.pointer (some ⟨g, 0, none⟩)] * (Asn.blk z 79 #[.int .i64 pk, .int .i64 fl, .int .i64 pa, .int .i64 sr, .int .i64 ds, .int .i64 co, .int .i64 q, .int .i64 pu, .slice A n c] * (RcB g k (next + (pre.length + 1)) arr iss pen false * (MapAt k.mb (rowsP (restR L next (pre.length + 1))) * (Asn.blk (y + 2) 74 #[.pointer (some ⟨g, 0, none⟩)] * (BoxO (y + 1) s.2 * (BitAt k.bb V k.win ba * (F * (Asn.obj l (.loop rec) * T3))))))))) * JoinAt k.jb j1 by ac_rfl))
      clear HS6 d1 d2
      refine wpIn_region_slr (Q := _) (E := E) (fun W => ∃ R, Sat E W ((Asn.blk y 74 #[.pointer (some ⟨g, 0, none⟩)] * (Asn.blk z 79 #[.int .i64 pk, .int .i64 fl, .int .i64 pa, .int .i64 sr, .int .i64 ds, .int .i64 co, .int .i64 q, .int .i64 pu, .slice A n c] * (RcB g k (next + (pre.length + 1)) arr iss pen false * (MapAt k.mb (rowsP (restR L next (pre.length + 1))) * (Asn.blk (y + 2) 74 #[.pointer (some ⟨g, 0, none⟩)] * (BoxO (y + 1) s.2 * (BitAt k.bb V k.win ba * (F * (Asn.obj l (.loop rec) * T3))))))))) * R)) [9] [8] [] [] (fun _ => (0, #[], fun _ => undef)) [0, 1, 2, 3, 4, 5, 6, 7, 8, 9, 10, 11, 12, 13, 14, 15, 16] (by kernel_rfl) (by kernel_rfl) (by kernel_rfl) (unhide HK6) (fun W R h => ⟨_, h.asc⟩) ?_
      iterate 8
        refine wpS_f _ rfl rfl (v := ?_) ?_ ?_
        rotate_left
        · rintro W ⟨R, hW⟩
          have f1 : W.cell? ⟨y, 0, none⟩ = some (.pointer (some ⟨g, 0, none⟩)) := hW.asc.cell 0
          have f2 : W.cell? ⟨g, 1, none⟩ = some (.pointer (some ⟨k.jb, 0, none⟩)) := hW.asc.f2.asc.f2.asc.cell 1
          have f3 : W.cell? ⟨z, 8, none⟩ = some (.slice A n c) := hW.asc.f2.asc.cell 8
          have f4 : W.cell? ⟨z, 1, none⟩ = some (.int .i64 fl) := hW.asc.f2.asc.cell 1
          go_simp
          first | rfl | (rw [IntKind.wrap_i64]; omega)
        go_simp
      refine wpS_c _ rfl rfl (v := .bool xe) (freeC_call rfl (fun W => by go_simp; try rfl) (fun W ⟨R, hW⟩ => unhide HHE W)) ?_
      go_simp
      refine wpS_e _ rfl rfl (fun W R hW => ?_)
      refine stp_call rfl (by go_simp; try rfl) ((unhide HADD W _ (hW.perm (show _ = JoinAt k.jb j1 * ((Asn.blk y 74 #[.pointer (some ⟨g, 0, none⟩)] * (Asn.blk z 79 #[.int .i64 pk, .int .i64 fl, .int .i64 pa, .int .i64 sr, .int .i64 ds, .int .i64 co, .int .i64 q, .int .i64 pu, .slice A n c] * (RcB g k (next + (pre.length + 1)) arr iss pen false * (MapAt k.mb (rowsP (restR L next (pre.length + 1))) * (Asn.blk (y + 2) 74 #[.pointer (some ⟨g, 0, none⟩)] * (BoxO (y + 1) s.2 * (BitAt k.bb V k.win ba * (F * (Asn.obj l (.loop rec) * T3))))))))) * R) by ac_rfl)) (RdW.of_rd (unhide HRD) (hW.perm (show _ = ((Asn.blk y 74 #[.pointer (some ⟨g, 0, none⟩)] * (Asn.blk z 79 #[.int .i64 pk, .int .i64 fl, .int .i64 pa, .int .i64 sr, .int .i64 ds, .int .i64 co, .int .i64 q, .int .i64 pu, .slice A n c] * (RcB g k (next + (pre.length + 1)) arr iss pen false * (MapAt k.mb (rowsP (restR L next (pre.length + 1))) * (Asn.blk (y + 2) 74 #[.pointer (some ⟨g, 0, none⟩)] * (BoxO (y + 1) s.2 * (BitAt k.bb V k.win ba * ((Asn.obj l (.loop rec) * T3) * (JoinAt k.jb j1 * R))))))))) * F) by ac_rfl)).right)).mono ?_)
      rintro e w' ⟨j2, X, A2, n2, c2, rfl, hs3, hj2, hX, hn2⟩
      refine ⟨_, rfl, (Asn.blk y 74 #[.pointer (some ⟨g, 0, none⟩)] * (Asn.blk z 79 #[.int .i64 pk, .int .i64 fl, .int .i64 pa, .int .i64 sr, .int .i64 ds, .int .i64 co, .int .i64 q, .int .i64 pu, .slice A n c] * (RcB g k (next + (pre.length + 1)) arr iss pen false * (MapAt k.mb (rowsP (restR L next (pre.length + 1))) * (Asn.blk (y + 2) 74 #[.pointer (some ⟨g, 0, none⟩)] * (BoxO (y + 1) s.2 * (BitAt k.bb V k.win ba * (F * (Asn.obj l (.loop rec) * T3))))))))) * (JoinAt k.jb j2 * X), fun W R h => ⟨_, h.asc⟩, hs3.perm (by first | ac_rfl | (simp only [Asn.one_sep, Asn.sep_one]; ac_rfl)), ?_⟩
      clear hs3 hW
      go_simp
      iterate 7
        refine wpS_f _ rfl rfl (v := ?_) ?_ ?_
        rotate_left
        · rintro W ⟨R, hW⟩
          have f1 : W.cell? ⟨y, 0, none⟩ = some (.pointer (some ⟨g, 0, none⟩)) := hW.asc.cell 0
          have f2 : W.cell? ⟨g, 1, none⟩ = some (.pointer (some ⟨k.jb, 0, none⟩)) := hW.asc.f2.asc.f2.asc.cell 1
          have f3 : W.cell? ⟨z, 8, none⟩ = some (.slice A n c) := hW.asc.f2.asc.cell 8
          have f4 : W.cell? ⟨z, 1, none⟩ = some (.int .i64 fl) := hW.asc.f2.asc.cell 1
          go_simp
          first | rfl | (rw [IntKind.wrap_i64]; omega)
        go_simp
      refine wpS_n (fun W3 hs7 => ?_)
      have hx2 : ∀ {W : World} {G : Asn}, Sat E W (X * G) → Sat E W (bsl A2 n2 c2 msg * G) := by
        intro W G h
        rcases hX with rfl | ⟨rfl, rfl, rfl, rfl, rfl⟩
        · exact h
        · rw [one_sep] at h
          exact Sat.slNil h
      have hs8 := hx2 (hs7.perm (show _ = X * ((Asn.blk y 74 #[.pointer (some ⟨g, 0, none⟩)] * (Asn.blk z 79 #[.int .i64 pk, .int .i64 fl, .int .i64 pa, .int .i64 sr, .int .i64 ds, .int .i64 co, .int .i64 q, .int .i64 pu, .slice A n c] * (RcB g k (next + (pre.length + 1)) arr iss pen false * (MapAt k.mb (rowsP (restR L next (pre.length + 1))) * (Asn.blk (y + 2) 74 #[.pointer (some ⟨g, 0, none⟩)] * (BoxO (y + 1) s.2 * (BitAt k.bb V k.win ba * (F * (Asn.obj l (.loop rec) * T3))))))))) * JoinAt k.jb j2) by ac_rfl))
      have HJ2 := hide hj2
      have hfold : eatS (pre.foldl eatS (j.rj, [])) (⟨pk, fl, pa, sr, ds, co, q, pu, A, n, c, b⟩ : Pk) = eatS s (⟨pk, fl, pa, sr, ds, co, q, pu, A, n, c, b⟩ : Pk) := by rw [← unhide HSE]
      have heat : eatS s (⟨pk, fl, pa, sr, ds, co, q, pu, A, n, c, b⟩ : Pk) = (r1, if ok then s.2 ++ [msg] else s.2) := by
        unfold eatS
        dsimp only
        rw [← unhide HJ1, ← unhide HXE, ← unhide HR]
      have hnf2 : NoFin (pre ++ [(⟨pk, fl, pa, sr, ds, co, q, pu, A, n, c, b⟩ : Pk)]) := by
        intro p hp
        rcases List.mem_append.1 hp with hp | hp
        · exact (unhide HNF) p hp
        · obtain rfl := List.mem_singleton.1 hp
          exact unhide HFIN
      have HFOLD := hide (hfold.trans heat)
      have HNF2 := hide hnf2
      clear hs7 hX hj2 hfold heat hnf2 HK6 HADD HHE
      cases ok with
      | false =>
        have HS8 := hide hs8.right
        clear hs8 hx2
        gi_wp2
        have h8 : Sat E _ (JG y g k V ba F (r1, s.2) * (Asn.blk z 79 #[.int .i64 pk, .int .i64 fl, .int .i64 pa, .int .i64 sr, .int .i64 ds, .int .i64 co, .int .i64 q, .int .i64 pu, .slice A n c] * (OrdM (y + 2) g k L next arr iss pen false (pre.length + 1) * (Asn.obj l (.loop rec) * T3)))) := Sat.mkEx j2 (Sat.csa (Sat.mkFact (unhide HJ2) ((unhide HS8).perm (by unfold OrdM; ac_rfl))))
        have h9 := (Sat.mkFact (unhide HNF2) h8).perm (show _ = Asn.blk z 79 #[.int .i64 pk, .int .i64 fl, .int .i64 pa, .int .i64 sr, .int .i64 ds, .int .i64 co, .int .i64 q, .int .i64 pu, .slice A n c] * ((OrdM (y + 2) g k L next arr iss pen false (pre.length + 1) * (Asn.fact (NoFin (pre ++ [(⟨pk, fl, pa, sr, ds, co, q, pu, A, n, c, b⟩ : Pk)])) * JG y g k V ba F (r1, s.2))) * (Asn.obj l (.loop rec) * T3)) by ac_rfl)
        have h10 := h9.right
        show Sat E _ ((OrdM (y + 2) g k L next arr iss pen false (pre.length + 1) * (Asn.fact (NoFin (pre ++ [(⟨pk, fl, pa, sr, ds, co, q, pu, A, n, c, b⟩ : Pk)])) * JG y g k V ba F (eatS (pre.foldl eatS (j.rj, [])) (⟨pk, fl, pa, sr, ds, co, q, pu, A, n, c, b⟩ : Pk)))) * (Asn.obj l (.loop rec) * T3))
        rw [unhide HFOLD]
        exact h10
      | true =>
        obtain ⟨⟨A4, c4⟩, hs9⟩ := (hs8.perm (show _ = BoxO (y + 1) s.2 * (bsl A2 n2 c2 msg * (Asn.blk y 74 #[.pointer (some ⟨g, 0, none⟩)] * (Asn.blk z 79 #[.int .i64 pk, .int .i64 fl, .int .i64 pa, .int .i64 sr, .int .i64 ds, .int .i64 co, .int .i64 q, .int .i64 pu, .slice A n c] * (RcB g k (next + (pre.length + 1)) arr iss pen false * (MapAt k.mb (rowsP (restR L next (pre.length + 1))) * (Asn.blk (y + 2) 74 #[.pointer (some ⟨g, 0, none⟩)] * (BitAt k.bb V k.win ba * (F * (Asn.obj l (.loop rec) * T3 * JoinAt k.jb j2))))))))) by ac_rfl)).ex
        dsimp only at hs9
        obtain ⟨rs, hrs, hrl, hsl, hs10⟩ := (hs9.asc.f2).bbslOpen
        have hmsg : msg.length = n2 := by
          have := hs10.f4.slLen.1
          unfold bytes at this
          rw [List.length_map] at this
          omega
        have hout : s.2.length ≤ 1000 := by
          have := eats_len pre (j.rj, [])
          rw [← unhide HSE] at this
          simp only [List.length_nil] at this
          omega
        have e1 : W3.cell? ⟨y + 1, 0, none⟩ = some (.slice A4 s.2.length c4) := hs10.f3.cell 0
        have e3 := hs10.alloc #[.slice A2 n2 c2] 22
        obtain ⟨A5, c5, W4, run5, hs11⟩ := Sat.append (P := Try.prog) (t := 67) (ty := 67) (d := 1) elt_rows e3.right (RdW.new W3 #[.slice A2 n2 c2] 22 1 1 rfl) (by intro u hu; simp at hu; subst hu; rfl) (by unfold maxLen; omega) (by omega)
        obtain ⟨N, hN⟩ : ∃ N, N = s.2.length := ⟨_, rfl⟩
        rw [← hN] at e1 run5 hs11
        have e4 : W4.cell? ⟨y + 1, 0, none⟩ = some (.slice A4 N c4) := hs11.f3.cell 0
        have e5 : W4.frozen? ⟨y + 1, 0, none⟩ = false := hs11.f3.frozen 0
        have R5 := Lib.hid run5
        have HS11 := hide (hs11.f3.set 0 (.slice A5 (N + 1) c5))
        have HRS := hide hrs
        have HMSG := hide hmsg
        have HN := hide hN
        clear hs8 hs9 hs10 e3 run5 hs11 hrs hmsg hN hx2 hsl hrl
        gi_wp2_with (gi_at_builtin; refine wpListIn_appendR rfl (.tmp 31) (.tmp 33) rfl rfl rfl R5.out ?_)
        have hhd : heads (rs ++ [(A2, c2, msg)]) = heads rs ++ [.slice A2 n2 c2] := by unfold heads; rw [List.map_append, ← unhide HMSG]; rfl
        have h1 := (unhide HS11).perm (show _ = sl 22 1 A5 (N + 1) c5 (heads (rs ++ [(A2, c2, msg)])) * (tails (rs ++ [(A2, c2, msg)]) * (Asn.blk (y + 1) 67 #[.slice A5 (N + 1) c5] * (Asn.blk y 74 #[.pointer (some ⟨g, 0, none⟩)] * (Asn.blk z 79 #[.int .i64 pk, .int .i64 fl, .int .i64 pa, .int .i64 sr, .int .i64 ds, .int .i64 co, .int .i64 q, .int .i64 pu, .slice A n c] * (RcB g k (next + (pre.length + 1)) arr iss pen false * (MapAt k.mb (rowsP (restR L next (pre.length + 1))) * (Asn.blk (y + 2) 74 #[.pointer (some ⟨g, 0, none⟩)] * (BitAt k.bb V k.win ba * (F * (Asn.obj l (.loop rec) * T3 * JoinAt k.jb j2)))))))))) by rw [hhd, tails_snoc]; dsimp only; rw [unhide HMSG]; show Asn.blk _ _ #[_] * _ = _; ac_rfl)
        have h2 := h1.bbslMk
        have hmap : (rs ++ [(A2, c2, msg)]).map (·.2.2) = s.2 ++ [msg] := by rw [List.map_append, unhide HRS]; rfl
        have hl2 : (s.2 ++ [msg]).length = N + 1 := by rw [List.length_append, ← unhide HN]; rfl
        rw [hmap] at h2
        have h3 : Sat E _ (BoxO (y + 1) (s.2 ++ [msg]) * (Asn.blk y 74 #[.pointer (some ⟨g, 0, none⟩)] * (Asn.blk z 79 #[.int .i64 pk, .int .i64 fl, .int .i64 pa, .int .i64 sr, .int .i64 ds, .int .i64 co, .int .i64 q, .int .i64 pu, .slice A n c] * (RcB g k (next + (pre.length + 1)) arr iss pen false * (MapAt k.mb (rowsP (restR L next (pre.length + 1))) * (Asn.blk (y + 2) 74 #[.pointer (some ⟨g, 0, none⟩)] * (BitAt k.bb V k.win ba * (F * (Asn.obj l (.loop rec) * T3 * JoinAt k.jb j2))))))))) := Sat.mkEx (A5, c5) (Sat.csa (by dsimp only; rw [hl2]; exact h2.f2))
        have h8 : Sat E _ (JG y g k V ba F (r1, s.2 ++ [msg]) * (Asn.blk z 79 #[.int .i64 pk, .int .i64 fl, .int .i64 pa, .int .i64 sr, .int .i64 ds, .int .i64 co, .int .i64 q, .int .i64 pu, .slice A n c] * (OrdM (y + 2) g k L next arr iss pen false (pre.length + 1) * (Asn.obj l (.loop rec) * T3)))) := Sat.mkEx j2 (Sat.csa (Sat.mkFact (unhide HJ2) (h3.perm (by unfold OrdM; ac_rfl))))
        have h9 := (Sat.mkFact (unhide HNF2) h8).perm (show _ = Asn.blk z 79 #[.int .i64 pk, .int .i64 fl, .int .i64 pa, .int .i64 sr, .int .i64 ds, .int .i64 co, .int .i64 q, .int .i64 pu, .slice A n c] * ((OrdM (y + 2) g k L next arr iss pen false (pre.length + 1) * (Asn.fact (NoFin (pre ++ [(⟨pk, fl, pa, sr, ds, co, q, pu, A, n, c, b⟩ : Pk)])) * JG y g k V ba F (r1, s.2 ++ [msg]))) * (Asn.obj l (.loop rec) * T3)) by ac_rfl)
        have h10 := h9.right
        show Sat E _ ((OrdM (y + 2) g k L next arr iss pen false (pre.length + 1) * (Asn.fact (NoFin (pre ++ [(⟨pk, fl, pa, sr, ds, co, q, pu, A, n, c, b⟩ : Pk)])) * JG y g k V ba F (eatS (pre.foldl eatS (j.rj, [])) (⟨pk, fl, pa, sr, ds, co, q, pu, A, n, c, b⟩ : Pk)))) * (Asn.obj l (.loop rec) * T3))
        rw [unhide HFOLD]
        exact h10
  case done =>
    rintro D xs W hx hsW
    obtain ⟨hnf, h1⟩ := Sat.fact (p := NoFin xs) (F := JG y g k V ba F (xs.foldl eatS (j.rj, [])) * (OrdM (y + 2) g k L next arr iss pen false xs.length * (Asn.obj D (.deferred (some [])) * (1 : Asn)))) (hsW.perm (by ac_rfl))
    obtain ⟨s, hse⟩ : ∃ s, s = xs.foldl eatS (j.rj, []) := ⟨_, rfl⟩
    rw [← hse] at h1
    have HX := hide (show goX (runP L next) (j.rj, []) = (xs.length, s, false) by rw [← hx, goX_no xs _ hnf, hse])
    have h1 := h1.perm (show _ = JG y g k V ba F s * ((RcB g k (next + xs.length) arr iss pen false * (MapAt k.mb (rowsP (restR L next xs.length)) * Asn.obj D (.deferred (some [])))) * Asn.blk (y + 2) 74 #[.pointer (some ⟨g, 0, none⟩)]) by unfold OrdM; simp only [sep_one]; ac_rfl)
    clear hx hnf hse
    obtain ⟨j1, h2⟩ := h1.ex
    obtain ⟨hj1, h3⟩ := h2.asc.fact
    obtain ⟨⟨A4, c4⟩, h4⟩ := (h3.perm (show _ = BoxO (y + 1) s.2 * (((Asn.blk y 74 #[.pointer (some ⟨g, 0, none⟩)] * (RcB g k (next + xs.length) arr iss pen false * (MapAt k.mb (rowsP (restR L next xs.length)) * (JoinAt k.jb j1 * (F * Asn.obj D (.deferred (some []))))))) * BitAt k.bb V k.win ba) * Asn.blk (y + 2) 74 #[.pointer (some ⟨g, 0, none⟩)]) by ac_rfl)).ex
    dsimp only at h4
    obtain ⟨N, hN⟩ : ∃ N, N = s.2.length := ⟨_, rfl⟩
    rw [← hN] at h4
    have HK9 := hide ((h4.perm (show _ = Asn.blk (y + 2) 74 #[.pointer (some ⟨g, 0, none⟩)] * ((Asn.blk y 74 #[.pointer (some ⟨g, 0, none⟩)] * (RcB g k (next + xs.length) arr iss pen false * (MapAt k.mb (rowsP (restR L next xs.length)) * (JoinAt k.jb j1 * (Asn.blk (y + 1) 67 #[.slice A4 N c4] * (bbsl A4 N c4 s.2 * (F * Asn.obj D (.deferred (some []))))))))) * BitAt k.bb V k.win ba) by ac_rfl)).right)
    have HJ1 := hide hj1
    have HN := hide hN
    clear hj1 h1 h2 h3 h4 hN hsW
    have hk9 := unhide HK9
    have e0 : W.cell? ⟨y, 0, none⟩ = some (.pointer (some ⟨g, 0, none⟩)) := hk9.asc.cell 0
    have e2 : W.cell? ⟨g, 0, none⟩ = some (.pointer (some ⟨k.bb, 0, none⟩)) := hk9.asc.f2.asc.cell 0
    have HADV := hide (advance_call E W _ k.bb V k.win ba hk9.comm hV h0 h256 hba)
    clear hk9 HK9
    go_wp2_with fail
    refine (unhide HADV).mono ?_
    rintro e w9 ⟨m9, rfl, hk1, hk2, hk3, hs9⟩
    have hs10 := hs9.perm (show _ = Asn.obj D (.deferred (some [])) * (Asn.blk (y + 1) 67 #[.slice A4 N c4] * (Asn.blk y 74 #[.pointer (some ⟨g, 0, none⟩)] * (bbsl A4 N c4 s.2 * (RcB g k (next + xs.length) arr iss pen false * (MapAt k.mb (rowsP (restR L next xs.length)) * (BitAt k.bb (advB V ba).1 k.win (advB V ba).2 * (JoinAt k.jb j1 * F))))))) by ac_rfl)
    have e1 : w9.cell? ⟨y + 1, 0, none⟩ = some (.slice A4 N c4) := hs10.f2.cell 0
    have HO := hide hs10.obj
    have HS := hide (sat_putObj (o' := .deferred none) hs10)
    clear hs9 hs10 HADV hk1 hk2 hk3 e0 e2
    go_wp2_with fail
    refine ⟨by simp, .inl ⟨_, _, rfl, run_takeDeferred HO.out, ?_⟩⟩
    refine ⟨_, results_tmp rfl _ _ _, ?_⟩
    rw [unhide HX]
    refine ⟨A4, c4, j1, by dsimp only; rw [← unhide HN]; rfl, unhide HJ1, ?_⟩
    dsimp only
    rw [← unhide HN]
    exact (unhide HS).right.right.right
  case stop =>
    rintro D c' q W ⟨t, ht⟩ hsW
    rw [one_sep] at hsW
    obtain ⟨⟨pre, x⟩, h0'⟩ := hsW.ex
    obtain ⟨⟨rfl, rfl, hnf, hfx⟩, h1⟩ := h0'.asc.fact
    dsimp only at h1 hnf hfx
    obtain ⟨s, hse⟩ : ∃ s, s = pre.foldl eatS (j.rj, []) := ⟨_, rfl⟩
    rw [← hse] at h1
    have hlen : (pre ++ [x]).length = pre.length + 1 := by simp
    have HX := hide (show goX (runP L next) (j.rj, []) = (pre.length + 1, s, true) by rw [ht, List.append_assoc, List.singleton_append, goX_fin pre _ x t hnf hfx, hse])
    have h1 := h1.perm (show _ = JG y g k V ba F s * ((RcB g k (next + (pre.length + 1)) arr iss 0 true * (MapAt k.mb (rowsP []) * Asn.obj D (.deferred (some [])))) * Asn.blk (y + 2) 74 #[.pointer (some ⟨g, 0, none⟩)]) by unfold GoF; rw [hlen]; simp only [sep_one]; ac_rfl)
    clear ht hnf hfx hse h0' hlen
    obtain ⟨j1, h2⟩ := h1.ex
    obtain ⟨hj1, h3⟩ := h2.asc.fact
    obtain ⟨⟨A4, c4⟩, h4⟩ := (h3.perm (show _ = BoxO (y + 1) s.2 * (((Asn.blk y 74 #[.pointer (some ⟨g, 0, none⟩)] * (RcB g k (next + (pre.length + 1)) arr iss 0 true * (MapAt k.mb (rowsP ([])) * (JoinAt k.jb j1 * (F * Asn.obj D (.deferred (some []))))))) * BitAt k.bb V k.win ba) * Asn.blk (y + 2) 74 #[.pointer (some ⟨g, 0, none⟩)]) by ac_rfl)).ex
    dsimp only at h4
    obtain ⟨N, hN⟩ : ∃ N, N = s.2.length := ⟨_, rfl⟩
    rw [← hN] at h4
    have HK9 := hide ((h4.perm (show _ = Asn.blk (y + 2) 74 #[.pointer (some ⟨g, 0, none⟩)] * ((Asn.blk y 74 #[.pointer (some ⟨g, 0, none⟩)] * (RcB g k (next + (pre.length + 1)) arr iss 0 true * (MapAt k.mb (rowsP ([])) * (JoinAt k.jb j1 * (Asn.blk (y + 1) 67 #[.slice A4 N c4] * (bbsl A4 N c4 s.2 * (F * Asn.obj D (.deferred (some []))))))))) * BitAt k.bb V k.win ba) by ac_rfl)).right)
    have HJ1 := hide hj1
    have HN := hide hN
    clear hj1 h1 h2 h3 h4 hN hsW
    have hk9 := unhide HK9
    have e0 : W.cell? ⟨y, 0, none⟩ = some (.pointer (some ⟨g, 0, none⟩)) := hk9.asc.cell 0
    have e2 : W.cell? ⟨g, 0, none⟩ = some (.pointer (some ⟨k.bb, 0, none⟩)) := hk9.asc.f2.asc.cell 0
    have HADV := hide (advance_call E W _ k.bb V k.win ba hk9.comm hV h0 h256 hba)
    clear hk9 HK9
    gi_wp2
    go_wp2_with fail
    refine (unhide HADV).mono ?_
    rintro e w9 ⟨m9, rfl, hk1, hk2, hk3, hs9⟩
    have hs10 := hs9.perm (show _ = Asn.obj D (.deferred (some [])) * (Asn.blk (y + 1) 67 #[.slice A4 N c4] * (Asn.blk y 74 #[.pointer (some ⟨g, 0, none⟩)] * (bbsl A4 N c4 s.2 * (RcB g k (next + (pre.length + 1)) arr iss 0 true * (MapAt k.mb (rowsP ([])) * (BitAt k.bb (advB V ba).1 k.win (advB V ba).2 * (JoinAt k.jb j1 * F))))))) by ac_rfl)
    have e1 : w9.cell? ⟨y + 1, 0, none⟩ = some (.slice A4 N c4) := hs10.f2.cell 0
    have HO := hide hs10.obj
    have HS := hide (sat_putObj (o' := .deferred none) hs10)
    clear hs9 hs10 HADV hk1 hk2 hk3 e0 e2
    go_wp2_with fail
    refine ⟨by simp, .inl ⟨_, _, rfl, run_takeDeferred HO.out, ?_⟩⟩
    refine ⟨_, results_tmp rfl _ _ _, ?_⟩
    rw [unhide HX]
    refine ⟨A4, c4, j1, by dsimp only; rw [← unhide HN]; rfl, unhide HJ1, ?_⟩
    dsimp only
    rw [← unhide HN]
    exact (unhide HS).right.right.right
end Go.Proofs.Ytdfidijlconhnaa
