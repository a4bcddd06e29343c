/- The reference's cut: Count, Cut, Pieces. -/
import Derived.Test.YtdfidijlconhnaaRef12
import Derived.Test.YtdfidijlconhnaaSlFro
namespace Go.Proofs.Ytdfidijlconhnaa
open Go.RowKit Asn

/-- A piece, and where its bytes lie. -/
structure PcR where
  A : Option Addr
  c : Nat
  b : List UInt8
  e : Bool
  f : Bool
def PcR.cells (p : PcR) : List Value := [.slice p.A p.b.length p.c, .bool p.e, .bool p.f]
def pcC (l : List PcR) : List Value := l.flatMap PcR.cells
theorem pcC_app (l m : List PcR) : pcC (l ++ m) = pcC l ++ pcC m := by unfold pcC; rw [List.flatMap_append]
theorem pcC_len (l : List PcR) : (pcC l).length = l.length * 3 := by
  induction l with
  | nil => rfl
  | cons p l ih =>
    have : pcC (p :: l) = p.cells ++ pcC l := rfl
    rw [this, List.length_append, ih]
    simp [PcR.cells]
    omega
theorem pcC_one {l : List PcR} : ∀ u ∈ pcC l, u.oneCell' = true := by
  intro u hu
  obtain ⟨p, _, hp⟩ := List.mem_flatMap.1 hu
  simp only [PcR.cells, List.mem_cons, List.not_mem_nil, or_false] at hp
  rcases hp with rfl | rfl | rfl <;> rfl
def PcOk (F : Asn) (p : PcR) : Prop := rd F 1 p.A p.b.length (bytes p.b)
def PcR.abs (p : PcR) : List UInt8 × Bool × Bool := (p.b, p.e, p.f)
theorem elt_pieces : Elt Try.prog 28 52 3 32 (.agg #[.slice none 0 0, .bool false, .bool false]) := elt_of Try.underlying28 (by kernel_rfl) rfl (by omega)
/-- How many pieces. -/
def cntP (n mtu : Nat) : Nat := (n + mtu - 1) / mtu
/-- A message, cut. -/
def cutL (m : List UInt8) (mtu : Nat) : List (List UInt8 × Bool × Bool) :=
  (List.range (cntP m.length mtu)).map fun i => ((m.drop (i * mtu)).take mtu, decide (i + 1 = cntP m.length mtu), false)
theorem count11 (w : World) (n mtu : Nat) (h1 : 1 ≤ n) (h2 : n ≤ 60) (h3 : 1 ≤ mtu) (h4 : mtu ≤ 20) :
    Calls Try.prog 108 #[.int .i64 n, .int .i64 mtu] w fun e w' => e = .returned (.int .i64 (cntP n mtu : Nat)) ∧ w = w' := by
  have e1 : ((n : Int) + mtu - 1) / (mtu : Int) = ((cntP n mtu : Nat) : Int) := by
    unfold cntP
    rw [Int.natCast_ediv]
    congr 1
    omega
  have hmz : ¬ mtu = 0 := by omega
  have E1 := hide e1
  clear e1
  go_enter Try.func108, Try.ntmps108
  go_wp2_with fail
  go_ret
  exact ⟨by rw [← unhide E1]; rfl, rfl⟩
theorem cut_at {n mtu i : Nat} (h1 : 1 ≤ n) (h3 : 1 ≤ mtu) (hi : i < cntP n mtu) : i * mtu < n := by
  have := (Nat.le_div_iff_mul_le (show 0 < mtu by omega)).1 (show i + 1 ≤ (n + mtu - 1) / mtu from hi)
  rw [Nat.succ_mul] at this
  omega
theorem cutL_take (m : List UInt8) (mtu i : Nat) (hi : i < cntP m.length mtu) : ((cutL m mtu).take (i + 1)) = (cutL m mtu).take i ++ [((m.drop (i * mtu)).take mtu, decide (i + 1 = cntP m.length mtu), false)] := by
  have h : (cutL m mtu)[i]? = some ((m.drop (i * mtu)).take mtu, decide (i + 1 = cntP m.length mtu), false) := by
    unfold cutL
    rw [List.getElem?_map, List.getElem?_range hi]
    rfl
  rw [List.take_add_one, h]
  rfl
set_option maxHeartbeats 2000000 in
set_option maxRecDepth 100000 in
theorem cut11 {E w : World} {F : Asn} (A : Option Addr) (n c mtu : Nat) (m : List UInt8) (hs : Sat E w F) (hm : rd F 1 A n (bytes m)) (h1 : 1 ≤ n) (h2 : n ≤ 60) (hnc : n ≤ c) (h3 : 1 ≤ mtu) (h4 : mtu ≤ 20) (hc : c ≤ maxLen) :
    Calls Try.prog 95 #[.slice A n c, .int .i64 mtu] w fun e w' => ∃ X A2 c2 ps, e = .returned (.tuple #[.slice A2 (ps : List PcR).length c2, .int .i64 0]) ∧ Sat E w' (sl 52 3 A2 ps.length c2 (pcC ps) * (X * F)) ∧ (∀ p ∈ ps, PcOk X p) ∧ ps.map PcR.abs = cutL m mtu := by
  have hml := rdlen hs hm
  have hc63 : c ≤ 9223372036854775807 := by unfold maxLen at hc; omega
  have hkpos : 1 ≤ cntP n mtu := Nat.div_pos (by omega) (by omega)
  have hkle : cntP n mtu ≤ 80 := Nat.le_trans (Nat.div_le_self _ _) (by omega)
  have HAT : Hid (∀ i, i < cntP n mtu → i * mtu < n) := fun i hi => cut_at h1 h3 hi
  have HTK : Hid (∀ i, i < cntP n mtu → (cutL m mtu).take (i + 1) = (cutL m mtu).take i ++ [((m.drop (i * mtu)).take mtu, decide (i + 1 = cntP n mtu), false)]) := fun i hi => by
    have := cutL_take m mtu i (by rw [hml]; exact hi)
    rwa [hml] at this
  have HLEN : Hid ((cutL m mtu).length = cntP n mtu) := by show _ = _; unfold cutL; rw [List.length_map, List.length_range, hml]
  have HCN := hide (count11 w n mtu h1 h2 h3 h4)
  have HM := hide hm
  obtain ⟨k, hk⟩ : ∃ k, k = cntP n mtu := ⟨_, rfl⟩
  rw [← hk] at hkpos hkle HAT HTK HLEN HCN
  have hml' : Hid (m.length = n) := hml
  clear hm hk hml
  go_enter Try.func95, Try.ntmps95
  go_wp2_with fail
  refine (unhide HCN).mono ?_
  rintro e w1 ⟨rfl, rfl⟩
  clear HCN
  go_wp2_with fail
  go_loopw [7, 8, 9] (fun s7 s8 _ wr => ∃ (i : Nat) (A2 : Option Addr) (c2 : Nat) (ps : List PcR) (X : Asn), s7 = .slice A2 ps.length c2 ∧ s8 = .int .i64 i ∧ i ≤ k ∧ Hid (∀ p ∈ ps, PcOk X p) ∧ Hid (ps.map PcR.abs = (cutL m mtu).take i) ∧ ps.length = i ∧ Sat E wr (sl 52 3 A2 ps.length c2 (pcC ps) * (X * F)))
    (fun _ s8 _ _ => k - (intOf s8).toNat)
  case atStart => exact ⟨0, none, 0, [], 1, rfl, rfl, Nat.zero_le _, fun p hp => by simp at hp, rfl, rfl, (Sat.slNil (e := 52) (z := 3) hs).perm (by rw [one_sep]; rfl)⟩
  case round =>
    obtain ⟨i, A2, c2, ps, X, rfl, rfl, hik, HOK, HMAP, hpl, hsr⟩ := hrel
    clear hs
    by_cases hlt : i < k
    · have ha := (unhide HAT) i hlt
      have htk := (unhide HTK) i hlt
      obtain ⟨a, hadef⟩ : ∃ a, a = i * mtu := ⟨_, rfl⟩
      have hmul : ((i : Int) * (mtu : Int)) = (a : Int) := by rw [hadef]; push_cast; rfl
      rw [← hadef] at ha htk
      obtain ⟨q, hq1, hq2⟩ : ∃ q, ((a + mtu ≤ n ∧ q = mtu) ∨ (n < a + mtu ∧ q = n - a)) ∧ (m.drop a).take mtu = (m.drop a).take q := by
        by_cases hh : a + mtu ≤ n
        · exact ⟨mtu, .inl ⟨hh, rfl⟩, rfl⟩
        · refine ⟨n - a, .inr ⟨by omega, rfl⟩, ?_⟩
          rw [List.take_of_length_le (by rw [List.length_drop, unhide hml']; omega), List.take_of_length_le (by rw [List.length_drop, unhide hml']; omega)]
      have haq : a + q ≤ n := by omega
      have hrd := (unhide HM).bytesSub haq
      obtain ⟨b1, hb1⟩ : ∃ b1, b1 = (m.drop a).take q := ⟨_, rfl⟩
      rw [hq2, ← hb1] at htk
      rw [← hb1] at hrd
      have hb1l : b1.length = q := by rw [hb1, List.length_take, List.length_drop, unhide hml']; omega
      have h0 : Sat E (wr.alloc (.cells #[] 5)) (sl 5 1 (some ⟨wr.heap.size, 0, none⟩) 0 0 [] * (sl 52 3 A2 ps.length c2 (pcC ps) * (X * F))) :=
        Sat.slMk (hsr.alloc #[] 5) (by simp) (Nat.le_refl _) (Nat.zero_le _) (by simp) (by intro j u hu; simp at hu)
      obtain ⟨A3, c3, w3, run3, hs3⟩ := Sat.append (P := Try.prog) (t := 22) (ty := 22) (d := c - a) elt_bytes h0 (RdW.of_rd hrd h0.right.right.right) oneCell_bytes (by unfold maxLen; omega) (by omega)
      rw [Nat.zero_add] at run3 hs3
      rw [List.nil_append] at hs3
      obtain ⟨en, hen⟩ : ∃ en, en = decide (i + 1 = k) := ⟨_, rfl⟩
      have hend : ((i : Int) == (k : Int) - 1) = en := by
        rw [hen, Bool.eq_iff_iff]
        simp only [beq_iff_eq, decide_eq_true_eq]
        omega
      have hs4 := (hs3.alloc #[.slice A3 q c3, .bool en, .bool false] 52).right
      obtain ⟨A5, c5, w5, run5, hs5⟩ := Sat.append (P := Try.prog) (t := 28) (ty := 28) (d := 1) elt_pieces hs4.f2 (RdW.new w3 #[.slice A3 q c3, .bool en, .bool false] 52 1 3 rfl) (by intro u hu; simp at hu; rcases hu with rfl | rfl | rfl <;> rfl) (by unfold maxLen; omega) (by omega)
      have R3 := Lib.hid run3
      have R5 := Lib.hid run5
      have hps : pcC (ps ++ [⟨A3, c3, b1, en, false⟩]) = pcC ps ++ [.slice A3 q c3, .bool en, .bool false] := by rw [pcC_app]; show _ ++ [Value.slice A3 b1.length c3, _, _] = _; rw [hb1l]
      have hnew : ∀ p ∈ ps ++ [⟨A3, c3, b1, en, false⟩], PcOk (sl 5 1 A3 q c3 (bytes b1) * X) p := by
        intro p hp
        rcases List.mem_append.1 hp with hp | hp
        · have := (unhide HOK) p hp
          exact rd.right this
        · obtain rfl := List.mem_singleton.1 hp
          show rd _ 1 A3 b1.length _
          rw [hb1l]
          exact (rd_sl (e := 5) (c := c3)).left
      have hmap2 : (ps ++ [(⟨A3, c3, b1, en, false⟩ : PcR)]).map PcR.abs = (cutL m mtu).take (i + 1) := by
        rw [List.map_append, unhide HMAP, htk, hen]
        rfl
      have HNEW := hide hnew
      have HMAP2 := hide hmap2
      have HS5 := hide (hs5.perm (show _ = sl 52 3 A5 (ps.length + 1) c5 (pcC (ps ++ [⟨A3, c3, b1, en, false⟩])) * ((sl 5 1 A3 q c3 (bytes b1) * X) * F) by rw [hps]; ac_rfl))
      obtain ⟨N, hN⟩ : ∃ N, N = ps.length := ⟨_, rfl⟩
      rw [← hN] at R5 HS5 hpl ⊢
      have HN := hide hN
      have HPL := hide hpl
      clear hpl run3 run5 hs5 hs4 hs3 h0 hsr hnew hmap2 hps hadef hb1 hb1l hq2 htk hrd hen HOK HMAP hN
      have hqv : (if (a : Int) + (mtu : Int) < (n : Int) then (a : Int) + (mtu : Int) else (n : Int)).toNat - a = q := by
        split <;> omega
      have HQV := hide hqv
      clear hqv
      go_upto_region 9 with (fail)
      rw [unhide HQV]
      clear HQV
      go_wp2_with (at_builtin; first | refine wpList_appendR rfl (.tmp 35) (.tmp 36) rfl rfl rfl R3.out ?_ | refine wpList_appendR rfl (.tmp 34) (.tmp 43) rfl rfl rfl R5.out ?_)
      all_goals
        go_roundw
        case rel =>
          have hl1 : (ps ++ [(⟨A3, c3, b1, en, false⟩ : PcR)]).length = N + 1 := by rw [List.length_append, ← unhide HN]; rfl
          refine ⟨i + 1, A5, c5, ps ++ [⟨A3, c3, b1, en, false⟩], ⟨rfl, hl1.symm, rfl⟩, by push_cast; rfl, by omega, sl 5 1 A3 q c3 (bytes b1) * X, HNEW, HMAP2, ?_, ?_⟩
          · rw [hl1, unhide HPL]
          · rw [hl1]
            exact unhide HS5
        case measure => simp [intOf]; omega
    · obtain rfl : i = k := by omega
      have hfin : ps.map PcR.abs = cutL m mtu := by rw [unhide HMAP, List.take_of_length_le (by rw [unhide HLEN]; exact Nat.le_refl _)]
      have HF := hide hfin
      have HS := hide hsr
      obtain ⟨N, hN⟩ : ∃ N, N = ps.length := ⟨_, rfl⟩
      rw [← hN] at hpl ⊢
      have HN := hide hN
      clear hfin hsr hN
      go_wp2_with fail
      go_ret2
      exact ⟨X, A2, c2, ps, by rw [← unhide HN]; rfl, unhide HS, unhide HOK, unhide HF⟩
end Go.Proofs.Ytdfidijlconhnaa
