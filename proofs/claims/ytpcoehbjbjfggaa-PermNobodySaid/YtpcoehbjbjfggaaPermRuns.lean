/- PermRuns: what any calls make of a perm, and what each tells. -/
import Derived.Test.YtpcoehbjbjfggaaPermW
namespace Go.Proofs.Ytpcoehbjbjfggaa
open Go.RowKit Asn

theorem short06 (w : World) (A : Option Addr) (n c : Nat) (hn : n ≤ 9223372036854775807) (hc : n ≤ c) : Calls Try.prog 62 #[.slice A n c] w fun e w' => e = .returned (.slice A (min n 20) c) ∧ w = w' := by
  by_cases h : 20 < n
  · have hm : min n 20 = 20 := by omega
    rw [hm]
    go_enter Try.func62, Try.ntmps62
    go_wp2_with fail
    go_ret
    exact ⟨rfl, rfl⟩
  · have hm : min n 20 = n := by omega
    rw [hm]
    go_enter Try.func62, Try.ntmps62
    go_wp2_with fail
    go_ret
    exact ⟨rfl, rfl⟩
theorem ints_inj {L M : List Int} (h : ints L = ints M) : L = M := by
  unfold ints at h
  exact (List.map_inj_right (fun a b e => by injection e)).1 h
theorem rise_b8 (pb qb : Nat → Bool) : decide (riseL qb = riseL pb) = b8 qb pb := by
  rw [Bool.eq_iff_iff, decide_eq_true_eq]
  unfold b8
  rw [List.all_eq_true]
  constructor
  · intro h p hp
    have hp8 := List.mem_range.1 hp
    have h1 := riseL_mem qb p
    have h2 := riseL_mem pb p
    rw [h] at h1
    have h3 := h1.symm.trans h2
    have e : ∀ rb : Nat → Bool, (∃ q : Nat, q < 8 ∧ rb q = true ∧ (p : Int) = q) ↔ rb p = true := fun rb =>
      ⟨fun ⟨q, _, h4, h5⟩ => by obtain rfl : p = q := by omega
                                exact h4, fun h4 => ⟨p, hp8, h4, rfl⟩⟩
    rw [e, e] at h3
    exact beq_iff_eq.2 (Bool.eq_iff_iff.2 h3)
  · intro h
    unfold riseL
    congr 1
    exact List.filter_congr fun p hp => by simpa using h p hp
/-- What is so of both between two calls. -/
structure PSt (X : Asn) (i : Int) (pb : Nat → Bool) (td : Nat → Int) (A : Option Addr) (n c : Nat) (Ap : Option Addr) (np cp : Nat) (Ar : Option Addr) (nr cr : Nat) (L : List Int) (k : Nat) : Prop where
  l1 : RS X A n c L
  l2 : RS X Ar nr cr L
  p : RS X Ap np cp (riseL pb)
  ne : L ≠ []
  rng : ∀ y ∈ L, 0 ≤ y ∧ y < 8
  pne : riseL pb ≠ []
  len : L.length ≤ 8
  i0 : 0 ≤ i
  i1 : i ≤ 8 * (k + 1)
  t0 : ∀ p, 0 ≤ td p
  t1 : ∀ p, td p ≤ k
/-- A fresh round. -/
theorem PSt.fresh {X : Asn} {i : Int} {pb : Nat → Bool} {td : Nat → Int} {A Ap Ar : Option Addr} {n c np cp nr cr : Nat} {M : List Int} {k : Nat} (hM : M.Perm (riseL pb)) (l1 : RS X A n c M) (l2 : RS X Ar nr cr M) (p : RS X Ap np cp (riseL pb)) (pne : riseL pb ≠ [])
    (i0 : 0 ≤ i) (i1 : i ≤ 8 * (k + 1)) (t0 : ∀ p, 0 ≤ td p) (t1 : ∀ p, td p ≤ k) : PSt X i pb td A n c Ap np cp Ar nr cr M k :=
  ⟨l1, l2, p, fun h => pne (by rw [h] at hM; exact List.nil_perm.1 hM), fun y hy => by obtain ⟨q, h1, _, rfl⟩ := (riseL_mem pb y).1 (hM.mem_iff.1 hy); omega, pne, by rw [hM.length_eq]; exact riseL_len pb, i0, i1, t0, t1⟩
theorem addT_bd {td : Nat → Int} {k p : Nat} (t0 : ∀ p, 0 ≤ td p) (t1 : ∀ p, td p ≤ k) : (∀ q, 0 ≤ addT td p (td p + 1) q) ∧ ∀ q, addT td p (td p + 1) q ≤ (k + 1 : Nat) := by
  constructor
  · intro q
    unfold addT
    have := t0 p; have := t0 q
    split <;> omega
  · intro q
    unfold addT
    have := t1 p; have := t1 q
    split <;> omega
/-- What the law holds. -/
def BothP (W : World) (rg g gs : Nat) (s i : Int) (pb : Nat → Bool) (rn : Int) (td : Nat → Int) (A : Option Addr) (n c : Nat) (Ap : Option Addr) (np cp : Nat) (Ar : Option Addr) (nr cr : Nat) (X : Asn) : Asn :=
  PermAt g gs s i pb (.slice A n c) rn td * (Asn.blk rg 122 (refC s i (.slice Ap np cp) (.slice Ar nr cr) rn td) * (X * Asn.exact W))
theorem bothP_below {W w : World} {rg g gs : Nat} {s i : Int} {pb : Nat → Bool} {rn : Int} {td : Nat → Int} {A Ap Ar : Option Addr} {n c np cp nr cr : Nat} {X : Asn} (h : Sat W w (BothP W rg g gs s i pb rn td A n c Ap np cp Ar nr cr X)) : Below W.heap.size W w :=
  Sat.below (F := 1) (h.right.right.right.perm (sep_one _).symm)
/-- A call, as its cells tell it. -/
def Op06At (W : World) (xs : List Value) (k : Nat) : Prop := ∃ (d : UInt8) (B : Option Addr) (bn bc : Nat) (L : List Int),
  xs[k * 2]? = some (.int .u8 d.toNat) ∧ xs[k * 2 + 1]? = some (.slice B bn bc) ∧ bn ≤ bc ∧ bn ≤ 9223372036854775807 ∧ RdW W B bn 1 (ints L)
/-- The state at a round's head, somewhere. -/
def StP (W : World) (rg : Nat) (s : Int) (k : Nat) (v : Value) (w : World) : Prop :=
  ∃ (g gs : Nat) (i : Int) (pb : Nat → Bool) (rn : Int) (td : Nat → Int) (A : Option Addr) (n c : Nat) (Ap : Option Addr) (np cp : Nat) (Ar : Option Addr) (nr cr : Nat) (X : Asn) (L : List Int),
    v = .pointer (some ⟨g, 0, none⟩) ∧ PSt X i pb td A n c Ap np cp Ar nr cr L k ∧ Sat W w (BothP W rg g gs s i pb rn td A n c Ap np cp Ar nr cr X)

/-- A row of the document's, made anew, and laid over another. -/
theorem tmpRow {E w : World} {G : Asn} {r t : Nat} {old : Array Value} (h : Sat E w (Asn.blk r t old * G)) (cs : Array Value) :
    (w.alloc (.cells refZ t)).heap[w.heap.size]? = some (.cells refZ t (0, 0)) ∧ ((w.alloc (.cells refZ t)).setRow w.heap.size cs).heap[w.heap.size]? = some (.cells cs t (0, 0)) ∧
      ((w.alloc (.cells refZ t)).setRow w.heap.size cs).heap[r]? = some (.cells old t (0, 0)) ∧ Sat E (((w.alloc (.cells refZ t)).setRow w.heap.size cs).setRow r cs) (Asn.blk r t cs * G) := by
  have h1 := h.alloc refZ t
  have h2 := h1.row cs
  exact ⟨h1.blk, h2.blk, h2.f2.blk, (h2.f2.row cs).f2.right⟩
set_option maxHeartbeats 8000000 in
set_option maxRecDepth 100000 in
theorem permRuns_walk (W : World) (A0 : Option Addr) (n0 c0 : Nat) (B0 : Option Addr) (N C : Nat) (s : Int) (L0 : List Int) (xs : List Value) (hL : RdW W A0 n0 1 (ints L0)) (hn0 : n0 ≤ 9223372036854775807) (hc0 : n0 ≤ c0) (hx : RdW W B0 N 2 xs) (hop : ∀ k, k < N → Op06At W xs k) (hn : N ≤ 9223372036854775807) :
    Calls Try.prog 13 #[.int .u64 s, .slice A0 n0 c0, .slice B0 N C] W fun e w' => e = .returned (.bool true) ∧ Below W.heap.size W w' := by
  have HOP := Lib.hid hop
  clear hop
  obtain ⟨n, hnm⟩ : ∃ n, n = min n0 20 := ⟨_, rfl⟩
  have hsh := hide (short06 W A0 n0 c0 hn0 hc0)
  rw [← hnm] at hsh
  have hLt := hL.take (k := n) (by omega)
  rw [Nat.mul_one, ints_take] at hLt
  obtain ⟨L, hLL⟩ : ∃ L, L = L0.take n := ⟨_, rfl⟩
  rw [← hLL] at hLt
  have hrd : rd (Asn.exact W) 1 A0 n (ints L) := hLt.exact
  have hn20 : n ≤ 20 := by omega
  clear hL hLt hLL hnm
  by_cases hok : Good L ∧ L ≠ []
  · obtain ⟨hg, hne⟩ := hok
    have hp := hide (new_perm W W _ A0 n c0 s L (Sat.start W) hrd (by omega) hg (by cases L with | nil => exact absurd rfl hne | cons => simp))
    have HG := hide hg
    have HNE := hide hne
    have HRD := hide hrd
    have hpne : Hid (riseL (memb L) ≠ []) := fun h => hne (by have := (rise_perm hg).length_eq; rw [h] at this; exact List.eq_nil_of_length_eq_zero this.symm)
    clear hg hne hrd
    go_enter Try.func13, Try.ntmps13
    go_wp2_with fail
    refine (unhide hsh).mono ?_
    rintro e w' ⟨rfl, rfl⟩
    go_wp2_with fail
    refine (unhide hp).mono ?_
    rintro e w1 ⟨g, gs, A1, c1, M, rfl, hM, hMp, hs1⟩
    clear hsh hp
    have hr := hide (rnew_ok W w1 _ A0 n c0 s L hs1 (unhide HRD).right.right (by omega) (unhide HG) (unhide HNE))
    go_wp2_with fail
    refine (unhide hr).mono ?_
    rintro e w2 ⟨A2, c2, A3, c3, M3, rfl, hM3, -, hs2⟩
    obtain rfl : M3 = M := ints_inj (hM3.trans hM.symm)
    obtain ⟨np, hnp⟩ : ∃ np, np = (riseL (memb L)).length := ⟨_, rfl⟩
    obtain ⟨i0, hi0⟩ : ∃ i0 : Int, i0 = ((np - 1 : Nat) : Int) := ⟨_, rfl⟩
    have hnp8 : np ≤ 8 := by rw [hnp]; exact riseL_len _
    rw [← hnp, ← hi0] at hs2 ⊢
    rw [← hnp, ← hi0] at hs1
    have hrs := Sat.slRS hs2
    have hs3 := hs2.alloc (refC s i0 (.slice A2 np c2) (.slice A3 M3.length c3) 1 fun _ => 0) 122
    have haw := hide (awake06 W _ _ hs3)
    have hst : Hid (∀ w', Sat W w' (Asn.blk w2.heap.size 122 (refC s i0 (.slice A2 np c2) (.slice A3 M3.length c3) 1 fun _ => 0) * (sl 3 1 A2 np c2 (ints (riseL (memb L))) * (sl 3 1 A3 M3.length c3 (ints M3) * (PermAt g gs s i0 (memb L) (.slice A1 M3.length c1) 1 (fun _ => 0) * (sl 3 1 A1 M3.length c1 (ints M3) * Asn.exact W))))) → StP W w2.heap.size s 0 (.pointer (some ⟨g, 0, none⟩)) w') := by
      intro w' h
      refine ⟨g, gs, i0, memb L, 1, fun _ => 0, A1, M3.length, c1, A2, np, c2, A3, M3.length, c3, sl 3 1 A2 np c2 (ints (riseL (memb L))) * (sl 3 1 A3 M3.length c3 (ints M3) * sl 3 1 A1 M3.length c1 (ints M3)), M3, rfl, ?_, h.perm (by unfold BothP; ac_rfl)⟩
      refine PSt.fresh hMp ?_ ?_ ?_ (unhide hpne) (by omega) (by omega) (fun _ => Int.le_refl _) (fun _ => Int.le_refl _)
      · exact (Sat.slRS (h.perm (show _ = sl 3 1 A1 M3.length c1 (ints M3) * (Asn.blk w2.heap.size 122 (refC s i0 (.slice A2 np c2) (.slice A3 M3.length c3) 1 fun _ => 0) * (sl 3 1 A2 np c2 (ints (riseL (memb L))) * (sl 3 1 A3 M3.length c3 (ints M3) * (PermAt g gs s i0 (memb L) (.slice A1 M3.length c1) 1 (fun _ => 0) * Asn.exact W)))) by ac_rfl))).right.right
      · exact (Sat.slRS h.f3).left.right
      · exact (Sat.slRS h.f2).left
    clear hs1 hs2 hs3 hrs hM hMp hM3 hr hi0 hnp
    unfold refC at haw ⊢
    go_wp2_with fail
    refine (unhide haw).mono ?_
    rintro e w3 ⟨rfl, hs4⟩
    have HST := hide (unhide hst w3 hs4)
    obtain ⟨rg, hrg⟩ : ∃ rg, rg = w2.heap.size := ⟨_, rfl⟩
    rw [← hrg] at HST ⊢
    clear haw hst hs4 hrg
    go_wp2_with fail
    go_loopw [7, 11, 12, 13, 14, 15, 16, 17, 18, 19] (fun s7 s11 _ _ _ _ _ _ _ _ wr => ∃ k : Nat, s11 = .int .i64 k ∧ k ≤ N ∧ k ≤ 60 ∧ StP W rg s k s7 wr) (fun _ s11 _ _ _ _ _ _ _ _ _ => N - (intOf s11).toNat)
    case atStart => exact ⟨0, rfl, Nat.zero_le _, Nat.zero_le _, unhide HST⟩
    case round =>
      obtain ⟨k, rfl, hkN, hk60, g, gs, i, pb, rn, td, A, n1, c1, Ap, np, cp, Ar, nr, cr, X, L1, rfl, hps, hsr⟩ := hrel
      clear HST
      have hnn1 : n1 ≤ 8 := by have := hps.l1.len hsr.right.right.left; have := hps.len; omega
      obtain ⟨x, l, rfl⟩ : ∃ x l, L1 = x :: l := by
        cases L1 with
        | nil => exact absurd rfl hps.ne
        | cons x l => exact ⟨x, l, rfl⟩
      have HPS := hide hps
      have hsB : Sat W wr (PermAt g gs s i pb (.slice A n1 c1) rn td * (X * (Asn.blk rg 122 (refC s i (.slice Ap np cp) (.slice Ar nr cr) rn td) * Asn.exact W))) := hsr.perm (by unfold BothP; ac_rfl)
      have hsame := hide (same06 W wr X _ g gs s i pb A Ap Ar n1 c1 np cp nr cr rn td x l hsB hps.l1 hps.l2 hps.p (by omega))
      have HB := Lib.hid hsr.f2.blk
      clear hps hsB
      by_cases hlt : k < N ∧ k < 60
      · obtain ⟨h1, h2⟩ := hlt
        clear hsr
        go_wp2_with (refine wpList_load_row rfl 122 (.tmp 9) rfl rg rfl 122 _ (0, 0) _ HB.out Try.underlying122 rfl (by kernel_rfl) ?_)
        refine (unhide hsame).mono ?_
        rintro e w4 ⟨rfl, hs4⟩
        clear hsame HB
        have hs5 : Sat W w4 (BothP W rg g gs s i pb rn td A n1 c1 Ap np cp Ar nr cr X) := hs4.perm (by unfold BothP; ac_rfl)
        have hps := unhide HPS
        obtain ⟨d, B, bn, bc, Lq, o0, o1, hbc, hb63, hrdq⟩ := HOP.out k h1
        have hbel : Below W.heap.size W w4 := bothP_below hs5
        obtain ⟨ad, rfl, e0⟩ := (hx.below hbel).at_ o0
        have e1 := (hx.below hbel).2 (by omega)
        obtain ⟨ad', h, e1⟩ := e1
        obtain rfl : ad = ad' := by simpa using h
        have e1 := e1 _ _ o1
        rw [← add_fld] at e1
        clear o0 o1 h hbel
        have hdl : (d.toNat : Int) < 256 := by have := d.toNat_lt; omega
        have hi900 : i ≤ 900000 := by have := hps.i1; omega
        have hi0 := hps.i0
        obtain ⟨p, hp8, rfl⟩ : ∃ p : Nat, p < 8 ∧ x = p := ⟨x.toNat, by have := hps.rng x List.mem_cons_self; omega, by have := hps.rng x List.mem_cons_self; omega⟩
        have htd : 0 ≤ td p ∧ td p ≤ 1000000 := ⟨hps.t0 p, by have := hps.t1 p; omega⟩
        have HS4 := hide hs4
        clear hs4 hs5 hps
        go_upto_block 2 with (fail)
        by_cases h5 : d.toNat % 7 = 5
        · have h5a : ((d.toNat : Int) % 7 == 5) = true := by simp; omega
          obtain ⟨q, hq⟩ : ∃ q, q = min bn 20 := ⟨_, rfl⟩
          have hshq := hide (fun w => short06 w B bn bc hb63 hbc)
          rw [← hq] at hshq
          obtain ⟨P, hP⟩ : ∃ P, P = Lq.take q := ⟨_, rfl⟩
          have hrq := hrdq.take (k := q) (by omega)
          rw [Nat.mul_one, ints_take, ← hP] at hrq
          have hrd2 : rd (Asn.exact W) 1 B q (ints P) := hrq.exact
          have hq20 : q ≤ 20 := by omega
          clear h5 hq hP hrq hrdq e0
          have hrp : rd (X * (Asn.blk rg 122 (refC s i (.slice Ap np cp) (.slice Ar nr cr) rn td) * Asn.exact W)) 1 B q (ints P) := hrd2.right.right
          by_cases hok2 : Good P ∧ P ≠ []
          · obtain ⟨hg2, hne2⟩ := hok2
            have hP0 : 0 < P.length := by
              cases P with
              | nil => exact absurd rfl hne2
              | cons => simp
            have hpn2 : Hid (riseL (memb P) ≠ []) := fun h => hne2 (by have := (rise_perm hg2).length_eq; rw [h] at this; exact List.eq_nil_of_length_eq_zero this.symm)
            have hrn := renew_ok (c := bc) (unhide HS4) hrp (by omega) hg2 hP0 hi0 hi900
            have hrr : ∀ w5 F, Sat W w5 (X * (Asn.exact W * F)) → Calls Try.prog 71 #[.agg (refC s i (.slice Ap np cp) (.slice Ar nr cr) rn td), .slice B q bc] w5 (RRen W (X * (Asn.exact W * F)) s i (riseL (memb P)) (riseL pb) Ap Ar np cp nr cr rn td (b8 (memb P) pb)) := by
              intro w5 F h
              have hp := unhide HPS
              have := rrenew_ok W w5 (X * (Asn.exact W * F)) s i (riseL pb) Ap Ar np cp nr cr rn td B q bc P h hrd2.left.right hp.p.left (by omega) (by have := hp.p.len h.left; have := riseL_len pb; omega) hg2 hne2 hi0 hi900
              rwa [rise_b8] at this
            obtain ⟨qb, hqb⟩ : ∃ qb, qb = memb P := ⟨_, rfl⟩
            rw [← hqb] at hrn hpn2
            simp only [← hqb] at hrr
            obtain ⟨bq, hbq⟩ : ∃ bq, bq = b8 qb pb := ⟨_, rfl⟩
            rw [← hbq] at hrn
            simp only [← hbq] at hrr
            have HRN := hide hrn
            have HRR := hide hrr
            clear hrn hrr hbq hqb hg2 hne2 hP0 hrp hrd2
            cases bq
            · go_wp2_with fail
              refine (unhide hshq _).mono ?_
              rintro e w' ⟨rfl, rfl⟩
              go_wp2_with fail
              refine (unhide HRN).mono ?_
              rintro e w5 ⟨A5, c5, M5, rfl, hM5, hp5, hs5⟩
              have HB := Lib.hid hs5.f4.blk
              have hrx := hide (unhide HRR w5 _ (hs5.perm (show _ = X * (Asn.exact W * (PermAt g gs s (i + ((riseL qb).length - 1 : Nat)) qb (.slice A5 M5.length c5) (wrap64 (rn + 1)) td * (sl 3 1 A5 M5.length c5 (ints M5) * Asn.blk rg 122 (refC s i (.slice Ap np cp) (.slice Ar nr cr) rn td)))) by ac_rfl)))
              have HM5 := hide hM5
              have HP5 := hide hp5
              clear hs5 hM5 hp5 HS4 HRN HRR hshq e1
              go_wp2_with (refine wpList_load_row rfl 122 (.tmp 9) rfl (rg) rfl 122 _ (0, 0) _ HB.out Try.underlying122 rfl (by kernel_rfl) ?_)
              refine (unhide hrx).mono ?_
              rintro e w6 ⟨A6, c6, D6, d6, M6, rfl, hM6, -, hs6⟩
              obtain rfl : M6 = M5 := ints_inj (hM6.trans (unhide HM5).symm)
              clear hrx HB hM6
              have hs7 : Sat W w6 (Asn.blk rg 122 (refC s i (.slice Ap np cp) (.slice Ar nr cr) rn td) * (sl 3 1 A6 (riseL qb).length c6 (ints (riseL qb)) * (sl 3 1 D6 M6.length d6 (ints M6) * (X * (PermAt g gs s (i + ((riseL qb).length - 1 : Nat)) qb (.slice A5 M6.length c5) (wrap64 (rn + 1)) td * (sl 3 1 A5 M6.length c5 (ints M6) * Asn.exact W)))))) := hs6.perm (by ac_rfl)
              clear hs6
              obtain ⟨z1, z2, z3, z4⟩ := tmpRow hs7 (refC s (i + ((riseL qb).length - 1 : Nat)) (.slice A6 (riseL qb).length c6) (.slice D6 M6.length d6) (wrap64 (rn + 1)) td)
              have Z1 := Lib.hid z1
              have Z2 := Lib.hid z2
              have Z3 := Lib.hid z3
              have Z4 := hide z4
              clear z1 z2 z3 z4 hs7
              go_wp2_with (first
                | (refine wpList_store_row rfl 122 (.tmp 14) (.tmp 98) rfl (w6.heap.size) _ rfl rfl 122 _ Z1.out (by kernel_rfl) rfl (refC_one _ _ _ _ _ _ _ _ _ _) ?_)
                | (refine wpList_load_row rfl 122 (.tmp 14) rfl (w6.heap.size) rfl 122 _ (0, 0) _ Z2.out Try.underlying122 rfl (by kernel_rfl) ?_)
                | (refine wpList_store_row rfl 122 (.tmp 9) (.tmp 100) rfl (rg) _ rfl rfl 122 _ Z3.out (by kernel_rfl) rfl (refC_one _ _ _ _ _ _ _ _ _ _) ?_))
              have hfin : Hid (∀ w', Sat W w' (Asn.blk rg 122 (refC s (i + ((riseL qb).length - 1 : Nat)) (.slice A6 (riseL qb).length c6) (.slice D6 M6.length d6) (wrap64 (rn + 1)) td) * (sl 3 1 A6 (riseL qb).length c6 (ints (riseL qb)) * (sl 3 1 D6 M6.length d6 (ints M6) * (X * (PermAt g gs s (i + ((riseL qb).length - 1 : Nat)) qb (.slice A5 M6.length c5) (wrap64 (rn + 1)) td * (sl 3 1 A5 M6.length c5 (ints M6) * Asn.exact W)))))) → StP W rg s (k + 1) (.pointer (some ⟨g, 0, none⟩)) w') := by
                intro w' h
                have hp := unhide HPS
                refine ⟨g, gs, i + ((riseL qb).length - 1 : Nat), qb, wrap64 (rn + 1), td, A5, M6.length, c5, A6, (riseL qb).length, c6, D6, M6.length, d6, sl 3 1 A5 M6.length c5 (ints M6) * (sl 3 1 D6 M6.length d6 (ints M6) * (sl 3 1 A6 (riseL qb).length c6 (ints (riseL qb)) * X)), M6, rfl, PSt.fresh (unhide HP5) ?_ ?_ ?_ (unhide hpn2) (by have := hp.i0; omega) (by have := hp.i1; have := riseL_len qb; omega) hp.t0 (fun q => by have := hp.t1 q; omega), h.perm (by unfold BothP; ac_rfl)⟩
                · exact (Sat.slRS h.f6).left
                · exact (Sat.slRS h.f3).left.right
                · exact (Sat.slRS h.f2).left.right.right
              go_roundw
              case rel => exact ⟨k + 1, by go_num, by omega, by omega, unhide hfin _ (unhide Z4)⟩
              case measure => simp [intOf]; omega
            · go_wp2_with fail
              refine (unhide hshq _).mono ?_
              rintro e w' ⟨rfl, rfl⟩
              go_wp2_with fail
              refine (unhide HRN).mono ?_
              rintro e w5 ⟨rfl, hs5⟩
              have HB := Lib.hid hs5.f3.blk
              have hrx := hide (unhide HRR w5 _ (hs5.perm (show _ = X * (Asn.exact W * (PermAt g gs s i pb (.slice A n1 c1) rn td * Asn.blk rg 122 (refC s i (.slice Ap np cp) (.slice Ar nr cr) rn td))) by ac_rfl)))
              clear hs5 HS4 HRN HRR hshq e1
              go_wp2_with (refine wpList_load_row rfl 122 (.tmp 9) rfl (rg) rfl 122 _ (0, 0) _ HB.out Try.underlying122 rfl (by kernel_rfl) ?_)
              refine (unhide hrx).mono ?_
              rintro e w6 ⟨rfl, hs6⟩
              clear hrx HB
              have hs7 : Sat W w6 (Asn.blk rg 122 (refC s i (.slice Ap np cp) (.slice Ar nr cr) rn td) * (X * (PermAt g gs s i pb (.slice A n1 c1) rn td * Asn.exact W))) := hs6.perm (by ac_rfl)
              clear hs6
              obtain ⟨z1, z2, z3, z4⟩ := tmpRow hs7 (refC s i (.slice Ap np cp) (.slice Ar nr cr) rn td)
              have Z1 := Lib.hid z1
              have Z2 := Lib.hid z2
              have Z3 := Lib.hid z3
              have Z4 := hide z4
              clear z1 z2 z3 z4 hs7
              go_wp2_with (first
                | (refine wpList_store_row rfl 122 (.tmp 14) (.tmp 98) rfl (w6.heap.size) _ rfl rfl 122 _ Z1.out (by kernel_rfl) rfl (refC_one _ _ _ _ _ _ _ _ _ _) ?_)
                | (refine wpList_load_row rfl 122 (.tmp 14) rfl (w6.heap.size) rfl 122 _ (0, 0) _ Z2.out Try.underlying122 rfl (by kernel_rfl) ?_)
                | (refine wpList_store_row rfl 122 (.tmp 9) (.tmp 100) rfl (rg) _ rfl rfl 122 _ Z3.out (by kernel_rfl) rfl (refC_one _ _ _ _ _ _ _ _ _ _) ?_))
              have hfin : Hid (∀ w', Sat W w' (Asn.blk rg 122 (refC s i (.slice Ap np cp) (.slice Ar nr cr) rn td) * (X * (PermAt g gs s i pb (.slice A n1 c1) rn td * Asn.exact W))) → StP W rg s (k + 1) (.pointer (some ⟨g, 0, none⟩)) w') := by
                intro w' h
                have hp := unhide HPS
                exact ⟨g, gs, i, pb, rn, td, A, n1, c1, Ap, np, cp, Ar, nr, cr, X, (p : Int) :: l, rfl, ⟨hp.l1, hp.l2, hp.p, hp.ne, hp.rng, hp.pne, hp.len, hp.i0, by have := hp.i1; omega, hp.t0, fun q => by have := hp.t1 q; omega⟩, h.perm (by unfold BothP; ac_rfl)⟩
              go_roundw
              case rel => exact ⟨k + 1, by go_num, by omega, by omega, unhide hfin _ (unhide Z4)⟩
              case measure => simp [intOf]; omega
          · have hrn := hide (renew_bad (c := bc) (unhide HS4) hrp (by omega) (by by_cases h : Good P; exact .inr (Classical.byContradiction fun h2 => hok2 ⟨h, h2⟩); exact .inl h))
            have HOK2 := hide hok2
            have HRD2 := hide hrd2
            clear hok2 hrp hrd2
            go_wp2_with fail
            refine (unhide hshq _).mono ?_
            rintro e w' ⟨rfl, rfl⟩
            go_wp2_with fail
            refine (unhide hrn).mono ?_
            rintro e w5 ⟨rfl, hs5⟩
            have HB := Lib.hid hs5.f3.blk
            have hrx := hide (rrenew_bad W w5 _ s i Ap Ar np cp nr cr rn td B q bc P hs5 (unhide HRD2).right.right.right (by omega) (unhide HOK2))
            clear hs5 HS4 hrn hshq e1
            go_wp2_with (refine wpList_load_row rfl 122 (.tmp 9) rfl (rg) rfl 122 _ (0, 0) _ HB.out Try.underlying122 rfl (by kernel_rfl) ?_)
            refine (unhide hrx).mono ?_
            rintro e w6 ⟨rfl, hs6⟩
            clear hrx HB
            have hs7 : Sat W w6 (Asn.blk rg 122 (refC s i (.slice Ap np cp) (.slice Ar nr cr) rn td) * (X * (PermAt g gs s i pb (.slice A n1 c1) rn td * Asn.exact W))) := hs6.perm (by ac_rfl)
            clear hs6
            obtain ⟨z1, z2, z3, z4⟩ := tmpRow hs7 (refC s i (.slice Ap np cp) (.slice Ar nr cr) rn td)
            have Z1 := Lib.hid z1
            have Z2 := Lib.hid z2
            have Z3 := Lib.hid z3
            have Z4 := hide z4
            clear z1 z2 z3 z4 hs7
            go_wp2_with (first
              | (refine wpList_store_row rfl 122 (.tmp 14) (.tmp 98) rfl (w6.heap.size) _ rfl rfl 122 _ Z1.out (by kernel_rfl) rfl (refC_one _ _ _ _ _ _ _ _ _ _) ?_)
              | (refine wpList_load_row rfl 122 (.tmp 14) rfl (w6.heap.size) rfl 122 _ (0, 0) _ Z2.out Try.underlying122 rfl (by kernel_rfl) ?_)
              | (refine wpList_store_row rfl 122 (.tmp 9) (.tmp 100) rfl (rg) _ rfl rfl 122 _ Z3.out (by kernel_rfl) rfl (refC_one _ _ _ _ _ _ _ _ _ _) ?_))
            have hfin : Hid (∀ w', Sat W w' (Asn.blk rg 122 (refC s i (.slice Ap np cp) (.slice Ar nr cr) rn td) * (X * (PermAt g gs s i pb (.slice A n1 c1) rn td * Asn.exact W))) → StP W rg s (k + 1) (.pointer (some ⟨g, 0, none⟩)) w') := by
              intro w' h
              have hp := unhide HPS
              exact ⟨g, gs, i, pb, rn, td, A, n1, c1, Ap, np, cp, Ar, nr, cr, X, (p : Int) :: l, rfl, ⟨hp.l1, hp.l2, hp.p, hp.ne, hp.rng, hp.pne, hp.len, hp.i0, by have := hp.i1; omega, hp.t0, fun q => by have := hp.t1 q; omega⟩, h.perm (by unfold BothP; ac_rfl)⟩
            go_roundw
            case rel => exact ⟨k + 1, by go_num, by omega, by omega, unhide hfin _ (unhide Z4)⟩
            case measure => simp [intOf]; omega
        · by_cases h6 : d.toNat % 7 = 6
          · have h5a : ((d.toNat : Int) % 7 == 5) = false := by simp; omega
            have h6a : ((d.toNat : Int) % 7 == 6) = true := by simp; omega
            have hfk := hide (perm_fork (unhide HS4) (unhide HPS).l1 (by omega))
            clear h5 h6 e1
            go_wp2_with fail
            refine (unhide hfk).mono ?_
            rintro e w5 ⟨g2, gs2, A2, c2, rfl, hs5⟩
            have hnx := hide (next_call (hs5.perm (show _ = PermAt g gs s i pb (.slice A n1 c1) rn td * (X * (PermAt g2 gs2 s i pb (.slice A2 n1 c2) rn td * (sl 3 1 A2 n1 c2 (ints ((p : Int) :: l)) * (Asn.blk rg 122 (refC s i (.slice Ap np cp) (.slice Ar nr cr) rn td) * Asn.exact W)))) by ac_rfl)) (unhide HPS).l1 hp8 htd hi0 hi900)
            have hfin : Hid (∀ w', Sat W w' (X * (PermAt g2 gs2 s i pb (.slice A2 n1 c2) rn td * (sl 3 1 A2 n1 c2 (ints ((p : Int) :: l)) * (Asn.blk rg 122 (refC s i (.slice Ap np cp) (.slice Ar nr cr) rn td) * Asn.exact W)))) → StP W rg s (k + 1) (.pointer (some ⟨g2, 0, none⟩)) w') := by
              intro w' h
              have hp := unhide HPS
              refine ⟨g2, gs2, i, pb, rn, td, A2, n1, c2, Ap, np, cp, Ar, nr, cr, sl 3 1 A2 n1 c2 (ints ((p : Int) :: l)) * X, (p : Int) :: l, rfl, ⟨?_, hp.l2.right, hp.p.right, hp.ne, hp.rng, hp.pne, hp.len, hp.i0, by have := hp.i1; omega, hp.t0, fun q => by have := hp.t1 q; omega⟩, h.perm (by unfold BothP; ac_rfl)⟩
              exact (Sat.slRS h.f3).left
            clear hfk hs5
            go_wp2_with fail
            refine (unhide hnx).mono ?_
            rintro e w6 ⟨hm, hl⟩
            have hres : Hid ((∃ v, e = .returned v) ∧ StP W rg s (k + 1) (.pointer (some ⟨g2, 0, none⟩)) w6) := by
              by_cases hle : l = []
              · obtain ⟨A6, c6, M6, he, -, -, hs6⟩ := hl hle
                exact ⟨⟨_, he⟩, unhide hfin _ hs6.right.right⟩
              · obtain ⟨A6, n6, c6, he, -, hs6⟩ := hm hle
                exact ⟨⟨_, he⟩, unhide hfin _ hs6.right⟩
            obtain ⟨⟨v, rfl⟩, hst⟩ := unhide hres
            have HST := hide hst
            clear hm hl hnx hfin hres hst
            go_wp2_with fail
            go_roundw
            case rel => exact ⟨k + 1, by go_num, by omega, by omega, unhide HST⟩
            case measure => simp [intOf]; omega
          · have h5a : ((d.toNat : Int) % 7 == 5) = false := by simp; omega
            have h6a : ((d.toNat : Int) % 7 == 6) = false := by simp; omega
            have hnx := hide (next_call (unhide HS4) (unhide HPS).l1 hp8 htd hi0 hi900)
            obtain ⟨tb0, tb1⟩ := addT_bd (p := p) (unhide HPS).t0 (unhide HPS).t1
            have TB := hide (And.intro tb0 tb1)
            clear h5 h6 e1 tb0 tb1
            go_wp2_with fail
            refine (unhide hnx).mono ?_
            rintro e w5 ⟨hm, hl⟩
            clear hnx
            cases l with
            | nil =>
              obtain ⟨A5, c5, M5, rfl, hM5, hp5, hs5⟩ := hl rfl
              have HB := Lib.hid hs5.f4.blk
              have hrx := hide (rnext W w5 X _ s i (riseL pb) Ap Ar np cp nr cr rn td p [] (hs5.perm (show _ = X * (PermAt g gs s (i + ((riseL pb).length - 1 : Nat)) pb (.slice A5 M5.length c5) (wrap64 (rn + 1)) (addT td p (td p + 1)) * (sl 3 1 A5 M5.length c5 (ints M5) * (Asn.blk rg 122 (refC s i (.slice Ap np cp) (.slice Ar nr cr) rn td) * Asn.exact W))) by ac_rfl)) (unhide HPS).p (unhide HPS).l2 (riseL_len pb) hp8 htd hi0 hi900)
              have HM5 := hide hM5
              have HP5 := hide hp5
              clear hm hl hs5 hM5 hp5 HS4
              go_wp2_with (refine wpList_load_row rfl 122 (.tmp 9) rfl (rg) rfl 122 _ (0, 0) _ HB.out Try.underlying122 rfl (by kernel_rfl) ?_)
              refine (unhide hrx).mono ?_
              rintro e w6 ⟨A6, c6, M6, rfl, hM6, -, hs6⟩
              obtain rfl : M6 = M5 := ints_inj (hM6.trans (unhide HM5).symm)
              clear hrx HB hM6
              have hs7 := hs6.f5
              clear hs6
              obtain ⟨z1, z2, z3, z4⟩ := tmpRow hs7 (refC s (i + ((riseL pb).length - 1 : Nat)) (.slice Ap np cp) (.slice A6 M6.length c6) (wrap64 (rn + 1)) (addT td p (td p + 1)))
              have Z1 := Lib.hid z1
              have Z2 := Lib.hid z2
              have Z3 := Lib.hid z3
              have Z4 := hide z4
              clear z1 z2 z3 z4 hs7
              go_wp2_with (first
                | (refine wpList_store_row rfl 122 (.tmp 18) (.tmp 77) rfl (w6.heap.size) _ rfl rfl 122 _ Z1.out (by kernel_rfl) rfl (refC_one _ _ _ _ _ _ _ _ _ _) ?_)
                | (refine wpList_load_row rfl 122 (.tmp 18) rfl (w6.heap.size) rfl 122 _ (0, 0) _ Z2.out Try.underlying122 rfl (by kernel_rfl) ?_)
                | (refine wpList_store_row rfl 122 (.tmp 9) (.tmp 79) rfl (rg) _ rfl rfl 122 _ Z3.out (by kernel_rfl) rfl (refC_one _ _ _ _ _ _ _ _ _ _) ?_))
              have hfin : Hid (∀ w', Sat W w' (Asn.blk rg 122 (refC s (i + ((riseL pb).length - 1 : Nat)) (.slice Ap np cp) (.slice A6 M6.length c6) (wrap64 (rn + 1)) (addT td p (td p + 1))) * (sl 3 1 A6 M6.length c6 (ints M6) * (X * (PermAt g gs s (i + ((riseL pb).length - 1 : Nat)) pb (.slice A5 M6.length c5) (wrap64 (rn + 1)) (addT td p (td p + 1)) * (sl 3 1 A5 M6.length c5 (ints M6) * Asn.exact W))))) → StP W rg s (k + 1) (.pointer (some ⟨g, 0, none⟩)) w') := by
                intro w' h
                have hp := unhide HPS
                refine ⟨g, gs, i + ((riseL pb).length - 1 : Nat), pb, wrap64 (rn + 1), addT td p (td p + 1), A5, M6.length, c5, Ap, np, cp, A6, M6.length, c6, sl 3 1 A5 M6.length c5 (ints M6) * (sl 3 1 A6 M6.length c6 (ints M6) * X), M6, rfl, PSt.fresh (unhide HP5) ?_ ?_ hp.p.right.right hp.pne (by have := hp.i0; omega) (by have := hp.i1; have := riseL_len pb; omega) (unhide TB).1 (unhide TB).2, h.perm (by unfold BothP; ac_rfl)⟩
                · exact (Sat.slRS h.f5).left
                · exact (Sat.slRS h.f2).left.right
              go_roundw
              case rel => exact ⟨k + 1, by go_num, by omega, by omega, unhide hfin _ (unhide Z4)⟩
              case measure => simp [intOf]; omega
            | cons y l =>
              obtain ⟨A5, n5, c5, rfl, hr5, hs5⟩ := hm (by simp)
              have HB := Lib.hid hs5.f3.blk
              have hrx := hide (rnext W w5 X _ s i (riseL pb) Ap Ar np cp nr cr rn td p (y :: l) (hs5.perm (show _ = X * (PermAt g gs s i pb (.slice A5 n5 c5) rn (addT td p (td p + 1)) * (Asn.blk rg 122 (refC s i (.slice Ap np cp) (.slice Ar nr cr) rn td) * Asn.exact W)) by ac_rfl)) (unhide HPS).p (unhide HPS).l2 (riseL_len pb) hp8 htd hi0 hi900)
              have HR5 := hide hr5
              clear hm hl hs5 hr5 HS4
              go_wp2_with (refine wpList_load_row rfl 122 (.tmp 9) rfl (rg) rfl 122 _ (0, 0) _ HB.out Try.underlying122 rfl (by kernel_rfl) ?_)
              refine (unhide hrx).mono ?_
              rintro e w6 ⟨A6, n6, c6, rfl, hr6, hs6⟩
              have HR6 := hide hr6
              clear hrx HB hr6
              have hs7 := hs6.f3
              clear hs6
              obtain ⟨z1, z2, z3, z4⟩ := tmpRow hs7 (refC s i (.slice Ap np cp) (.slice A6 n6 c6) rn (addT td p (td p + 1)))
              have Z1 := Lib.hid z1
              have Z2 := Lib.hid z2
              have Z3 := Lib.hid z3
              have Z4 := hide z4
              clear z1 z2 z3 z4 hs7
              go_wp2_with (first
                | (refine wpList_store_row rfl 122 (.tmp 18) (.tmp 77) rfl (w6.heap.size) _ rfl rfl 122 _ Z1.out (by kernel_rfl) rfl (refC_one _ _ _ _ _ _ _ _ _ _) ?_)
                | (refine wpList_load_row rfl 122 (.tmp 18) rfl (w6.heap.size) rfl 122 _ (0, 0) _ Z2.out Try.underlying122 rfl (by kernel_rfl) ?_)
                | (refine wpList_store_row rfl 122 (.tmp 9) (.tmp 79) rfl (rg) _ rfl rfl 122 _ Z3.out (by kernel_rfl) rfl (refC_one _ _ _ _ _ _ _ _ _ _) ?_))
              have hfin : Hid (∀ w', Sat W w' (Asn.blk rg 122 (refC s i (.slice Ap np cp) (.slice A6 n6 c6) rn (addT td p (td p + 1))) * (X * (PermAt g gs s i pb (.slice A5 n5 c5) rn (addT td p (td p + 1)) * Asn.exact W))) → StP W rg s (k + 1) (.pointer (some ⟨g, 0, none⟩)) w') := by
                intro w' h
                have hp := unhide HPS
                exact ⟨g, gs, i, pb, rn, addT td p (td p + 1), A5, n5, c5, Ap, np, cp, A6, n6, c6, X, y :: l, rfl, ⟨unhide HR5, unhide HR6, hp.p, by simp, fun z hz => hp.rng z (List.mem_cons_of_mem _ hz), hp.pne, by have := hp.len; simp at this ⊢; omega, hp.i0, by have := hp.i1; omega, (unhide TB).1, (unhide TB).2⟩, h.perm (by unfold BothP; ac_rfl)⟩
              go_roundw
              case rel => exact ⟨k + 1, by go_num, by omega, by omega, unhide hfin _ (unhide Z4)⟩
              case measure => simp [intOf]; omega
      · have r0 : wr.cell? ⟨rg, 0, none⟩ = some (.int .u64 s) := hsr.f2.cell 0
        have r1 : wr.cell? ⟨rg, 1, none⟩ = some (.int .i64 i) := hsr.f2.cell 1
        have r2 : wr.cell? ⟨rg, 2, none⟩ = some (.slice Ap np cp) := hsr.f2.cell 2
        have r3 : wr.cell? ⟨rg, 3, none⟩ = some (.slice Ar nr cr) := hsr.f2.cell 3
        have r4 : wr.cell? ⟨rg, 4, none⟩ = some (.int .i64 rn) := hsr.f2.cell 4
        have r5 : wr.cell? ⟨rg, 5, none⟩ = some (.int .i64 (td 0)) := hsr.f2.cell 5
        have r6 : wr.cell? ⟨rg, 6, none⟩ = some (.int .i64 (td 1)) := hsr.f2.cell 6
        have r7 : wr.cell? ⟨rg, 7, none⟩ = some (.int .i64 (td 2)) := hsr.f2.cell 7
        have r8 : wr.cell? ⟨rg, 8, none⟩ = some (.int .i64 (td 3)) := hsr.f2.cell 8
        have r9 : wr.cell? ⟨rg, 9, none⟩ = some (.int .i64 (td 4)) := hsr.f2.cell 9
        have r10 : wr.cell? ⟨rg, 10, none⟩ = some (.int .i64 (td 5)) := hsr.f2.cell 10
        have r11 : wr.cell? ⟨rg, 11, none⟩ = some (.int .i64 (td 6)) := hsr.f2.cell 11
        have r12 : wr.cell? ⟨rg, 12, none⟩ = some (.int .i64 (td 7)) := hsr.f2.cell 12
        clear hsr
        unfold refC at hsame
        by_cases h1 : k < N
        all_goals
          have h2 : k < N → ¬ (k : Int) < 60 := fun h h3 => hlt ⟨h, by omega⟩
          first | (have h3 := h2 h1; clear h2 hlt) | clear h2 hlt
          go_wp2_with fail
          refine (unhide hsame).mono ?_
          rintro e w4 ⟨rfl, hs4⟩
          have hbel := hide (Sat.below (F := 1) (hs4.right.right.right.perm (sep_one _).symm))
          clear hs4 hsame HB
          go_wp2_with fail
          go_ret
          exact ⟨rfl, unhide hbel⟩
  · have hp := hide (new_perm_no W W _ A0 n c0 s L (Sat.start W) hrd (by omega) (by by_cases h : Good L; exact .inr (Classical.byContradiction fun h2 => hok ⟨h, h2⟩); exact .inl h))
    have HRD := hide hrd
    have HOK := hide hok
    clear hrd hok
    go_enter Try.func13, Try.ntmps13
    go_wp2_with fail
    refine (unhide hsh).mono ?_
    rintro e w' ⟨rfl, rfl⟩
    go_wp2_with fail
    refine (unhide hp).mono ?_
    rintro e w1 ⟨rfl, hs1⟩
    have hr := hide (rnew_no W w1 _ A0 n c0 s L hs1 (unhide HRD) (by omega) (unhide HOK))
    clear hs1 hp hsh
    go_wp2_with fail
    refine (unhide hr).mono ?_
    rintro e w2 ⟨rfl, hs2⟩
    have haw := hide (awake06 W _ _ (hs2.alloc refZ 122))
    unfold refZ refC at haw ⊢
    clear hs2 hr
    go_wp2_with fail
    refine (unhide haw).mono ?_
    rintro e w3 ⟨rfl, hs3⟩
    have HBEL := hide (Sat.below (F := 1) (hs3.right.perm (sep_one _).symm))
    clear haw hs3
    go_wp2_with fail
    go_loopw [7, 11] (fun s7 s11 wr => s7 = .pointer none ∧ s11 = .int .i64 0 ∧ wr = w3) (fun _ _ _ => 0)
    case atStart => exact ⟨rfl, rfl, rfl⟩
    case round =>
      obtain ⟨rfl, rfl, rfl⟩ := hrel
      by_cases h1 : 0 < N
      · go_wp2_with fail
        go_ret
        exact ⟨rfl, unhide HBEL⟩
      · go_wp2_with fail
        go_ret
        exact ⟨rfl, unhide HBEL⟩
end Go.Proofs.Ytpcoehbjbjfggaa
