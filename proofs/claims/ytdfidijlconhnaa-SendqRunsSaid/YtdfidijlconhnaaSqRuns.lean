/- SendqRuns: what any calls make of a queue. -/
import Derived.Test.YtdfidijlconhnaaSqX
import Derived.Test.YtdfidijlconhnaaArg
import Derived.Deep.CutBlock
namespace Go.Proofs.Ytdfidijlconhnaa
open Go.RowKit Asn
/-- A call, as its cells tell it. -/
def Op13At (xs : List Value) (k : Nat) : Prop := ∃ (d n : UInt8) (x : Int), xs[k * 3]? = some (.int .u8 d.toNat) ∧ xs[k * 3 + 1]? = some (.int .u8 n.toNat) ∧ xs[k * 3 + 2]? = some (.int .i64 x) ∧ -9223372036854775808 ≤ x ∧ x ≤ 9223372036854775807
def at13 (most rg : Nat) (s : St13) : Asn := QAt s.g most s.low s.next s.H s.row s.A s.c s.B s.d * Asn.blk rg 41 (q13 most s.la s.ak.length s.lc s.aa s.ak.length s.ac s.next s.ra s.row.length s.rc)
theorem at13_cells {E w : World} {R : Asn} {most rg : Nat} {s : St13} (h : Sat E w (at13 most rg s * R)) : w.cell? ⟨rg, 0, none⟩ = some (.int .i64 most) ∧ w.cell? ⟨rg, 1, none⟩ = some (.slice s.la s.ak.length s.lc) ∧ w.cell? ⟨rg, 2, none⟩ = some (.slice s.aa s.ak.length s.ac) ∧ w.cell? ⟨rg, 3, none⟩ = some (.int .i64 s.next) ∧ w.cell? ⟨rg, 4, none⟩ = some (.slice s.ra s.row.length s.rc) ∧ (∀ j, w.frozen? ⟨rg, j, none⟩ = false) ∧ rg < w.heap.size := by
  have h2 := h.perm (show _ = Asn.blk rg 41 (q13 most s.la s.ak.length s.lc s.aa s.ak.length s.ac s.next s.ra s.row.length s.rc) * (QAt s.g most s.low s.next s.H s.row s.A s.c s.B s.d * R) by unfold at13; ac_rfl)
  exact ⟨h2.cell 0, h2.cell 1, h2.cell 2, h2.cell 3, h2.cell 4, fun j => h2.frozen j, Sat.lt (o := .cells _ _ (0, 0)) h2⟩
theorem Sat.set5 {E w : World} {F : Asn} {g : Nat} {t : TypeId} {a0 a1 a2 a3 a4 : Value} (h : Sat E w (Asn.blk g t #[a0, a1, a2, a3, a4] * F)) (v0 v1 v2 v3 v4 : Value) : Sat E (((((w.setCell ⟨g, 0, none⟩ v0).setCell ⟨g, 1, none⟩ v1).setCell ⟨g, 2, none⟩ v2).setCell ⟨g, 3, none⟩ v3).setCell ⟨g, 4, none⟩ v4) (Asn.blk g t #[v0, v1, v2, v3, v4] * F) :=
  ((((h.set 0 v0).set 1 v1).set 2 v2).set 3 v3).set 4 v4
/-- What is so between two calls. -/
def Mid13 (W0 : World) (most rg ob i : Nat) (ops : Array Value) (v : Value) (w : World) : Prop := ∃ (s : St13) (X : Asn), v = .pointer (some ⟨s.g, 0, none⟩) ∧ Hid (I13 most (i + 1) (Asn.blk ob 45 ops * X) s) ∧ Sat W0 w (at13 most rg s * ((Asn.blk ob 45 ops * X) * Asn.exact W0))
set_option maxHeartbeats 8000000 in
set_option maxRecDepth 100000 in
theorem sendqRuns_walk (W0 : World) (A0 : Option Addr) (N C : Nat) (most0 : Int) (xs : List Value) (hx : RdW W0 A0 N 3 xs) (hop : ∀ k, k < N → Op13At xs k) (hn : N ≤ 9223372036854775807) :
    Calls Try.prog 4 #[.int .i64 most0, .slice A0 N C] W0 fun e w' => e = .returned (.bool true) ∧ Below W0.heap.size W0 w' := by
  have HOP := Lib.hid hop
  clear hop
  by_cases hok : 1 ≤ most0 ∧ most0 ≤ 4096
  · obtain ⟨most, rfl⟩ := Int.eq_ofNat_of_zero_le (show 0 ≤ most0 by omega)
    have m1 : 1 ≤ most := by omega
    have m2 : most ≤ 4096 := by omega
    have hnew := hide (sq_new W0 W0 _ most (Sat.start W0) m1 m2)
    clear hok
    go_enter Try.func4, Try.ntmps4
    go_wp2_with fail
    refine (unhide hnew).mono ?_
    rintro e w1 ⟨g0, rfl, hs1⟩
    clear hnew
    have hnr := hide (newR13 w1 most m1 m2)
    unfold q13 at hnr
    go_wp2_with fail
    refine (unhide hnr).mono ?_
    rintro e w2 ⟨rfl, hb⟩
    have hs2 := hs1.under hb
    clear hnr hs1 hb
    have haw := hide (awake13 W0 _ _ (hs2.alloc (q13 most none 0 0 none 0 0 0 none 0 0) 41))
    obtain ⟨rg, hrg⟩ : ∃ rg, rg = w2.heap.size := ⟨_, rfl⟩
    unfold q13 at haw
    clear hs2
    go_wp2_with fail
    refine (unhide haw).mono ?_
    rintro e w3 ⟨rfl, hs3⟩
    clear haw
    rw [← hrg] at hs3 ⊢
    clear hrg
    have HI0 : Hid (I13 most 0 1 ⟨g0, 0, 0, [], [], none, 0, none, 0, [], [], none, 0, none, 0, none, 0⟩) := ⟨QI.start, rfl, rd.nil _ _ _, rd.nil _ _ _, RS.none_ _, fun i h p hh => by simp at hh, fun x hx => by simp at hx, List.nodup_nil, Nat.zero_le _, Nat.zero_le _⟩
    have HS4 := hide (show Sat W0 w3 (at13 most rg ⟨g0, 0, 0, [], [], none, 0, none, 0, [], [], none, 0, none, 0, none, 0⟩ * (1 * Asn.exact W0)) from hs3.perm (by unfold at13 q13; rw [one_sep]; show _ = _ * Asn.blk rg _ #[_, _, _, _, _] * _; ac_rfl))
    clear hs3
    go_wp2_with fail
    go_loopw [5, 9, 10, 11, 12, 13, 14, 15, 16, 17, 18, 19, 20, 21, 22, 23, 24, 25, 26, 27, 28, 29, 30, 31, 81, 101, 123, 139, 155, 177] (fun s5 s9 _ _ _ _ _ _ _ _ _ _ _ _ _ _ _ _ _ _ _ _ _ _ _ _ _ _ _ _ wr => ∃ (s : St13) (X : Asn) (i : Nat), s5 = .pointer (some ⟨s.g, 0, none⟩) ∧ s9 = .int .i64 i ∧ i ≤ N ∧ i ≤ 80 ∧ Hid (I13 most i X s) ∧ Sat W0 wr (at13 most rg s * (X * Asn.exact W0))) (fun _ s9 _ _ _ _ _ _ _ _ _ _ _ _ _ _ _ _ _ _ _ _ _ _ _ _ _ _ _ _ _ => N - (intOf s9).toNat)
    case atStart => exact ⟨_, 1, 0, rfl, rfl, Nat.zero_le _, Nat.zero_le _, HI0, unhide HS4⟩
    case round =>
      obtain ⟨s, X, i, rfl, rfl, hi, hi8, HI, hsr⟩ := hrel
      clear HS4 HI0
      by_cases hlt : i < N ∧ i < 80
      · obtain ⟨h1, h2⟩ := hlt
        obtain ⟨d, nn, x, o0, o1, o2, hx1, hx2⟩ := HOP.out i h1
        have hbel : Below W0.heap.size W0 wr := (hsr.perm (show _ = Asn.exact W0 * (at13 most rg s * X) by ac_rfl)).below
        obtain ⟨ad, rfl, e0⟩ := (hx.below hbel).at_ o0
        obtain ⟨ad', h, e1⟩ := (hx.below hbel).2 (by omega)
        obtain rfl : ad = ad' := by simpa using h
        have e2 := e1 _ _ o2
        have e1 := e1 _ _ o1
        rw [← add_fld] at e1 e2
        clear o0 o1 o2 h hbel
        have hdl : (d.toNat : Int) < 256 := by have := d.toNat_lt; omega
        have hnl : (nn.toNat : Int) < 256 := by have := nn.toNat_lt; omega
        have hal : s.ak.length ≤ 400 := by have := (unhide HI).few; omega
        have hnx := (unhide HI).q.nx
        have hlo := (unhide HI).q.lo
        have hle := (unhide HI).q.len
        have hrl : s.row.length ≤ 4096 := by have := (unhide HI).rows; omega
        obtain ⟨ob, hob⟩ : ∃ ob, ob = wr.heap.size := ⟨_, rfl⟩
        obtain ⟨r0, r1, r2, r3, r4, r5, r6⟩ := at13_cells hsr
        have hs3 := (hsr.alloc #[.int .u8 d.toNat, .int .u8 nn.toNat, .int .i64 x] 45).perm (show _ = at13 most rg s * ((Asn.blk wr.heap.size 45 #[.int .u8 d.toNat, .int .u8 nn.toNat, .int .i64 x] * X) * Asn.exact W0) by ac_rfl)
        rw [← hob] at hs3
        have HI2 : Hid (I13 most i (Asn.blk ob 45 #[.int .u8 d.toNat, .int .u8 nn.toNat, .int .i64 x] * X) s) := (unhide HI).right
        have HS3 := hide hs3
        clear hs3 hsr HI
        go_upto_block 2 with (fail)
        rw [← hob]
        obtain ⟨v7, hv7⟩ : ∃ v7, v7 = (d.toNat : Int) % 7 := ⟨_, rfl⟩
        rw [← hv7]
        have hmod : v7 = 0 ∨ v7 = 1 ∨ v7 = 2 ∨ v7 = 3 ∨ v7 = 4 ∨ v7 = 5 ∨ v7 = 6 := by omega
        clear hv7
        go_cut [5, 11, 12, 13, 14, 15, 16, 17, 18, 19, 20, 21, 22, 23, 24, 25, 26, 27, 28, 29, 30, 31, 81, 101, 123, 139, 155, 177] (fun s5 _ _ _ _ _ _ _ _ _ _ _ _ _ _ _ _ _ _ _ _ _ _ _ _ _ _ _ wx => Mid13 W0 most rg ob i #[.int .u8 d.toNat, .int .u8 nn.toNat, .int .i64 x] s5 wx)
        case first =>
          obtain ⟨w4, hw4⟩ : ∃ w4, w4 = wr.alloc (.cells #[.int .u8 d.toNat, .int .u8 nn.toNat, .int .i64 x] 45) := ⟨_, rfl⟩
          rw [← hw4] at HS3 ⊢
          clear e0 e1 e2 r0 r1 r2 r3 r4 r5 r6 hob hw4
          obtain ⟨r0, r1, r2, r3, r4, r5, r6⟩ := at13_cells (unhide HS3)
          have p1 : w4.cell? ⟨ob, 1, none⟩ = some (.int .u8 nn.toNat) := ((unhide HS3).perm (show _ = Asn.blk ob 45 #[.int .u8 d.toNat, .int .u8 nn.toNat, .int .i64 x] * (at13 most rg s * (X * Asn.exact W0)) by ac_rfl)).cell 1
          have p2 : w4.cell? ⟨ob, 2, none⟩ = some (.int .i64 x) := ((unhide HS3).perm (show _ = Asn.blk ob 45 #[.int .u8 d.toNat, .int .u8 nn.toNat, .int .i64 x] * (at13 most rg s * (X * Asn.exact W0)) by ac_rfl)).cell 2
          obtain ⟨Y, hY⟩ : ∃ Y, Y = Asn.blk ob 45 #[.int .u8 d.toNat, .int .u8 nn.toNat, .int .i64 x] * X := ⟨_, rfl⟩
          rw [← hY] at HS3 HI2
          have HY := hide hY
          clear hY
          rcases hmod with rfl | rfl | rfl | rfl | rfl | rfl | rfl
          · as_aux_lemma =>
            obtain ⟨mm, hmm⟩ : ∃ mm : Nat, (nn.toNat : Int) % 6 = mm := ⟨nn.toNat % 6, by omega⟩
            have hmm5 : mm ≤ 5 := by omega
            have hp := hide (pieces13 W0 w4 _ mm i (unhide HS3) (by omega) (by omega))
            clear p2
            go_wp2_with fail
            refine (unhide hp).mono ?_
            rintro e w5 ⟨P2, pA, pc, G, rfl, hl2, hb2, hs5⟩
            subst hl2
            clear r0 r1 r2 r3 r4 r5 r6 p1 hp HS3
            obtain ⟨r0, r1, r2, r3, r4, r5, r6⟩ := at13_cells hs5.f3
            obtain ⟨Z, hZ⟩ : ∃ Z, Z = (sl 52 3 pA P2.length pc (pieceC P2) * G) * Y := ⟨_, rfl⟩
            have hp2 : rd Z 3 pA P2.length (pieceC P2) := by rw [hZ]; exact rd_sl.left.left
            have hb3 : ∀ (i : Nat) (p : PR), P2[i]? = some p → ∃ l, RB Z p.a p.n p.c l := fun i p h => by rw [hZ]; exact (hb2 i p h).imp fun l h => h.right.left
            have hs6 := hs5.perm (show _ = Z * (QAt s.g most s.low s.next s.H s.row s.A s.c s.B s.d * (Asn.blk rg 41 (q13 most s.la s.ak.length s.lc s.aa s.ak.length s.ac s.next s.ra s.row.length s.rc) * Asn.exact W0)) by rw [hZ]; unfold at13; ac_rfl)
            have hIZ : I13 most i Z s := by rw [hZ]; exact (unhide HI2).right
            have hpl := hIZ.pl
            have hql := hIZ.q.low
            have HZ := hide hZ
            by_cases hfit : (P2.length : Int) ≤ most - s.H.length
            · have hadd := addR13 (lc := s.lc) (ac := s.ac) (ra := s.ra) (rn := s.row.length) (rc := s.rc) (pc := pc) (most := most) hs6 (by rw [hpl]; exact hIZ.hp) hIZ.ha hp2 hnx (by omega) (by omega) (by omega) (by omega) (by rw [← hql]; omega)
              unfold Add13 q13 at hadd
              rw [hpl] at hadd
              have HADD := hide hadd
              have HIZ := hide hIZ
              have HP2 := hide hp2
              have HB3 := hide hb3
              have hfit' := hide hfit
              clear hs5 hs6 hadd hIZ hZ hp2 hb2 hb3 hpl hql hfit
              go_wp2_with fail
              refine (unhide HADD).mono ?_
              rintro e w6 ⟨G1, la2, lc2, aa2, ac2, rfl, hs7, hrp, hra⟩
              have hs8 := hs7.perm (show _ = at13 most rg s * ((G1 * Z) * Asn.exact W0) by unfold at13; ac_rfl)
              clear r0 r1 r2 r3 r4 r5 r6
              obtain ⟨r0, r1, r2, r3, r4, r5, r6⟩ := at13_cells hs8
              have hs9 := ((hs8.perm (show _ = Asn.blk rg 41 (q13 most s.la s.ak.length s.lc s.aa s.ak.length s.ac s.next s.ra s.row.length s.rc) * (QAt s.g most s.low s.next s.H s.row s.A s.c s.B s.d * ((G1 * Z) * Asn.exact W0)) by unfold at13; ac_rfl)).set5 (.int .i64 most) (.slice la2 (s.ak.length + P2.length) lc2) (.slice aa2 (s.ak.length + P2.length) ac2) (.int .i64 s.next) (.slice s.ra s.row.length s.rc) |>.alloc #[.int .i64 most, .slice la2 (s.ak.length + P2.length) lc2, .slice aa2 (s.ak.length + P2.length) ac2, .int .i64 s.next, .slice s.ra s.row.length s.rc] 41).right
              have hsq := hide (sq_add (P := P2) (pA := pA) (pc := pc) (X := G1 * Z) (hs9.perm (show _ = QAt s.g most s.low s.next s.H s.row s.A s.c s.B s.d * ((G1 * Z) * (Asn.blk rg 41 #[.int .i64 most, .slice la2 (s.ak.length + P2.length) lc2, .slice aa2 (s.ak.length + P2.length) ac2, .int .i64 s.next, .slice s.ra s.row.length s.rc] * Asn.exact W0)) by ac_rfl)) m1 (by omega) (by omega) (by omega) (unhide hfit') (unhide HP2).right fun i p h => (unhide HB3 i p h).imp fun l h => h.right)
              have HRP := hide hrp
              have HRA := hide hra
              clear hs7 hs8 hs9 hrp hra HADD
              go_wp2_with fail
              refine (unhide hsq).mono ?_
              rintro e w7 ⟨rfl, G2, H2, A2, c2, hlh, hnw, hs10⟩
              have HI3 := hide ((unhide HI2).add (Y := G2 * (G1 * Z)) (G := G2 * (G1 * (sl 52 3 pA P2.length pc (pieceC P2) * G))) (A := A2) (c := c2) (lc := lc2) (ac := ac2) hlh (by rw [unhide HZ]; ac_rfl) (by rw [(unhide HI2).pl]; exact (unhide HRP).right) (unhide HRA).right hnw (unhide hfit') hmm5)
              have HS10 := hide hs10
              clear hs10 hsq hnw
              go_wp2_with fail
              go_meet
              refine ⟨{ s with H := s.H ++ H2, A := A2, c := c2, ak := s.ak ++ List.replicate P2.length false, P := s.P ++ P2, la := la2, lc := lc2, aa := aa2, ac := ac2 }, G2 * (G1 * ((sl 52 3 pA P2.length pc (pieceC P2) * G) * X)), rfl, hide ((unhide HI3).perm (by rw [unhide HZ, unhide HY]; ac_rfl)), (unhide HS10).perm ?_⟩
              unfold at13 q13
              dsimp only
              rw [List.length_append, List.length_replicate, unhide HZ, unhide HY]
              ac_rfl
            · have hadd := hide (addR13_full (lc := s.lc) (ac := s.ac) (ra := s.ra) (rn := s.row.length) (rc := s.rc) (la := s.la) (ln := s.ak.length) (pA := pA) (pc := pc) (m := P2.length) (most := most) hs6 hIZ.ha.left hnx (by omega) (by omega) (by omega) (by omega) (by rw [← hql]; omega))
              have HI3 := hide (hIZ.up (Nat.le_succ i))
              have hfit' := hide (show (most : Int) - s.H.length < P2.length by omega)
              clear hs5 hs6 hIZ hZ hp2 hb2 hb3 hpl hql hfit
              unfold q13 at hadd
              go_wp2_with fail
              refine (unhide hadd).mono ?_
              rintro e w6 ⟨rfl, hs7⟩
              have hs8 := hs7.perm (show _ = at13 most rg s * (Z * Asn.exact W0) by unfold at13 q13; ac_rfl)
              clear r0 r1 r2 r3 r4 r5 r6
              obtain ⟨r0, r1, r2, r3, r4, r5, r6⟩ := at13_cells hs8
              have hs9 := ((hs8.perm (show _ = Asn.blk rg 41 (q13 most s.la s.ak.length s.lc s.aa s.ak.length s.ac s.next s.ra s.row.length s.rc) * (QAt s.g most s.low s.next s.H s.row s.A s.c s.B s.d * (Z * Asn.exact W0)) by unfold at13; ac_rfl)).set5 (.int .i64 most) (.slice s.la s.ak.length s.lc) (.slice s.aa s.ak.length s.ac) (.int .i64 s.next) (.slice s.ra s.row.length s.rc) |>.alloc #[.int .i64 most, .slice s.la s.ak.length s.lc, .slice s.aa s.ak.length s.ac, .int .i64 s.next, .slice s.ra s.row.length s.rc] 41).right
              have hsq := hide (sq_add_full (pn := P2.length) (pA := pA) (pc := pc) hs9.f2 m1 (by omega) (by omega) (by omega) (by have := unhide hfit'; omega))
              clear hs7 hs8 hs9 hadd
              go_wp2_with fail
              refine (unhide hsq).mono ?_
              rintro e w7 ⟨rfl, hs10⟩
              have HS10 := hide hs10
              clear hs10 hsq
              go_wp2_with fail
              go_meet
              exact ⟨s, (sl 52 3 pA P2.length pc (pieceC P2) * G) * X, rfl, hide ((unhide HI3).perm (by rw [unhide HZ, unhide HY]; ac_rfl)), (unhide HS10).perm (by rw [unhide HZ, unhide HY]; unfold at13 q13; ac_rfl)⟩
          · as_aux_lemma =>
            clear p1 p2
            by_cases hc : s.next < s.ak.length
            · have hsd := hide (sendR13 (most := most) (la := s.la) (lc := s.lc) (aa := s.aa) (an := s.ak.length) (ac := s.ac) (ra := s.ra) (rn := s.row.length) (rc := s.rc) (unhide HS3) hc (by omega))
              have HI3 := hide (((unhide HI2).send hc).up (Nat.le_succ i))
              unfold q13 at hsd
              go_wp2_with fail
              refine (unhide hsd).mono ?_
              rintro e w5 ⟨rfl, hs5⟩
              clear r0 r1 r2 r3 r4 r5 r6
              obtain ⟨r0, r1, r2, r3, r4, r5, r6⟩ := at13_cells hs5
              have hs6 := ((hs5.perm (show _ = Asn.blk rg 41 (q13 most s.la s.ak.length s.lc s.aa s.ak.length s.ac s.next s.ra s.row.length s.rc) * (QAt s.g most s.low s.next s.H s.row s.A s.c s.B s.d * (Y * Asn.exact W0)) by unfold at13; ac_rfl)).set5 (.int .i64 most) (.slice s.la s.ak.length s.lc) (.slice s.aa s.ak.length s.ac) (.int .i64 (s.next + 1 : Nat)) (.slice s.ra s.row.length s.rc) |>.alloc #[.int .i64 most, .slice s.la s.ak.length s.lc, .slice s.aa s.ak.length s.ac, .int .i64 (s.next + 1 : Nat), .slice s.ra s.row.length s.rc] 41).right
              have hsq := hide (sq_send hs6.f2 m1 (by omega) (by omega) (by omega))
              clear hs5 hs6 hsd HS3 HI2
              go_wp2_with fail
              refine (unhide hsq).mono ?_
              rintro e w6 ⟨h3, -⟩
              obtain ⟨rfl, hs7⟩ := h3 (by omega)
              have HS7 := hide hs7
              clear h3 hs7 hsq
              go_wp2_with fail
              go_meet
              exact ⟨{ s with next := s.next + 1 }, X, rfl, by rw [← unhide HY]; exact HI3, (unhide HS7).perm (by rw [← unhide HY]; unfold at13 q13; ac_rfl)⟩
            · have hsd := hide (sendR13_no (most := most) (la := s.la) (ln := s.ak.length) (lc := s.lc) (aa := s.aa) (an := s.ak.length) (ac := s.ac) (next := s.next) (ra := s.ra) (rn := s.row.length) (rc := s.rc) (unhide HS3) hc)
              have HI3 := hide ((unhide HI2).up (Nat.le_succ i))
              unfold q13 at hsd
              go_wp2_with fail
              refine (unhide hsd).mono ?_
              rintro e w5 ⟨rfl, hs5⟩
              clear r0 r1 r2 r3 r4 r5 r6
              obtain ⟨r0, r1, r2, r3, r4, r5, r6⟩ := at13_cells hs5
              have hs6 := ((hs5.perm (show _ = Asn.blk rg 41 (q13 most s.la s.ak.length s.lc s.aa s.ak.length s.ac s.next s.ra s.row.length s.rc) * (QAt s.g most s.low s.next s.H s.row s.A s.c s.B s.d * (Y * Asn.exact W0)) by unfold at13; ac_rfl)).set5 (.int .i64 most) (.slice s.la s.ak.length s.lc) (.slice s.aa s.ak.length s.ac) (.int .i64 s.next) (.slice s.ra s.row.length s.rc) |>.alloc #[.int .i64 most, .slice s.la s.ak.length s.lc, .slice s.aa s.ak.length s.ac, .int .i64 s.next, .slice s.ra s.row.length s.rc] 41).right
              have hsq := hide (sq_send hs6.f2 m1 (by omega) (by omega) (by omega))
              clear hs5 hs6 hsd HS3 HI2
              go_wp2_with fail
              refine (unhide hsq).mono ?_
              rintro e w6 ⟨-, h3⟩
              obtain ⟨rfl, hs7⟩ := h3 (by omega)
              have HS7 := hide hs7
              clear h3 hs7 hsq
              go_wp2_with fail
              go_meet
              exact ⟨s, X, rfl, by rw [← unhide HY]; exact HI3, (unhide HS7).perm (by rw [← unhide HY]; unfold at13 q13; ac_rfl)⟩
          · as_aux_lemma =>
            clear p1
            cases hl : lacksD s.ak s.next x with
            | false =>
              have HL := hide hl
              have hR := hide (ackR13_no (most := most) (la := s.la) (lc := s.lc) (aa := s.aa) (ac := s.ac) (ra := s.ra) (rc := s.rc) (ln := s.ak.length) (rn := s.row.length) (seq := x) (unhide HS3) (unhide HI2).ha.left.right hnx (by omega) ⟨hx1, hx2⟩ hl)
              have HI3 := hide ((unhide HI2).up (Nat.le_succ i))
              unfold q13 at hR
              go_wp2_with fail
              refine (unhide hR).mono ?_
              rintro e w5 ⟨rfl, hs5⟩
              clear r0 r1 r2 r3 r4 r5 r6
              obtain ⟨r0, r1, r2, r3, r4, r5, r6⟩ := at13_cells hs5
              have hs6 := ((hs5.perm (show _ = Asn.blk rg 41 (q13 most s.la s.ak.length s.lc s.aa s.ak.length s.ac s.next s.ra s.row.length s.rc) * (QAt s.g most s.low s.next s.H s.row s.A s.c s.B s.d * (Y * Asn.exact W0)) by unfold at13; ac_rfl)).set5 (.int .i64 most) (.slice s.la s.ak.length s.lc) (.slice s.aa s.ak.length s.ac) (.int .i64 s.next) (.slice s.ra s.row.length s.rc) |>.alloc #[.int .i64 most, .slice s.la s.ak.length s.lc, .slice s.aa s.ak.length s.ac, .int .i64 s.next, .slice s.ra s.row.length s.rc] 41).right
              clear p2
              have p2 := ((hs6.perm (show _ = Asn.blk ob 45 #[.int .u8 d.toNat, .int .u8 nn.toNat, .int .i64 x] * (QAt s.g most s.low s.next s.H s.row s.A s.c s.B s.d * (Asn.blk rg 41 #[.int .i64 most, .slice s.la s.ak.length s.lc, .slice s.aa s.ak.length s.ac, .int .i64 s.next, .slice s.ra s.row.length s.rc] * (X * Asn.exact W0))) by rw [unhide HY]; ac_rfl)).cell 2 : _ = some (Value.int .i64 x))
              have q2 : w5.cell? ⟨ob, 2, none⟩ = some (.int .i64 x) := (hs5.perm (show _ = Asn.blk ob 45 #[.int .u8 d.toNat, .int .u8 nn.toNat, .int .i64 x] * (at13 most rg s * (X * Asn.exact W0)) by rw [unhide HY]; ac_rfl)).cell 2
              have q3 : ob < w5.heap.size := Sat.lt (o := .cells _ _ (0, 0)) (hs5.perm (show _ = Asn.blk ob 45 #[.int .u8 d.toNat, .int .u8 nn.toNat, .int .i64 x] * (at13 most rg s * (X * Asn.exact W0)) by rw [unhide HY]; ac_rfl))
              have q4 : ob ≠ rg := Sat.ne (o := .cells _ _ (0, 0)) (p := .cells _ _ (0, 0)) (hs5.perm (show _ = Asn.blk ob 45 #[.int .u8 d.toNat, .int .u8 nn.toNat, .int .i64 x] * (Asn.blk rg 41 (q13 most s.la s.ak.length s.lc s.aa s.ak.length s.ac s.next s.ra s.row.length s.rc) * (QAt s.g most s.low s.next s.H s.row s.A s.c s.B s.d * (X * Asn.exact W0))) by rw [unhide HY]; unfold at13; ac_rfl))
              have hsq := hide (ack_no hs6.f2 (unhide HI2).q m1 (by omega) ⟨hx1, hx2⟩ hl)
              clear hs5 hs6 hR HS3 HI2 p2 hl
              go_wp2_with fail
              refine (unhide hsq).mono ?_
              rintro e w6 ⟨rfl, hs7⟩
              have HS7 := hide hs7
              clear hs7 hsq q2 q3 q4
              go_wp2_with fail
              go_meet
              exact ⟨s, X, rfl, by rw [← unhide HY]; exact HI3, (unhide HS7).perm (by rw [← unhide HY]; unfold at13 q13; ac_rfl)⟩
            | true =>
              obtain ⟨R1, hR1⟩ : ∃ R1, R1 = s.row.filter fun y => decide (y ≠ x) := ⟨_, rfl⟩
              have hR := ackR13s (most := most) (la := s.la) (lc := s.lc) (aa := s.aa) (ac := s.ac)  (ln := s.ak.length) (seq := x) ((unhide HS3).perm (show _ = Y * (QAt s.g most s.low s.next s.H s.row s.A s.c s.B s.d * (Asn.blk rg 41 (q13 most s.la s.ak.length s.lc s.aa s.ak.length s.ac s.next s.ra s.row.length s.rc) * Asn.exact W0)) by unfold at13; ac_rfl)) (unhide HI2).ha (unhide HI2).hr hnx (by omega) (by omega) hl
              unfold Ack13 q13 at hR
              rw [← hR1] at hR
              have HRR := hide hR
              have HR1 := hide hR1
              have HL := hide hl
              clear hR hR1 hl
              go_wp2_with fail
              refine (unhide HRR).mono ?_
              rintro e w5 ⟨G, aa2, ac2, ra2, rc2, rfl, hs5, hra, hrr⟩
              clear r0 r1 r2 r3 r4 r5 r6
              have hs5b := hs5.perm (show _ = at13 most rg s * ((G * Y) * Asn.exact W0) by unfold at13; ac_rfl)
              obtain ⟨r0, r1, r2, r3, r4, r5, r6⟩ := at13_cells hs5b
              have hs6 := ((hs5.perm (show _ = Asn.blk rg 41 (q13 most s.la s.ak.length s.lc s.aa s.ak.length s.ac s.next s.ra s.row.length s.rc) * (QAt s.g most s.low s.next s.H s.row s.A s.c s.B s.d * ((G * Y) * Asn.exact W0)) by ac_rfl)).set5 (.int .i64 most) (.slice s.la s.ak.length s.lc) (.slice aa2 s.ak.length ac2) (.int .i64 s.next) (.slice ra2 R1.length rc2) |>.alloc #[.int .i64 most, .slice s.la s.ak.length s.lc, .slice aa2 s.ak.length ac2, .int .i64 s.next, .slice ra2 R1.length rc2] 41).right
              have q2 : w5.cell? ⟨ob, 2, none⟩ = some (.int .i64 x) := (hs5.perm (show _ = Asn.blk ob 45 #[.int .u8 d.toNat, .int .u8 nn.toNat, .int .i64 x] * (G * (at13 most rg s * (X * Asn.exact W0))) by rw [unhide HY]; unfold at13; ac_rfl)).cell 2
              have q3 : ob < w5.heap.size := Sat.lt (o := .cells _ _ (0, 0)) (hs5.perm (show _ = Asn.blk ob 45 #[.int .u8 d.toNat, .int .u8 nn.toNat, .int .i64 x] * (G * (at13 most rg s * (X * Asn.exact W0))) by rw [unhide HY]; unfold at13; ac_rfl))
              have q4 : ob ≠ rg := Sat.ne (o := .cells _ _ (0, 0)) (p := .cells _ _ (0, 0)) (hs5.perm (show _ = Asn.blk ob 45 #[.int .u8 d.toNat, .int .u8 nn.toNat, .int .i64 x] * (Asn.blk rg 41 (q13 most s.la s.ak.length s.lc s.aa s.ak.length s.ac s.next s.ra s.row.length s.rc) * (G * (QAt s.g most s.low s.next s.H s.row s.A s.c s.B s.d * (X * Asn.exact W0)))) by rw [unhide HY]; ac_rfl))
              have hsq := ack_yes hs6.f2 (unhide HI2).q m1 (by omega) (by omega) (unhide HL)
              unfold AckQ at hsq
              rw [← unhide HR1] at hsq
              have HSQ := hide hsq
              have HRA := hide hra
              have HRS := hide hrr
              clear hs5 hs5b hs6 hsq hra hrr HRR HS3 p2
              go_wp2_with fail
              refine (unhide HSQ).mono ?_
              rintro e w6 ⟨rfl, low2, H2, A2, c2, d2, hle2, hqi, hpo, hs7⟩
              have HI3 := hide (((unhide HI2).ack (Y := G * Y) (G := G) (A := A2) (B := s.B) (c := c2) (d := d2) (ac := ac2) rfl (unhide HL) hle2 hqi hpo (unhide HRA) (by have h := unhide HRS; rw [unhide HR1] at h; exact h)).up (Nat.le_succ i))
              have HS7 := hide hs7
              clear hs7 HSQ q2 q3 q4 hqi hpo hle2
              go_wp2_with fail
              go_meet
              refine ⟨{ s with low := low2, H := H2, row := s.row.filter fun y => decide (y ≠ x), A := A2, c := c2, d := d2, ak := s.ak.set x.toNat true, aa := aa2, ac := ac2, ra := ra2, rc := rc2 }, G * X, rfl, hide ((unhide HI3).perm (show G * Y = Asn.blk ob 45 #[.int .u8 d.toNat, .int .u8 nn.toNat, .int .i64 x] * (G * X) by rw [unhide HY]; ac_rfl)), (unhide HS7).perm ?_⟩
              unfold at13 q13
              dsimp only
              rw [List.length_set, ← unhide HR1, unhide HY]
              ac_rfl
          · as_aux_lemma =>
            clear p1
            cases hl : (lacksD s.ak s.next x && !decide (x ∈ s.row)) with
            | false =>
              have HL := hide hl
              have hR := hide (againR13_no (most := most) (la := s.la) (lc := s.lc) (aa := s.aa) (ac := s.ac)  (ln := s.ak.length) (seq := x) (unhide HS3) (unhide HI2).ha.left.right (unhide HI2).hr.left.right hnx (by omega) (by omega) ⟨hx1, hx2⟩ hl)
              have HI3 := hide ((unhide HI2).up (Nat.le_succ i))
              unfold q13 at hR
              go_wp2_with fail
              refine (unhide hR).mono ?_
              rintro e w5 ⟨rfl, hs5⟩
              clear r0 r1 r2 r3 r4 r5 r6
              obtain ⟨r0, r1, r2, r3, r4, r5, r6⟩ := at13_cells hs5
              have hs6 := ((hs5.perm (show _ = Asn.blk rg 41 (q13 most s.la s.ak.length s.lc s.aa s.ak.length s.ac s.next s.ra s.row.length s.rc) * (QAt s.g most s.low s.next s.H s.row s.A s.c s.B s.d * (Y * Asn.exact W0)) by unfold at13; ac_rfl)).set5 (.int .i64 most) (.slice s.la s.ak.length s.lc) (.slice s.aa s.ak.length s.ac) (.int .i64 s.next) (.slice s.ra s.row.length s.rc) |>.alloc #[.int .i64 most, .slice s.la s.ak.length s.lc, .slice s.aa s.ak.length s.ac, .int .i64 s.next, .slice s.ra s.row.length s.rc] 41).right
              clear p2
              have p2 := ((hs6.perm (show _ = Asn.blk ob 45 #[.int .u8 d.toNat, .int .u8 nn.toNat, .int .i64 x] * (QAt s.g most s.low s.next s.H s.row s.A s.c s.B s.d * (Asn.blk rg 41 #[.int .i64 most, .slice s.la s.ak.length s.lc, .slice s.aa s.ak.length s.ac, .int .i64 s.next, .slice s.ra s.row.length s.rc] * (X * Asn.exact W0))) by rw [unhide HY]; ac_rfl)).cell 2 : _ = some (Value.int .i64 x))
              have q2 : w5.cell? ⟨ob, 2, none⟩ = some (.int .i64 x) := (hs5.perm (show _ = Asn.blk ob 45 #[.int .u8 d.toNat, .int .u8 nn.toNat, .int .i64 x] * (at13 most rg s * (X * Asn.exact W0)) by rw [unhide HY]; ac_rfl)).cell 2
              have q3 : ob < w5.heap.size := Sat.lt (o := .cells _ _ (0, 0)) (hs5.perm (show _ = Asn.blk ob 45 #[.int .u8 d.toNat, .int .u8 nn.toNat, .int .i64 x] * (at13 most rg s * (X * Asn.exact W0)) by rw [unhide HY]; ac_rfl))
              have q4 : ob ≠ rg := Sat.ne (o := .cells _ _ (0, 0)) (p := .cells _ _ (0, 0)) (hs5.perm (show _ = Asn.blk ob 45 #[.int .u8 d.toNat, .int .u8 nn.toNat, .int .i64 x] * (Asn.blk rg 41 (q13 most s.la s.ak.length s.lc s.aa s.ak.length s.ac s.next s.ra s.row.length s.rc) * (QAt s.g most s.low s.next s.H s.row s.A s.c s.B s.d * (X * Asn.exact W0))) by rw [unhide HY]; unfold at13; ac_rfl))
              have hsq0 := sq_again (seq := x) hs6.f2 m1 (by omega) (by omega) (by omega) (by omega) ⟨hx1, hx2⟩
              rw [(unhide HI2).q.lacks, unhide HL, if_neg (by simp)] at hsq0
              have hsq := hide hsq0
              clear hs5 hs6 hR HS3 HI2 p2 hl hsq0
              go_wp2_with fail
              refine (unhide hsq).mono ?_
              rintro e w6 ⟨rfl, B2, d2, hs7⟩
              have HS7 := hide hs7
              clear hs7 hsq q2 q3 q4
              go_wp2_with fail
              go_meet
              exact ⟨{ s with B := B2, d := d2 }, X, rfl, by rw [← unhide HY]; exact hide ((unhide HI3).fork (g := s.g) (A := s.A) (c := s.c)), (unhide HS7).perm (by rw [← unhide HY]; unfold at13 q13; ac_rfl)⟩
            | true =>
              obtain ⟨R1, hR1⟩ : ∃ R1, R1 = s.row ++ [x] := ⟨_, rfl⟩
              have hR := againR13 (most := most) (la := s.la) (lc := s.lc) (aa := s.aa) (ac := s.ac)  (ln := s.ak.length) (seq := x) ((unhide HS3).perm (show _ = Y * (QAt s.g most s.low s.next s.H s.row s.A s.c s.B s.d * (Asn.blk rg 41 (q13 most s.la s.ak.length s.lc s.aa s.ak.length s.ac s.next s.ra s.row.length s.rc) * Asn.exact W0)) by unfold at13; ac_rfl)) (unhide HI2).ha (unhide HI2).hr hnx (by omega) (by omega) ⟨hx1, hx2⟩ hl
              unfold Again13 q13 at hR
              rw [← hR1] at hR
              have HRR := hide hR
              have HR1 := hide hR1
              have HL := hide hl
              clear hR hR1 hl
              go_wp2_with fail
              refine (unhide HRR).mono ?_
              rintro e w5 ⟨G, ra2, rc2, rfl, hs5, hrr⟩
              clear r0 r1 r2 r3 r4 r5 r6
              have hs5b := hs5.perm (show _ = at13 most rg s * ((G * Y) * Asn.exact W0) by unfold at13; ac_rfl)
              obtain ⟨r0, r1, r2, r3, r4, r5, r6⟩ := at13_cells hs5b
              have hs6 := ((hs5.perm (show _ = Asn.blk rg 41 (q13 most s.la s.ak.length s.lc s.aa s.ak.length s.ac s.next s.ra s.row.length s.rc) * (QAt s.g most s.low s.next s.H s.row s.A s.c s.B s.d * ((G * Y) * Asn.exact W0)) by ac_rfl)).set5 (.int .i64 most) (.slice s.la s.ak.length s.lc) (.slice s.aa s.ak.length s.ac) (.int .i64 s.next) (.slice ra2 R1.length rc2) |>.alloc #[.int .i64 most, .slice s.la s.ak.length s.lc, .slice s.aa s.ak.length s.ac, .int .i64 s.next, .slice ra2 R1.length rc2] 41).right
              have q2 : w5.cell? ⟨ob, 2, none⟩ = some (.int .i64 x) := (hs5.perm (show _ = Asn.blk ob 45 #[.int .u8 d.toNat, .int .u8 nn.toNat, .int .i64 x] * (G * (at13 most rg s * (X * Asn.exact W0))) by rw [unhide HY]; unfold at13; ac_rfl)).cell 2
              have q3 : ob < w5.heap.size := Sat.lt (o := .cells _ _ (0, 0)) (hs5.perm (show _ = Asn.blk ob 45 #[.int .u8 d.toNat, .int .u8 nn.toNat, .int .i64 x] * (G * (at13 most rg s * (X * Asn.exact W0))) by rw [unhide HY]; unfold at13; ac_rfl))
              have q4 : ob ≠ rg := Sat.ne (o := .cells _ _ (0, 0)) (p := .cells _ _ (0, 0)) (hs5.perm (show _ = Asn.blk ob 45 #[.int .u8 d.toNat, .int .u8 nn.toNat, .int .i64 x] * (Asn.blk rg 41 (q13 most s.la s.ak.length s.lc s.aa s.ak.length s.ac s.next s.ra s.row.length s.rc) * (G * (QAt s.g most s.low s.next s.H s.row s.A s.c s.B s.d * (X * Asn.exact W0)))) by rw [unhide HY]; ac_rfl))
              have hsq := sq_again (seq := x) hs6.f2 m1 (by omega) (by omega) (by omega) (by omega) ⟨hx1, hx2⟩
              rw [(unhide HI2).q.lacks, unhide HL, if_pos rfl, ← unhide HR1] at hsq
              have HSQ := hide hsq
              have HRS := hide hrr
              clear hs5 hs5b hs6 hsq hrr HRR HS3 p2
              go_wp2_with fail
              refine (unhide HSQ).mono ?_
              rintro e w6 ⟨rfl, B2, d2, hs7⟩
              have HI3 := hide (((unhide HI2).again (Y := G * Y) (G := G) (B := B2) (d := d2) rfl (by have h := unhide HRS; rw [unhide HR1] at h; exact h) (unhide HL)).up (Nat.le_succ i))
              have HS7 := hide hs7
              clear hs7 HSQ q2 q3 q4
              go_wp2_with fail
              go_meet
              refine ⟨{ s with row := s.row ++ [x], B := B2, d := d2, ra := ra2, rc := rc2 }, G * X, rfl, hide ((unhide HI3).perm (show G * Y = Asn.blk ob 45 #[.int .u8 d.toNat, .int .u8 nn.toNat, .int .i64 x] * (G * X) by rw [unhide HY]; ac_rfl)), (unhide HS7).perm ?_⟩
              unfold at13 q13
              dsimp only
              rw [← unhide HR1, unhide HY]
              ac_rfl
          · as_aux_lemma =>
            clear p1 p2
            by_cases hr0 : s.row = []
            · have hz : s.row.length = 0 := by rw [hr0]; rfl
              rw [hz] at r4
              have HR0 := hide hr0
              have hR := hide (repeatR13_no (most := most) (la := s.la) (lc := s.lc) (aa := s.aa) (ac := s.ac) (next := s.next) (ra := s.ra) (rc := s.rc) (ln := s.ak.length) (an := s.ak.length) (unhide HS3))
              have HI3 := hide ((unhide HI2).up (Nat.le_succ i))
              clear hr0 hz
              unfold q13 at hR
              go_wp2_with fail
              refine (unhide hR).mono ?_
              rintro e w5 ⟨rfl, hs5⟩
              clear r0 r1 r2 r3 r4 r5 r6
              obtain ⟨r0, r1, r2, r3, r4, r5, r6⟩ := at13_cells hs5
              have hs6 := ((hs5.perm (show _ = Asn.blk rg 41 (q13 most s.la s.ak.length s.lc s.aa s.ak.length s.ac s.next s.ra s.row.length s.rc) * (QAt s.g most s.low s.next s.H s.row s.A s.c s.B s.d * (Y * Asn.exact W0)) by unfold at13; ac_rfl)).set5 (.int .i64 most) (.slice s.la s.ak.length s.lc) (.slice s.aa s.ak.length s.ac) (.int .i64 s.next) (.slice s.ra 0 s.rc) |>.alloc #[.int .i64 most, .slice s.la s.ak.length s.lc, .slice s.aa s.ak.length s.ac, .int .i64 s.next, .slice s.ra 0 s.rc] 41).right
              have hs6b := hs6.f2
              rw [unhide HR0] at hs6b
              have hsq := hide (sq_repeat0 hs6b m1)
              have HS7 := hide hs6
              clear hs5 hs6 hs6b hR HS3 HI2
              go_wp2_with fail
              refine (unhide hsq).mono ?_
              rintro e w6 ⟨rfl, rfl⟩
              go_wp2_with fail
              go_meet
              refine ⟨s, X, rfl, by rw [← unhide HY]; exact HI3, (unhide HS7).perm ?_⟩
              rw [← unhide HY]
              unfold at13 q13
              rw [show s.row.length = 0 by rw [unhide HR0]; rfl]
              ac_rfl
            · obtain ⟨y, l, hyl⟩ : ∃ y l, s.row = y :: l := by
                cases h : s.row with
                | nil => exact absurd h hr0
                | cons y l => exact ⟨y, l, rfl⟩
              have hz : s.row.length = l.length + 1 := by rw [hyl]; rfl
              rw [hz] at r4
              have HYL := hide hyl
              have hrs := (unhide HI2).hr
              rw [hyl] at hrs
              have hR := hide (repeatR13 (most := most) (la := s.la) (lc := s.lc) (aa := s.aa) (ac := s.ac) (next := s.next) (ln := s.ak.length) (an := s.ak.length) (unhide HS3) (unhide HS3).right.left hrs (by omega))
              have hll : l.length ≤ 4096 := by omega
              clear hr0 hz hyl hrs hrl
              unfold Rep13 q13 at hR
              obtain ⟨ll, hll'⟩ : ∃ ll, ll = l.length := ⟨_, rfl⟩
              rw [← hll'] at hR r4 hll
              have HLL := hide hll'
              clear hll'
              go_wp2_with fail
              refine (unhide hR).mono ?_
              rintro e w5 ⟨ra2, rc2, rfl, hrr, hs5⟩
              clear r0 r1 r2 r3 r4 r5 r6
              obtain ⟨r0, r1, r2, r3, r4, r5, r6⟩ := at13_cells hs5
              have hs6 := ((hs5.perm (show _ = Asn.blk rg 41 (q13 most s.la s.ak.length s.lc s.aa s.ak.length s.ac s.next s.ra s.row.length s.rc) * (QAt s.g most s.low s.next s.H s.row s.A s.c s.B s.d * (Y * Asn.exact W0)) by unfold at13; ac_rfl)).set5 (.int .i64 most) (.slice s.la s.ak.length s.lc) (.slice s.aa s.ak.length s.ac) (.int .i64 s.next) (.slice ra2 ll rc2) |>.alloc #[.int .i64 most, .slice s.la s.ak.length s.lc, .slice s.aa s.ak.length s.ac, .int .i64 s.next, .slice ra2 ll rc2] 41).right
              have hs6b := hs6.f2
              rw [unhide HYL] at hs6b
              have hsq := hide (sq_repeat hs6b m1 (by rw [← unhide HLL]; omega))
              have HRS := hide hrr
              clear hs5 hs6 hs6b hrr hR HS3
              go_wp2_with fail
              refine (unhide hsq).mono ?_
              rintro e w6 ⟨rfl, B2, d2, hs7⟩
              have HI3 := hide (((unhide HI2).rep (B := B2) (d := d2) (unhide HYL) (by have h := unhide HRS; rw [unhide HLL] at h; exact h)).up (Nat.le_succ i))
              have HS7 := hide hs7
              clear hs7 hsq
              go_wp2_with fail
              go_meet
              refine ⟨{ s with row := l, B := B2, d := d2, ra := ra2, rc := rc2 }, X, rfl, by rw [← unhide HY]; exact HI3, (unhide HS7).perm ?_⟩
              rw [← unhide HY]
              unfold at13 q13
              dsimp only
              rw [← unhide HLL]
              ac_rfl
          · as_aux_lemma =>
            clear p1
            by_cases hin : (s.low : Int) ≤ x ∧ x < (s.low + s.H.length : Nat)
            · obtain ⟨j, hj⟩ : ∃ j : Nat, x = (s.low : Int) + j := ⟨(x - s.low).toNat, by omega⟩
              have hjl : j < s.H.length := by omega
              have hpl := (unhide HI2).pl
              obtain ⟨h, hhj⟩ : ∃ h, s.H[j]? = some h := ⟨_, List.getElem?_eq_getElem hjl⟩
              obtain ⟨⟨pa, pn, pc, pe, pf⟩, hpj⟩ : ∃ p, s.P[s.low + j]? = some p := ⟨_, List.getElem?_eq_getElem (by omega)⟩
              obtain ⟨i1, i2, l, i3, i4⟩ := (unhide HI2).is j h _ hhj hpj
              dsimp only at i1 i2 i4
              have hpn : pn = h.n := by have a1 := (RdW.of_rd i3.rd (unhide HS3).right.left).1; have a2 := (RdW.of_rd i4.rd (unhide HS3).right.left).1; rw [length_bytes] at a1 a2; omega
              subst hpn i1 i2
              have hR := sq_piece (i := j) (h := h) (xs := bytes l) ((unhide HS3).perm (show _ = QAt s.g most s.low s.next s.H s.row s.A s.c s.B s.d * (Asn.blk rg 41 (q13 most s.la s.ak.length s.lc s.aa s.ak.length s.ac s.next s.ra s.row.length s.rc) * (Y * Asn.exact W0)) by unfold at13; ac_rfl)) m1 (by omega) (by omega) hhj i3.rd.left.right bytes_one i3.nil i3.few
              rw [← hj] at hR
              have HRR := hide hR
              obtain ⟨hn, hhn⟩ : ∃ hn, hn = h.n := ⟨_, rfl⟩
              obtain ⟨he, hhe⟩ : ∃ he, he = h.e := ⟨_, rfl⟩
              obtain ⟨hf, hhf⟩ : ∃ hf, hf = h.f := ⟨_, rfl⟩
              rw [← hhn, ← hhe, ← hhf] at HRR
              rw [← hhn] at hpj i4
              rw [← hhe, ← hhf] at hpj
              have HPJ := hide hpj
              have HI4 := hide i4
              have HJ := hide hj
              have HPL := hide hpl
              have hjx : s.low + j < s.ak.length := by omega
              have q4 : ob ≠ rg := Sat.ne (o := .cells _ _ (0, 0)) (p := .cells _ _ (0, 0)) ((unhide HS3).perm (show _ = Asn.blk ob 45 #[.int .u8 d.toNat, .int .u8 nn.toNat, .int .i64 x] * (Asn.blk rg 41 (q13 most s.la s.ak.length s.lc s.aa s.ak.length s.ac s.next s.ra s.row.length s.rc) * (QAt s.g most s.low s.next s.H s.row s.A s.c s.B s.d * (X * Asn.exact W0))) by rw [unhide HY]; unfold at13; ac_rfl))
              clear hR hj hhj hpj i3 i4 hhn hhe hhf hin hjl hpl
              go_wp2_with fail
              refine (unhide HRR).mono ?_
              rintro e w5 ⟨A2, c2, rfl, hs5⟩
              clear r0 r1 r2 r3 r4 r5 r6 p2 HRR HS3
              have hs5b := hs5.perm (show _ = at13 most rg s * ((sl 5 1 A2 hn c2 (bytes l) * Y) * Asn.exact W0) by unfold at13; ac_rfl)
              obtain ⟨r0, r1, r2, r3, r4, r5, r6⟩ := at13_cells hs5b
              have hopp := hs5.perm (show _ = Asn.blk ob 45 #[.int .u8 d.toNat, .int .u8 nn.toNat, .int .i64 x] * (sl 5 1 A2 hn c2 (bytes l) * (at13 most rg s * (X * Asn.exact W0))) by rw [unhide HY]; unfold at13; ac_rfl)
              have q2 : w5.cell? ⟨ob, 2, none⟩ = some (.int .i64 x) := hopp.cell 2
              have q3 : ob < w5.heap.size := Sat.lt (o := .cells _ _ (0, 0)) hopp
              have hs6 := (hs5.alloc #[.slice A2 hn c2, .bool he, .bool hf] 52).perm (show _ = Y * (Asn.blk w5.heap.size 52 #[.slice A2 hn c2, .bool he, .bool hf] * (sl 5 1 A2 hn c2 (bytes l) * (at13 most rg s * Asn.exact W0))) by unfold at13; ac_rfl)
              have hsp := pieceR13 (most := most) (la := s.la) (lc := s.lc) (aa := s.aa) (an := s.ak.length) (ac := s.ac) (next := s.next) (ra := s.ra) (rn := s.row.length) (rc := s.rc) (P := s.P) (i := s.low + j) hs6 (by rw [unhide HPL]; exact (unhide HI2).hp.left) (unhide HI2).ha.left hnx (by omega) (by rw [unhide HPL]; omega) (unhide HPJ) (by rw [← (unhide HI2).q.low]; omega)
              rw [unhide HPL, show ((s.low + j : Nat) : Int) = x by rw [unhide HJ]; omega] at hsp
              have HSP := hide hsp
              clear hs5 hs5b hopp hs6 hsp
              unfold q13 at HSP
              go_wp2_with fail
              refine (unhide HSP).mono ?_
              rintro e w7 ⟨rfl, hs7⟩
              clear r0 r1 r2 r3 r4 r5 r6 q2 q3 q4 HSP
              obtain ⟨b28, hb28⟩ : ∃ b28, b28 = w5.heap.size := ⟨_, rfl⟩
              rw [← hb28] at hs7 ⊢
              clear hb28
              have v0 : w7.cell? ⟨b28, 0, none⟩ = some (.slice A2 hn c2) := hs7.f2.cell 0
              have v1 : w7.cell? ⟨b28, 1, none⟩ = some (.bool he) := hs7.f2.cell 1
              have v2 : w7.cell? ⟨b28, 2, none⟩ = some (.bool hf) := hs7.f2.cell 2
              have v3 : b28 < w7.heap.size := Sat.lt (o := .cells _ _ (0, 0)) hs7.f2
              have hs8 := (hs7.alloc #[.slice pa hn pc, .bool he, .bool hf] 52).right
              have hsm := hide (same11 (a := A2) (a2 := pa) (n := hn) (c := c2) (c2 := pc) (pe := he) (pf := hf) (l := l) hs8 rd_sl.left.right.right (unhide HI4).rd.left)
              clear hs7 hs8
              go_wp2_with fail
              refine (unhide hsm).mono ?_
              rintro e w8 ⟨rfl, hs9⟩
              have HI3 := hide (((unhide HI2).right (G := Asn.blk b28 52 #[.slice A2 hn c2, .bool he, .bool hf] * sl 5 1 A2 hn c2 (bytes l))).up (Nat.le_succ i))
              have HS7 := hide hs9
              clear hs9 hsm v0 v1 v2 v3
              go_wp2_with fail
              go_meet
              exact ⟨s, (Asn.blk b28 52 #[.slice A2 hn c2, .bool he, .bool hf] * sl 5 1 A2 hn c2 (bytes l)) * X, rfl, hide ((unhide HI3).perm (by rw [unhide HY]; ac_rfl)), (unhide HS7).perm (by rw [unhide HY]; unfold at13; ac_rfl)⟩
            · have hR := hide (sq_piece_no (seq := x) ((unhide HS3).perm (show _ = QAt s.g most s.low s.next s.H s.row s.A s.c s.B s.d * (Asn.blk rg 41 (q13 most s.la s.ak.length s.lc s.aa s.ak.length s.ac s.next s.ra s.row.length s.rc) * (Y * Asn.exact W0)) by unfold at13; ac_rfl)) m1 (by omega) (by omega) hin)
              have HIN := hide hin
              have q4 : ob ≠ rg := Sat.ne (o := .cells _ _ (0, 0)) (p := .cells _ _ (0, 0)) ((unhide HS3).perm (show _ = Asn.blk ob 45 #[.int .u8 d.toNat, .int .u8 nn.toNat, .int .i64 x] * (Asn.blk rg 41 (q13 most s.la s.ak.length s.lc s.aa s.ak.length s.ac s.next s.ra s.row.length s.rc) * (QAt s.g most s.low s.next s.H s.row s.A s.c s.B s.d * (X * Asn.exact W0))) by rw [unhide HY]; unfold at13; ac_rfl))
              clear hin
              go_wp2_with fail
              refine (unhide hR).mono ?_
              rintro e w5 ⟨rfl, hs5⟩
              clear r0 r1 r2 r3 r4 r5 r6 p2 hR HS3
              have hs5b := hs5.perm (show _ = at13 most rg s * (Y * Asn.exact W0) by unfold at13; ac_rfl)
              obtain ⟨r0, r1, r2, r3, r4, r5, r6⟩ := at13_cells hs5b
              have hopp := hs5.perm (show _ = Asn.blk ob 45 #[.int .u8 d.toNat, .int .u8 nn.toNat, .int .i64 x] * (at13 most rg s * (X * Asn.exact W0)) by rw [unhide HY]; unfold at13; ac_rfl)
              have q2 : w5.cell? ⟨ob, 2, none⟩ = some (.int .i64 x) := hopp.cell 2
              have q3 : ob < w5.heap.size := Sat.lt (o := .cells _ _ (0, 0)) hopp
              have hs6 := (hs5.alloc #[.slice none 0 0, .bool false, .bool false] 52).perm (show _ = Y * (Asn.blk w5.heap.size 52 #[.slice none 0 0, .bool false, .bool false] * (at13 most rg s * Asn.exact W0)) by unfold at13; ac_rfl)
              have hsp := hide (pieceR13_no (most := most) (la := s.la) (ln := s.ak.length) (lc := s.lc) (aa := s.aa) (an := s.ak.length) (ac := s.ac) (next := s.next) (ra := s.ra) (rn := s.row.length) (rc := s.rc) (seq := x) hs6 (unhide HI2).ha.left hnx (by omega) (by rw [← (unhide HI2).q.low, ← hle]; exact unhide HIN))
              clear hs5 hs5b hopp hs6
              unfold q13 at hsp
              go_wp2_with fail
              refine (unhide hsp).mono ?_
              rintro e w7 ⟨rfl, hs7⟩
              clear r0 r1 r2 r3 r4 r5 r6 q2 q3 q4 hsp
              obtain ⟨b28, hb28⟩ : ∃ b28, b28 = w5.heap.size := ⟨_, rfl⟩
              rw [← hb28] at hs7 ⊢
              clear hb28
              have v0 : w7.cell? ⟨b28, 0, none⟩ = some (.slice none 0 0) := hs7.f2.cell 0
              have v1 : w7.cell? ⟨b28, 1, none⟩ = some (.bool false) := hs7.f2.cell 1
              have v2 : w7.cell? ⟨b28, 2, none⟩ = some (.bool false) := hs7.f2.cell 2
              have v3 : b28 < w7.heap.size := Sat.lt (o := .cells _ _ (0, 0)) hs7.f2
              have hs8 := (hs7.alloc #[.slice none 0 0, .bool false, .bool false] 52).right
              have hsm := hide (same11 (a := none) (a2 := none) (n := 0) (c := 0) (c2 := 0) (pe := false) (pf := false) (l := []) hs8 (rd.nil _ _ _) (rd.nil _ _ _))
              clear hs7 hs8
              go_wp2_with fail
              refine (unhide hsm).mono ?_
              rintro e w8 ⟨rfl, hs9⟩
              have HI3 := hide (((unhide HI2).right (G := Asn.blk b28 52 #[.slice none 0 0, .bool false, .bool false])).up (Nat.le_succ i))
              have HS7 := hide hs9
              clear hs9 hsm v0 v1 v2 v3
              go_wp2_with fail
              go_meet
              exact ⟨s, Asn.blk b28 52 #[.slice none 0 0, .bool false, .bool false] * X, rfl, hide ((unhide HI3).perm (by rw [unhide HY]; ac_rfl)), (unhide HS7).perm (by rw [unhide HY]; unfold at13; ac_rfl)⟩
          · as_aux_lemma =>
            clear p1 p2
            have hR := hide (sq_fork ((unhide HS3).perm (show _ = QAt s.g most s.low s.next s.H s.row s.A s.c s.B s.d * (Asn.blk rg 41 (q13 most s.la s.ak.length s.lc s.aa s.ak.length s.ac s.next s.ra s.row.length s.rc) * (Y * Asn.exact W0)) by unfold at13; ac_rfl)) m1 (by omega) (by omega))
            clear HS3
            go_wp2_with fail
            refine (unhide hR).mono ?_
            rintro e w5 ⟨g2, A2, c2, B2, d2, rfl, hs5⟩
            have HS7 := hide hs5
            have HI3 := hide (((unhide HI2).right (G := QAt s.g most s.low s.next s.H s.row s.A s.c s.B s.d)).up (Nat.le_succ i))
            clear hs5 hR r0 r1 r2 r3 r4 r5 r6
            go_wp2_with fail
            go_meet
            exact ⟨{ s with g := g2, A := A2, c := c2, B := B2, d := d2 }, QAt s.g most s.low s.next s.H s.row s.A s.c s.B s.d * X, rfl, hide ((((unhide HI3).perm (by rw [unhide HY]; ac_rfl)).fork (g := g2) (A := A2) (c := c2) (B := B2) (d := d2))), (unhide HS7).perm (by rw [unhide HY]; unfold at13; dsimp only; ac_rfl)⟩
        case rest =>
          as_aux_lemma =>
          obtain ⟨s, X, rfl, HI, hsx⟩ := hcut
          clear hmod HS3 HI2 e0 e1 e2 r0 r1 r2 r3 r4 r5 r6 hal hnx hlo hle hrl
          have hal : s.ak.length ≤ 405 := by have := (unhide HI).few; omega
          have hnx := (unhide HI).q.nx
          have hlo := (unhide HI).q.lo
          have hle := (unhide HI).q.len
          have hcap := (unhide HI).cap
          have hrw := (unhide HI).rows
          obtain ⟨Y, hY⟩ : ∃ Y, Y = Asn.blk ob 45 #[.int .u8 d.toNat, .int .u8 nn.toNat, .int .i64 x] * X := ⟨_, rfl⟩
          rw [← hY] at hsx HI
          have p2 : wc.cell? ⟨ob, 2, none⟩ = some (.int .i64 x) := (hsx.perm (show _ = Asn.blk ob 45 #[.int .u8 d.toNat, .int .u8 nn.toNat, .int .i64 x] * (at13 most rg s * (X * Asn.exact W0)) by rw [hY]; ac_rfl)).cell 2
          obtain ⟨r0, r1, r2, r3, r4, r5, r6⟩ := at13_cells hsx
          have hsh := hide (shows13 W0 wc Y (Asn.blk rg 41 (q13 most s.la s.ak.length s.lc s.aa s.ak.length s.ac s.next s.ra s.row.length s.rc) * Asn.exact W0) s.g most s.low s.next s.H s.row s.A s.B s.c s.d s.ak s.la s.lc s.aa s.ac s.ra s.rc x (hsx.perm (by unfold at13; ac_rfl)) (unhide HI).q (unhide HI).ha (unhide HI).hr m1 (by omega) (by omega) ⟨hx1, hx2⟩)
          unfold q13 at hsh
          clear hsx hY hob
          go_wp2_with fail
          refine (unhide hsh).mono ?_
          rintro e w5 ⟨rfl, hs5⟩
          have hto := sq_total hs5 m1 (by omega) (by omega)
          rw [hle] at hto
          have HTO := hide hto
          have HS5 := hide hs5
          clear hs5 hsh r0 r1 r2 r3 r4 r5 r6 p2 hto
          go_wp2_with fail
          refine (unhide HTO).mono ?_
          rintro e w6 ⟨rfl, hb6⟩
          have hs6 := (unhide HS5).under hb6
          have hlw := hide (sq_low hs6 m1)
          have hrow := hide (sq_row hs6 m1 (by omega))
          clear hs6 hb6 HS5 HTO
          have hsub : ¬ (most : Int) < (s.ak.length : Int) - s.low := by omega
          go_wp2_with (go_at_call 16; refine (unhide hlw).mono ?_; rintro e w' ⟨rfl, rfl⟩)
          refine (unhide hrow).mono ?_
          rintro e w7 ⟨A2, c2, rfl, hs7⟩
          have HS7 := hide (hs7.right.perm (show _ = at13 most rg s * (Y * Asn.exact W0) by unfold at13; ac_rfl))
          have hrw2 : ¬ (most : Int) < s.row.length := by omega
          clear hs7 hrow hlw
          go_wp2_with fail
          go_roundw
          case rel => exact ⟨s, Y, i + 1, rfl, by go_num, by omega, by omega, HI, unhide HS7⟩
          case measure => simp [intOf]; omega
      · have hbel : Hid (Below W0.heap.size W0 wr) := (hsr.perm (show _ = Asn.exact W0 * (at13 most rg s * X) by ac_rfl)).below
        clear hsr
        by_cases h1 : i < N
        · have h2 : ¬ (i : Int) < 80 := by omega
          clear hlt
          go_wp2_with fail
          go_ret
          exact ⟨rfl, unhide hbel⟩
        · clear hlt
          go_wp2_with fail
          go_ret
          exact ⟨rfl, unhide hbel⟩
  · have hnew := hide (sq_new_no W0 most0 hok)
    have hnr := hide (newR13_no W0 most0 hok)
    unfold q13 at hnr
    clear hok
    go_enter Try.func4, Try.ntmps4
    go_wp2_with fail
    refine (unhide hnew).mono ?_
    rintro e w1 ⟨rfl, rfl⟩
    clear hnew
    go_wp2_with fail
    refine (unhide hnr).mono ?_
    rintro e w2 ⟨rfl, hb⟩
    have hs2 := (((Sat.start W0).perm (sep_one _).symm).under hb).alloc (q13 0 none 0 0 none 0 0 0 none 0 0) 41
    have haw := hide (awake13 W0 _ _ hs2.right)
    unfold q13 at haw
    clear hnr hb hs2
    go_wp2_with fail
    refine (unhide haw).mono ?_
    rintro e w3 ⟨rfl, hs3⟩
    have HB := hide hs3.below
    clear haw hs3
    go_wp2_with fail
    go_loopw [5, 9] (fun s5 s9 wr => s5 = .pointer none ∧ s9 = .int .i64 0 ∧ wr = w3) (fun _ _ _ => 0)
    case atStart => exact ⟨rfl, rfl, rfl⟩
    case round =>
      obtain ⟨rfl, rfl, rfl⟩ := hrel
      by_cases h1 : 0 < N
      · go_wp2_with fail
        go_ret
        exact ⟨rfl, unhide HB⟩
      · go_wp2_with fail
        go_ret
        exact ⟨rfl, unhide HB⟩
end Go.Proofs.Ytdfidijlconhnaa
