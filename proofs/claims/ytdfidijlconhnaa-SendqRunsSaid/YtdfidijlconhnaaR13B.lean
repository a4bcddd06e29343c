/- The document's queue of pieces: Add, Send. -/
import Derived.Test.YtdfidijlconhnaaR13
import Derived.Test.YtdfidijlconhnaaSqP
namespace Go.Proofs.Ytdfidijlconhnaa
open Go.RowKit Asn
theorem elt_bools : Elt Try.prog 39 4 1 1 (.bool false) := elt_of Try.underlying39 (by kernel_rfl) rfl (by omega)
theorem bools_one {l : List Bool} : ∀ u ∈ bools l, u.oneCell' = true := by
  intro u hu
  obtain ⟨x, _, rfl⟩ := List.mem_map.1 hu
  rfl
def Add13 (E : World) (X F : Asn) (most next : Nat) (P P2 : List PR) (ak : List Bool) (ra : Option Addr) (rn rc : Nat) (e : Ending) (w' : World) : Prop :=
  ∃ (G : Asn) (la : Option Addr) (lc : Nat) (aa : Option Addr) (ac : Nat), e = .returned (.tuple #[.agg (q13 most la (P.length + P2.length) lc aa (ak.length + P2.length) ac next ra rn rc), .int .i64 0]) ∧ Sat E w' (G * (X * F)) ∧
    rd (G * X) 3 la (P.length + P2.length) (pieceC (P ++ P2)) ∧ rd (G * X) 1 aa (ak.length + P2.length) (bools (ak ++ List.replicate P2.length false))
section
variable {E w : World} {X F : Asn} {most : Nat} {la : Option Addr} {lc : Nat} {aa : Option Addr} {ac next : Nat} {ra : Option Addr} {rn rc : Nat} {ak : List Bool} {P P2 : List PR} {pA : Option Addr} {pc : Nat}
set_option maxHeartbeats 4000000 in
set_option maxRecDepth 100000 in
theorem addR13 (hs : Sat E w (X * F)) (hp : rd X 3 la P.length (pieceC P)) (ha : rd X 1 aa ak.length (bools ak)) (hp2 : rd X 3 pA P2.length (pieceC P2)) (hn : next ≤ ak.length) (hal : ak.length ≤ 20000) (hpl : P.length ≤ 20000) (hp2l : P2.length ≤ 20000) (hm : most ≤ 100000)
    (hfit : (P2.length : Int) ≤ most - (P.length - lowD ak next)) :
    Calls Try.prog 19 #[.agg (q13 most la P.length lc aa ak.length ac next ra rn rc), .slice pA P2.length pc] w (Add13 E X F most next P P2 ak ra rn rc) := by
  obtain ⟨lo, hlo⟩ : ∃ lo, lo = lowD ak next := ⟨_, rfl⟩
  have hlo1 := (lowD_spec ak next).1
  rw [← hlo] at hlo1
  obtain ⟨b0, hb0⟩ : ∃ b0, b0 = w.heap.size := ⟨_, rfl⟩
  have hs1 := (hs.alloc (q13 most la P.length lc aa ak.length ac next ra rn rc) 41).alloc (q13 0 none 0 0 none 0 0 0 none 0 0) 41
  rw [World.size_alloc, ← hb0] at hs1
  have HS1 := hide (hs1.perm (sep_one _).symm)
  have hlow : Hid (∀ W R, Sat E W ((Asn.blk (b0 + 1) 41 (q13 0 none 0 0 none 0 0 0 none 0 0) * (Asn.blk b0 41 (q13 most la P.length lc aa ak.length ac next ra rn rc) * (X * F))) * R) → Calls Try.prog 61 #[.agg (q13 most la P.length lc aa ak.length ac next ra rn rc)] W fun e w' => e = .returned (.int .i64 lo) ∧ Below W.heap.size W w') := fun W R h => by rw [hlo]; exact low13 (RdW.of_rd ha h.left.right.right.left) hn (by omega)
  obtain ⟨pl, hpl'⟩ : ∃ pl, pl = P.length := ⟨_, rfl⟩
  obtain ⟨al, hal'⟩ : ∃ al, al = ak.length := ⟨_, rfl⟩
  obtain ⟨m, hm'⟩ : ∃ m, m = P2.length := ⟨_, rfl⟩
  have HPL := hide hpl'
  have HAL := hide hal'
  have HM := hide hm'
  have HP := hide hp
  have HA := hide ha
  have HP2 := hide hp2
  rw [← hpl', ← hal'] at HS1 hlow
  rw [← hlo, ← hm', ← hpl'] at hfit
  rw [← hpl'] at hpl
  rw [← hal'] at hal
  rw [← hm'] at hp2l
  rw [← hpl', ← hal', ← hm']
  have HW1 : Hid (IntKind.i64.wrap ((pl : Int) - lo) = (pl : Int) - lo) := by show _ = _; rw [IntKind.wrap_i64]; omega
  have HW2 : Hid (IntKind.i64.wrap ((most : Int) - ((pl : Int) - lo)) = (most : Int) - ((pl : Int) - lo)) := by show _ = _; rw [IntKind.wrap_i64]; omega
  have HB0 := hide hb0
  clear hs hs1 hp ha hp2 hlo hpl' hal' hm' hn
  unfold q13 at HS1 hlow ⊢
  go_enter Try.func19, Try.ntmps19
  go_upto_region 1 with (fail)
  rw [← hb0]
  clear hb0
  refine wp_region_slr (Q := _) (E := E) (fun W => ∃ R, Sat E W ((Asn.blk (b0 + 1) 41 #[.int .i64 0, .slice none 0 0, .slice none 0 0, .int .i64 0, .slice none 0 0] * (Asn.blk b0 41 #[.int .i64 most, .slice la pl lc, .slice aa al ac, .int .i64 next, .slice ra rn rc] * (X * F))) * R)) [] [8] [] [] (fun _ => (0, #[], fun _ => undef)) [0, 1, 2, 3, 4, 5, 6, 7, 8, 9, 10, 11] (by kernel_rfl) (by kernel_rfl) (unhide HS1) (fun W R h => ⟨_, h.asc⟩) ?_
  iterate 8
    refine wpS_f _ rfl rfl (v := ?_) ?_ ?_
    rotate_left
    · rintro W ⟨R, hW⟩
      have f0 : W.cell? ⟨b0, 0, none⟩ = some (.int .i64 most) := hW.left.f2.cell 0
      have f1 : W.cell? ⟨b0, 1, none⟩ = some (.slice la pl lc) := hW.left.f2.cell 1
      have f2 : W.cell? ⟨b0, 2, none⟩ = some (.slice aa al ac) := hW.left.f2.cell 2
      have f3 : W.cell? ⟨b0, 3, none⟩ = some (.int .i64 next) := hW.left.f2.cell 3
      have f4 : W.cell? ⟨b0, 4, none⟩ = some (.slice ra rn rc) := hW.left.f2.cell 4
      have g1 : IntKind.i64.wrap ((pl : Int) - lo) = (pl : Int) - lo := HW1.out
      have g2 : IntKind.i64.wrap ((most : Int) - ((pl : Int) - lo)) = (most : Int) - ((pl : Int) - lo) := HW2.out
      go_simp
      first | rfl | (rw [IntKind.wrap_i64]; omega)
    go_simp
  refine wpS_c _ rfl rfl (v := .int .i64 lo) (freeC_call rfl (fun W => by go_simp; try rfl) (fun W ⟨R, hW⟩ => unhide hlow W R hW)) ?_
  go_simp
  iterate 3
    refine wpS_f _ rfl rfl (v := ?_) ?_ ?_
    rotate_left
    · rintro W ⟨R, hW⟩
      have f0 : W.cell? ⟨b0, 0, none⟩ = some (.int .i64 most) := hW.left.f2.cell 0
      have f1 : W.cell? ⟨b0, 1, none⟩ = some (.slice la pl lc) := hW.left.f2.cell 1
      have f2 : W.cell? ⟨b0, 2, none⟩ = some (.slice aa al ac) := hW.left.f2.cell 2
      have f3 : W.cell? ⟨b0, 3, none⟩ = some (.int .i64 next) := hW.left.f2.cell 3
      have f4 : W.cell? ⟨b0, 4, none⟩ = some (.slice ra rn rc) := hW.left.f2.cell 4
      have g1 : IntKind.i64.wrap ((pl : Int) - lo) = (pl : Int) - lo := HW1.out
      have g2 : IntKind.i64.wrap ((most : Int) - ((pl : Int) - lo)) = (most : Int) - ((pl : Int) - lo) := HW2.out
      go_simp
      first | rfl | (rw [IntKind.wrap_i64]; omega)
    go_simp
  refine wpS_n (fun w3 hs3 => ?_)
  have hs4 := hs3.perm (sep_one _)
  have hfit2 : ¬ (most : Int) - ((pl : Int) - lo) < m := by omega
  clear hs3 HS1 hlow HW1 HW2
  go_upto_region 3 with (fail)
  clear hfit2
  have f1 : w3.cell? ⟨b0, 1, none⟩ = some (.slice la pl lc) := hs4.f2.cell 1
  have k0 : b0 < w3.heap.size := Sat.lt (o := .cells _ _ (0, 0)) hs4.f2
  -- the pieces
  have hs5 : Sat E (w3.alloc (.cells #[] 52)) (sl 52 3 (some ⟨w3.heap.size, 0, none⟩) 0 0 [] * (Asn.blk (b0 + 1) 41 #[.int .i64 0, .slice none 0 0, .slice none 0 0, .int .i64 0, .slice none 0 0] * (Asn.blk b0 41 #[.int .i64 most, .slice la pl lc, .slice aa al ac, .int .i64 next, .slice ra rn rc] * (X * F)))) :=
    Sat.slMk (hs4.alloc #[] 52) (by simp) (Nat.le_refl _) (Nat.zero_le _) (by simp) (by intro j u hu; simp at hu)
  obtain ⟨A1, c1, w5, r1, hs6⟩ := Sat.append (P := Try.prog) (t := 28) (ty := 28) (d := lc) (m := pl) elt_pieces hs5 (by rw [unhide HPL]; exact RdW.of_rd (unhide HP) hs5.right.right.right.left) pieceC_one (by unfold maxLen; omega) (by omega)
  rw [Nat.zero_add] at r1 hs6
  rw [List.nil_append] at hs6
  obtain ⟨A2, c2, w6, r2, hs7⟩ := Sat.append (P := Try.prog) (t := 28) (ty := 28) (d := pc) (m := m) elt_pieces hs6 (by rw [unhide HM]; exact RdW.of_rd (unhide HP2) hs6.right.right.right.left) pieceC_one (by unfold maxLen; omega) (by omega)
  rw [← pieceC_append] at hs7
  have k1 : w6.cell? ⟨b0, 1, none⟩ = some (.slice la pl lc) := hs7.f3.cell 1
  have k2 : w6.frozen? ⟨b0, 1, none⟩ = false := hs7.f3.frozen 1
  have k3 : b0 < w6.heap.size := Sat.lt (o := .cells _ _ (0, 0)) hs7.f3
  have hs8 := (hs7.f3.set 1 (.slice A2 (pl + m) c2)).perm (show _ = Asn.blk b0 41 #[.int .i64 most, .slice A2 (pl + m) c2, .slice aa al ac, .int .i64 next, .slice ra rn rc] * (sl 52 3 A2 (pl + m) c2 (pieceC (P ++ P2)) * (Asn.blk (b0 + 1) 41 #[.int .i64 0, .slice none 0 0, .slice none 0 0, .int .i64 0, .slice none 0 0] * (X * F))) by rfl)
  have k4 : (w6.setCell ⟨b0, 1, none⟩ (.slice A2 (pl + m) c2)).cell? ⟨b0, 2, none⟩ = some (.slice aa al ac) := hs8.cell 2
  have R1 := Lib.hid r1
  have R2 := Lib.hid r2
  obtain ⟨w7, hw7⟩ : ∃ w7, w7 = w6.setCell ⟨b0, 1, none⟩ (.slice A2 (pl + m) c2) := ⟨_, rfl⟩
  rw [← hw7] at hs8 k4
  have k5 : b0 < w7.heap.size := Sat.lt (o := .cells _ _ (0, 0)) hs8
  -- which are acknowledged
  have hs9 : Sat E (w7.alloc (.cells #[] 4)) (sl 4 1 (some ⟨w7.heap.size, 0, none⟩) 0 0 [] * _) := Sat.slMk (hs8.alloc #[] 4) (by simp) (Nat.le_refl _) (Nat.zero_le _) (by simp) (by intro j u hu; simp at hu)
  obtain ⟨A3, c3, w8, r3, hs10⟩ := Sat.append (P := Try.prog) (t := 39) (ty := 39) (d := ac) (m := al) elt_bools hs9 (by rw [unhide HAL]; exact RdW.of_rd (unhide HA) hs9.right.right.right.right.left) bools_one (by unfold maxLen; omega) (by omega)
  rw [Nat.zero_add] at r3 hs10
  rw [List.nil_append] at hs10
  obtain ⟨A4, c4, w9, r4, hs11⟩ := Sat.appendZ (P := Try.prog) (t := 39) (tn := 3) (ty := 39) (m := m) (k := .i64) elt_bools hs10 rfl rfl Try.underlying3 (by unfold maxLen; omega) (by omega)
  have e4 : bools ak ++ List.replicate m (Value.bool false) = bools (ak ++ List.replicate m false) := by unfold bools; rw [List.map_append, List.map_replicate]
  rw [e4] at hs11
  have R3 := Lib.hid r3
  have R4 := Lib.hid r4
  have q1 : w9.cell? ⟨b0, 2, none⟩ = some (.slice aa al ac) := hs11.f2.cell 2
  have q2 : ∀ j, w9.frozen? ⟨b0, j, none⟩ = false := fun j => hs11.f2.frozen j
  have q3 : b0 < w9.heap.size := Sat.lt (o := .cells _ _ (0, 0)) hs11.f2
  have p0 : w9.cell? ⟨b0, 0, none⟩ = some (.int .i64 most) := hs11.f2.cell 0
  have p1 : w9.cell? ⟨b0, 1, none⟩ = some (.slice A2 (pl + m) c2) := hs11.f2.cell 1
  have p3 : w9.cell? ⟨b0, 3, none⟩ = some (.int .i64 next) := hs11.f2.cell 3
  have p4 : w9.cell? ⟨b0, 4, none⟩ = some (.slice ra rn rc) := hs11.f2.cell 4
  have t0 : w9.cell? ⟨b0 + 1, 0, none⟩ = some (.int .i64 0) := hs11.f4.cell 0
  have t1 : w9.cell? ⟨b0 + 1, 1, none⟩ = some (.slice none 0 0) := hs11.f4.cell 1
  have t2 : w9.cell? ⟨b0 + 1, 2, none⟩ = some (.slice none 0 0) := hs11.f4.cell 2
  have t3 : w9.cell? ⟨b0 + 1, 3, none⟩ = some (.int .i64 0) := hs11.f4.cell 3
  have t4 : w9.cell? ⟨b0 + 1, 4, none⟩ = some (.slice none 0 0) := hs11.f4.cell 4
  have t5 : ∀ j, w9.frozen? ⟨b0 + 1, j, none⟩ = false := fun j => hs11.f4.frozen j
  have t6 : b0 + 1 < w9.heap.size := Sat.lt (o := .cells _ _ (0, 0)) hs11.f4
  have hs12 := (((((hs11.f2.set 2 (.slice A4 (al + m) c4)).f4.set 0 (.int .i64 most)).set 1 (.slice A2 (pl + m) c2)).set 2 (.slice A4 (al + m) c4)).set 3 (.int .i64 next)).set 4 (.slice ra rn rc)
  have HB := Lib.hid hs12.blk
  obtain ⟨GB, hGB⟩ : ∃ GB, GB = sl 4 1 A4 (al + m) c4 (bools (ak ++ List.replicate m false)) := ⟨_, rfl⟩
  obtain ⟨GP, hGP⟩ : ∃ GP, GP = sl 52 3 A2 (pl + m) c2 (pieceC (P ++ P2)) := ⟨_, rfl⟩
  have HGB : Hid (rd ((GB * GP) * X) 1 A4 (al + m) (bools (ak ++ List.replicate m false))) := by rw [hGB]; exact rd_sl.left.left
  have HGP : Hid (rd ((GB * GP) * X) 3 A2 (pl + m) (pieceC (P ++ P2))) := by rw [hGP]; exact rd_sl.right.left
  rw [← hGB, ← hGP] at hs12
  have HS12 := hide ((hs12.right.perm (show _ = Asn.blk b0 41 #[.int .i64 most, .slice A2 (pl + m) c2, .slice A4 (al + m) c4, .int .i64 next, .slice ra rn rc] * ((GB * GP) * (X * F)) by show Asn.blk _ _ #[_, _, _, _, _] * _ = _; ac_rfl)).right)
  clear hs4 hs5 hs6 hs7 hs8 hs9 hs10 hs11 hs12 r1 r2 r3 r4 hGB hGP e4
  go_upto_region 4 with (first
    | (at_builtin; refine wpList_appendR rfl (.tmp 19) (.tmp 21) rfl rfl rfl R1.out ?_)
    | (at_builtin; refine wpList_appendR rfl (.tmp 22) (.tmp 23) rfl rfl rfl R2.out ?_))
  rw [← hw7]
  clear hw7 k1 k2 k3 f1
  go_wp2_with (first
    | (at_builtin; refine wpList_appendR rfl (.tmp 26) (.tmp 28) rfl rfl rfl R3.out ?_)
    | (at_builtin; refine wpList_appendR rfl (.tmp 29) (.tmp 31) rfl rfl rfl R4.out ?_))
  exact bodyPost_ret (results_cell2 (p := 4) (u1 := 5) rfl _ _ _ _ _ _ _ rfl HB.out Try.underlying41 rfl (by kernel_rfl)) rfl ⟨GB * GP, A2, c2, A4, c4, by rw [← unhide HPL, ← unhide HAL, ← unhide HM]; rfl, unhide HS12, by rw [← unhide HPL, ← unhide HM]; exact unhide HGP, by rw [← unhide HAL, ← unhide HM]; exact unhide HGB⟩
end
end Go.Proofs.Ytdfidijlconhnaa
