/- The document's queue of pieces: Add in full, Send, Repeat, Piece; two pieces compared. -/
import Derived.Test.YtdfidijlconhnaaR13B
namespace Go.Proofs.Ytdfidijlconhnaa
open Go.RowKit Asn
section
variable {E w : World} {X F : Asn} {most : Nat} {la : Option Addr} {ln lc : Nat} {aa : Option Addr} {an ac next : Nat} {ra : Option Addr} {rn rc : Nat} {ak : List Bool}
/-- What a queue's result block holds behind a copy. -/
theorem Sat.copy13 {g : Nat} {cs : Array Value} (h : Sat E w (Asn.blk g 41 (q13 0 none 0 0 none 0 0 0 none 0 0) * F)) :
    Sat E (((((w.setCell ⟨g, 0, none⟩ (.int .i64 most)).setCell ⟨g, 1, none⟩ (.slice la ln lc)).setCell ⟨g, 2, none⟩ (.slice aa an ac)).setCell ⟨g, 3, none⟩ (.int .i64 next)).setCell ⟨g, 4, none⟩ (.slice ra rn rc)) (Asn.blk g 41 (q13 most la ln lc aa an ac next ra rn rc) * F) :=
  ((((h.set 0 (.int .i64 most)).set 1 (.slice la ln lc)).set 2 (.slice aa an ac)).set 3 (.int .i64 next)).set 4 (.slice ra rn rc)
set_option maxHeartbeats 1000000 in
set_option maxRecDepth 100000 in
theorem addR13_full {pA : Option Addr} {m pc : Nat} (hs : Sat E w F) (ha : rd F 1 aa an (bools ak)) (hn : next ≤ an) (hal : an ≤ 20000) (hpl : ln ≤ 20000) (hp2l : m ≤ 20000) (hm : most ≤ 100000) (hfit : ¬ (m : Int) ≤ most - (ln - lowD ak next)) :
    Calls Try.prog 19 #[.agg (q13 most la ln lc aa an ac next ra rn rc), .slice pA m pc] w fun e w' => e = .returned (.tuple #[.agg (q13 most la ln lc aa an ac next ra rn rc), .int .i64 8]) ∧ Sat E w' F := by
  obtain ⟨lo, hlo⟩ : ∃ lo, lo = lowD ak next := ⟨_, rfl⟩
  have hlo1 := (lowD_spec ak next).1
  rw [← hlo] at hlo1 hfit
  obtain ⟨b0, hb0⟩ : ∃ b0, b0 = w.heap.size := ⟨_, rfl⟩
  have hs1 := (hs.alloc (q13 most la ln lc aa an ac next ra rn rc) 41).alloc (q13 0 none 0 0 none 0 0 0 none 0 0) 41
  rw [World.size_alloc, ← hb0] at hs1
  have HS1 := hide (hs1.perm (sep_one _).symm)
  have hlow : Hid (∀ W R, Sat E W ((Asn.blk (b0 + 1) 41 (q13 0 none 0 0 none 0 0 0 none 0 0) * (Asn.blk b0 41 (q13 most la ln lc aa an ac next ra rn rc) * F)) * R) → Calls Try.prog 61 #[.agg (q13 most la ln lc aa an ac next ra rn rc)] W fun e w' => e = .returned (.int .i64 lo) ∧ Below W.heap.size W w') := fun W R h => by rw [hlo]; exact low13 (RdW.of_rd ha h.left.right.right) hn (by omega)
  have HW1 : Hid (IntKind.i64.wrap ((ln : Int) - lo) = (ln : Int) - lo) := by show _ = _; rw [IntKind.wrap_i64]; omega
  have HW2 : Hid (IntKind.i64.wrap ((most : Int) - ((ln : Int) - lo)) = (most : Int) - ((ln : Int) - lo)) := by show _ = _; rw [IntKind.wrap_i64]; omega
  clear hs hs1 ha hlo hn
  have COPY := hide (fun w F => @Sat.copy13 E w F most la ln lc aa an ac next ra rn rc (b0 + 1) #[])
  unfold q13 at HS1 hlow COPY ⊢
  go_enter Try.func19, Try.ntmps19
  go_upto_region 1 with (fail)
  rw [← hb0]
  clear hb0
  refine wp_region_slr (Q := _) (E := E) (fun W => ∃ R, Sat E W ((Asn.blk (b0 + 1) 41 #[.int .i64 0, .slice none 0 0, .slice none 0 0, .int .i64 0, .slice none 0 0] * (Asn.blk b0 41 #[.int .i64 most, .slice la ln lc, .slice aa an ac, .int .i64 next, .slice ra rn rc] * F)) * R)) [] [8] [] [] (fun _ => (0, #[], fun _ => undef)) [0, 1, 2, 3, 4, 5, 6, 7, 8, 9, 10, 11] (by kernel_rfl) (by kernel_rfl) (unhide HS1) (fun W R h => ⟨_, h.asc⟩) ?_
  iterate 8
    refine wpS_f _ rfl rfl (v := ?_) ?_ ?_
    rotate_left
    · rintro W ⟨R, hW⟩
      have f0 : W.cell? ⟨b0, 0, none⟩ = some (.int .i64 most) := hW.left.f2.cell 0
      have f1 : W.cell? ⟨b0, 1, none⟩ = some (.slice la ln lc) := hW.left.f2.cell 1
      have f2 : W.cell? ⟨b0, 2, none⟩ = some (.slice aa an ac) := hW.left.f2.cell 2
      have f3 : W.cell? ⟨b0, 3, none⟩ = some (.int .i64 next) := hW.left.f2.cell 3
      have f4 : W.cell? ⟨b0, 4, none⟩ = some (.slice ra rn rc) := hW.left.f2.cell 4
      have g1 : IntKind.i64.wrap ((ln : Int) - lo) = (ln : Int) - lo := HW1.out
      have g2 : IntKind.i64.wrap ((most : Int) - ((ln : Int) - lo)) = (most : Int) - ((ln : Int) - lo) := HW2.out
      go_simp
      first | rfl | (rw [IntKind.wrap_i64]; omega)
    go_simp
  refine wpS_c _ rfl rfl (v := .int .i64 lo) (freeC_call rfl (fun W => by go_simp; try rfl) (fun W ⟨R, hW⟩ => unhide hlow W R hW)) ?_
  go_simp
  iterate 3
    refine wpS_f _ rfl rfl (v := ?_) ?_ ?_
    rotate_left
    · rintro W ⟨R, hW⟩
      have f0 : W.cell? ⟨b0, 0, none⟩ = some (.int .i64 most) := hW.left.f2.cell 0
      have f1 : W.cell? ⟨b0, 1, none⟩ = some (.slice la ln lc) := hW.left.f2.cell 1
      have f2 : W.cell? ⟨b0, 2, none⟩ = some (.slice aa an ac) := hW.left.f2.cell 2
      have f3 : W.cell? ⟨b0, 3, none⟩ = some (.int .i64 next) := hW.left.f2.cell 3
      have f4 : W.cell? ⟨b0, 4, none⟩ = some (.slice ra rn rc) := hW.left.f2.cell 4
      have g1 : IntKind.i64.wrap ((ln : Int) - lo) = (ln : Int) - lo := HW1.out
      have g2 : IntKind.i64.wrap ((most : Int) - ((ln : Int) - lo)) = (most : Int) - ((ln : Int) - lo) := HW2.out
      go_simp
      first | rfl | (rw [IntKind.wrap_i64]; omega)
    go_simp
  refine wpS_n (fun w3 hs3 => ?_)
  have hs4 := hs3.perm (sep_one _)
  have hfit2 : (most : Int) - ((ln : Int) - lo) < m := by omega
  clear hs3 HS1 hlow HW1 HW2 hfit
  go_upto_region 2 with (fail)
  clear hfit2
  have p0 : w3.cell? ⟨b0, 0, none⟩ = some (.int .i64 most) := hs4.f2.cell 0
  have p1 : w3.cell? ⟨b0, 1, none⟩ = some (.slice la ln lc) := hs4.f2.cell 1
  have p2 : w3.cell? ⟨b0, 2, none⟩ = some (.slice aa an ac) := hs4.f2.cell 2
  have p3 : w3.cell? ⟨b0, 3, none⟩ = some (.int .i64 next) := hs4.f2.cell 3
  have p4 : w3.cell? ⟨b0, 4, none⟩ = some (.slice ra rn rc) := hs4.f2.cell 4
  have t0 : w3.cell? ⟨b0 + 1, 0, none⟩ = some (.int .i64 0) := hs4.cell 0
  have t1 : w3.cell? ⟨b0 + 1, 1, none⟩ = some (.slice none 0 0) := hs4.cell 1
  have t2 : w3.cell? ⟨b0 + 1, 2, none⟩ = some (.slice none 0 0) := hs4.cell 2
  have t3 : w3.cell? ⟨b0 + 1, 3, none⟩ = some (.int .i64 0) := hs4.cell 3
  have t4 : w3.cell? ⟨b0 + 1, 4, none⟩ = some (.slice none 0 0) := hs4.cell 4
  have t5 : ∀ j, w3.frozen? ⟨b0 + 1, j, none⟩ = false := fun j => hs4.frozen j
  have t6 : b0 + 1 < w3.heap.size := Sat.lt (o := .cells _ _ (0, 0)) hs4
  have hs5 := unhide COPY w3 _ hs4
  have HB := Lib.hid hs5.blk
  have HS5 := hide hs5.right.right
  clear hs4 hs5
  go_wp2_with fail
  exact bodyPost_ret (results_cell2 (p := 4) (u1 := 5) rfl _ _ _ _ _ _ _ rfl HB.out Try.underlying41 rfl (by kernel_rfl)) rfl ⟨rfl, unhide HS5⟩
set_option maxHeartbeats 1000000 in
set_option maxRecDepth 100000 in
theorem sendR13_no (hs : Sat E w F) (hno : ¬ next < ln) :
    Calls Try.prog 20 #[.agg (q13 most la ln lc aa an ac next ra rn rc)] w fun e w' => e = .returned (.tuple #[.agg (q13 most la ln lc aa an ac next ra rn rc), .int .i64 0, .bool false]) ∧ Sat E w' F := by
  have HS0 := hide hs
  have h2 : (ln : Int) ≤ next := by omega
  clear hs hno
  unfold q13
  go_enter Try.func20, Try.ntmps20
  go_wp2_with fail
  exact bodyPost_ret (v := .tuple #[.agg #[.int .i64 most, .slice la ln lc, .slice aa an ac, .int .i64 next, .slice ra rn rc], .int .i64 0, .bool false]) (by simp [results, Try.results20, go_sem]) rfl ⟨rfl, ((unhide HS0).allocKeep _).allocKeep _⟩
set_option maxHeartbeats 1000000 in
set_option maxRecDepth 100000 in
theorem sendR13 (hs : Sat E w F) (hyes : next < ln) (hl : ln ≤ 60000) :
    Calls Try.prog 20 #[.agg (q13 most la ln lc aa an ac next ra rn rc)] w fun e w' => e = .returned (.tuple #[.agg (q13 most la ln lc aa an ac (next + 1) ra rn rc), .int .i64 next, .bool true]) ∧ Sat E w' F := by
  obtain ⟨b0, hb0⟩ : ∃ b0, b0 = w.heap.size := ⟨_, rfl⟩
  have hs1 := (hs.alloc (q13 most la ln lc aa an ac (next + 1) ra rn rc) 41).alloc (q13 0 none 0 0 none 0 0 0 none 0 0) 41
  rw [World.size_alloc, ← hb0] at hs1
  have HS1 := hide (hs1.perm (show _ = (Asn.blk b0 41 (q13 most la ln lc aa an ac (next + 1) ra rn rc) * F) * Asn.blk (b0 + 1) 41 (q13 0 none 0 0 none 0 0 0 none 0 0) by ac_rfl))
  have h2 : (next : Int) < ln := by omega
  have COPY := hide (fun w F => @Sat.copy13 E w F most la ln lc aa an ac (next + 1) ra rn rc (b0 + 1) #[])
  clear hs hs1 hyes
  unfold q13 at HS1 COPY ⊢
  go_enter Try.func20, Try.ntmps20
  go_upto_region 4 with (fail)
  rw [← hb0]
  clear hb0
  refine wp_region_slr (Q := _) (E := E) (fun W => ∃ R, Sat E W ((Asn.blk b0 41 #[.int .i64 most, .slice la ln lc, .slice aa an ac, .int .i64 (next + 1 : Nat), .slice ra rn rc] * F) * R)) [4] [] [] [] (fun _ => (0, #[], fun _ => undef)) [0, 1, 2, 3, 4, 5, 6] (by kernel_rfl) (by kernel_rfl) (unhide HS1) (fun W R h => ⟨_, h.asc⟩) ?_
  iterate 4
    refine wpS_f _ rfl rfl (v := ?_) ?_ ?_
    rotate_left
    · rintro W ⟨R, hW⟩
      have f0 : W.cell? ⟨b0, 0, none⟩ = some (.int .i64 most) := hW.asc.cell 0
      have f1 : W.cell? ⟨b0, 1, none⟩ = some (.slice la ln lc) := hW.asc.cell 1
      have f2 : W.cell? ⟨b0, 2, none⟩ = some (.slice aa an ac) := hW.asc.cell 2
      have f3 : W.cell? ⟨b0, 3, none⟩ = some (.int .i64 (next + 1 : Nat)) := hW.asc.cell 3
      have f4 : W.cell? ⟨b0, 4, none⟩ = some (.slice ra rn rc) := hW.asc.cell 4
      have f5 : IntKind.i64.wrap (next : Int) = (next : Int) := by rw [IntKind.wrap_i64]; omega
      go_simp
      first | rfl | (rw [IntKind.wrap_i64]; omega)
    go_simp
  refine wpS_e _ rfl rfl (fun W R hW => ?_)
  have u0 : W.cell? ⟨b0 + 1, 0, none⟩ = some (.int .i64 0) := (hW.left.right : Sat E W (Asn.blk (b0 + 1) _ _)) |> fun h => (h.perm (sep_one _).symm).cell 0
  have u1 : W.cell? ⟨b0 + 1, 1, none⟩ = some (.slice none 0 0) := (hW.left.right : Sat E W (Asn.blk (b0 + 1) _ _)) |> fun h => (h.perm (sep_one _).symm).cell 1
  have u2 : W.cell? ⟨b0 + 1, 2, none⟩ = some (.slice none 0 0) := (hW.left.right : Sat E W (Asn.blk (b0 + 1) _ _)) |> fun h => (h.perm (sep_one _).symm).cell 2
  have u3 : W.cell? ⟨b0 + 1, 3, none⟩ = some (.int .i64 0) := (hW.left.right : Sat E W (Asn.blk (b0 + 1) _ _)) |> fun h => (h.perm (sep_one _).symm).cell 3
  have u4 : W.cell? ⟨b0 + 1, 4, none⟩ = some (.slice none 0 0) := (hW.left.right : Sat E W (Asn.blk (b0 + 1) _ _)) |> fun h => (h.perm (sep_one _).symm).cell 4
  have u5 : ∀ j, W.frozen? ⟨b0 + 1, j, none⟩ = false := fun j => ((hW.left.right : Sat E W (Asn.blk (b0 + 1) _ _)).perm (sep_one _).symm).frozen j
  have u6 : b0 + 1 < W.heap.size := Sat.lt (o := .cells _ _ (0, 0)) ((hW.left.right : Sat E W (Asn.blk (b0 + 1) _ _)).perm (sep_one _).symm)
  have hst := hide (show Sat E _ ((Asn.blk b0 41 #[.int .i64 most, .slice la ln lc, .slice aa an ac, .int .i64 (next + 1 : Nat), .slice ra rn rc] * F) * (Asn.blk (b0 + 1) 41 #[.int .i64 most, .slice la ln lc, .slice aa an ac, .int .i64 (next + 1 : Nat), .slice ra rn rc]) * R) from (unhide COPY W _ (hW.perm (show _ = Asn.blk (b0 + 1) 41 #[.int .i64 0, .slice none 0 0, .slice none 0 0, .int .i64 0, .slice none 0 0] * (Asn.blk b0 41 #[.int .i64 most, .slice la ln lc, .slice aa an ac, .int .i64 (next + 1 : Nat), .slice ra rn rc] * F * R) by ac_rfl))).perm (by first | ac_rfl | (simp only [Asn.one_sep, Asn.sep_one]; ac_rfl)))
  unfold stp
  go_simp
  refine (show ∃ F', _ from ⟨(Asn.blk b0 41 #[.int .i64 most, .slice la ln lc, .slice aa an ac, .int .i64 (next + 1 : Nat), .slice ra rn rc] * F) * (Asn.blk (b0 + 1) 41 #[.int .i64 most, .slice la ln lc, .slice aa an ac, .int .i64 (next + 1 : Nat), .slice ra rn rc]), fun W R h => ⟨_, h.asc⟩, unhide hst, ?_⟩)
  clear hst hW u0 u1 u2 u3 u4 u5 u6
  go_simp
  iterate 2
    refine wpS_f _ rfl rfl (v := ?_) ?_ ?_
    rotate_left
    · rintro W ⟨R, hW⟩
      have f0 : W.cell? ⟨b0, 0, none⟩ = some (.int .i64 most) := hW.asc.cell 0
      have f1 : W.cell? ⟨b0, 1, none⟩ = some (.slice la ln lc) := hW.asc.cell 1
      have f2 : W.cell? ⟨b0, 2, none⟩ = some (.slice aa an ac) := hW.asc.cell 2
      have f3 : W.cell? ⟨b0, 3, none⟩ = some (.int .i64 (next + 1 : Nat)) := hW.asc.cell 3
      have f4 : W.cell? ⟨b0, 4, none⟩ = some (.slice ra rn rc) := hW.asc.cell 4
      have f5 : IntKind.i64.wrap (next : Int) = (next : Int) := by rw [IntKind.wrap_i64]; omega
      go_simp
      first | rfl | (rw [IntKind.wrap_i64]; omega)
    go_simp
  refine wpS_n (fun w3 hs3 => ?_)
  have HB := Lib.hid (hs3.comm).blk
  have HS3 := hide hs3.left.right
  clear hs3 HS1
  go_wp2_with fail
  exact bodyPost_ret (results_cell3 (p := 2) (u1 := 3) (u2 := 4) rfl _ _ _ _ _ _ _ rfl HB.out Try.underlying41 rfl (by kernel_rfl)) rfl ⟨rfl, unhide HS3⟩
set_option maxHeartbeats 1000000 in
set_option maxRecDepth 100000 in
theorem repeatR13_no (hs : Sat E w F) :
    Calls Try.prog 24 #[.agg (q13 most la ln lc aa an ac next ra 0 rc)] w fun e w' => e = .returned (.tuple #[.agg (q13 most la ln lc aa an ac next ra 0 rc), .int .i64 0, .bool false]) ∧ Sat E w' F := by
  have HS0 := hide hs
  clear hs
  unfold q13
  go_enter Try.func24, Try.ntmps24
  go_wp2_with fail
  exact bodyPost_ret (v := .tuple #[.agg #[.int .i64 most, .slice la ln lc, .slice aa an ac, .int .i64 next, .slice ra 0 rc], .int .i64 0, .bool false]) (by simp [results, Try.results24, go_sem]) rfl ⟨rfl, ((unhide HS0).allocKeep _).allocKeep _⟩
def Rep13 (E : World) (X F : Asn) (most : Nat) (la : Option Addr) (ln lc : Nat) (aa : Option Addr) (an ac next : Nat) (x : Int) (l : List Int) (e : Ending) (w' : World) : Prop :=
  ∃ (ra : Option Addr) (rc : Nat), e = .returned (.tuple #[.agg (q13 most la ln lc aa an ac next ra l.length rc), .int .i64 x, .bool true]) ∧ RS X ra l.length rc l ∧ Sat E w' F
set_option maxHeartbeats 1000000 in
set_option maxRecDepth 100000 in
theorem repeatR13 {x : Int} {l : List Int} (hs : Sat E w F) (hsx : Sat E w X) (hr : RS X ra (l.length + 1) rc (x :: l)) (hl : l.length ≤ 60000) :
    Calls Try.prog 24 #[.agg (q13 most la ln lc aa an ac next ra (l.length + 1) rc)] w (Rep13 E X F most la ln lc aa an ac next x l) := by
  have HS0 := hide hs
  obtain ⟨ad, rfl, hc⟩ := (RdW.of_rd hr.rd hsx).int_at (show 0 < l.length + 1 by omega)
  have hc0 : w.cell? (ad.add 0) = some (.int .i64 x) := hc
  have e0 : ad.add 0 = ad := by unfold Addr.add; simp
  rw [e0] at hc0
  have hcap := hr.cap
  have hcm := hr.max
  unfold maxLen at hcm
  obtain ⟨B, hB⟩ : ∃ B, B = if rc = 1 then some ad else some (ad.add 1) := ⟨_, rfl⟩
  have htl := hr.tail (by omega) hB
  have e2 : l.length + 1 - 1 = l.length := by omega
  rw [e2] at htl
  obtain ⟨q, hq⟩ : ∃ q, q = l.length := ⟨_, rfl⟩
  have HQ := hide hq
  have HTL := hide htl
  rw [← hq] at hcap hl ⊢
  have hab : ad.block < w.heap.size := World.block_lt_of_cell? w _ hc0
  clear hs hsx hr hc e0 htl hq e2
  unfold q13
  by_cases hc1 : rc = 1
  · rw [if_pos hc1] at hB
    subst hB hc1
    obtain rfl : q = 0 := by omega
    go_enter Try.func24, Try.ntmps24
    go_wp2_with fail
    exact bodyPost_ret (v := .tuple #[.agg #[.int .i64 most, .slice la ln lc, .slice aa an ac, .int .i64 next, .slice (some ad) 0 0], .int .i64 x, .bool true]) (by simp [results, Try.results24, go_sem]) rfl ⟨some ad, 0, by rw [← unhide HQ]; rfl, unhide HTL, ((unhide HS0).allocKeep _).allocKeep _⟩
  · rw [if_neg hc1] at hB
    subst hB
    go_enter Try.func24, Try.ntmps24
    go_wp2_with fail
    exact bodyPost_ret (v := .tuple #[.agg #[.int .i64 most, .slice la ln lc, .slice aa an ac, .int .i64 next, .slice (some (ad.add 1)) q (rc - 1)], .int .i64 x, .bool true]) (by simp [results, Try.results24, go_sem]) rfl ⟨some (ad.add 1), rc - 1, by rw [← unhide HQ]; rfl, unhide HTL, ((unhide HS0).allocKeep _).allocKeep _⟩
end
end Go.Proofs.Ytdfidijlconhnaa
