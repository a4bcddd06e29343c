/- The document's queue of pieces: Piece; two pieces compared. -/
import Derived.Test.YtdfidijlconhnaaR13C
namespace Go.Proofs.Ytdfidijlconhnaa
open Go.RowKit Asn
section
variable {E w : World} {X F : Asn} {most : Nat} {la : Option Addr} {ln lc : Nat} {aa : Option Addr} {an ac next : Nat} {ra : Option Addr} {rn rc : Nat} {ak : List Bool}
set_option maxHeartbeats 1000000 in
set_option maxRecDepth 100000 in
theorem pieceR13_no {seq : Int} (hs : Sat E w F) (ha : rd F 1 aa an (bools ak)) (hn : next ≤ an) (hal : an ≤ 60000) (hno : ¬ ((lowD ak next : Int) ≤ seq ∧ seq < ln)) :
    Calls Try.prog 27 #[.agg (q13 most la ln lc aa an ac next ra rn rc), .int .i64 seq] w fun e w' => e = .returned (.tuple #[.agg #[.slice none 0 0, .bool false, .bool false], .bool false]) ∧ Sat E w' F := by
  obtain ⟨lo, hlo⟩ : ∃ lo, lo = lowD ak next := ⟨_, rfl⟩
  have hs1 := (hs.alloc (q13 most la ln lc aa an ac next ra rn rc) 41).alloc #[.slice none 0 0, .bool false, .bool false] 52
  rw [World.size_alloc] at hs1
  have hlow := hide (low13 (most := most) (la := la) (ln := ln) (lc := lc) (ac := ac) (ra := ra) (rn := rn) (rc := rc) (RdW.of_rd ha hs1.right.right) hn hal)
  rw [← hlo] at hno hlow
  have HS1 := hide hs1
  clear hs hs1 ha hlo hn
  unfold q13 at HS1 hlow ⊢
  by_cases c1 : (lo : Int) ≤ seq
  · have c2 : (ln : Int) ≤ seq := by omega
    clear hno
    go_enter Try.func27, Try.ntmps27
    go_wp2_with fail
    refine (unhide hlow).mono ?_
    rintro e w2 ⟨rfl, hb⟩
    have hs2 := (unhide HS1).under hb
    have p1 : w2.cell? ⟨w.heap.size, 1, none⟩ = some (.slice la ln lc) := hs2.f2.cell 1
    have t0 : w2.cell? ⟨w.heap.size + 1, 0, none⟩ = some (.slice none 0 0) := hs2.cell 0
    have t1 : w2.cell? ⟨w.heap.size + 1, 1, none⟩ = some (.bool false) := hs2.cell 1
    have t2 : w2.cell? ⟨w.heap.size + 1, 2, none⟩ = some (.bool false) := hs2.cell 2
    have t3 : ∀ j, w2.frozen? ⟨w.heap.size + 1, j, none⟩ = false := fun j => hs2.frozen j
    have t4 : w.heap.size + 1 < w2.heap.size := Sat.lt (o := .cells _ _ (0, 0)) hs2
    have hs6 := ((hs2.set 0 (.slice none 0 0)).set 1 (.bool false)).set 2 (.bool false)
    have HB := Lib.hid hs6.blk
    have HS6 := hide hs6.right.right
    clear hs2 hs6 hlow hb HS1
    go_wp2_with fail
    exact bodyPost_ret (results_cell2 (p := 4) (u1 := 5) rfl _ _ _ _ _ _ _ rfl HB.out Try.underlying52 rfl (by kernel_rfl)) rfl ⟨rfl, unhide HS6⟩
  · clear hno
    go_enter Try.func27, Try.ntmps27
    go_wp2_with fail
    refine (unhide hlow).mono ?_
    rintro e w2 ⟨rfl, hb⟩
    have hs2 := (unhide HS1).under hb
    have t0 : w2.cell? ⟨w.heap.size + 1, 0, none⟩ = some (.slice none 0 0) := hs2.cell 0
    have t1 : w2.cell? ⟨w.heap.size + 1, 1, none⟩ = some (.bool false) := hs2.cell 1
    have t2 : w2.cell? ⟨w.heap.size + 1, 2, none⟩ = some (.bool false) := hs2.cell 2
    have t3 : ∀ j, w2.frozen? ⟨w.heap.size + 1, j, none⟩ = false := fun j => hs2.frozen j
    have t4 : w.heap.size + 1 < w2.heap.size := Sat.lt (o := .cells _ _ (0, 0)) hs2
    have hs6 := ((hs2.set 0 (.slice none 0 0)).set 1 (.bool false)).set 2 (.bool false)
    have HB := Lib.hid hs6.blk
    have HS6 := hide hs6.right.right
    clear hs2 hs6 hlow hb HS1
    go_wp2_with fail
    exact bodyPost_ret (results_cell2 (p := 4) (u1 := 5) rfl _ _ _ _ _ _ _ rfl HB.out Try.underlying52 rfl (by kernel_rfl)) rfl ⟨rfl, unhide HS6⟩
set_option maxHeartbeats 1000000 in
set_option maxRecDepth 100000 in
theorem pieceR13 {P : List PR} {pa : Option Addr} {pn pc : Nat} {pe pf : Bool} {i : Nat} (hs : Sat E w F) (hp : rd F 3 la P.length (pieceC P)) (ha : rd F 1 aa an (bools ak)) (hn : next ≤ an) (hal : an ≤ 60000) (hpl : P.length ≤ 60000) (hi : P[i]? = some ⟨pa, pn, pc, pe, pf⟩) (hlo : lowD ak next ≤ i) :
    Calls Try.prog 27 #[.agg (q13 most la P.length lc aa an ac next ra rn rc), .int .i64 i] w fun e w' => e = .returned (.tuple #[.agg #[.slice pa pn pc, .bool pe, .bool pf], .bool true]) ∧ Sat E w' F := by
  obtain ⟨lo, hlo'⟩ : ∃ lo, lo = lowD ak next := ⟨_, rfl⟩
  have hil : i < P.length := (List.getElem?_eq_some_iff.1 hi).1
  have hs1 := (hs.alloc (q13 most la P.length lc aa an ac next ra rn rc) 41).alloc #[.slice none 0 0, .bool false, .bool false] 52
  rw [World.size_alloc] at hs1
  have hlow := hide (low13 (most := most) (la := la) (ln := P.length) (lc := lc) (ac := ac) (ra := ra) (rn := rn) (rc := rc) (RdW.of_rd ha hs1.right.right) hn hal)
  rw [← hlo'] at hlo hlow
  obtain ⟨o0, o1, o2⟩ := pieceC_at P i _ hi
  have HRD : Hid (∀ W, Sat E W F → ∃ ad, la = some ad ∧ W.cell? (ad.add (i * 3)) = some (.slice pa pn pc) ∧ W.cell? (ad.add (i * 3 + 1)) = some (.bool pe) ∧ W.cell? (ad.add (i * 3 + 2)) = some (.bool pf)) := fun W h => by
    have hr := RdW.of_rd hp h
    obtain ⟨ad, h1, e0⟩ := hr.2 (by omega)
    exact ⟨ad, h1, e0 _ _ o0, e0 _ _ o1, e0 _ _ o2⟩
  obtain ⟨ln, hln⟩ : ∃ ln, ln = P.length := ⟨_, rfl⟩
  rw [← hln] at hs1 hlow hil ⊢
  have HS1 := hide hs1
  clear hpl hln
  have c1 : ¬ (i : Int) < lo := by omega
  have c2 : ¬ (ln : Int) ≤ i := by omega
  clear hs hs1 ha hlo' hn hp hi o0 o1 o2 hlo
  unfold q13 at HS1 hlow ⊢
  go_enter Try.func27, Try.ntmps27
  go_wp2_with fail
  refine (unhide hlow).mono ?_
  rintro e w2 ⟨rfl, hb⟩
  have hs2 := (unhide HS1).under hb
  obtain ⟨ad, rfl, e0, e1, e2⟩ := unhide HRD w2 hs2.right.right
  rw [← add_fld] at e1 e2
  have p1 : w2.cell? ⟨w.heap.size, 1, none⟩ = some (.slice (some ad) ln lc) := hs2.f2.cell 1
  have t0 : w2.cell? ⟨w.heap.size + 1, 0, none⟩ = some (.slice none 0 0) := hs2.cell 0
  have t1 : w2.cell? ⟨w.heap.size + 1, 1, none⟩ = some (.bool false) := hs2.cell 1
  have t2 : w2.cell? ⟨w.heap.size + 1, 2, none⟩ = some (.bool false) := hs2.cell 2
  have t3 : ∀ j, w2.frozen? ⟨w.heap.size + 1, j, none⟩ = false := fun j => hs2.frozen j
  have t4 : w.heap.size + 1 < w2.heap.size := Sat.lt (o := .cells _ _ (0, 0)) hs2
  have hs6 := ((hs2.set 0 (.slice pa pn pc)).set 1 (.bool pe)).set 2 (.bool pf)
  have HB := Lib.hid hs6.blk
  have HS6 := hide hs6.right.right
  clear hs2 hs6 hlow hb HS1
  go_wp2_with fail
  exact bodyPost_ret (results_cell2 (p := 4) (u1 := 5) rfl _ _ _ _ _ _ _ rfl HB.out Try.underlying52 rfl (by kernel_rfl)) rfl ⟨rfl, unhide HS6⟩
set_option maxRecDepth 100000 in
theorem same11 {a a2 : Option Addr} {n c c2 : Nat} {pe pf : Bool} {l : List UInt8} (hs : Sat E w F) (h1 : rd F 1 a n (bytes l)) (h2 : rd F 1 a2 n (bytes l)) :
    Calls Try.prog 28 #[.agg #[.slice a n c, .bool pe, .bool pf], .agg #[.slice a2 n c2, .bool pe, .bool pf]] w fun e w' => e = .returned (.bool true) ∧ Sat E w' F := by
  have hs2 := (hs.alloc #[.slice a n c, .bool pe, .bool pf] 52).alloc #[.slice a2 n c2, .bool pe, .bool pf] 52
  have r1 := (RdW.of_rd h1 hs2.right.right).str (P := Try.prog) (src := 22) (e := 5) (dst := 9) Try.underlying22 Try.underlying5 Try.underlying9
  have r2 := (RdW.of_rd h2 hs2.right.right).str (P := Try.prog) (src := 22) (e := 5) (dst := 9) Try.underlying22 Try.underlying5 Try.underlying9
  have HS := hide hs2.right.right
  clear hs hs2 h1 h2
  go_enter Try.func28, Try.ntmps28
  go_wp2_with fail
  go_ret
  exact ⟨rfl, unhide HS⟩
end
end Go.Proofs.Ytdfidijlconhnaa
