/- The tomb laws: the page's example; a tomb that is nil. -/
import Derived.Test.YtcagfcflffhadaaTombO
import Derived.Test.YtcagfcflffhadaaSame04
namespace Go.Proofs.Ytcagfcflffhadaa
open Go.RowKit Asn
theorem clA1 : closeR 4 1 [] 2 = (([2], 1), true, 0) := by decide
theorem clA2 : closeR 4 1 [2] 1 = (([], 3), true, 0) := by decide
theorem opA : (openA 4 3 []).take (9 : Int).toNat = [3, 4, 5, 6] := by decide
set_option maxHeartbeats 2000000 in
set_option maxRecDepth 100000 in
theorem awake20 (E w : World) (F : Asn) (hs : Sat E w F) : Calls Try.prog 23 #[] w fun e w' => e = .returned (.bool true) ∧ Sat E w' F := by
  have hc1 := hide (tomb_new E w F 4 hs (by omega) (by omega))
  have hi1 := TInv.start 4 (by omega) (by omega)
  clear hs
  go_enter Try.func23, Try.ntmps23
  go_wp2_with fail
  refine (unhide hc1).mono ?_
  rintro e w1 ⟨t, g, rfl, hs1⟩
  clear hc1
  have hc2 := tomb_close (n := 2) hs1 hi1 (by omega)
  rw [clA1] at hc2
  have HC2 := hide hc2
  clear hc2
  clear hs1 hi1
  go_wp2_with fail
  refine (unhide HC2).mono ?_
  rintro e w2 ⟨V2, b2, rfl, hi2, hb2, hs2⟩
  clear HC2
  obtain rfl : b2 = 1 := by have h : (1 : Int) = (b2 : Nat) := hb2; omega
  have hc3 := tomb_close (n := 1) hs2 hi2 (by omega)
  rw [clA2] at hc3
  have HC3 := hide hc3
  clear hc3
  clear hs2 hi2 hb2
  go_wp2_with fail
  refine (unhide HC3).mono ?_
  rintro e w3 ⟨V3, b3, rfl, hi3, hb3, hs3⟩
  clear HC3
  obtain rfl : b3 = 3 := by have h : (3 : Int) = (b3 : Nat) := hb3; omega
  have hfl := hide (tomb_floor hs3 hi3)
  have HCL : Hid (Calls Try.prog 26 #[.pointer (some ⟨t, 0, none⟩), .int .i64 2] w3 fun e w' => e = .returned (.bool true) ∧ Sat E w' (TombAt t g 4 V3 3 * F)) := (tomb_closed hs3 hi3 (by omega)).mono fun e w' ⟨he, m, hw⟩ => ⟨he, hw ▸ hs3.drewN m⟩
  have HI := hide hi3
  clear hs3 hi3 hb3
  go_wp2_with (go_at_call 24; refine (unhide hfl).mono ?_; rintro e w' ⟨rfl, rfl⟩)
  refine (unhide HCL).mono ?_
  rintro e w4 ⟨rfl, hs4⟩
  have HM : Hid (Calls Try.prog 27 #[.pointer (some ⟨t, 0, none⟩), .int .i64 6] w4 fun e w' => e = .returned (.bool true) ∧ Sat E w' (TombAt t g 4 V3 3 * F)) := tomb_may hs4 (unhide HI) (by omega)
  clear hs4 hfl HCL
  go_wp2_with fail
  refine (unhide HM).mono ?_
  rintro e w5 ⟨rfl, hs5⟩
  clear HM
  have HM : Hid (Calls Try.prog 27 #[.pointer (some ⟨t, 0, none⟩), .int .i64 7] w5 fun e w' => e = .returned (.bool false) ∧ Sat E w' (TombAt t g 4 V3 3 * F)) := tomb_may hs5 (unhide HI) (by omega)
  clear hs5
  go_wp2_with fail
  refine (unhide HM).mono ?_
  rintro e w6 ⟨rfl, hs6⟩
  clear HM
  have hop := tomb_open (most := 9) hs6 (unhide HI)
  rw [show (openA 4 3 (([] : List Int), (3 : Int)).1).take (9 : Int).toNat = [3, 4, 5, 6] from opA] at hop
  have HOP := hide hop
  clear hop
  clear hs6
  go_wp2_with fail
  refine (unhide HOP).mono ?_
  rintro e w7 ⟨A, c, rfl, hs7⟩
  clear HOP
  have hs8 := hs7.alloc #[.int .i64 3, .int .i64 4, .int .i64 5, .int .i64 6] 3
  have hc6 := hide (sameInts04 E _ _ A (some ⟨w7.heap.size, 0, none⟩) 4 c 4 [.int .i64 3, .int .i64 4, .int .i64 5, .int .i64 6] hs8 rd_sl.left.right (rd_blk (cs := #[.int .i64 3, .int .i64 4, .int .i64 5, .int .i64 6])) (by intro u hu; simp at hu; rcases hu with rfl | rfl | rfl | rfl <;> exact ⟨_, rfl⟩) (by omega))
  clear hs7 hs8
  go_wp2_with fail
  refine (unhide hc6).mono ?_
  rintro e w8 ⟨rfl, hs9⟩
  have HS := hide hs9.right.right.right
  clear hs9 hc6
  go_wp2_with fail
  go_ret
  exact ⟨rfl, unhide HS⟩
end Go.Proofs.Ytcagfcflffhadaa
