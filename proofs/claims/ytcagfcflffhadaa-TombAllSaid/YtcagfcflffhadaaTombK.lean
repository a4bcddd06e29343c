/- TombAll: the tombs of all hosts, made; a row of the document's. -/
import Derived.Test.YtcagfcflffhadaaTombN
import Derived.Test.YtcagfcflffhadaaTombS
namespace Go.Proofs.Ytcagfcflffhadaa
open Go.RowKit Asn

theorem tombsC_set (f : Nat → Option TSt) (h : Nat) (s : Option TSt) {k : Nat} (hk : k < 8) : (tombsC f h).setIfInBounds k (TSt.cell s) = tombsC (fun j => if j = k then s else f j) h := by
  rcases (by omega : k = 0 ∨ k = 1 ∨ k = 2 ∨ k = 3 ∨ k = 4 ∨ k = 5 ∨ k = 6 ∨ k = 7) with rfl | rfl | rfl | rfl | rfl | rfl | rfl | rfl <;> rfl
theorem upto_set (sz : Nat) (f : Nat → Option TSt) (s : Option TSt) {k : Nat} (hk : k < 8) : upto sz (fun j => if j = k then s else f j) 8 = TSt.asn sz s * but sz f k 8 := by
  rw [upto_but sz _ k 8 hk, but_congr sz f (fun j => if j = k then s else f j) k (fun j hj => if_neg hj)]
  rw [if_pos rfl]
set_option maxHeartbeats 2000000 in
set_option maxRecDepth 100000 in
theorem newAll_call (E w : World) (F : Asn) (h sz : Nat) (hs : Sat E w F) (h1 : 1 ≤ h) (h2 : h ≤ 8) (s1 : 1 ≤ sz) (s2 : sz ≤ 64) :
    Calls Try.prog 52 #[.int .i64 h, .int .i64 sz] w fun e w' => ∃ (q : Nat) (f : Nat → Option TSt), e = .returned (.tuple #[.pointer (some ⟨q, 0, none⟩), .int .i64 0]) ∧
      (∀ k, k < h → ∃ t g, f k = some ⟨t, g, fun _ => 0, 1, []⟩) ∧ (∀ k, h ≤ k → f k = none) ∧ Sat E w' (Asn.blk q 93 (tombsC f h) * (upto sz f 8 * F)) := by
  have hs2 : Sat E _ (Asn.blk w.heap.size 93 (tombsC (fun _ => none) h) * (upto sz (fun _ => none) 8 * F)) := (hs.alloc (tombsC (fun _ => none) h) 93).perm (by simp only [upto, TSt.asn, one_sep])
  have HS := hide hs2
  clear hs hs2
  go_enter Try.func52, Try.ntmps52
  go_wp2_with fail
  obtain ⟨q, hq⟩ : ∃ q, q = w.heap.size := ⟨_, rfl⟩
  rw [← hq] at HS ⊢
  clear hq
  go_loopw [7, 8, 9, 20] (fun _ _ _ s20 wr => ∃ (k : Nat) (f : Nat → Option TSt), s20 = .int .i64 k ∧ k ≤ h ∧ Hid ((∀ j, j < k → ∃ t g, f j = some ⟨t, g, fun _ => 0, 1, []⟩) ∧ ∀ j, k ≤ j → f j = none) ∧ Sat E wr (Asn.blk q 93 (tombsC f h) * (upto sz f 8 * F))) (fun _ _ _ s20 _ => h - (intOf s20).toNat)
  case atStart => exact ⟨0, _, rfl, Nat.zero_le _, hide ⟨fun j hj => absurd hj (by omega), fun _ _ => rfl⟩, unhide HS⟩
  case round =>
    obtain ⟨k, f, rfl, hk, HF, hsr⟩ := hrel
    clear HS
    by_cases hlt : k < h
    · have hn := hide (tomb_new E wr _ sz hsr s1 s2)
      clear hsr
      go_wp2_with fail
      refine (unhide hn).mono ?_
      rintro e w2 ⟨t, g, rfl, hs3⟩
      have f1 : w2.frozen? ⟨q, k, none⟩ = false := hs3.f2.frozen k
      have f2 : q < w2.heap.size := Sat.lt (o := .cells _ _ (0, 0)) hs3.f2
      have f3 := tidxc hs3.f2 (show k < 8 by omega)
      have hk8 : k < 8 := by omega
      have hs4 := hs3.f2.set k (.pointer (some ⟨t, 0, none⟩))
      have ec : (tombsC f h).setIfInBounds k (.pointer (some ⟨t, 0, none⟩)) = tombsC (fun j => if j = k then some ⟨t, g, fun _ => 0, 1, []⟩ else f j) h := tombsC_set f h (some ⟨t, g, fun _ => 0, 1, []⟩) hk8
      have hk0 : f k = none := (unhide HF).2 k (Nat.le_refl _)
      have HS4 := hide (hs4.perm (show _ = Asn.blk q 93 (tombsC (fun j => if j = k then some ⟨t, g, fun _ => 0, 1, []⟩ else f j) h) * (upto sz (fun j => if j = k then some ⟨t, g, fun _ => 0, 1, []⟩ else f j) 8 * F) by
        rw [ec, upto_set sz f _ hk8, upto_but sz f k 8 hk8, hk0]
        show _ * (TombAt _ _ _ _ _ * ((1 * but sz f k 8) * F)) = _ * ((TombAt _ _ _ _ _ * _) * F)
        rw [one_sep]; ac_rfl))
      clear hs3 hs4 hn ec hk0
      go_wp2_with fail
      go_roundw
      case rel =>
        refine ⟨k + 1, _, by go_num, by omega, hide ⟨fun j hj => ?_, fun j hj => ?_⟩, unhide HS4⟩
        · by_cases hjk : j = k
          · exact ⟨t, g, if_pos hjk⟩
          · obtain ⟨t', g', h'⟩ := (unhide HF).1 j (by omega)
            exact ⟨t', g', by rw [← h']; exact if_neg hjk⟩
        · show (if j = k then _ else f j) = none
          rw [if_neg (by omega)]
          exact (unhide HF).2 j (by omega)
      case measure => simp [intOf]; omega
    · obtain rfl : k = h := by omega
      have HS := hide hsr
      clear hsr
      go_wp2_with fail
      go_ret2
      exact ⟨q, f, rfl, (unhide HF).1, (unhide HF).2, unhide HS⟩
theorem newAll_no (w : World) (h sz : Int) (hno : ¬ (1 ≤ h ∧ h ≤ 8 ∧ 1 ≤ sz ∧ sz ≤ 64)) :
    Calls Try.prog 52 #[.int .i64 h, .int .i64 sz] w fun e w' => e = .returned (.tuple #[.pointer none, .int .i64 200]) ∧ Below w.heap.size w w' := by
  by_cases c : 1 ≤ h ∧ h ≤ 8
  · obtain ⟨c1, c2⟩ := c
    have hn := hide (fun w => tomb_new_no w sz (by omega))
    clear hno
    go_enter Try.func52, Try.ntmps52
    go_wp2_with fail
    go_loopw [7, 8, 9, 20] (fun _ _ _ s20 wr => s20 = .int .i64 0 ∧ Below w.heap.size w wr) (fun _ _ _ s20 _ => 0)
    case atStart => exact ⟨rfl, (Below.refl _ _).alloc (Nat.le_refl _) _⟩
    case round =>
      obtain ⟨rfl, hb⟩ := hrel
      have h0 : (0 : Int) < h := by omega
      go_wp2_with fail
      refine (unhide hn _).mono ?_
      rintro e w2 ⟨rfl, rfl⟩
      go_wp2_with fail
      go_ret2
      exact ⟨rfl, hb⟩
  · clear hno
    go_enter Try.func52, Try.ntmps52
    go_wp2_with fail
    all_goals first
      | (exfalso; omega)
      | (go_ret2; exact ⟨rfl, Below.refl _ _⟩)

/-- A row of structs of three cells. -/
def rows3 (g : Nat → Value × Value × Value) : Nat → List Value
  | 0 => []
  | n + 1 => rows3 g n ++ [(g n).1, (g n).2.1, (g n).2.2]
theorem rows3_len (g : Nat → Value × Value × Value) : ∀ n, (rows3 g n).length = n * 3
  | 0 => rfl
  | n + 1 => by unfold rows3; rw [List.length_append, rows3_len g n, Nat.add_mul]; rfl
theorem rows3_at (g : Nat → Value × Value × Value) {j : Nat} : ∀ n, j < n → (rows3 g n)[j * 3]? = some (g j).1 ∧ (rows3 g n)[j * 3 + 1]? = some (g j).2.1 ∧ (rows3 g n)[j * 3 + 2]? = some (g j).2.2
  | 0, h => by omega
  | n + 1, h => by
    unfold rows3
    have hl := rows3_len g n
    by_cases hj : j < n
    · rw [List.getElem?_append_left (by omega), List.getElem?_append_left (by omega), List.getElem?_append_left (by omega)]
      exact rows3_at g n hj
    · obtain rfl : j = n := by omega
      rw [List.getElem?_append_right (by omega), List.getElem?_append_right (by omega), List.getElem?_append_right (by omega), hl]
      have e1 : j * 3 - j * 3 = 0 := by omega
      have e2 : j * 3 + 1 - j * 3 = 1 := by omega
      have e3 : j * 3 + 2 - j * 3 = 2 := by omega
      rw [e1, e2, e3]
      exact ⟨rfl, rfl, rfl⟩
theorem rows3_congr {g g' : Nat → Value × Value × Value} : ∀ n, (∀ j, j < n → g j = g' j) → rows3 g n = rows3 g' n
  | 0, _ => rfl
  | n + 1, h => by unfold rows3; rw [rows3_congr n (fun j hj => h j (by omega)), h n (by omega)]
theorem rows3_set (g : Nat → Value × Value × Value) {k : Nat} (v : Value × Value × Value) : ∀ n, k < n → (((rows3 g n).set (k * 3) v.1).set (k * 3 + 1) v.2.1).set (k * 3 + 2) v.2.2 = rows3 (fun j => if j = k then v else g j) n
  | 0, h => by omega
  | n + 1, h => by
    have hl := rows3_len g n
    conv => lhs; unfold rows3
    conv => rhs; unfold rows3
    by_cases hk : k < n
    · rw [List.set_append_left _ _ (by omega), List.set_append_left _ _ (by simp; omega), List.set_append_left _ _ (by simp; omega), rows3_set g v n hk, if_neg (by omega)]
    · obtain rfl : k = n := by omega
      rw [List.set_append_right _ _ (by omega), List.set_append_right _ _ (by omega), List.set_append_right _ _ (by omega), hl]
      have e1 : k * 3 - k * 3 = 0 := by omega
      have e2 : k * 3 + 1 - k * 3 = 1 := by omega
      have e3 : k * 3 + 2 - k * 3 = 2 := by omega
      rw [e1, e2, e3, if_pos rfl]
      rw [rows3_congr k (g' := fun j => if j = k then v else g j) (fun j hj => (if_neg (by omega)).symm)]
      rfl
theorem elt_tombs : Elt Try.prog 99 45 3 40 (.agg #[.int .i64 0, .int .i64 0, .slice none 0 0]) := elt_of Try.underlying99 (by kernel_rfl) rfl (by omega)
end Go.Proofs.Ytcagfcflffhadaa
