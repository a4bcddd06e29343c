/- The document's tomb: Closed, May, Close, Open, New. -/
import Derived.Test.YtcagfcflffhadaaRef20
import Derived.Test.YtcagfcflffhadaaTomb
namespace Go.Proofs.Ytcagfcflffhadaa
open Go.RowKit Asn

theorem closed20 (w : World) (A : Option Addr) (n c : Nat) (L : List Int) (sz : Int) (ba : Nat) (x : Int) (hr : RdW w A n 1 (ints L)) (hn : n ≤ 65536) :
    Calls Try.prog 90 #[.agg #[.int .i64 sz, .int .i64 ba, .slice A n c], .int .i64 x] w fun e w' => e = .returned (.bool (closedR ba L x)) ∧ Below w.heap.size w w' := by
  have hin := hide (fun W (hb : Below w.heap.size w W) => in20 W A n c L x (hr.below hb) hn)
  clear hr
  by_cases h0 : 1 ≤ x
  · by_cases h1 : x < ba
    · have HD : Hid (closedR ba L x = true) := decide_eq_true ⟨h0, .inl h1⟩
      go_enter Try.func90, Try.ntmps90
      go_wp2_with fail
      go_ret
      exact ⟨by rw [unhide HD]; rfl, (Below.refl _ _).alloc (Nat.le_refl _) _⟩
    · have HD : Hid (closedR ba L x = decide (x ∈ L)) := decide_eq_decide.2 ⟨fun h => h.2.resolve_left h1, fun h => ⟨h0, .inr h⟩⟩
      go_enter Try.func90, Try.ntmps90
      go_wp2_with fail
      refine (unhide hin _ ((Below.refl _ _).alloc (Nat.le_refl _) _)).mono ?_
      rintro e w2 ⟨rfl, rfl⟩
      go_wp2_with fail
      go_ret
      exact ⟨by rw [unhide HD]; simp, (Below.refl _ _).alloc (Nat.le_refl _) _⟩
  · have HD : Hid (closedR ba L x = false) := decide_eq_false fun h => h0 h.1
    go_enter Try.func90, Try.ntmps90
    go_wp2_with fail
    go_ret
    exact ⟨by rw [unhide HD]; rfl, (Below.refl _ _).alloc (Nat.le_refl _) _⟩
theorem may20 (w : World) (A : Option Addr) (n c : Nat) (L : List Int) (sz ba : Nat) (x : Int) (hr : RdW w A n 1 (ints L)) (hn : n ≤ 65536) (hsz : sz ≤ 64) (hba : ba ≤ 1073741825) :
    Calls Try.prog 92 #[.agg #[.int .i64 sz, .int .i64 ba, .slice A n c], .int .i64 x] w fun e w' => e = .returned (.bool (mayR sz ba L x)) ∧ Below w.heap.size w w' := by
  have hin := hide (fun W (hb : Below w.heap.size w W) => in20 W A n c L x (hr.below hb) hn)
  clear hr
  by_cases h0 : (ba : Int) ≤ x
  · by_cases h1 : x < (ba : Int) + sz
    · by_cases h2 : x ≤ 1073741824
      · have HD : Hid (mayR sz ba L x = !decide (x ∈ L)) := by
          show _ = _
          unfold mayR
          rw [← decide_not, decide_eq_decide]
          exact ⟨fun h => h.2.2.2, fun h => ⟨h0, h1, h2, h⟩⟩
        go_enter Try.func92, Try.ntmps92
        go_wp2_with fail
        refine (unhide hin _ ((Below.refl _ _).alloc (Nat.le_refl _) _)).mono ?_
        rintro e w2 ⟨rfl, rfl⟩
        go_wp2_with fail
        go_ret
        exact ⟨by rw [unhide HD]; simp, (Below.refl _ _).alloc (Nat.le_refl _) _⟩
      · have HD : Hid (mayR sz ba L x = false) := decide_eq_false fun h => h2 h.2.2.1
        go_enter Try.func92, Try.ntmps92
        go_wp2_with fail
        go_ret
        exact ⟨by rw [unhide HD]; rfl, (Below.refl _ _).alloc (Nat.le_refl _) _⟩
    · have HD : Hid (mayR sz ba L x = false) := decide_eq_false fun h => h1 h.2.1
      go_enter Try.func92, Try.ntmps92
      go_wp2_with fail
      go_ret
      exact ⟨by rw [unhide HD]; rfl, (Below.refl _ _).alloc (Nat.le_refl _) _⟩
  · have HD : Hid (mayR sz ba L x = false) := decide_eq_false fun h => h0 h.1
    go_enter Try.func92, Try.ntmps92
    go_wp2_with fail
    go_ret
    exact ⟨by rw [unhide HD]; rfl, (Below.refl _ _).alloc (Nat.le_refl _) _⟩
end Go.Proofs.Ytcagfcflffhadaa
