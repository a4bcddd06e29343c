/- The program's join, where nobody made it: each call that is asked of one that 'none' says yes to. -/
import Derived.Test.YtpcoehbjbjfggaaJoin
namespace Go.Proofs.Ytpcoehbjbjfggaa
open Go.RowKit Asn

theorem open_none (p : Value) (w : World) (hn : Hid (Calls Try.prog 78 #[p] w fun e w' => e = .returned (.bool true) ∧ w = w')) :
    Calls Try.prog 18 #[p] w fun e w' => e = .returned (.int .i64 0) ∧ w = w' := by
  go_enter Try.func18, Try.ntmps18
  go_wp2_with (go_at_call 78; refine (unhide hn).mono ?_; rintro e w' ⟨rfl, rfl⟩)
  go_ret
  exact ⟨rfl, rfl⟩
theorem parts_none (p : Value) (w : World) (hn : Hid (Calls Try.prog 78 #[p] w fun e w' => e = .returned (.bool true) ∧ w = w')) :
    Calls Try.prog 43 #[p] w fun e w' => e = .returned (.int .i64 0) ∧ w = w' := by
  go_enter Try.func43, Try.ntmps43
  go_wp2_with (go_at_call 78; refine (unhide hn).mono ?_; rintro e w' ⟨rfl, rfl⟩)
  go_ret
  exact ⟨rfl, rfl⟩
theorem msgs_none (p : Value) (w : World) (hn : Hid (Calls Try.prog 78 #[p] w fun e w' => e = .returned (.bool true) ∧ w = w')) :
    Calls Try.prog 44 #[p] w fun e w' => e = .returned (.int .i64 0) ∧ w = w' := by
  go_enter Try.func44, Try.ntmps44
  go_wp2_with (go_at_call 78; refine (unhide hn).mono ?_; rintro e w' ⟨rfl, rfl⟩)
  go_ret
  exact ⟨rfl, rfl⟩
theorem bytes_none (p : Value) (w : World) (hn : Hid (Calls Try.prog 78 #[p] w fun e w' => e = .returned (.bool true) ∧ w = w')) :
    Calls Try.prog 45 #[p] w fun e w' => e = .returned (.int .i64 0) ∧ w = w' := by
  go_enter Try.func45, Try.ntmps45
  go_wp2_with (go_at_call 78; refine (unhide hn).mono ?_; rintro e w' ⟨rfl, rfl⟩)
  go_ret
  exact ⟨rfl, rfl⟩
theorem reset_none (p : Value) (w : World) (hn : Hid (Calls Try.prog 78 #[p] w fun e w' => e = .returned (.bool true) ∧ w = w')) :
    Calls Try.prog 37 #[p] w fun e w' => e = .returned (.int .i64 0) ∧ w = w' := by
  go_enter Try.func37, Try.ntmps37
  go_wp2_with (go_at_call 78; refine (unhide hn).mono ?_; rintro e w' ⟨rfl, rfl⟩)
  go_ret
  exact ⟨rfl, rfl⟩
theorem fits_none (p : Value) (n : Int) (w : World) (hn : Hid (Calls Try.prog 78 #[p] w fun e w' => e = .returned (.bool true) ∧ w = w')) :
    Calls Try.prog 42 #[p, .int .i64 n] w fun e w' => e = .returned (.bool false) ∧ w = w' := by
  go_enter Try.func42, Try.ntmps42
  go_wp2_with (go_at_call 78; refine (unhide hn).mono ?_; rintro e w' ⟨rfl, rfl⟩)
  go_ret
  exact ⟨rfl, rfl⟩
theorem fork_none (p : Value) (w : World) (hn : Hid (Calls Try.prog 78 #[p] w fun e w' => e = .returned (.bool true) ∧ w = w')) :
    Calls Try.prog 38 #[p] w fun e w' => e = .returned (.pointer none) ∧ w = w' := by
  go_enter Try.func38, Try.ntmps38
  go_wp2_with (go_at_call 78; refine (unhide hn).mono ?_; rintro e w' ⟨rfl, rfl⟩)
  go_ret
  exact ⟨rfl, rfl⟩
set_option maxRecDepth 100000 in
theorem add_none (p : Value) (B : Option Addr) (n d : Nat) (x : Bool) (w : World) (hn : Hid (Calls Try.prog 78 #[p] w fun e w' => e = .returned (.bool true) ∧ w = w')) :
    Calls Try.prog 17 #[p, .slice B n d, .bool x] w fun e w' => e = .returned (.tuple #[.slice none 0 0, .bool false, .int .i64 4]) ∧ w = w' := by
  go_enter Try.func17, Try.ntmps17
  go_wp2_with (go_at_call 78; refine (unhide hn).mono ?_; rintro e w' ⟨rfl, rfl⟩)
  go_ret3
  exact ⟨rfl, rfl⟩
end Go.Proofs.Ytpcoehbjbjfggaa
