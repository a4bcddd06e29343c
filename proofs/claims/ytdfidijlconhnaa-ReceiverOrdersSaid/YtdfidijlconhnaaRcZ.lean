/- Receivers that nobody made. -/
import Derived.Test.YtdfidijlconhnaaRcI
namespace Go.Proofs.Ytdfidijlconhnaa
open Go.RowKit Asn
attribute [local go_sem] Oper.semAt_some
def NoRc (p : Option Addr) (w : World) : Prop := p = none ∨ ∃ g, p = some ⟨g, 0, none⟩ ∧ w.cell? ⟨g, 0, none⟩ = some (.pointer none)
theorem NoRc.none_ {p : Option Addr} {w : World} (h : NoRc p w) : Calls Try.prog 73 #[.pointer p] w fun e w' => e = .returned (.bool true) ∧ w = w' := by
  rcases h with rfl | ⟨g, rfl, hc⟩
  · exact rc_nil w
  · exact rc_unmade w g hc
theorem NoRc.below {p : Option Addr} {w w' : World} (h : NoRc p w) (hb : Below w.heap.size w w') : NoRc p w' := by
  rcases h with rfl | ⟨g, rfl, hc⟩
  · exact .inl rfl
  · exact .inr ⟨g, rfl, by rw [hb.cell (World.block_lt_of_cell? w _ hc)]; exact hc⟩
section
variable {p : Option Addr} {w : World}
theorem rcn_pending (h : NoRc p w) : Calls Try.prog 53 #[.pointer p] w fun e w' => e = .returned (.int .i64 0) ∧ Below w.heap.size w w' := by
  have hn := hide h.none_
  go_enter Try.func53, Try.ntmps53
  go_wp2_with (go_at_call 73; refine (unhide hn).mono ?_; rintro e w' ⟨rfl, rfl⟩)
  go_ret
  exact ⟨rfl, Below.refl _ _⟩
theorem rcn_kept (h : NoRc p w) : Calls Try.prog 55 #[.pointer p] w fun e w' => e = .returned (.slice none 0 0) ∧ Below w.heap.size w w' := by
  have hn := hide h.none_
  go_enter Try.func55, Try.ntmps55
  go_wp2_with (go_at_call 73; refine (unhide hn).mono ?_; rintro e w' ⟨rfl, rfl⟩)
  go_ret
  exact ⟨rfl, Below.refl _ _⟩
theorem rcn_done (h : NoRc p w) : Calls Try.prog 43 #[.pointer p] w fun e w' => e = .returned (.bool false) ∧ Below w.heap.size w w' := by
  have hn := hide h.none_
  go_enter Try.func43, Try.ntmps43
  go_wp2_with (go_at_call 73; refine (unhide hn).mono ?_; rintro e w' ⟨rfl, rfl⟩)
  go_ret
  exact ⟨rfl, Below.refl _ _⟩
theorem rcn_fork (h : NoRc p w) : Calls Try.prog 51 #[.pointer p] w fun e w' => e = .returned (.pointer none) ∧ Below w.heap.size w w' := by
  have hn := hide h.none_
  go_enter Try.func51, Try.ntmps51
  go_wp2_with (go_at_call 73; refine (unhide hn).mono ?_; rintro e w' ⟨rfl, rfl⟩)
  go_ret
  exact ⟨rfl, Below.refl _ _⟩

theorem rcn_take (h : NoRc p w) (x : Pk) : Calls Try.prog 38 #[.pointer p, x.val] w fun e w' => e = .returned (.tuple #[.slice none 0 0, .slice none 0 0]) ∧ Below w.heap.size w w' := by
  obtain ⟨pk, fl, pa, sr, ds, co, q, pu, A, n, c, b⟩ := x
  have hn := hide (h.below ((Below.refl w.heap.size w).alloc (Nat.le_refl _) (.cells #[.int .i64 pk, .int .i64 fl, .int .i64 pa, .int .i64 sr, .int .i64 ds, .int .i64 co, .int .i64 q, .int .i64 pu, .slice A n c] 79))).none_
  clear h
  show Calls _ _ #[_, .agg #[.int .i64 pk, .int .i64 fl, .int .i64 pa, .int .i64 sr, .int .i64 ds, .int .i64 co, .int .i64 q, .int .i64 pu, .slice A n c]] _ _
  go_enter Try.func38, Try.ntmps38
  go_wp2_with (go_at_call 73; refine (unhide hn).mono ?_; rintro e w' ⟨rfl, rfl⟩)
  go_ret2
  exact ⟨rfl, (Below.refl _ _).alloc (Nat.le_refl _) _⟩
theorem rcn_issue (h : NoRc p w) : Calls Try.prog 48 #[.pointer p] w fun e w' => e = .returned (.tuple #[.agg #[.int .i64 0, .int .i64 0, .int .i64 0, .int .i64 0, .int .i64 0, .int .i64 0, .int .i64 0, .int .i64 0, .slice none 0 0], .bool false]) ∧ Below w.heap.size w w' := by
  have hn := hide (h.below ((Below.refl w.heap.size w).alloc (Nat.le_refl _) (.cells #[.int .i64 0, .int .i64 0, .int .i64 0, .int .i64 0, .int .i64 0, .int .i64 0, .int .i64 0, .int .i64 0, .slice none 0 0] 79))).none_
  clear h
  go_enter Try.func48, Try.ntmps48
  go_wp2_with (go_at_call 73; refine (unhide hn).mono ?_; rintro e w' ⟨rfl, rfl⟩)
  exact bodyPost_ret (v := .tuple #[.agg #[.int .i64 0, .int .i64 0, .int .i64 0, .int .i64 0, .int .i64 0, .int .i64 0, .int .i64 0, .int .i64 0, .slice none 0 0], .bool false]) (by simp [results, Try.results48, go_sem]) rfl ⟨rfl, (Below.refl _ _).alloc (Nat.le_refl _) _⟩
theorem rcn_line (h : NoRc p w) : Calls Try.prog 39 #[.pointer p] w fun e w' => e = .returned (.agg #[.int .i64 0, .int .i64 0, .int .i64 0, .int .i64 0, .int .i64 0, .int .i64 0, .int .i64 0, .int .i64 0, .int .i64 0, .int .i64 0, .int .i64 0, .int .i64 0, .bool false, .bool false]) ∧ Below w.heap.size w w' := by
  have hn := hide (h.below ((Below.refl w.heap.size w).alloc (Nat.le_refl _) (.cells #[.int .i64 0, .int .i64 0, .int .i64 0, .int .i64 0, .int .i64 0, .int .i64 0, .int .i64 0, .int .i64 0, .int .i64 0, .int .i64 0, .int .i64 0, .int .i64 0, .bool false, .bool false] 85))).none_
  have HB := Lib.hid (Sat.start w |>.alloc #[.int .i64 0, .int .i64 0, .int .i64 0, .int .i64 0, .int .i64 0, .int .i64 0, .int .i64 0, .int .i64 0, .int .i64 0, .int .i64 0, .int .i64 0, .int .i64 0, .bool false, .bool false] 85).blk
  clear h
  go_enter Try.func39, Try.ntmps39
  go_wp2_with (go_at_call 73; refine (unhide hn).mono ?_; rintro e w' ⟨rfl, rfl⟩)
  exact bodyPost_ret (results_cell_row (p := 2) rfl _ _ _ _ _ _ _ rfl HB.out Try.underlying85 rfl (by kernel_rfl)) rfl ⟨rfl, (Below.refl _ _).alloc (Nat.le_refl _) _⟩
end
end Go.Proofs.Ytdfidijlconhnaa
