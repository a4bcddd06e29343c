/- The program's draws: Below, Count, Fork; the document's. -/
import Derived.Test.YtpcoehbjbjfggaaDraws
import Derived.Lib.SliceRun
namespace Go.Proofs.Ytpcoehbjbjfggaa
open Go.RowKit Asn

theorem at00 : at05 0 0 = 16294208416658607535 := by kernel_rfl
theorem src_count (w : World) (g : Nat) (i : Int) (h1 : w.cell? ⟨g, 1, none⟩ = some (.int .i64 i)) (h2 : w.cell? ⟨g, 2, none⟩ = some (.bool true)) :
    Calls Try.prog 35 #[.pointer (some ⟨g, 0, none⟩)] w fun e w' => e = .returned (.int .i64 i) ∧ w = w' := by
  go_enter Try.func35, Try.ntmps35
  go_wp2_with (go_at_call 82; refine (src_none _ _ _ h2).mono ?_; rintro e w' ⟨rfl, rfl⟩)
  go_ret
  exact ⟨rfl, rfl⟩
theorem src_fork (E w : World) (F : Asn) (g : Nat) (s i : Int) (hs : Sat E w (SrcAt g s i * F)) :
    Calls Try.prog 33 #[.pointer (some ⟨g, 0, none⟩)] w fun e w' => ∃ k, e = .returned (.pointer (some ⟨k, 0, none⟩)) ∧ Sat E w' (SrcAt k s i * (SrcAt g s i * F)) := by
  have h0 : w.cell? ⟨g, 0, none⟩ = some (.int .u64 s) := hs.cell 0
  have h1 : w.cell? ⟨g, 1, none⟩ = some (.int .i64 i) := hs.cell 1
  have h2 : w.cell? ⟨g, 2, none⟩ = some (.bool true) := hs.cell 2
  have hs1 := hide (hs.alloc #[.int .u64 s, .int .i64 i, .bool true] 65)
  clear hs
  go_enter Try.func33, Try.ntmps33
  go_wp2_with (go_at_call 82; refine (src_none _ _ _ h2).mono ?_; rintro e w' ⟨rfl, rfl⟩)
  go_ret
  exact ⟨_, rfl, unhide hs1⟩
theorem src_below0 (w : World) (p : Value) (n : Int) (hn : n < 1) : Calls Try.prog 28 #[p, .int .i64 n] w fun e w' => e = .returned (.int .i64 0) ∧ w = w' := by
  go_enter Try.func28, Try.ntmps28
  go_wp2_with fail
  go_ret
  exact ⟨rfl, rfl⟩
/-- One below n. -/
def bw (s i n : Int) : Int := wrap64 ((at05 s i).tmod n)
theorem at05_nonneg (s i : Int) : 0 ≤ at05 s i := by unfold at05 mx sx; exact bits_lo_u64 _ _ _
theorem bw_lt (s i n : Int) (hn : 1 ≤ n) (hn2 : n ≤ 9223372036854775807) : 0 ≤ bw s i n ∧ bw s i n < n := by
  have h1 := Int.tmod_nonneg n (at05_nonneg s i)
  have h2 := Int.tmod_lt_of_pos (at05 s i) (by omega : 0 < n)
  unfold bw
  have e : wrap64 ((at05 s i).tmod n) = (at05 s i).tmod n := by unfold wrap64; omega
  rw [e]
  exact ⟨h1, h2⟩
theorem src_below (E w : World) (F : Asn) (g : Nat) (s i n : Int) (hn : 1 ≤ n) (hn2 : n ≤ 9223372036854775807) (h0 : 0 ≤ i) (hi : i ≤ 1000000) (hs : Sat E w (SrcAt g s i * F)) :
    Calls Try.prog 28 #[.pointer (some ⟨g, 0, none⟩), .int .i64 n] w fun e w' => e = .returned (.int .i64 (bw s i n)) ∧ Sat E w' (SrcAt g s (i + 1) * F) := by
  have h2 : w.cell? ⟨g, 2, none⟩ = some (.bool true) := hs.cell 2
  go_enter Try.func28, Try.ntmps28
  go_wp2_with (go_at_call 82; refine (src_none _ _ _ h2).mono ?_; rintro e w' ⟨rfl, rfl⟩)
  refine (src_next E _ F g s i h0 hi hs).mono ?_
  rintro e w2 ⟨rfl, hs2⟩
  have hs3 := hide hs2
  clear hs2 hs
  go_wp2_with fail
  go_ret
  exact ⟨rfl, unhide hs3⟩
theorem src_none_below (w : World) (p : Value) (n : Int) (hn : Hid (Calls Try.prog 82 #[p] w fun e w' => e = .returned (.bool true) ∧ w = w')) :
    Calls Try.prog 28 #[p, .int .i64 n] w fun e w' => e = .returned (.int .i64 0) ∧ w = w' := by
  by_cases h : n < 1
  · exact src_below0 w p n h
  · go_enter Try.func28, Try.ntmps28
    go_wp2_with (go_at_call 82; refine (unhide hn).mono ?_; rintro e w' ⟨rfl, rfl⟩)
    go_ret
    exact ⟨rfl, rfl⟩
theorem src_none_count (w : World) (p : Value) (hn : Hid (Calls Try.prog 82 #[p] w fun e w' => e = .returned (.bool true) ∧ w = w')) :
    Calls Try.prog 35 #[p] w fun e w' => e = .returned (.int .i64 0) ∧ w = w' := by
  go_enter Try.func35, Try.ntmps35
  go_wp2_with (go_at_call 82; refine (unhide hn).mono ?_; rintro e w' ⟨rfl, rfl⟩)
  go_ret
  exact ⟨rfl, rfl⟩
theorem src_none_fork (w : World) (p : Value) (hn : Hid (Calls Try.prog 82 #[p] w fun e w' => e = .returned (.bool true) ∧ w = w')) :
    Calls Try.prog 33 #[p] w fun e w' => e = .returned (.pointer none) ∧ w = w' := by
  go_enter Try.func33, Try.ntmps33
  go_wp2_with (go_at_call 82; refine (unhide hn).mono ?_; rintro e w' ⟨rfl, rfl⟩)
  go_ret
  exact ⟨rfl, rfl⟩
set_option maxRecDepth 100000 in
/-- Next, where there is no source. -/
theorem src_none_next (E w : World) (F : Asn) (p : Option Addr) (hs : Sat E w F)
    (hn : ∀ W, Sat E W F → Calls Try.prog 82 #[.pointer p] W fun e w' => e = .returned (.bool true) ∧ W = w') :
    Calls Try.prog 26 #[.pointer p] w fun e w' => e = .returned (.int .u64 0) ∧ Sat E w' F := by
  have hs1 := (hs.alloc #[.pointer p] 40).alloc #[.int .u64 0] 38
  rw [World.size_alloc] at hs1
  have e1 := hs1.cell 0
  have hs3 := hide hs1.right.right
  have hn2 := hide (hn _ hs1.right.right)
  clear hs1 hs hn
  refine callsIn_wide.1 (callsIn_of_wp_marks (F := Fence.wide) (n := 0) Try.func26 rfl trivial (wpIn_wide.2 ?_) rfl)
  simp only [Try.ntmps26, List.size_toArray, List.length_cons, List.length_nil, Nat.reduceAdd, Nat.reduceSub, Array.replicate_succ, Array.replicate_zero, List.push_toArray, List.append_toArray, List.nil_append, List.cons_append]
  go_wp2_with (go_at_call 82; refine (unhide hn2).mono ?_; rintro e w' ⟨rfl, rfl⟩)
  exact ⟨_, by simp [results, Try.results26, go_sem, e1], rfl, unhide hs3⟩

theorem elt_ints : Elt Try.prog 52 3 1 8 (.int .i64 0) := elt_of Try.underlying52 (by kernel_rfl) rfl (by omega)
set_option maxRecDepth 100000 in
/-- Clone, of cells. -/
theorem clone_ints (E w : World) (F : Asn) (A : Option Addr) (n c : Nat) (xs : List Value) (hs : Sat E w F) (hr : rd F 1 A n xs) (h1 : ∀ u ∈ xs, u.oneCell' = true) (hc : A = none → c = 0) (hn : n ≤ 65536) :
    Calls Try.prog 84 #[.slice A n c] w fun e w' => ∃ A' c', e = .returned (.slice A' n c') ∧ Sat E w' (sl 3 1 A' n c' xs * F) := by
  have hnil := fun (w : World) (A : Option Addr) (n c n' c' : Nat) => Lib.run_eql_slice_nil (P := Try.prog) w 52 3 A n c n' c' Try.underlying52
  rcases A with _ | ad
  · obtain rfl := hc rfl
    have h0 := (RdW.of_rd hr hs)
    have hn0 : n = 0 := by
      rcases Nat.eq_zero_or_pos n with h | h
      · exact h
      · obtain ⟨_, h, _⟩ := h0.2 h
        cases h
    subst hn0
    obtain rfl : xs = [] := List.eq_nil_of_length_eq_zero (by simpa using h0.1)
    have hs1 := hide hs
    clear hs
    go_enter Try.func84, Try.ntmps84
    go_wp2_with fail
    go_ret
    exact ⟨none, 0, rfl, (unhide hs1).slNil⟩
  · have h0 : Sat E (w.alloc (.cells #[] 3)) (sl 3 1 (some ⟨w.heap.size, 0, none⟩) 0 0 [] * F) :=
      Sat.slMk (hs.alloc #[] 3) (by simp) (Nat.le_refl _) (Nat.zero_le _) (by simp) (by intro j u hu; simp at hu)
    obtain ⟨A1, c1, w1, r1, hs1⟩ := Sat.append (P := Try.prog) (t := 52) (ty := 52) (d := c) elt_ints h0 (RdW.of_rd hr h0.right) h1 (by unfold maxLen; omega) (by omega)
    rw [Nat.zero_add] at r1 hs1
    rw [List.nil_append] at hs1
    have R1 := Lib.hid r1
    have HS := hide hs1
    clear r1 hs1 h0 hs
    go_enter Try.func84, Try.ntmps84
    go_wp2_with (at_builtin; refine wpList_appendR rfl (.tmp 5) (.tmp 6) rfl rfl rfl R1.out ?_)
    go_ret
    exact ⟨A1, c1, rfl, unhide HS⟩
end Go.Proofs.Ytpcoehbjbjfggaa
