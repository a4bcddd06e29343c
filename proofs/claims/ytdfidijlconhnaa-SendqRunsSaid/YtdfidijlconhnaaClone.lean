/- Clone of a row of numbers. -/
import Derived.Test.YtdfidijlconhnaaElt
import Derived.Lib.SliceRun
namespace Go.Proofs.Ytdfidijlconhnaa
open Go.RowKit Asn
set_option maxRecDepth 100000 in
/-- Clone, of cells. -/
theorem clone_ints (E w : World) (F : Asn) (A : Option Addr) (n c : Nat) (xs : List Value) (hs : Sat E w F) (hr : rd F 1 A n xs) (h1 : ∀ u ∈ xs, u.oneCell' = true) (hc : A = none → c = 0) (hn : n ≤ 65536) :
    Calls Try.prog 67 #[.slice A n c] w fun e w' => ∃ A' c', e = .returned (.slice A' n c') ∧ Sat E w' (sl 3 1 A' n c' xs * F) := by
  have hnil := fun (w : World) (A : Option Addr) (n c n' c' : Nat) => Lib.run_eql_slice_nil (P := Try.prog) w 34 3 A n c n' c' Try.underlying34
  rcases A with _ | ad
  · obtain rfl := hc rfl
    have h0 := (RdW.of_rd hr hs)
    have hn0 : n = 0 := by
      rcases Nat.eq_zero_or_pos n with h | h
      · exact h
      · obtain ⟨_, h, _⟩ := h0.2 h
        cases h
    subst hn0
    obtain rfl : xs = [] := List.eq_nil_of_length_eq_zero (by simpa using h0.1)
    have hs1 := hide hs
    clear hs
    go_enter Try.func67, Try.ntmps67
    go_wp2_with fail
    go_ret
    exact ⟨none, 0, rfl, (unhide hs1).slNil⟩
  · have h0 : Sat E (w.alloc (.cells #[] 3)) (sl 3 1 (some ⟨w.heap.size, 0, none⟩) 0 0 [] * F) :=
      Sat.slMk (hs.alloc #[] 3) (by simp) (Nat.le_refl _) (Nat.zero_le _) (by simp) (by intro j u hu; simp at hu)
    obtain ⟨A1, c1, w1, r1, hs1⟩ := Sat.append (P := Try.prog) (t := 34) (ty := 34) (d := c) elt_ints h0 (RdW.of_rd hr h0.right) h1 (by unfold maxLen; omega) (by omega)
    rw [Nat.zero_add] at r1 hs1
    rw [List.nil_append] at hs1
    have R1 := Lib.hid r1
    have HS := hide hs1
    clear r1 hs1 h0 hs
    go_enter Try.func67, Try.ntmps67
    go_wp2_with (at_builtin; refine wpList_appendR rfl (.tmp 5) (.tmp 6) rfl rfl rfl R1.out ?_)
    go_ret
    exact ⟨A1, c1, rfl, unhide HS⟩
end Go.Proofs.Ytdfidijlconhnaa
