/- The program's perm: Next, Peek, Left, Paths, Rounds, Sprayed, Renew, Fork. -/
import Derived.Test.YtpcoehbjbjfggaaPermN
namespace Go.Proofs.Ytpcoehbjbjfggaa
open Go.RowKit Asn
section
variable {E w : World} {F X : Asn} {g gs n c : Nat} {s i : Int} {pb : Nat → Bool} {rd : Int} {td : Nat → Int} {A : Option Addr} {L : List Int}
theorem perm_is (hs : Sat E w (PermAt g gs s i pb (.slice A n c) rd td * F)) : Calls Try.prog 97 #[.pointer (some ⟨g, 0, none⟩)] w fun e w' => e = .returned (.bool false) ∧ w = w' :=
  perm_none w g (some ⟨gs, 0, none⟩) (hs.asc.cell 0)
theorem peek_call {x : Int} {l : List Int} (hs : Sat E w (PermAt g gs s i pb (.slice A n c) rd td * (X * F))) (hr : RS X A n c (x :: l)) :
    Calls Try.prog 74 #[.pointer (some ⟨g, 0, none⟩)] w fun e w' => e = .returned (.int .i64 x) ∧ w = w' := by
  have hln := hr.len hs.right.left
  simp at hln
  have hn0 : 0 < n := by omega
  obtain ⟨ad, rfl, hc⟩ := (RdW.of_rd hr.rd hs.right.left).int_at hn0
  have e0 : ad.add 0 = ad := by unfold Addr.add; simp
  rw [e0] at hc
  have hc2 : w.cell? ad = some (.int .i64 x) := hc
  have h9 : w.cell? ⟨g, 9, none⟩ = some (.slice (some ad) n c) := hs.asc.cell 9
  have hno := hide (perm_is hs)
  clear hs hr hc e0 hln
  go_enter Try.func74, Try.ntmps74
  go_wp2_with (go_at_call 97; refine (unhide hno).mono ?_; rintro e w' ⟨rfl, rfl⟩)
  go_ret
  exact ⟨rfl, rfl⟩
theorem rounds_call (hs : Sat E w (PermAt g gs s i pb (.slice A n c) rd td * F)) :
    Calls Try.prog 77 #[.pointer (some ⟨g, 0, none⟩)] w fun e w' => e = .returned (.int .i64 rd) ∧ w = w' := by
  have h9 : w.cell? ⟨g, 10, none⟩ = some (.int .i64 rd) := hs.asc.cell 10
  have hno := hide (perm_is hs)
  clear hs
  go_enter Try.func77, Try.ntmps77
  go_wp2_with (go_at_call 97; refine (unhide hno).mono ?_; rintro e w' ⟨rfl, rfl⟩)
  go_ret
  exact ⟨rfl, rfl⟩
theorem left_call (hs : Sat E w (PermAt g gs s i pb (.slice A n c) rd td * (X * F))) (hr : RS X A n c L) (hn : n ≤ 60000) :
    Calls Try.prog 75 #[.pointer (some ⟨g, 0, none⟩)] w fun e w' => ∃ A' c', e = .returned (.slice A' n c') ∧ Sat E w' (sl 3 1 A' n c' (ints L) * (PermAt g gs s i pb (.slice A n c) rd td * (X * F))) := by
  have h9 : w.cell? ⟨g, 9, none⟩ = some (.slice A n c) := hs.asc.cell 9
  have hno := hide (perm_is hs)
  have hcl := hide (clone_ints E w _ A n c (ints L) hs hr.rd.left.right oneCell_ints hr.nil (by omega))
  clear hs hr
  go_enter Try.func75, Try.ntmps75
  go_wp2_with (go_at_call 97; refine (unhide hno).mono ?_; rintro e w' ⟨rfl, rfl⟩)
  refine (unhide hcl).mono ?_
  rintro e w2 ⟨A2, c2, rfl, hs2⟩
  have HS := hide hs2
  clear hs2
  go_wp2_with fail
  go_ret
  exact ⟨_, _, rfl, unhide HS⟩
theorem paths_call (hs : Sat E w (PermAt g gs s i pb (.slice A n c) rd td * F)) :
    Calls Try.prog 76 #[.pointer (some ⟨g, 0, none⟩)] w fun e w' => ∃ A' c', e = .returned (.slice A' (riseL pb).length c') ∧ Sat E w' (sl 3 1 A' (riseL pb).length c' (ints (riseL pb)) * (PermAt g gs s i pb (.slice A n c) rd td * F)) := by
  have f1 : w.cell? ⟨g, 1, none⟩ = some (.bool (pb 0)) := hs.asc.cell 1
  have f2 : w.cell? ⟨g, 2, none⟩ = some (.bool (pb 1)) := hs.asc.cell 2
  have f3 : w.cell? ⟨g, 3, none⟩ = some (.bool (pb 2)) := hs.asc.cell 3
  have f4 : w.cell? ⟨g, 4, none⟩ = some (.bool (pb 3)) := hs.asc.cell 4
  have f5 : w.cell? ⟨g, 5, none⟩ = some (.bool (pb 4)) := hs.asc.cell 5
  have f6 : w.cell? ⟨g, 6, none⟩ = some (.bool (pb 5)) := hs.asc.cell 6
  have f7 : w.cell? ⟨g, 7, none⟩ = some (.bool (pb 6)) := hs.asc.cell 7
  have f8 : w.cell? ⟨g, 8, none⟩ = some (.bool (pb 7)) := hs.asc.cell 8
  have hno := hide (perm_is hs)
  have hcl := hide (rising_call E w _ pb hs)
  unfold set8 at hcl
  clear hs
  go_enter Try.func76, Try.ntmps76
  go_wp2_with (go_at_call 97; refine (unhide hno).mono ?_; rintro e w' ⟨rfl, rfl⟩)
  refine (unhide hcl).mono ?_
  rintro e w2 ⟨A2, c2, rfl, hs2⟩
  have HS := hide hs2
  clear hs2
  go_wp2_with fail
  go_ret
  exact ⟨_, _, rfl, unhide HS⟩
/-- What has been told, as cells. -/
def told8 (td : Nat → Int) : Array Value := #[.int .i64 (td 0), .int .i64 (td 1), .int .i64 (td 2), .int .i64 (td 3), .int .i64 (td 4), .int .i64 (td 5), .int .i64 (td 6), .int .i64 (td 7)]
theorem sprayed_call (hs : Sat E w (PermAt g gs s i pb (.slice A n c) rd td * F)) :
    Calls Try.prog 67 #[.pointer (some ⟨g, 0, none⟩)] w fun e w' => e = .returned (.agg (told8 td)) ∧ Below w.heap.size w w' := by
  have f1 : w.cell? ⟨g, 11, none⟩ = some (.int .i64 (td 0)) := hs.asc.cell 11
  have f2 : w.cell? ⟨g, 12, none⟩ = some (.int .i64 (td 1)) := hs.asc.cell 12
  have f3 : w.cell? ⟨g, 13, none⟩ = some (.int .i64 (td 2)) := hs.asc.cell 13
  have f4 : w.cell? ⟨g, 14, none⟩ = some (.int .i64 (td 3)) := hs.asc.cell 14
  have f5 : w.cell? ⟨g, 15, none⟩ = some (.int .i64 (td 4)) := hs.asc.cell 15
  have f6 : w.cell? ⟨g, 16, none⟩ = some (.int .i64 (td 5)) := hs.asc.cell 16
  have f7 : w.cell? ⟨g, 17, none⟩ = some (.int .i64 (td 6)) := hs.asc.cell 17
  have f8 : w.cell? ⟨g, 18, none⟩ = some (.int .i64 (td 7)) := hs.asc.cell 18
  have hgl : g < w.heap.size := Sat.lt (o := .cells _ _ (0, 0)) hs.asc
  have hno : Hid (∀ w', Below w.heap.size w w' → Calls Try.prog 97 #[.pointer (some ⟨g, 0, none⟩)] w' fun e w'' => e = .returned (.bool false) ∧ w' = w'') := fun w' hb => perm_none w' g (some ⟨gs, 0, none⟩) (by rw [hb.cell (World.block_lt_of_cell? w _ (hs.asc.cell 0))]; exact hs.asc.cell 0)
  clear hs
  go_enter Try.func67, Try.ntmps67
  go_wp2_with (go_at_call 97; refine (unhide hno _ ((Below.refl _ _).alloc (Nat.le_refl _) _)).mono ?_; rintro e w' ⟨rfl, rfl⟩)
  exact bodyPost_ret (v := .agg (told8 td)) (by simp [results, told8, Try.results67, go_sem]) rfl ⟨rfl, (Below.refl _ _).alloc (Nat.le_refl _) _⟩
end
end Go.Proofs.Ytpcoehbjbjfggaa
