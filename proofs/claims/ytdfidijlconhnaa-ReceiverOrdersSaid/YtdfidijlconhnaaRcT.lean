/- The receiver: Take, where nothing is kept. -/
import Derived.Test.YtdfidijlconhnaaRcG
namespace Go.Proofs.Ytdfidijlconhnaa
open Go.RowKit Asn
attribute [local go_sem] Oper.semAt_some

theorem below_drewN (n : Nat) (w : World) (m : Nat) : Below n w (w.drewN m) := ⟨rfl, rfl, rfl, Nat.le_refl _, fun _ _ => rfl⟩
theorem rc_has {E w : World} {F : Asn} {b : Nat} {V : Nat → Nat} {sz ba : Nat} {n : Int} {x : Bool} (h : Sat E w (BitAt b V sz ba * F)) (hV : Small V) (h0 : 1 ≤ sz) (hs : sz ≤ 256) (hb : ba ≤ 1152921504606846977) (hn : 0 ≤ n ∧ n ≤ 1152921504606846976) (hx : hasB V sz ba n = x) :
    Calls Try.prog 75 #[.pointer (some ⟨b, 0, none⟩), .int .i64 n] w fun e w' => e = .returned (.bool x) ∧ Below w.heap.size w w' := by
  refine (has_call E w F b V sz ba n h hV h0 hs hb (by omega)).mono ?_
  rintro e w' ⟨rfl, m, rfl⟩
  rw [hx]
  exact ⟨rfl, below_drewN _ _ _⟩
section
variable {E w : World} {F : Asn} {g : Nat} {k : RcK} {next arr iss pen : Nat} {done : Bool}
/-- A packet that is none of data, goes back, or has no number. -/
theorem rc_take_bad (p : Pk) (hs : Sat E w (RcB g k next arr iss pen done * F)) (hfl : p.fl ≤ 9223372036854775807) (h : p.kind ≠ 1 ∨ hasF p.fl 4 = true ∨ ¬ (0 ≤ p.q ∧ p.q ≤ 1152921504606846976)) :
    Calls Try.prog 38 #[.pointer (some ⟨g, 0, none⟩), p.val] w fun e w' => e = .returned (.tuple #[.slice none 0 0, .slice none 0 0]) ∧ Sat E w' (RcB g k next arr iss pen done * F) := by
  obtain ⟨pk, fl, pa, sr, ds, co, q, pu, A, n, c, b⟩ := p
  dsimp only at h hfl
  have d0 : w.cell? ⟨g, 0, none⟩ = some (.pointer (some ⟨k.bb, 0, none⟩)) := hs.cell 0
  have hg : g < w.heap.size := Sat.lt (o := .cells _ _ (0, 0)) hs
  have hs1 := hs.alloc #[.int .i64 pk, .int .i64 fl, .int .i64 pa, .int .i64 sr, .int .i64 ds, .int .i64 co, .int .i64 q, .int .i64 pu, .slice A n c] 79
  have d1 : (w.alloc (.cells #[.int .i64 pk, .int .i64 fl, .int .i64 pa, .int .i64 sr, .int .i64 ds, .int .i64 co, .int .i64 q, .int .i64 pu, .slice A n c] 79)).cell? ⟨g, 0, none⟩ = some (.pointer (some ⟨k.bb, 0, none⟩)) := hs1.f2.cell 0
  have HS := hide hs1.right
  clear hs hs1
  show Calls _ _ #[_, .agg #[.int .i64 pk, .int .i64 fl, .int .i64 pa, .int .i64 sr, .int .i64 ds, .int .i64 co, .int .i64 q, .int .i64 pu, .slice A n c]] _ _
  by_cases h1 : pk = 1
  · subst h1
    cases h2 : hasF fl 4 with
    | true =>
      have HF := hide h2
      clear h2 h
      go_enter Try.func38, Try.ntmps38
      go_wp2_with (first
        | (go_at_call 73; refine (rc_none _ _ _ d1).mono ?_; rintro e w' ⟨rfl, rfl⟩)
        | (go_at_call 74; refine (has_bounced _ _ hfl).mono ?_; rintro e w' ⟨rfl, rfl⟩; rw [unhide HF]))
      go_ret2
      exact ⟨rfl, unhide HS⟩
    | false =>
      have h3 : ¬ (0 ≤ q ∧ q ≤ 1152921504606846976) := by
        rcases h with h | h | h
        · exact absurd rfl h
        · rw [h2] at h; cases h
        · exact h
      have HF := hide h2
      have H3 := hide (decide_eq_false h3)
      clear h2 h h3
      go_enter Try.func38, Try.ntmps38
      go_wp2_with (first
        | (go_at_call 73; refine (rc_none _ _ _ d1).mono ?_; rintro e w' ⟨rfl, rfl⟩)
        | (go_at_call 70; refine (in_call _ _ _ _).mono ?_; rintro e w' ⟨rfl, rfl⟩; rw [unhide H3])
        | (go_at_call 74; refine (has_bounced _ _ hfl).mono ?_; rintro e w' ⟨rfl, rfl⟩; rw [unhide HF]))
      go_ret2
      exact ⟨rfl, unhide HS⟩
  · have hne : (pk != 1) = true := by simp [h1]
    clear h
    go_enter Try.func38, Try.ntmps38
    go_wp2_with (first
      | (go_at_call 73; refine (rc_none _ _ _ d1).mono ?_; rintro e w' ⟨rfl, rfl⟩))
    go_ret2
    exact ⟨rfl, unhide HS⟩
/-- The packet's cells. -/
def Pk9 (pk fl pa sr ds co q pu : Int) (A : Option Addr) (n c : Nat) : Array Value := #[.int .i64 pk, .int .i64 fl, .int .i64 pa, .int .i64 sr, .int .i64 ds, .int .i64 co, .int .i64 q, .int .i64 pu, .slice A n c]
/-- One of a receiver that is done. -/
theorem rc_take_done (p : Pk) (hs : Sat E w (RcB g k next arr iss pen true * F)) (hfl : p.fl ≤ 9223372036854775807) (h1 : p.kind = 1) (h2 : hasF p.fl 4 = false) (h3 : 0 ≤ p.q ∧ p.q ≤ 1152921504606846976) :
    Calls Try.prog 38 #[.pointer (some ⟨g, 0, none⟩), p.val] w fun e w' => ∃ z, e = .returned (.tuple #[.slice (some ⟨z, 0, none⟩) 1 1, .slice none 0 0]) ∧ Sat E w' (Asn.blk z 79 (ansC k 2 p) * (RcB g k next arr iss pen true * F)) := by
  obtain ⟨pk, fl, pa, sr, ds, co, q, pu, A, n, c, b⟩ := p
  dsimp only at h1 h2 h3 hfl
  subst h1
  have hg : g < w.heap.size := Sat.lt (o := .cells _ _ (0, 0)) hs
  have hs1 := hs.alloc #[.int .i64 1, .int .i64 fl, .int .i64 pa, .int .i64 sr, .int .i64 ds, .int .i64 co, .int .i64 q, .int .i64 pu, .slice A n c] 79
  have d1 : (w.alloc (.cells #[.int .i64 1, .int .i64 fl, .int .i64 pa, .int .i64 sr, .int .i64 ds, .int .i64 co, .int .i64 q, .int .i64 pu, .slice A n c] 79)).cell? ⟨g, 0, none⟩ = some (.pointer (some ⟨k.bb, 0, none⟩)) := hs1.f2.cell 0
  have d2 : (w.alloc (.cells #[.int .i64 1, .int .i64 fl, .int .i64 pa, .int .i64 sr, .int .i64 ds, .int .i64 co, .int .i64 q, .int .i64 pu, .slice A n c] 79)).cell? ⟨g, 13, none⟩ = some (.bool true) := hs1.f2.cell 13
  have d3 : w.cell? ⟨g, 13, none⟩ = some (.bool true) := hs.cell 13
  have HB := Lib.hid hs1.blk
  have HA := hide (rc_answer 2 ⟨1, fl, pa, sr, ds, co, q, pu, A, n, c, b⟩ hs1.right)
  have HF := hide h2
  have H3 := hide (decide_eq_true h3)
  clear hs hs1 h2 h3
  show Calls _ _ #[_, .agg #[.int .i64 1, .int .i64 fl, .int .i64 pa, .int .i64 sr, .int .i64 ds, .int .i64 co, .int .i64 q, .int .i64 pu, .slice A n c]] _ _
  unfold Pk.val Pk.cells at HA
  go_enter Try.func38, Try.ntmps38
  go_wp2_with (first
    | (refine wpList_load_row rfl 79 (.tmp 3) rfl w.heap.size rfl 79 _ (0, 0) _ HB.out Try.underlying79 rfl (by kernel_rfl) ?_)
    | (go_at_call 73; refine (rc_none _ _ _ d1).mono ?_; rintro e w' ⟨rfl, rfl⟩)
    | (go_at_call 70; refine (in_call _ _ _ _).mono ?_; rintro e w' ⟨rfl, rfl⟩; rw [unhide H3])
    | (go_at_call 74; refine (has_bounced _ _ hfl).mono ?_; rintro e w' ⟨rfl, rfl⟩; rw [unhide HF]))
  refine (unhide HA).mono ?_
  rintro e w2 ⟨z, rfl, hs2⟩
  have HS2 := hide hs2
  clear hs2 HA
  go_wp2_with fail
  go_ret2
  exact ⟨z, rfl, unhide HS2⟩
end
end Go.Proofs.Ytdfidijlconhnaa
