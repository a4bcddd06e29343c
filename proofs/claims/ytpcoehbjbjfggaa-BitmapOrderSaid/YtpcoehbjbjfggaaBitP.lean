/- BitmapOrder's plain law: what Set and Advance come to, where all numbers lie below 256. -/
import Derived.Test.YtpcoehbjbjfggaaBitA
namespace Go.Proofs.Ytpcoehbjbjfggaa
open Go.RowKit

/-- The bitmap of size 256 with base b holds the numbers of S (all below 256), those below b being through. -/
structure BInv (S : Nat → Bool) (b : Nat) (V : Nat → Nat) : Prop where
  small : Small V
  le : b ≤ 256
  low : ∀ r, r < b → S r = true
  bit : ∀ r, r < 256 → bitAt V r = (S r && decide (b ≤ r))
def addS (S : Nat → Bool) (n : Nat) : Nat → Bool := fun r => S r || decide (r = n)
theorem BInv.set {S : Nat → Bool} {b n : Nat} {V : Nat → Nat} (h : BInv S b V) (hn : n < 256) : BInv (addS S n) b (setB V 256 b n).1 ∧ (setB V 256 b n).2 = (!S n, 0) := by
  unfold setB
  by_cases hb : n < b
  · rw [if_pos ⟨by omega, by omega⟩]
    refine ⟨⟨h.small, h.le, fun r hr => by unfold addS; rw [h.low r hr]; rfl, fun r hr => ?_⟩, by rw [h.low n hb]; rfl⟩
    rw [h.bit r hr]
    unfold addS
    by_cases hrn : r = n
    · subst hrn; rw [decide_eq_false (by omega), Bool.and_false, Bool.and_false]
    · rw [decide_eq_false hrn, Bool.or_false]
  · have hw : inWin 256 b (n : Int) = true := by unfold inWin; exact decide_eq_true (by have := h.le; omega)
    rw [if_neg (by omega), hw, if_pos rfl]
    have hbn : bitAt V n = S n := by rw [h.bit n hn, decide_eq_true (by omega), Bool.and_true]
    refine ⟨⟨h.small.on _, h.le, fun r hr => by unfold addS; rw [h.low r hr]; rfl, fun r hr => ?_⟩, by simp [hbn]⟩
    rw [bitAt_on, h.bit r hr]
    unfold addS
    by_cases hrn : r = n
    · subst hrn; simp; omega
    · have : ¬ (r % 256 = (n : Int).toNat % 256) := by simp; omega
      rw [decide_eq_false this, decide_eq_false hrn, Bool.or_false, Bool.or_false]
theorem BInv.adv {S : Nat → Bool} : ∀ (k b : Nat) (V : Nat → Nat), 256 - b = k → BInv S b V → BInv S (advB V b).2 (advB V b).1 ∧ ((advB V b).2 = 256 ∨ S (advB V b).2 = false) ∧ b ≤ (advB V b).2
  | 0, b, V, hk, h => by
    have hb : b = 256 := by have := h.le; omega
    subst hb
    have h0 : bitAt V 256 = false := by
      have e : bitAt V 256 = bitAt V 0 := rfl
      rw [e, h.bit 0 (by omega)]
      simp
    rw [advB_no (by rw [h0]; simp)]
    exact ⟨h, .inl rfl, Nat.le_refl _⟩
  | k + 1, b, V, hk, h => by
    have hb : b < 256 := by omega
    have hbb : bitAt V b = S b := by rw [h.bit b hb]; simp
    cases hS : S b
    · rw [advB_no (by rw [hbb, hS]; simp)]
      exact ⟨h, .inr hS, Nat.le_refl _⟩
    · rw [advB_yes (by omega) (by rw [hbb, hS])]
      have h2 : BInv S (b + 1) (clrBit V b) := ⟨h.small.clr _, by omega, fun r hr => by
        by_cases e : r = b
        · rw [e]; exact hS
        · exact h.low r (by omega), fun r hr => by
        rw [bitAt_clr, h.bit r hr]
        by_cases e : r = b
        · subst e; simp
        · have : ¬ (r % 256 = b % 256) := by omega
          rw [decide_eq_false this, Bool.not_false, Bool.and_true]
          congr 1
          rw [decide_eq_decide]
          omega⟩
      obtain ⟨a1, a2, a3⟩ := BInv.adv k (b + 1) _ (by omega) h2
      exact ⟨a1, a2, by omega⟩
/-- Both come to the same base. -/
theorem BInv.base {S : Nat → Bool} {a b : Nat} {V U : Nat → Nat} (h : BInv S a V) (g : BInv S b U) (h1 : a = 256 ∨ S a = false) (g1 : b = 256 ∨ S b = false) : a = b := by
  rcases Nat.lt_trichotomy a b with hl | he | hg
  · rcases h1 with h1 | h1
    · have := g.le; omega
    · rw [g.low a hl] at h1; cases h1
  · exact he
  · rcases g1 with g1 | g1
    · have := h.le; omega
    · rw [h.low b hg] at g1; cases g1

theorem bitAt_mod (V : Nat → Nat) (m : Nat) : bitAt V m = bitAt V (m % 256) := by unfold bitAt; rw [Nat.mod_mod]
theorem BInv.list {S : Nat → Bool} {a : Nat} {V U : Nat → Nat} (h : BInv S a V) (g : BInv S a U) : winL V 256 a = winL U 256 a := by
  unfold winL
  refine List.map_congr_left fun j _ => ?_
  rw [bitAt_mod V, bitAt_mod U, h.bit _ (Nat.mod_lt _ (by decide)), g.bit _ (Nat.mod_lt _ (by decide))]
/-- How many numbers below 256 are in. -/
def howMany (S : Nat → Bool) : Nat := (List.range 256).countP S
theorem countP_add (S : Nat → Bool) (n : Nat) : ∀ k, (List.range k).countP (addS S n) = (List.range k).countP S + if n < k ∧ S n = false then 1 else 0
  | 0 => by simp
  | k + 1 => by
    rw [List.range_succ, List.countP_append, List.countP_append, countP_add S n k]
    simp only [List.countP_cons, List.countP_nil]
    unfold addS
    by_cases hk : k = n
    · subst hk
      cases hS : S k <;> simp
    · have e : decide (k = n) = false := decide_eq_false hk
      rw [e, Bool.or_false]
      by_cases h2 : n < k
      · simp [h2, show n < k + 1 by omega]; omega
      · simp [h2, show ¬ n < k + 1 by omega]
theorem howMany_add {S : Nat → Bool} {n : Nat} (hn : n < 256) : howMany (addS S n) = howMany S + if S n = false then 1 else 0 := by
  unfold howMany
  rw [countP_add]
  simp [hn]
theorem howMany_le (S : Nat → Bool) : howMany S ≤ 256 := by
  unfold howMany
  have := List.countP_le_length (p := S) (l := List.range 256)
  simpa using this
theorem BInv.count {S : Nat → Bool} {V : Nat → Nat} (h : BInv S 0 V) : (lst (winL V 256 0)).length = howMany S := by
  have hw : winN 256 0 = 256 := by decide
  unfold lst winL howMany
  rw [hw, List.length_map, List.filter_map, List.length_map, ← List.countP_eq_length_filter]
  refine List.countP_congr fun j hj => ?_
  have hj2 := List.mem_range.1 hj
  simp only [Function.comp_apply, Nat.zero_add]
  rw [h.bit j hj2]
  simp
end Go.Proofs.Ytpcoehbjbjfggaa
