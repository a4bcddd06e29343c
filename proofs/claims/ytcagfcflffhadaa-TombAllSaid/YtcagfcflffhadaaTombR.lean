/- The tombs' plain law: what Close comes to, in words and in a rising row. -/
import Derived.Test.YtcagfcflffhadaaBitR
namespace Go.Proofs.Ytcagfcflffhadaa
open Go.RowKit

theorem advR_hd : ∀ (L : List Int) (ba : Int), ∀ x l, (advR L ba).1 = x :: l → x ≠ (advR L ba).2
  | [], ba, x, l, h => by unfold advR at h; cases h
  | y :: m, ba, x, l, h => by
    unfold advR at h ⊢
    by_cases hy : y = ba
    · rw [if_pos hy] at h ⊢
      exact advR_hd m (ba + 1) x l h
    · rw [if_neg hy] at h ⊢
      injection h with h1 h2
      subst h1
      exact hy
theorem advR_bd (B : Int) : ∀ (L : List Int) (ba : Int), (∀ x ∈ L, x ≤ B) → ba ≤ B + 1 → ba ≤ (advR L ba).2 ∧ (advR L ba).2 ≤ B + 1 ∧ ∀ x ∈ (advR L ba).1, x ∈ L
  | [], ba, _, h => ⟨Int.le_refl _, h, fun x hx => hx⟩
  | y :: m, ba, hL, h => by
    unfold advR
    by_cases hy : y = ba
    · rw [if_pos hy]
      have hyB := hL y List.mem_cons_self
      obtain ⟨h1, h2, h3⟩ := advR_bd B m (ba + 1) (fun x hx => hL x (List.mem_cons_of_mem _ hx)) (by omega)
      exact ⟨by omega, h2, fun x hx => List.mem_cons_of_mem _ (h3 x hx)⟩
    · rw [if_neg hy]
      exact ⟨Int.le_refl _, h, fun x hx => hx⟩
theorem advR_eq {L : List Int} {ba : Int} (h : ∀ x l, L = x :: l → x ≠ ba) : advR L ba = (L, ba) := by
  cases L with
  | nil => rfl
  | cons y m => unfold advR; rw [if_neg (h y m rfl)]
/-- The row of the closed ones above the floor stands for the words. -/
structure TInv (sz ba : Nat) (V : Nat → Nat) (L : List Int) : Prop where
  r : RInv sz ba V L
  sz : sz ≤ 64
  one : 1 ≤ ba
  top : ba ≤ 1073741825
  le : ∀ x ∈ L, x ≤ 1073741824
  hd : ∀ x l, L = x :: l → x ≠ (ba : Int)
/-- What the document's Close leaves and tells. -/
def closeR (sz ba : Nat) (L : List Int) (n : Int) : (List Int × Int) × Bool × Int :=
  if n < 1 ∨ 1073741824 < n ∨ (ba : Int) + sz ≤ n then ((L, ba), false, 5) else if n < ba ∨ n ∈ L then ((L, ba), false, 0) else (advR (insR L n) ba, true, 0)
section
variable {sz ba : Nat} {V : Nat → Nat} {L : List Int}
theorem TInv.start (sz : Nat) (h1 : 1 ≤ sz) (h2 : sz ≤ 64) : TInv sz 1 (fun _ => 0) [] :=
  ⟨RInv.start sz 1 h1 (by omega) (by omega), h2, by omega, by omega, fun _ h => by simp at h, fun _ _ h => by cases h⟩
/-- Close, of a number in range: set, then go on. -/
theorem TInv.close (h : TInv sz ba V L) {n : Int} (h1 : 1 ≤ n) (h2 : n ≤ 1073741824) :
    (setB V sz ba n).2 = (closeR sz ba L n).2 ∧ ((advB (setB V sz ba n).1 ba).2 : Int) = (closeR sz ba L n).1.2 ∧ TInv sz (advB (setB V sz ba n).1 ba).2 (advB (setB V sz ba n).1 ba).1 (closeR sz ba L n).1.1 := by
  obtain ⟨s1, s2⟩ := RInv.set h.r n
  obtain ⟨a1, a2⟩ := RInv.adv _ ba _ s1
  have hset : setR sz ba L n = if (ba : Int) + sz ≤ n then (L, false, 5) else if n < ba ∨ n ∈ L then (L, false, 0) else (insR L n, true, 0) := by
    unfold setR
    by_cases c1 : (ba : Int) + sz ≤ n
    · rw [if_pos (by omega), if_pos c1]
    · rw [if_neg (by omega), if_neg c1]
      have hh : hasR ba L n = decide (n < ba ∨ n ∈ L) := by
        unfold hasR
        rw [decide_eq_true (show 0 ≤ n by omega), Bool.true_and, Bool.decide_or]
      rw [hh]
      by_cases c2 : n < ba ∨ n ∈ L
      · rw [if_pos (decide_eq_true c2), if_pos c2]
      · rw [if_neg (by simpa using c2), if_neg c2]
  have hclose : (closeR sz ba L n).1 = advR (setR sz ba L n).1 ba ∧ (closeR sz ba L n).2 = (setR sz ba L n).2 := by
    rw [hset]
    unfold closeR
    by_cases c1 : (ba : Int) + sz ≤ n
    · rw [if_pos (.inr (.inr c1)), if_pos c1]
      exact ⟨(advR_eq h.hd).symm, rfl⟩
    · rw [if_neg (by omega), if_neg c1]
      by_cases c2 : n < ba ∨ n ∈ L
      · rw [if_pos c2, if_pos c2]
        exact ⟨(advR_eq h.hd).symm, rfl⟩
      · rw [if_neg c2, if_neg c2]
        exact ⟨rfl, rfl⟩
  have hle : ∀ x ∈ (setR sz ba L n).1, x ≤ 1073741824 := by
    intro x hx
    rw [hset] at hx
    split at hx
    · exact h.le x hx
    · split at hx
      · exact h.le x hx
      · rcases (mem_insR L n x).1 hx with rfl | hx
        · exact h2
        · exact h.le x hx
  have htop := h.top
  have hone := h.one
  obtain ⟨b1, b2, b3⟩ := advR_bd 1073741824 (setR sz ba L n).1 ba hle (by omega)
  rw [s2, hclose.2, hclose.1]
  refine ⟨rfl, a2.symm, a1, h.sz, by omega, by omega, fun x hx => hle x (b3 x hx), fun x l hx => ?_⟩
  rw [← a2]
  exact advR_hd _ _ x l hx
end

/-- Those that may be opened, at most so many. -/
def openA (sz ba : Nat) (L : List Int) : List Int := ((List.range sz).map fun j => ((ba + j : Nat) : Int)).filter fun x => decide (x ∉ L) && decide (x ≤ 1073741824)
theorem filter_take_low {p : Int → Bool} {B : Int} (hp : ∀ x, p x = decide (x ≤ B)) : ∀ (A : List Int) (m : Nat), A.Pairwise (· < ·) → (A.take m).filter p = (A.filter p).take m
  | [], m, _ => by simp
  | a :: l, 0, _ => by simp
  | a :: l, m + 1, h => by
    rw [List.pairwise_cons] at h
    rw [List.take_succ_cons, List.filter_cons, List.filter_cons]
    by_cases ha : p a = true
    · rw [if_pos ha, if_pos ha, List.take_succ_cons, filter_take_low hp l m h.2]
    · rw [if_neg ha, if_neg ha]
      have hn : ∀ x ∈ l, ¬ p x = true := fun x hx => by
        have := h.1 x hx
        rw [hp] at ha ⊢
        simp at ha ⊢
        omega
      have e1 : (l.take m).filter p = [] := List.filter_eq_nil_iff.2 fun x hx => hn x (List.mem_of_mem_take hx)
      have e2 : l.filter p = [] := List.filter_eq_nil_iff.2 hn
      rw [e1, e2]
      simp
/-- What the bitmap lacks, as numbers. -/
def lackL (sz ba : Nat) (L : List Int) : List Int := ((List.range (winN sz ba)).map fun j => ((ba + j : Nat) : Int)).filter fun x => decide (x ∉ L)
theorem lackL_ints (sz ba : Nat) (L : List Int) : lk (winR L sz ba) = ints (lackL sz ba L) := by
  unfold lk winR lackL ints
  rw [List.filter_map, List.filter_map, List.map_map, List.map_map]
  have : (List.filter ((fun x => !x.snd) ∘ fun j => (ba + j, decide (((ba + j : Nat) : Int) ∈ L))) (List.range (winN sz ba))) = (List.filter ((fun x => decide (x ∉ L)) ∘ fun j => ((ba + j : Nat) : Int)) (List.range (winN sz ba))) := by
    refine List.filter_congr fun j _ => ?_
    simp
  rw [this]
  rfl
theorem openA_lack {sz ba : Nat} {L : List Int} (hb : ba ≤ 1073741825) (hs : sz ≤ 64) (m : Nat) : ((lackL sz ba L).take m).filter (fun x => decide (x ≤ 1073741824)) = (openA sz ba L).take m := by
  have hw : winN sz ba = sz := by unfold winN; omega
  rw [filter_take_low (B := 1073741824) (fun _ => rfl)]
  · unfold lackL openA
    rw [hw, List.filter_filter]
    congr 1
    exact List.filter_congr fun x _ => Bool.and_comm _ _
  · unfold lackL
    refine List.Pairwise.filter _ ?_
    rw [List.pairwise_map]
    exact List.Pairwise.imp (by intro a b hab; omega) List.pairwise_lt_range
end Go.Proofs.Ytcagfcflffhadaa
