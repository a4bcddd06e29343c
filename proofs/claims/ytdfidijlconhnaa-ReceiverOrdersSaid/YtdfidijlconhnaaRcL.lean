/- The receiver's packets that are next, one behind the other. -/
import Derived.Test.YtdfidijlconhnaaRcA
namespace Go.Proofs.Ytdfidijlconhnaa
open Go.RowKit Asn

theorem getP_mem {L : List Pk} {k : Int} {p : Pk} (h : getP L k = some p) : p ∈ L ∧ p.q = k := by
  unfold getP at h
  exact ⟨List.mem_of_find?_eq_some h, by simpa using List.find?_some h⟩
theorem delP_len {L : List Pk} {k : Int} {p : Pk} (h : getP L k = some p) : (delP L k).length + 1 = L.length := by
  obtain ⟨h1, h2⟩ := getP_mem h
  unfold delP
  have := List.length_eraseP_of_mem (p := fun p : Pk => decide (p.q = k)) h1 (by simpa using h2)
  rw [this]
  have : 0 < L.length := List.length_pos_of_mem h1
  omega
/-- Those from n on, one behind the other. -/
def runF : Nat → List Pk → Int → List Pk
  | 0, _, _ => []
  | f + 1, L, n => match getP L n with
    | none => []
    | some p => p :: runF f (delP L n) (n + 1)
def runP (L : List Pk) (n : Int) : List Pk := runF L.length L n
theorem runP_none {L : List Pk} {n : Int} (h : getP L n = none) : runP L n = [] := by
  unfold runP
  cases hl : L.length with
  | zero => rfl
  | succ f => rw [runF, h]
theorem runP_some {L : List Pk} {n : Int} {p : Pk} (h : getP L n = some p) : runP L n = p :: runP (delP L n) (n + 1) := by
  unfold runP
  have h1 := delP_len h
  rw [← h1, runF, h]
theorem runF_len : ∀ (f : Nat) (L : List Pk) (n : Int), (runF f L n).length ≤ f
  | 0, _, _ => Nat.le_refl _
  | f + 1, L, n => by
    rw [runF]
    split
    · simp
    · have := runF_len f (delP L n) (n + 1)
      simp only [List.length_cons]
      omega
theorem runP_len (L : List Pk) (n : Int) : (runP L n).length ≤ L.length := runF_len _ _ _
/-- What is left behind k of them. -/
def restR (L : List Pk) (n : Int) : Nat → List Pk
  | 0 => L
  | k + 1 => delP (restR L n k) (n + k)
theorem runP_more {L : List Pk} {n : Int} {pre : List Pk} {p : Pk} (h : runP L n = pre ++ runP (restR L n pre.length) (n + pre.length)) (hp : getP (restR L n pre.length) (n + pre.length) = some p) :
    runP L n = (pre ++ [p]) ++ runP (restR L n (pre ++ [p]).length) (n + (pre ++ [p]).length) := by
  rw [runP_some hp] at h
  rw [h, List.append_assoc]
  congr 1
  simp only [List.length_append, List.length_cons, List.length_nil, Nat.zero_add, restR, List.singleton_append, List.cons.injEq, true_and]
  congr 1
  omega
theorem restR_sub (L : List Pk) (n : Int) : ∀ k, (restR L n k).Sublist L
  | 0 => List.Sublist.refl _
  | k + 1 => by
    have h2 : (delP (restR L n k) (n + k)).Sublist (restR L n k) := List.eraseP_sublist
    exact h2.trans (restR_sub L n k)
end Go.Proofs.Ytdfidijlconhnaa
