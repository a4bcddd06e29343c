/- PermRounds' plain law: each once a round. -/
import Derived.Test.YtpcoehbjbjfggaaPermRuns
namespace Go.Proofs.Ytpcoehbjbjfggaa
open Go.RowKit

/-- After i draws q rounds are through; L is what is left of this one. -/
def RndI (R L : List Int) (td : Nat → Int) (i : Nat) : Prop :=
  ∃ q : Nat, L.Nodup ∧ (∀ x ∈ L, x ∈ R) ∧ L ≠ [] ∧ L.length ≤ R.length ∧ i = q * R.length + (R.length - L.length) ∧ ∀ p : Nat, (p : Int) ∈ R → td p = q + (if (p : Int) ∈ L then 0 else 1)
theorem RndI.start {R M : List Int} (hM : M.Perm R) (hR : R.Nodup) (hne : R ≠ []) : RndI R M (fun _ => 0) 0 :=
  ⟨0, hM.symm.nodup hR, fun x hx => hM.mem_iff.1 hx, fun h => hne (by rw [h] at hM; exact List.nil_perm.1 hM), by rw [hM.length_eq]; exact Nat.le_refl _, by rw [hM.length_eq]; simp, fun p hp => by rw [if_pos (hM.mem_iff.2 hp)]; rfl⟩
theorem RndI.more {R l : List Int} {td : Nat → Int} {i p : Nat} (h : RndI R ((p : Int) :: l) td i) (hl : l ≠ []) : RndI R l (addT td p (td p + 1)) (i + 1) := by
  obtain ⟨q, h1, h2, _, h3, h4, h5⟩ := h
  rw [List.nodup_cons] at h1
  simp only [List.length_cons] at h3 h4
  refine ⟨q, h1.2, fun x hx => h2 x (List.mem_cons_of_mem _ hx), hl, by omega, by omega, fun r hr => ?_⟩
  unfold addT
  by_cases e : r = p
  · subst e
    rw [if_pos rfl, h5 r hr, if_pos List.mem_cons_self, if_neg h1.1]
    omega
  · rw [if_neg e, h5 r hr]
    have : ((r : Int) ∈ (p : Int) :: l) ↔ (r : Int) ∈ l := by
      rw [List.mem_cons]
      constructor
      · rintro (h | h)
        · omega
        · exact h
      · exact .inr
    simp only [this]
theorem RndI.last {R M : List Int} {td : Nat → Int} {i p : Nat} (h : RndI R [(p : Int)] td i) (hM : M.Perm R) (hR : R.Nodup) : RndI R M (addT td p (td p + 1)) (i + 1) := by
  obtain ⟨q, h1, h2, _, h3, h4, h5⟩ := h
  simp only [List.length_cons, List.length_nil] at h3 h4
  have hp := h2 p List.mem_cons_self
  refine ⟨q + 1, hM.symm.nodup hR, fun x hx => hM.mem_iff.1 hx, fun e => ?_, by rw [hM.length_eq]; exact Nat.le_refl _, ?_, fun r hr => ?_⟩
  · rw [e] at hM
    rw [List.nil_perm.1 hM] at hp
    simp at hp
  · rw [hM.length_eq, Nat.add_mul]; omega
  · rw [if_pos (hM.mem_iff.2 hr)]
    unfold addT
    by_cases e : r = p
    · subst e
      rw [if_pos rfl, h5 r hr, if_pos List.mem_cons_self]
      omega
    · rw [if_neg e, h5 r hr, if_neg (by simp; omega)]
      omega
section
variable {f : Int → Int} {q : Int}
theorem low_ge : ∀ {P : List Int} {a : Int}, q ≤ a → (∀ x ∈ P, q ≤ f x) → q ≤ P.foldl (fun a x => min a (f x)) a
  | [], _, h, _ => h
  | x :: P, a, h, hx => by
    rw [List.foldl_cons]
    exact low_ge (by have := hx x List.mem_cons_self; omega) fun y hy => hx y (List.mem_cons_of_mem _ hy)
theorem low_le : ∀ {P : List Int} {a : Int}, P.foldl (fun a x => min a (f x)) a ≤ a
  | [], _ => Int.le_refl _
  | x :: P, a => by
    rw [List.foldl_cons]
    have := low_le (P := P) (a := min a (f x))
    omega
theorem high_le : ∀ {P : List Int} {a : Int}, a ≤ q → (∀ x ∈ P, f x ≤ q) → P.foldl (fun a x => max a (f x)) a ≤ q
  | [], _, h, _ => h
  | x :: P, a, h, hx => by
    rw [List.foldl_cons]
    exact high_le (by have := hx x List.mem_cons_self; omega) fun y hy => hx y (List.mem_cons_of_mem _ hy)
theorem high_ge : ∀ {P : List Int} {a : Int}, a ≤ P.foldl (fun a x => max a (f x)) a
  | [], _ => Int.le_refl _
  | x :: P, a => by
    rw [List.foldl_cons]
    have := high_ge (P := P) (a := max a (f x))
    omega
theorem sum_is : ∀ {P : List Int} {a : Int}, P.foldl (fun a x => a + f x) a = a + (P.map f).sum
  | [], a => by simp
  | x :: P, a => by
    rw [List.foldl_cons, sum_is]
    simp
    omega
end
/-- What the round's look finds. -/
theorem RndI.look {R L P : List Int} {td : Nat → Int} {i : Nat} (h : RndI R L td i) (hP : P.Perm R) (hR : R.Nodup) (h8 : ∀ x ∈ R, 0 ≤ x) :
    P.foldl (fun a x => max a (td x.toNat)) 0 - P.foldl (fun a x => min a (td x.toNat)) (i : Int) ≤ 1 ∧ P.foldl (fun a x => a + td x.toNat) 0 = (i : Int) ∧
      (i % P.length = 0 → P.foldl (fun a x => max a (td x.toNat)) 0 = P.foldl (fun a x => min a (td x.toNat)) (i : Int)) := by
  obtain ⟨q, h1, h2, h3, h4, h5, h6⟩ := h
  have hPl := hP.length_eq
  have hL0 : 0 < L.length := by cases L with | nil => exact absurd rfl h3 | cons => simp
  have hqi : q ≤ i := by
    rw [h5]
    have : q * 1 ≤ q * R.length := Nat.mul_le_mul_left q (by omega)
    omega
  have hf : ∀ x ∈ P, td x.toNat = q + (if x ∈ L then 0 else 1) := fun x hx => by
    have hxR := hP.mem_iff.1 hx
    have := h6 x.toNat (by rw [Int.toNat_of_nonneg (h8 x hxR)]; exact hxR)
    rwa [Int.toNat_of_nonneg (h8 x hxR)] at this
  have hlo : (q : Int) ≤ P.foldl (fun a x => min a (td x.toNat)) (i : Int) := low_ge (f := fun x => td x.toNat) (by omega) fun x hx => by rw [hf x hx]; split <;> omega
  have hhi : P.foldl (fun a x => max a (td x.toNat)) 0 ≤ (q : Int) + 1 := high_le (f := fun x => td x.toNat) (by omega) fun x hx => by rw [hf x hx]; split <;> omega
  refine ⟨by omega, ?_, fun hm => ?_⟩
  · rw [sum_is (f := fun x => td x.toNat)]
    have hs : ∀ Q : List Int, (∀ x ∈ Q, x ∈ P) → (Q.map fun x => td x.toNat).sum = q * Q.length + (Q.countP fun x => decide (x ∉ L) : Nat) := by
      intro Q
      induction Q with
      | nil => intro _; simp
      | cons x Q ih =>
        intro hQ
        rw [List.map_cons, List.sum_cons, ih fun y hy => hQ y (List.mem_cons_of_mem _ hy), hf x (hQ x List.mem_cons_self), List.length_cons, List.countP_cons]
        by_cases hx : x ∈ L
        · simp [hx, Int.mul_add]; omega
        · simp [hx, Int.mul_add]; omega
    rw [hs P fun _ h => h]
    have hc : P.countP (fun x => decide (x ∈ L)) = L.length := by
      rw [List.countP_eq_length_filter]
      refine ((List.perm_ext_iff_of_nodup ((hP.symm.nodup hR).sublist List.filter_sublist) h1).2 fun x => ?_).length_eq
      rw [List.mem_filter, decide_eq_true_eq]
      exact ⟨fun h => h.2, fun h => ⟨hP.mem_iff.2 (h2 x h), h⟩⟩
    have hsum := List.length_eq_countP_add_countP (fun x => decide (x ∈ L)) (l := P)
    have hcc : (P.countP fun x => decide (x ∉ L)) = P.countP (fun a => decide ¬(decide (a ∈ L)) = true) := List.countP_congr fun x _ => by simp
    rw [hcc]
    rw [hc] at hsum
    have e : P.countP (fun a => decide ¬(decide (a ∈ L)) = true) = P.length - L.length := by omega
    rw [e, hPl]
    rw [h5]
    rw [Int.natCast_add, Int.natCast_mul]
    omega
  · have hfull : L.length = R.length := by
      rw [hPl, h5, Nat.mul_comm, Nat.mul_add_mod] at hm
      rcases Nat.lt_or_ge (R.length - L.length) R.length with h | h
      · rw [Nat.mod_eq_of_lt h] at hm; omega
      · omega
    have hall : ∀ x ∈ P, td x.toNat = q := fun x hx => by
      have hp : L.Perm R := by
        refine (List.perm_ext_iff_of_nodup h1 hR).2 fun y => ⟨h2 y, fun hy => ?_⟩
        have hs : (R.filter fun z => decide (z ∈ L)).length = R.length := by
          rw [← List.countP_eq_length_filter]
          have hp2 : (R.filter fun x => decide (x ∈ L)).Perm L := (List.perm_ext_iff_of_nodup (hR.sublist List.filter_sublist) h1).2 fun x => by
            rw [List.mem_filter, decide_eq_true_eq]
            exact ⟨fun h => h.2, fun h => ⟨h2 x h, h⟩⟩
          rw [List.countP_eq_length_filter, hp2.length_eq, hfull]
        have := (List.filter_sublist (p := fun z => decide (z ∈ L)) (l := R)).eq_of_length hs
        rw [List.filter_eq_self] at this
        simpa using this y hy
      rw [hf x hx, if_pos (hp.mem_iff.2 (hP.mem_iff.1 hx))]
      omega
    have hPne : ∃ x, x ∈ P := by
      cases P with
      | nil => simp at hPl; omega
      | cons x l => exact ⟨x, List.mem_cons_self⟩
    have hlo2 : P.foldl (fun a x => min a (td x.toNat)) (i : Int) ≤ q := by
      cases P with
      | nil => obtain ⟨x, hx⟩ := hPne; simp at hx
      | cons x l =>
        rw [List.foldl_cons]
        have h1 := low_le (f := fun x => td x.toNat) (P := l) (a := min (i : Int) (td x.toNat))
        have h2 := hall x List.mem_cons_self
        omega
    have hhi2 : P.foldl (fun a x => max a (td x.toNat)) 0 ≤ (q : Int) := high_le (f := fun x => td x.toNat) (by omega) fun x hx => by rw [hall x hx]; exact Int.le_refl _
    have hhi3 : (q : Int) ≤ P.foldl (fun a x => max a (td x.toNat)) 0 := by
      cases P with
      | nil => obtain ⟨x, hx⟩ := hPne; simp at hx
      | cons x l =>
        rw [List.foldl_cons]
        have h1 := high_ge (f := fun x => td x.toNat) (P := l) (a := max (0 : Int) (td x.toNat))
        have h2 := hall x List.mem_cons_self
        omega
    omega
theorem RndI.bd {R L : List Int} {td : Nat → Int} {i p : Nat} (h : RndI R L td i) (hp : (p : Int) ∈ R) : 0 ≤ td p ∧ td p ≤ i + 1 := by
  obtain ⟨q, _, _, h3, h4, h5, h6⟩ := h
  have hL0 : 0 < L.length := by cases L with | nil => exact absurd rfl h3 | cons => simp
  have hqi : q ≤ i := by
    rw [h5]
    have : q * 1 ≤ q * R.length := Nat.mul_le_mul_left q (by omega)
    omega
  rw [h6 p hp]
  split <;> omega
end Go.Proofs.Ytpcoehbjbjfggaa
