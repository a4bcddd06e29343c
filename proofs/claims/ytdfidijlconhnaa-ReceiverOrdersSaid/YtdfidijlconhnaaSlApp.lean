/- append of one element, append to an empty literal, over owned slices; rows of numbers read. Nothing of the program is named here. -/
import Derived.Test.YtdfidijlconhnaaSlMore
namespace Go.Proofs.Ytdfidijlconhnaa
open Go.RowKit Asn
section
variable {P : Program} {E w w' : World} {F : Asn} {A B : Option Addr} {e n c m d t ty bytes : Nat} {zv : Value} {xs ys : List Value}
/-- append(s, v). -/
theorem Sat.app1 (h : Sat E w (sl e 1 A n c xs * F)) (el : Elt P t e 1 bytes zv) (v : Value) (hv : v.oneCell' = true) (h63 : n + 1 ≤ maxLen) (hby : (n + 1) * bytes ≤ 140737488355328) :
    ∃ A' c' w', (Builtin.append_ #[t, t] ty #[.slice A n c, .slice (some ⟨w.heap.size, 0, none⟩) 1 1]).run P (w.alloc (.cells #[v] e)) = .ok (.slice A' (n + 1) c') w' ∧ Sat E w' (sl e 1 A' (n + 1) c' (xs ++ [v]) * F) :=
  Sat.append el (h.alloc #[v] e).right (RdW.new _ #[v] e 1 1 rfl) (by intro u hu; simp at hu; subst hu; exact hv) h63 hby
/-- append([]T{}, s...). -/
theorem Sat.app0 (h : Sat E w F) (el : Elt P t e 1 bytes zv) (hr : rd F 1 B m ys) (h1 : ∀ u ∈ ys, u.oneCell' = true) (h63 : m ≤ maxLen) (hby : m * bytes ≤ 140737488355328) (d : Nat) :
    ∃ A' c' w', (Builtin.append_ #[t, t] ty #[.slice (some ⟨w.heap.size, 0, none⟩) 0 0, .slice B m d]).run P (w.alloc (.cells #[] e)) = .ok (.slice A' m c') w' ∧ Sat E w' (sl e 1 A' m c' ys * F) := by
  have h0 := Sat.slMk (n := 0) (c := 0) (z := 1) (xs := []) (off := 0) (h.alloc #[] e) (by simp) (Nat.le_refl _) (Nat.zero_le _) (by simp) (by intro j u hu; simp at hu)
  obtain ⟨A', c', w1, r1, hs2⟩ := Sat.append (P := P) (t := t) (ty := ty) (d := d) el h0 (RdW.of_rd hr h0.right) h1 (by omega) (by rw [Nat.zero_add]; exact hby)
  rw [Nat.zero_add] at r1 hs2
  exact ⟨A', c', w1, r1, hs2⟩
end
/-- Whole numbers as cells. -/
def ints (l : List Int) : List Value := l.map (Value.int .i64)
theorem length_ints (l : List Int) : (ints l).length = l.length := by unfold ints; rw [List.length_map]
theorem oneCell_ints {l : List Int} : ∀ u ∈ ints l, u.oneCell' = true := by
  intro u hu
  simp only [ints, List.mem_map] at hu
  obtain ⟨x, _, rfl⟩ := hu
  rfl
theorem ints_int {l : List Int} : ∀ u ∈ ints l, ∃ x, u = Value.int .i64 x := by
  intro u hu
  simp only [ints, List.mem_map] at hu
  obtain ⟨x, _, rfl⟩ := hu
  exact ⟨x, rfl⟩
theorem ints_append (l m : List Int) : ints (l ++ m) = ints l ++ ints m := by unfold ints; rw [List.map_append]
theorem ints_take (l : List Int) (k : Nat) : (ints l).take k = ints (l.take k) := by unfold ints; rw [List.map_take]
theorem ints_drop (l : List Int) (k : Nat) : (ints l).drop k = ints (l.drop k) := by unfold ints; rw [List.map_drop]
theorem RdW.int_at {w : World} {A : Option Addr} {n i : Nat} {l : List Int} (h : RdW w A n 1 (ints l)) (hi : i < n) : ∃ ad, A = some ad ∧ w.cell? (ad.add i) = some (.int .i64 (l.getD i 0)) := by
  have hl : l.length = n := by have := h.1; rw [length_ints] at this; omega
  refine h.at_ (j := i) ?_
  have hx : l[i]? = some (l[i]'(by omega)) := List.getElem?_eq_getElem _
  rw [ints, List.getElem?_map, hx, List.getD, hx]
  rfl
theorem rd.ints_len {F : Asn} {E w : World} {A : Option Addr} {n : Nat} {l : List Int} (h : rd F 1 A n (ints l)) (hs : Sat E w F) : l.length = n := by
  have := (RdW.of_rd h hs).1
  rw [length_ints] at this
  omega
theorem rd.intsTake {F : Asn} {A : Option Addr} {n q : Nat} {l : List Int} (h : rd F 1 A n (ints l)) (hq : q ≤ n) : rd F 1 A q (ints (l.take q)) := by
  have := h.take (k := q) hq
  rwa [Nat.mul_one, ints_take] at this
theorem rd.intsDrop {F : Asn} {A : Option Addr} {n q : Nat} {l : List Int} (h : rd F 1 A n (ints l)) (hq : q ≤ n) : rd F 1 (A.map (·.add q)) (n - q) (ints (l.drop q)) := by
  have := h.drop (k := q) hq
  rwa [Nat.mul_one, ints_drop] at this
/-- The rest behind q of what reads so, whichever address the machine gives it. -/
theorem rd.intsRest {F : Asn} {A B : Option Addr} {n q c : Nat} {l : List Int} (h : rd F 1 A n (ints l)) (hq : q ≤ n) (hc : n ≤ c) (hB : B = if c = q then A else A.map (·.add q)) : rd F 1 B (n - q) (ints (l.drop q)) := by
  by_cases e : c = q
  · rw [show n - q = 0 by omega]
    intro x hx
    have h1 := (h x hx).1
    rw [length_ints] at h1
    rw [List.drop_eq_nil_of_le (by omega)]
    exact ⟨by simp [ints], fun h => absurd h (by omega)⟩
  · rw [if_neg e] at hB
    rw [hB]
    exact h.intsDrop hq
end Go.Proofs.Ytdfidijlconhnaa
