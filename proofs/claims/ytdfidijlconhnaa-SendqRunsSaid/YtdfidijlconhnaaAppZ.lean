/- append of so many zero values, onto an owned slice of one-cell elements. Nothing of the program is named here. -/
import Derived.Test.YtdfidijlconhnaaSlFro
import Derived.Lib.AppendZeros
namespace Go.Proofs.Ytdfidijlconhnaa
open Go.RowKit Asn
section
variable {P : Program} {E w : World} {F : Asn} {A : Option Addr} {e n c m t tn ty bytes : Nat} {zv : Value} {xs : List Value}
theorem zeroCells_one (z : Value) (n : Nat) : Builtin.zeroCells #[z] n = (List.replicate n z).toArray := by
  apply Array.ext'
  simp [Builtin.zeroCells]
  apply List.ext_getElem
  · simp
  · intro i h1 h2
    simp [Nat.mod_one]
theorem Sat.appendZ (el : Elt P t e 1 bytes zv) (h : Sat E w (sl e 1 A n c xs * F)) (hzc : zv.cells = #[zv]) (h1 : zv.oneCell' = true) {k kn : IntKind} (htn : P.underlying tn = some (.int kn)) (h63 : n + m ≤ maxLen) (hby : (n + m) * bytes ≤ 140737488355328) :
    ∃ A' c' w', (Builtin.append_ #[t, tn] ty #[.slice A n c, .int k m]).run P w = .ok (.slice A' (n + m) c') w' ∧ Sat E w' (sl e 1 A' (n + m) c' (xs ++ List.replicate m zv) * F) := by
  obtain ⟨i, ht, hi, hz, hsz, hb, hzs, hz0⟩ := el
  have hlen := h.slLen
  have hx63 : (n + m : Nat) ≤ 9223372036854775807 := by simp only [maxLen] at h63; omega
  have hw : IntKind.i64.wrap (m : Int) = m := by rw [IntKind.wrap_i64]; omega
  have hw0 : IntKind.i64.wrap 0 = 0 := by rw [IntKind.wrap_i64]; omega
  have hneg : ¬ ((m : Int) < 0) := by omega
  have h48i : ¬ (281474976710656 < (m : Int) * (i.bytes : Int)) := by
    rw [← Int.natCast_mul, hb]
    have : m * bytes ≤ (n + m) * bytes := Nat.mul_le_mul_right _ (by omega)
    omega
  have hlr : (List.replicate m zv).length = m * 1 := by simp
  by_cases hroom : n + m ≤ c
  · rcases h.slOpen with ⟨rfl, rfl, rfl, rfl, hF⟩ | ⟨b, off, cells, rfl, hcs, hx, hs⟩
    · obtain rfl : m = 0 := by omega
      refine ⟨none, 0, w, ?_, by simpa using h⟩
      simp [Builtin.append_, run_underlying ht, run_underlying htn, sizeOf, typeInfo, hi, asInt, asIntOf, hw0]
    · rw [Nat.mul_one] at hcs
      have hl1 : xs.length = n := by rw [hlen.1, Nat.mul_one]
      have hcell : ∀ j, j < (List.replicate m zv).length → (w.cell? ⟨b, off + n + (0 + j), none⟩).isSome = true := fun j hj => by
        rw [List.length_replicate] at hj
        rw [hs.cell, Array.getElem?_eq_getElem (by omega)]; rfl
      have hfro : ∀ j, j < (List.replicate m zv).length → w.frozen? ⟨b, off + n + (0 + j), none⟩ = false := fun j hj => hs.frozen _
      have hst := run_storeCells_cells (P := P) b (off + n) (List.replicate m zv) 0 w (by simpa using hcell) (by simpa using hfro) (by intro v hv'; rw [List.eq_of_mem_replicate hv']; exact h1)
      simp only [Nat.add_zero] at hst
      refine ⟨some ⟨b, off, none⟩, c, w.setCells b (off + n) (List.replicate m zv), ?_, ?_⟩
      · by_cases hm0 : m = 0
        · subst hm0
          simp [Builtin.append_, run_underlying ht, run_underlying htn, sizeOf, typeInfo, hi, asInt, asIntOf, hw0, storeCells, hlen.2.1]
          rfl
        · simp [Builtin.append_, run_underlying ht, run_underlying htn, sizeOf, typeInfo, zeroValue, hi, hz, asInt, asIntOf, hw, hneg, h48i, hroom, hsz, hm0, hzc, zeroCells_one, Addr.add_lit, hst]
      · refine Sat.slMk (Sat.setCells (List.replicate m zv) (off + n) cells w hs) (by simp [hl1]) hroom hlen.2.2 (by rw [size_putAt]; omega) fun j u hu => ?_
        rw [List.getElem?_append] at hu
        split at hu
        · rw [putAt_out _ _ _ _ (by omega)]
          exact hx j u hu
        · rw [hl1] at hu
          have := putAt_in (List.replicate m zv) cells (off + n) (by simp; omega) _ u hu
          rwa [show off + n + (j - n) = off + j from by omega] at this
  · have hold : (Builtin.firstCells 1 n (.slice A n c)).run P w.drew = .ok xs.toArray w.drew := by
      rcases h.slOpen with ⟨rfl, rfl, rfl, rfl, hF⟩ | ⟨b, off, cells, rfl, hcs, hx, hs⟩
      · exact run_firstCells_none w.drew 1 0 0 0
      · exact run_firstCells_some w.drew 1 n ⟨b, off, none⟩ n c xs hlen.1 (fun j u hu => by rw [add_lit']; have := hs.drew.cell (off + j); rw [this]; exact hx j u hu)
    have hm0 : ¬ m = 0 := by have := hlen.2.1; omega
    have h63' : ¬ (9223372036854775807 < ((n : Int) + (m : Int))) := by omega
    have hg : c < n + m := by omega
    have h48' : ¬ (281474976710656 < Builtin.nextslicecap (n + m) c * i.bytes) := by
      have := growslice_fits (bytes := bytes) hg hby
      rw [hb]; omega
    have hrun : (Builtin.append_ #[t, tn] ty #[.slice A n c, .int k m]).run P w = .ok (.slice (some ⟨w.heap.size, 0, none⟩) (n + m) (grownCap w (n + m) c e)) (w.drew.alloc (.cells (xs.toArray ++ (List.replicate m zv).toArray ++ (List.replicate (grownCap w (n + m) c e - (n + m)) zv).toArray) e)) := by
      simp [Builtin.append_, run_underlying ht, run_underlying htn, sizeOf, typeInfo, zeroValue, hi, hz, asInt, asIntOf, hw, hneg, h48i, hroom, hsz, hm0, h63', h48', hold, hzc, zeroCells_one, Question.forced, newRow, grownCap]
    refine ⟨_, _, _, hrun, ?_⟩
    have hge := grownCap_ge w (n + m) c e
    have hcm : grownCap w (n + m) c e ≤ maxLen := grownCap_le_maxLen w (n + m) c e h63
    have hl1 : xs.length = n := by rw [hlen.1, Nat.mul_one]
    have hF := h.right.drew
    refine Sat.slMk (hF.alloc _ e) (by simp [hl1]) hge hcm (by simp [hl1]; omega) fun j u hu => ?_
    rw [Nat.zero_add]
    have hj : j < (xs ++ List.replicate m zv).length := (List.getElem?_eq_some_iff.1 hu).1
    simp only [List.append_toArray, List.getElem?_toArray]
    rw [List.getElem?_append_left hj]
    exact hu
end
end Go.Proofs.Ytdfidijlconhnaa
