/- Packets and settings among a law's arguments. -/
import Derived.Test.YtdfidijlconhnaaRcM
import Derived.Test.YtdfidijlconhnaaArg
namespace Go.Proofs.Ytdfidijlconhnaa
open Go.RowKit Asn Go.ChangeShapes Go.WideShapes Go.Deep
section
variable {H : Type} {enc : TypeId × Value → H} {W : World} {base : Nat} {spare : Nat → Bool} {held : Bool}
/-- Cells that read as a packet. -/
theorem trods_packet {cs : List Value} (h : Trods enc Try.prog W base spare held 79 cs) :
    ∃ p : Pk, cs = p.cells.toList ∧ RdW W p.A p.n 1 (bytes p.b) ∧ p.n ≤ p.c ∧ p.c ≤ maxLen ∧ (p.A = none → p.c = 0) ∧ (-9223372036854775808 ≤ p.kind ∧ p.kind ≤ 9223372036854775807) ∧ (-9223372036854775808 ≤ p.fl ∧ p.fl ≤ 9223372036854775807) ∧
      (-9223372036854775808 ≤ p.q ∧ p.q ≤ 9223372036854775807) := by
  obtain ⟨hl, hf⟩ := h.struct Try.underlying79
  have hz : Try.prog.cellsOf 79 = 9 := by kernel_rfl
  rw [hz] at hl
  obtain ⟨v0, e0, t0⟩ := Trods.fld1 (by kernel_rfl) (by rw [hl]; decide) (hf 0 _ rfl)
  obtain ⟨v1, e1, t1⟩ := Trods.fld1 (by kernel_rfl) (by rw [hl]; decide) (hf 1 _ rfl)
  obtain ⟨v2, e2, t2⟩ := Trods.fld1 (by kernel_rfl) (by rw [hl]; decide) (hf 2 _ rfl)
  obtain ⟨v3, e3, t3⟩ := Trods.fld1 (by kernel_rfl) (by rw [hl]; decide) (hf 3 _ rfl)
  obtain ⟨v4, e4, t4⟩ := Trods.fld1 (by kernel_rfl) (by rw [hl]; decide) (hf 4 _ rfl)
  obtain ⟨v5, e5, t5⟩ := Trods.fld1 (by kernel_rfl) (by rw [hl]; decide) (hf 5 _ rfl)
  obtain ⟨v6, e6, t6⟩ := Trods.fld1 (by kernel_rfl) (by rw [hl]; decide) (hf 6 _ rfl)
  obtain ⟨v7, e7, t7⟩ := Trods.fld1 (by kernel_rfl) (by rw [hl]; decide) (hf 7 _ rfl)
  obtain ⟨v8, e8, t8⟩ := Trods.fld1 (by kernel_rfl) (by rw [hl]; decide) (hf 8 _ rfl)
  obtain ⟨x0, rfl, w0⟩ := t0.int Try.underlying77
  obtain ⟨x1, rfl, w1⟩ := t1.int Try.underlying3
  obtain ⟨x2, rfl, w2⟩ := t2.int Try.underlying3
  obtain ⟨x3, rfl, w3⟩ := t3.int Try.underlying3
  obtain ⟨x4, rfl, w4⟩ := t4.int Try.underlying3
  obtain ⟨x5, rfl, w5⟩ := t5.int Try.underlying3
  obtain ⟨x6, rfl, w6⟩ := t6.int Try.underlying3
  obtain ⟨x7, rfl, w7⟩ := t7.int Try.underlying3
  obtain ⟨A, n, c, b, h8, hn, hc, hA, hr⟩ := t8.bytes Try.underlying22 Try.underlying5 (by kernel_rfl)
  obtain rfl : v8 = .slice A n c := by simpa using h8
  refine ⟨⟨x0, x1, x2, x3, x4, x5, x6, x7, A, n, c, b⟩, ?_, hr, hn, hc, hA, wf_i64 w0, wf_i64 w1, wf_i64 w6⟩
  unfold Pk.cells
  dsimp only
  apply List.ext_getElem?
  intro i
  by_cases hi : i < 9
  · rcases (by omega : i = 0 ∨ i = 1 ∨ i = 2 ∨ i = 3 ∨ i = 4 ∨ i = 5 ∨ i = 6 ∨ i = 7 ∨ i = 8) with rfl | rfl | rfl | rfl | rfl | rfl | rfl | rfl | rfl
    · exact e0
    · exact e1
    · exact e2
    · exact e3
    · exact e4
    · exact e5
    · exact e6
    · exact e7
    · exact e8
  · rw [List.getElem?_eq_none (by omega), List.getElem?_eq_none (by simp; omega)]
/-- .. a packet that is handed over. -/
theorem packet_of {cs : Array Value} (h : Trods enc Try.prog W base spare held 79 (Value.agg cs).cells.toList) : ∃ p : Pk, (Value.agg cs) = p.val := by
  obtain ⟨p, hp, _⟩ := trods_packet (show Trods enc Try.prog W base spare held 79 cs.toList from h)
  exact ⟨p, by unfold Pk.val; rw [Array.toList_inj.1 hp]⟩
end
end Go.Proofs.Ytdfidijlconhnaa
