/- TombEver's plain law: what is closed stays so. -/
import Derived.Test.YtcagfcflffhadaaTombA
namespace Go.Proofs.Ytcagfcflffhadaa
open Go.RowKit Asn
theorem srt_len (b : Int) : ∀ (L : List Int) (a : Int), L.Pairwise (· < ·) → (∀ x ∈ L, a ≤ x ∧ x < b) → a ≤ b → (L.length : Int) ≤ b - a
  | [], a, _, _, h => by simp; omega
  | x :: l, a, hs, hL, h => by
    rw [List.pairwise_cons] at hs
    have hx := hL x List.mem_cons_self
    have := srt_len b l (x + 1) hs.2 (fun y hy => ⟨by have := hs.1 y hy; omega, (hL y (List.mem_cons_of_mem _ hy)).2⟩) (by omega)
    rw [List.length_cons]
    omega
section
variable {sz ba : Nat} {V : Nat → Nat} {L : List Int}
theorem TInv.above (h : TInv sz ba V L) : ∀ x ∈ L, (ba : Int) + 1 ≤ x ∧ x < ba + sz := by
  intro x hx
  have hw := h.r.win x hx
  refine ⟨?_, hw.2.1⟩
  have hs := h.r.srt
  match L, hx, hs, h.hd with
  | y :: l, hx, hs, hd =>
    have hy := hd y l rfl
    have hyw := h.r.win
    rw [List.pairwise_cons] at hs
    rcases List.mem_cons.1 hx with rfl | hx
    · omega
    · have := hs.1 x hx
      have := (hyw y List.mem_cons_self).1
      omega
theorem TInv.few (h : TInv sz ba V L) : L.length < sz := by
  have := srt_len (ba + sz) L (ba + 1) h.r.srt h.above (by have := h.r.one; omega)
  have := h.r.one
  omega
theorem TInv.floorNot (h : TInv sz ba V L) : closedR ba L ba = false := decide_eq_false fun c => by
  rcases c.2 with c | c
  · omega
  · have := h.above _ c; omega
theorem TInv.floorMay (h : TInv sz ba V L) (hb : ba ≤ 1073741824) : mayR sz ba L ba = true := decide_eq_true ⟨Int.le_refl _, by have := h.r.one; omega, by omega, fun c => by have := h.above _ c; omega⟩
theorem may_not {x : Int} (h : closedR ba L x = true) : mayR sz ba L x = false := by
  have := of_decide_eq_true h
  exact decide_eq_false fun c => by
    rcases this.2 with d | d
    · omega
    · exact c.2.2.2 d
theorem advR_closed : ∀ (L : List Int) (ba : Int) (x : Int), (x < ba ∨ x ∈ L) → x < (advR L ba).2 ∨ x ∈ (advR L ba).1
  | [], ba, x, h => h
  | y :: m, ba, x, h => by
    unfold advR
    by_cases hy : y = ba
    · rw [if_pos hy]
      refine advR_closed m (ba + 1) x ?_
      rcases h with h | h
      · exact .inl (by omega)
      · rcases List.mem_cons.1 h with rfl | h
        · exact .inl (by omega)
        · exact .inr h
    · rw [if_neg hy]; exact h
theorem advR_len : ∀ (L : List Int) (ba : Int), (advR L ba).2 + (advR L ba).1.length = ba + L.length
  | [], ba => rfl
  | y :: m, ba => by
    unfold advR
    by_cases hy : y = ba
    · rw [if_pos hy, advR_len m (ba + 1), List.length_cons]; omega
    · rw [if_neg hy]
/-- Close, of a number within the span: no error; what was closed is so; the number is. -/
theorem closeR_ever (n : Int) (h1 : 1 ≤ n) (h2 : n ≤ 1073741824) (h3 : n < ba + sz) (b2 : Nat) (hb : (closeR sz ba L n).1.2 = b2) :
    (closeR sz ba L n).2.2 = 0 ∧ (∀ x, closedR ba L x = true → closedR b2 (closeR sz ba L n).1.1 x = true) ∧ closedR b2 (closeR sz ba L n).1.1 n = true ∧ b2 + (closeR sz ba L n).1.1.length ≤ ba + L.length + 1 := by
  unfold closeR at hb ⊢
  rw [if_neg (by omega)] at hb ⊢
  by_cases c : n < ba ∨ n ∈ L
  · rw [if_pos c] at hb ⊢
    have hb : (ba : Int) = b2 := hb
    obtain rfl : b2 = ba := by omega
    exact ⟨rfl, fun x h => h, decide_eq_true ⟨h1, c⟩, Nat.le_succ _⟩
  · rw [if_neg c] at hb ⊢
    have hb : (advR (insR L n) ba).2 = b2 := hb
    have hl := advR_len (insR L n) ba
    rw [hb, len_insR] at hl
    refine ⟨rfl, fun x h => ?_, ?_, ?_⟩
    · obtain ⟨a1, a2⟩ := of_decide_eq_true h
      have := advR_closed (insR L n) ba x (a2.imp id fun h => (mem_insR L n x).2 (.inr h))
      rw [hb] at this
      exact decide_eq_true ⟨a1, this⟩
    · have := advR_closed (insR L n) ba n (.inr ((mem_insR L n n).2 (.inl rfl)))
      rw [hb] at this
      exact decide_eq_true ⟨h1, this⟩
    · show b2 + (advR (insR L n) ba).1.length ≤ _
      omega
theorem closeR_ok (n : Int) (h1 : 1 ≤ n) (h2 : n ≤ 1073741824) (h3 : n < ba + sz) : (closeR sz ba L n).2.2 = 0 := by
  unfold closeR
  rw [if_neg (by omega)]
  split <;> rfl
end
end Go.Proofs.Ytcagfcflffhadaa
