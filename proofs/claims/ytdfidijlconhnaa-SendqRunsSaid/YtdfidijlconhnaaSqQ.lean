/- The queue of pieces: Ack against all that ever came. -/
import Derived.Test.YtdfidijlconhnaaSqR
namespace Go.Proofs.Ytdfidijlconhnaa
open Go.RowKit Asn
/-- The same piece, whether acknowledged or not. -/
def sameHR (h h' : HR) : Prop := h'.a = h.a ∧ h'.n = h.n ∧ h'.c = h.c ∧ h'.e = h.e ∧ h'.f = h.f
/-- H' are H's, from a later place on. -/
def partOf (H H' : List HR) (k : Nat) : Prop := ∀ (i : Nat) (h' : HR), H'[i]? = some h' → ∃ h, H[k + i]? = some h ∧ sameHR h h'
theorem partOf_ack (H : List HR) (i k : Nat) : partOf H ((ackAt H i).drop k) k := by
  intro j h' hj
  rw [List.getElem?_drop] at hj
  unfold ackAt at hj
  cases e : H[i]? with
  | none => rw [e] at hj; exact ⟨h', hj, rfl, rfl, rfl, rfl, rfl⟩
  | some x =>
    rw [e] at hj
    dsimp only at hj
    rw [List.getElem?_set] at hj
    by_cases hik : i = k + j
    · subst hik
      rw [if_pos rfl] at hj
      split at hj
      · have hj := Option.some.inj hj
        subst hj
        exact ⟨x, e, rfl, rfl, rfl, rfl, rfl⟩
      · cases hj
    · rw [if_neg hik] at hj
      exact ⟨h', hj, rfl, rfl, rfl, rfl, rfl⟩
def AckQ (E : World) (F : Asn) (g most low next : Nat) (ak : List Bool) (H : List HR) (row : List Int) (B : Option Addr) (seq : Int) (e : Ending) (w' : World) : Prop :=
  e = .returned (.bool true) ∧ ∃ (low2 : Nat) (H2 : List HR) (A2 : Option Addr) (c2 d2 : Nat), low ≤ low2 ∧ QI (ak.set seq.toNat true) low2 next H2 ∧ partOf H H2 (low2 - low) ∧ Sat E w' (QAt g most low2 next H2 (row.filter fun y => decide (y ≠ seq)) A2 c2 B d2 * F)
section
variable {E w : World} {F : Asn} {g most low next : Nat} {ak : List Bool} {H : List HR} {row : List Int} {A B : Option Addr} {c d : Nat}
theorem ack_no {seq : Int} (hs : Sat E w (QAt g most low next H row A c B d * F)) (q : QI ak low next H) (h1 : 1 ≤ most) (hb : ak.length ≤ 60000) (hx : -9223372036854775808 ≤ seq ∧ seq ≤ 9223372036854775807) (hno : lacksD ak next seq = false) :
    Calls Try.prog 14 #[.pointer (some ⟨g, 0, none⟩), .int .i64 seq] w fun e w' => e = .returned (.bool false) ∧ Sat E w' (QAt g most low next H row A c B d * F) := by
  have := q.len; have := q.nx; have := q.lo
  exact sq_ack_no hs h1 (by omega) (by omega) (by omega) hx (by rw [q.lacks]; exact hno)
theorem ack_yes {seq : Int} (hs : Sat E w (QAt g most low next H row A c B d * F)) (q : QI ak low next H) (h1 : 1 ≤ most) (hb : ak.length ≤ 60000) (hr : row.length ≤ 60000) (hyes : lacksD ak next seq = true) :
    Calls Try.prog 14 #[.pointer (some ⟨g, 0, none⟩), .int .i64 seq] w (AckQ E F g most low next ak H row B seq) := by
  have hlen := q.len; have hnx := q.nx; have hlo := q.lo
  unfold lacksD at hyes
  simp only [Bool.and_eq_true, decide_eq_true_eq, Bool.not_eq_true'] at hyes
  obtain ⟨⟨s1, s2⟩, s3⟩ := hyes
  have hge : low ≤ seq.toNat := by
    rcases Nat.lt_or_ge seq.toNat low with h | h
    · rw [q.ack _ h] at s3; cases s3
    · exact h
  obtain ⟨i, hi⟩ : ∃ i : Nat, seq = (low : Int) + i := ⟨seq.toNat - low, by omega⟩
  have hil : i < H.length := by omega
  have hhi := List.getElem?_eq_getElem hil
  have hk := q.at_ hhi
  have e : seq.toNat = low + i := by omega
  rw [e] at s3
  rw [s3] at hk
  have hq := q.ackd (i := i) (by omega)
  subst hi
  refine (sq_ack hs h1 (by omega) (by omega) (by omega) hr hhi hk (by omega)).mono ?_
  rintro e2 w' ⟨rfl, A2, c2, d2, hs2⟩
  refine ⟨rfl, _, _, A2, c2, d2, (headN_bd low next _ hlo).1, ?_, partOf_ack H i _, hs2⟩
  rw [e]; exact hq
end
end Go.Proofs.Ytdfidijlconhnaa
