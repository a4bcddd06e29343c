/- Slices of whole numbers that may be read as long as something stays. Nothing of the program is named here. -/
import Derived.Test.YtdfidijlconhnaaSlApp
namespace Go.Proofs.Ytdfidijlconhnaa
open Go.RowKit Asn
theorem getD_lt {L : List Int} {j : Nat} (h : j < L.length) : L.getD j 0 = L[j] := by simp [List.getD, h]
/-- A slice of whole numbers that may be read as long as F stays. -/
structure RS (F : Asn) (A : Option Addr) (n c : Nat) (L : List Int) : Prop where
  rd : rd F 1 A n (ints L)
  cap : n ≤ c
  nil : A = none → c = 0
  max : c ≤ maxLen
theorem Sat.slNone {E w : World} {F : Asn} {e z n c : Nat} {A : Option Addr} {xs : List Value} (h : Sat E w (sl e z A n c xs * F)) (hA : A = none) : c = 0 := by
  rcases h.slOpen with ⟨_, _, hc, _⟩ | ⟨b, off, cells, h2, _⟩
  · exact hc
  · rw [hA] at h2; cases h2
theorem RS.none_ (F : Asn) : RS F none 0 0 [] := ⟨rd.nil _ _ _, Nat.le_refl _, fun _ => rfl, Nat.zero_le _⟩
theorem RS.left {F G : Asn} {A : Option Addr} {n c : Nat} {L : List Int} (h : RS F A n c L) : RS (F * G) A n c L := ⟨h.rd.left, h.cap, h.nil, h.max⟩
theorem RS.right {F G : Asn} {A : Option Addr} {n c : Nat} {L : List Int} (h : RS F A n c L) : RS (G * F) A n c L := ⟨h.rd.right, h.cap, h.nil, h.max⟩
theorem Sat.slRS {E w : World} {F : Asn} {e n c : Nat} {A : Option Addr} {L : List Int} (h : Sat E w (sl e 1 A n c (ints L) * F)) : RS (sl e 1 A n c (ints L)) A n c L := ⟨rd_sl, h.slLen.2.1, h.slNone, h.slLen.2.2⟩
theorem RS.len {F : Asn} {E w : World} {A : Option Addr} {n c : Nat} {L : List Int} (h : RS F A n c L) (hs : Sat E w F) : L.length = n := h.rd.ints_len hs

/-- The rest of a row that may be read. -/
theorem RS.tail {X : Asn} {ad : Addr} {n c : Nat} {x : Int} {l : List Int} (h : RS X (some ad) n c (x :: l)) (hn : 0 < n) {B : Option Addr} (hB : B = if c = 1 then some ad else some (ad.add 1)) : RS X B (n - 1) (c - 1) l :=
  ⟨by have := h.rd.intsRest (q := 1) (B := B) (by omega) h.cap hB; simpa using this, by have := h.cap; omega, (fun h2 => by rw [h2] at hB; split at hB <;> cases hB), by have := h.max; unfold maxLen at *; omega⟩
end Go.Proofs.Ytdfidijlconhnaa
