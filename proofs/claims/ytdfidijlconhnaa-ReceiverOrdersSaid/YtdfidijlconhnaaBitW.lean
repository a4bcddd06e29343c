/- Words of bits: one bit asked, set, cleared. Nothing of the program is named here. -/
import Derived.Test.YtdfidijlconhnaaSlOps
import Derived.Laws.BitsLemmas
namespace Go.Proofs.Ytdfidijlconhnaa
open Go.RowKit

theorem u64_small {n : Nat} (h : n < 2 ^ 64) : IntKind.u64.wrap (n : Int) = n := by rw [IntKind.wrap_u64]; omega
theorem bits_and64 {a b : Nat} (ha : a < 2 ^ 64) (hb : b < 2 ^ 64) : bits .and .u64 a b = ((a &&& b : Nat) : Int) :=
  (bits_nat .u64 64 (by decide) (fun n h0 h1 => by rw [IntKind.wrap_u64]; omega) a b ha hb).1
theorem bits_or64 {a b : Nat} (ha : a < 2 ^ 64) (hb : b < 2 ^ 64) : bits .or .u64 a b = ((a ||| b : Nat) : Int) :=
  (bits_nat .u64 64 (by decide) (fun n h0 h1 => by rw [IntKind.wrap_u64]; omega) a b ha hb).2
/-- a without b's bits. -/
def offBits (a b : Nat) : Nat := (BitVec.ofNat 64 a &&& ~~~ BitVec.ofNat 64 b).toNat
theorem offBits_lt (a b : Nat) : offBits a b < 2 ^ 64 := BitVec.isLt _
theorem bits_off64 {a b : Nat} : bits .andNot .u64 a b = ((offBits a b : Nat) : Int) := by
  unfold offBits
  simp only [bits, BitVec.ofInt_natCast]
  exact u64_small (BitVec.isLt _)
theorem testBit_off {a b i : Nat} (hi : i < 64) : (offBits a b).testBit i = (a.testBit i && !b.testBit i) := by
  unfold offBits
  rw [← BitVec.getLsbD, BitVec.getLsbD_and, BitVec.getLsbD_not]
  simp only [BitVec.getLsbD_ofNat, hi, decide_true, Bool.true_and]
theorem and_bit (a i : Nat) : (a &&& 2 ^ i = 0) ↔ a.testBit i = false := by
  constructor
  · intro h
    have := congrArg (·.testBit i) h
    simpa [Nat.testBit_and, Nat.testBit_two_pow] using this
  · intro h
    apply Nat.eq_of_testBit_eq
    intro j
    rw [Nat.testBit_and, Nat.testBit_two_pow, Nat.zero_testBit]
    by_cases hij : i = j
    · subst hij; rw [h]; rfl
    · rw [decide_eq_false hij, Bool.and_false]
theorem or_bit (a i j : Nat) : (a ||| 2 ^ i).testBit j = (a.testBit j || decide (i = j)) := by rw [Nat.testBit_or, Nat.testBit_two_pow]
theorem off_bit {a i j : Nat} (hj : j < 64) : (offBits a (2 ^ i)).testBit j = (a.testBit j && !decide (i = j)) := by rw [testBit_off hj, Nat.testBit_two_pow]

/-- Four words, as one window of 256 bits. -/
def bitAt (V : Nat → Nat) (n : Nat) : Bool := (V (n % 256 / 64)).testBit (n % 256 % 64)
def putW (V : Nat → Nat) (w x : Nat) : Nat → Nat := fun k => if k = w then x else V k
def onBit (V : Nat → Nat) (n : Nat) : Nat → Nat := putW V (n % 256 / 64) (V (n % 256 / 64) ||| 2 ^ (n % 256 % 64))
def clrBit (V : Nat → Nat) (n : Nat) : Nat → Nat := putW V (n % 256 / 64) (offBits (V (n % 256 / 64)) (2 ^ (n % 256 % 64)))
theorem bitAt_on (V : Nat → Nat) (n m : Nat) : bitAt (onBit V n) m = (bitAt V m || decide (m % 256 = n % 256)) := by
  unfold bitAt onBit putW
  by_cases h : m % 256 / 64 = n % 256 / 64
  · rw [if_pos h, or_bit, ← h]
    congr 1
    by_cases h2 : m % 256 = n % 256
    · rw [decide_eq_true h2, decide_eq_true (by rw [h2])]
    · rw [decide_eq_false h2, decide_eq_false (by omega)]
  · rw [if_neg h, decide_eq_false (by omega), Bool.or_false]
theorem bitAt_clr (V : Nat → Nat) (n m : Nat) : bitAt (clrBit V n) m = (bitAt V m && !decide (m % 256 = n % 256)) := by
  unfold bitAt clrBit putW
  by_cases h : m % 256 / 64 = n % 256 / 64
  · rw [if_pos h, off_bit (by omega), ← h]
    congr 2
    by_cases h2 : m % 256 = n % 256
    · rw [decide_eq_true h2, decide_eq_true (by rw [h2])]
    · rw [decide_eq_false h2, decide_eq_false (by omega)]
  · rw [if_neg h, decide_eq_false (by omega), Bool.not_false, Bool.and_true]
def Small (V : Nat → Nat) : Prop := ∀ k, V k < 2 ^ 64
theorem Small.on {V : Nat → Nat} (h : Small V) (n : Nat) : Small (onBit V n) := by
  intro k
  unfold onBit putW
  split
  · exact Nat.or_lt_two_pow (h _) (Nat.pow_lt_pow_right (by decide) (by omega))
  · exact h k
theorem Small.clr {V : Nat → Nat} (h : Small V) (n : Nat) : Small (clrBit V n) := by
  intro k
  unfold clrBit putW
  split
  · exact offBits_lt _ _
  · exact h k
end Go.Proofs.Ytdfidijlconhnaa
