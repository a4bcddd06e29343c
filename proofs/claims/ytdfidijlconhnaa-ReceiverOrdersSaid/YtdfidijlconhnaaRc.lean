/- The receiver: its packets, its cells; what its small functions answer. -/
import Derived.Test.YtdfidijlconhnaaProg
import Derived.Test.YtdfidijlconhnaaMapI
import Derived.Test.YtdfidijlconhnaaRangeM
import Derived.Test.YtdfidijlconhnaaRegB
import Derived.Test.YtdfidijlconhnaaBitN
import Derived.Test.YtdfidijlconhnaaBitR
import Derived.Test.YtdfidijlconhnaaJoinFork
namespace Go.Proofs.Ytdfidijlconhnaa
open Go.RowKit Asn
attribute [local go_sem] Oper.semAt_some

/-- A packet, and where its payload lies. -/
structure Pk where
  kind : Int
  fl : Int
  pa : Int
  src : Int
  dst : Int
  co : Int
  q : Int
  pu : Int
  A : Option Addr
  n : Nat
  c : Nat
  b : List UInt8
def Pk.cells (p : Pk) : Array Value := #[.int .i64 p.kind, .int .i64 p.fl, .int .i64 p.pa, .int .i64 p.src, .int .i64 p.dst, .int .i64 p.co, .int .i64 p.q, .int .i64 p.pu, .slice p.A p.n p.c]
def Pk.val (p : Pk) : Value := .agg p.cells
def rowsP (L : List Pk) : List (Int × Value) := L.map fun p => (p.q, p.val)
def noPk : Pk := ⟨0, 0, 0, 0, 0, 0, 0, 0, none, 0, 0, []⟩
/-- The packet at a number. -/
def getP (L : List Pk) (k : Int) : Option Pk := L.find? fun p => decide (p.q = k)
theorem mget_rows (L : List Pk) (k : Int) : mget (rowsP L) k = (getP L k).map Pk.val := by
  unfold mget rowsP getP
  rw [List.find?_map]
  cases h : L.find? ((fun y : Int × Value => decide (y.1 = k)) ∘ fun p : Pk => (p.q, p.val)) with
  | none => rw [show (fun p : Pk => decide (p.q = k)) = ((fun y : Int × Value => decide (y.1 = k)) ∘ fun p : Pk => (p.q, p.val)) from rfl, h]; rfl
  | some p => rw [show (fun p : Pk => decide (p.q = k)) = ((fun y : Int × Value => decide (y.1 = k)) ∘ fun p : Pk => (p.q, p.val)) from rfl, h]; rfl
def delP (L : List Pk) (k : Int) : List Pk := L.eraseP fun p => decide (p.q = k)
theorem mdel_rows (L : List Pk) (k : Int) : mdel (rowsP L) k = rowsP (delP L k) := by
  unfold mdel rowsP delP
  induction L with
  | nil => rfl
  | cons p L ih =>
    rw [List.map_cons, List.eraseP_cons, List.eraseP_cons]
    by_cases h : p.q = k
    · simp [h]
    · simp only [h, decide_false, cond_false, Bool.false_eq_true, if_false, List.map_cons]
      rw [← ih]

/-- What of a receiver stays. -/
structure RcK where
  bb : Nat
  jb : Nat
  mb : Nat
  src : Int
  dst : Int
  co : Int
  cls : Int
  paths : Int
  win : Nat
/-- Its own cells. -/
def rcC (k : RcK) (next arrived issued pending : Nat) (done : Bool) : Array Value := #[.pointer (some ⟨k.bb, 0, none⟩), .pointer (some ⟨k.jb, 0, none⟩), .map (some k.mb), .int .i64 k.src, .int .i64 k.dst, .int .i64 k.co, .int .i64 k.cls, .int .i64 k.paths, .int .i64 k.win,
  .int .i64 next, .int .i64 arrived, .int .i64 issued, .int .i64 pending, .bool done]
def RcB (g : Nat) (k : RcK) (next arrived issued pending : Nat) (done : Bool) : Asn := Asn.blk g 119 (rcC k next arrived issued pending done)

theorem rc_none (w : World) (g bb : Nat) (h : w.cell? ⟨g, 0, none⟩ = some (.pointer (some ⟨bb, 0, none⟩))) : Calls Try.prog 73 #[.pointer (some ⟨g, 0, none⟩)] w fun e w' => e = .returned (.bool false) ∧ w = w' := by
  go_enter Try.func73, Try.ntmps73
  go_wp2_with fail
  go_ret
  exact ⟨rfl, rfl⟩
theorem rc_nil (w : World) : Calls Try.prog 73 #[.pointer none] w fun e w' => e = .returned (.bool true) ∧ w = w' := by
  go_enter Try.func73, Try.ntmps73
  go_wp2_with fail
  go_ret
  exact ⟨rfl, rfl⟩
theorem rc_unmade (w : World) (g : Nat) (h : w.cell? ⟨g, 0, none⟩ = some (.pointer none)) : Calls Try.prog 73 #[.pointer (some ⟨g, 0, none⟩)] w fun e w' => e = .returned (.bool true) ∧ w = w' := by
  go_enter Try.func73, Try.ntmps73
  go_wp2_with fail
  go_ret
  exact ⟨rfl, rfl⟩
theorem in_call (w : World) (n a b : Int) : Calls Try.prog 70 #[.int .i64 n, .int .i64 a, .int .i64 b] w fun e w' => e = .returned (.bool (decide (a ≤ n ∧ n ≤ b))) ∧ w = w' := by
  by_cases h1 : a ≤ n
  · by_cases h2 : n ≤ b
    · rw [decide_eq_true ⟨h1, h2⟩]
      go_enter Try.func70, Try.ntmps70
      go_wp2_with fail
      go_ret
      exact ⟨rfl, rfl⟩
    · rw [decide_eq_false (fun h => h2 h.2)]
      go_enter Try.func70, Try.ntmps70
      go_wp2_with fail
      go_ret
      exact ⟨rfl, rfl⟩
  · rw [decide_eq_false (fun h => h1 h.1)]
    go_enter Try.func70, Try.ntmps70
    go_wp2_with fail
    go_ret
    exact ⟨rfl, rfl⟩
/-- Is a flag among some? -/
def hasF (fl : Int) (i : Nat) : Bool := decide (0 ≤ fl) && fl.toNat.testBit i
theorem bits_and63 {a b : Nat} (ha : a < 2 ^ 63) (hb : b < 2 ^ 63) : bits .and .i64 a b = ((a &&& b : Nat) : Int) :=
  (bits_nat .i64 63 (by decide) (fun n h0 h1 => by rw [IntKind.wrap_i64]; omega) a b ha hb).1
theorem has_flag (w : World) (fl : Int) (i : Nat) (hi : i < 62) (hf : fl ≤ 9223372036854775807) : Calls Try.prog 74 #[.int .i64 fl, .int .i64 ((2 ^ i : Nat) : Int)] w fun e w' => e = .returned (.bool (hasF fl i)) ∧ w = w' := by
  unfold hasF
  by_cases h1 : 0 ≤ fl
  · obtain ⟨a, rfl⟩ := Int.eq_ofNat_of_zero_le h1
    have hp : 2 ^ i < 2 ^ 63 := Nat.pow_lt_pow_right (by decide) (by omega)
    have hb := bits_and63 (a := a) (b := 2 ^ i) (by omega) hp
    obtain ⟨f, hf⟩ : ∃ f, f = 2 ^ i := ⟨_, rfl⟩
    have ht : (a &&& f = 0) ↔ a.testBit i = false := by rw [hf]; exact and_bit a i
    rw [← hf] at hb ⊢
    rw [decide_eq_true h1, Bool.true_and, Int.toNat_natCast]
    obtain ⟨x, hx⟩ : ∃ x, x = a &&& f := ⟨_, rfl⟩
    rw [← hx] at ht hb
    cases hc : a.testBit i with
    | false =>
      have h0 := ht.2 hc
      rw [h0] at hb
      have HB := Lib.hid hb
      clear hb hx h0 ht hf hp hc
      go_enter Try.func74, Try.ntmps74
      go_wp2_with fail
      simp only [HB.out]
      go_wp2_with fail
      go_ret
      exact ⟨rfl, rfl⟩
    | true =>
      have h0 : 0 < x := by
        rcases Nat.eq_zero_or_pos x with h | h
        · rw [ht.1 h] at hc; cases hc
        · exact h
      have hz : ((x : Int) != 0) = true := by simp; omega
      have HB := Lib.hid hb
      clear hb hx ht hf hp hc
      go_enter Try.func74, Try.ntmps74
      go_wp2_with fail
      simp only [HB.out]
      go_wp2_with fail
      go_ret
      exact ⟨by simp; omega, rfl⟩
  · rw [decide_eq_false h1, Bool.false_and]
    go_enter Try.func74, Try.ntmps74
    go_wp2_with fail
    go_ret
    exact ⟨rfl, rfl⟩
end Go.Proofs.Ytdfidijlconhnaa
