/- The program's bitmap: what its functions do to one that is owned. -/
import Derived.Test.YtdfidijlconhnaaProg
import Derived.Test.YtdfidijlconhnaaBitW
import Derived.Test.YtdfidijlconhnaaRange
import Derived.Test.YtdfidijlconhnaaReg
import Derived.Deep.DeepCutAuto
import Derived.Deep.CutBlock
namespace Go.Proofs.Ytdfidijlconhnaa
open Go.RowKit Asn

/-- A bitmap at block g: its words, its size, its base. -/
def BitAt (g : Nat) (V : Nat → Nat) (sz ba : Nat) : Asn := Asn.blk g 162 #[.int .u64 (V 0), .int .u64 (V 1), .int .u64 (V 2), .int .u64 (V 3), .int .i64 sz, .int .i64 ba]

theorem place_call (w : World) (n : Nat) (hn : n ≤ 9223372036854775807) : Calls Try.prog 97 #[.int .i64 n] w fun e w' => e = .returned (.tuple #[.int .i64 (n % 256 / 64 : Nat), .int .u64 (2 ^ (n % 256 % 64) : Nat)]) ∧ w = w' := by
  go_enter Try.func97, Try.ntmps97
  go_wp2_with fail
  have h1 : (n : Int) % 256 / 64 = ((n % 256 / 64 : Nat) : Int) := by omega
  have h2 : IntKind.u64.wrap ((2 : Int) ^ (n % 64)) = ((2 ^ (n % 256 % 64) : Nat) : Int) := by
    have e : n % 256 % 64 = n % 64 := by omega
    rw [e]
    have := u64_small (n := 2 ^ (n % 64)) (Nat.pow_lt_pow_right (by decide) (by omega))
    rw [← this]
    congr 1
  rw [h1, h2]
  go_ret2
  exact ⟨rfl, rfl⟩
theorem bit_none (w : World) (g : Nat) (n : Int) (h : w.cell? ⟨g, 4, none⟩ = some (.int .i64 n)) : Calls Try.prog 96 #[.pointer (some ⟨g, 0, none⟩)] w fun e w' => e = .returned (.bool (n == 0)) ∧ w = w' := by
  go_enter Try.func96, Try.ntmps96
  go_wp2_with fail
  go_ret
  exact ⟨rfl, rfl⟩
theorem bit_nil (w : World) : Calls Try.prog 96 #[.pointer none] w fun e w' => e = .returned (.bool true) ∧ w = w' := by
  go_enter Try.func96, Try.ntmps96
  go_wp2_with fail
  go_ret
  exact ⟨rfl, rfl⟩

theorem BitAt.word {E w : World} {F : Asn} {g : Nat} {V : Nat → Nat} {sz ba : Nat} (h : Sat E w (BitAt g V sz ba * F)) (k : Nat) (hk : k < 4) : w.cell? ⟨g, k, none⟩ = some (.int .u64 (V k)) := by
  rcases (by omega : k = 0 ∨ k = 1 ∨ k = 2 ∨ k = 3) with rfl | rfl | rfl | rfl
  · exact h.cell 0
  · exact h.cell 1
  · exact h.cell 2
  · exact h.cell 3
theorem BitAt.put {E w : World} {F : Asn} {g : Nat} {V : Nat → Nat} {sz ba : Nat} (h : Sat E w (BitAt g V sz ba * F)) (k x : Nat) (hk : k < 4) : Sat E (w.setCell ⟨g, k, none⟩ (.int .u64 x)) (BitAt g (putW V k x) sz ba * F) := by
  rcases (by omega : k = 0 ∨ k = 1 ∨ k = 2 ∨ k = 3) with rfl | rfl | rfl | rfl
  · exact h.set 0 _
  · exact h.set 1 _
  · exact h.set 2 _
  · exact h.set 3 _
/-- within, whose order is open: the world is drawn from, nothing else. -/
theorem within_call (w : World) (g : Nat) (sz ba : Nat) (n : Int) (hs : sz ≤ 256) (hb : ba ≤ 1152921504606846977) (hn : -9223372036854775808 ≤ n ∧ n ≤ 9223372036854775807)
    (h4 : ∀ m, (w.drewN m).cell? ⟨g, 4, none⟩ = some (.int .i64 sz)) (h5 : ∀ m, (w.drewN m).cell? ⟨g, 5, none⟩ = some (.int .i64 ba)) :
    Calls Try.prog 98 #[.pointer (some ⟨g, 0, none⟩), .int .i64 n] w fun e w' => e = .returned (.bool (decide ((ba : Int) ≤ n ∧ n - ba < sz ∧ n ≤ 1152921504606846976))) ∧ ∃ m, w' = w.drewN m := by
  by_cases c1 : (ba : Int) ≤ n
  · by_cases c2 : n - ba < sz
    · have hd : decide ((ba : Int) ≤ n ∧ n - ba < sz ∧ n ≤ 1152921504606846976) = decide (n ≤ 1152921504606846976) := by rw [decide_eq_decide]; omega
      rw [hd]
      go_enter Try.func98, Try.ntmps98
      go_wp2_with fail
      go_quiet (fail)
      go_wp2_with fail
      go_ret
      exact ⟨rfl, _, rfl⟩
    · have hd : decide ((ba : Int) ≤ n ∧ n - ba < sz ∧ n ≤ 1152921504606846976) = false := by rw [decide_eq_false_iff_not]; omega
      rw [hd]
      have hc2 : decide (n - (ba : Int) < sz) = false := decide_eq_false c2
      go_enter Try.func98, Try.ntmps98
      go_wp2_with fail
      go_quiet (fail)
      go_wp2_with fail
      go_ret
      exact ⟨rfl, _, rfl⟩
  · have hd : decide ((ba : Int) ≤ n ∧ n - ba < sz ∧ n ≤ 1152921504606846976) = false := by rw [decide_eq_false_iff_not]; omega
    rw [hd]
    have hc1 : decide ((ba : Int) ≤ n) = false := decide_eq_false c1
    go_enter Try.func98, Try.ntmps98
    go_wp2_with fail
    go_quiet (fail)
    go_wp2_with fail
    go_ret
    exact ⟨rfl, _, rfl⟩

/-- Is it in the window? -/
def inWin (sz ba : Nat) (n : Int) : Bool := decide ((ba : Int) ≤ n ∧ n - ba < sz ∧ n ≤ 1152921504606846976)
theorem within_sat (E w : World) (F : Asn) (g : Nat) (V : Nat → Nat) (sz ba : Nat) (n : Int) (h : Sat E w (BitAt g V sz ba * F)) (hs : sz ≤ 256) (hb : ba ≤ 1152921504606846977) (hn : -9223372036854775808 ≤ n ∧ n ≤ 9223372036854775807) :
    Calls Try.prog 98 #[.pointer (some ⟨g, 0, none⟩), .int .i64 n] w fun e w' => e = .returned (.bool (inWin sz ba n)) ∧ ∃ m, w' = w.drewN m :=
  within_call w g sz ba n hs hb hn (fun m => (h.drewN m).cell 4) (fun m => (h.drewN m).cell 5)
/-- What Has tells. -/
def hasB (V : Nat → Nat) (sz ba : Nat) (n : Int) : Bool := decide (0 ≤ n) && (decide (n < ba) || (inWin sz ba n && bitAt V n.toNat))
theorem has_call (E w : World) (F : Asn) (g : Nat) (V : Nat → Nat) (sz ba : Nat) (n : Int) (h : Sat E w (BitAt g V sz ba * F)) (hV : Small V) (h0 : 1 ≤ sz) (hs : sz ≤ 256) (hb : ba ≤ 1152921504606846977) (hn : -9223372036854775808 ≤ n ∧ n ≤ 9223372036854775807) :
    Calls Try.prog 75 #[.pointer (some ⟨g, 0, none⟩), .int .i64 n] w fun e w' => e = .returned (.bool (hasB V sz ba n)) ∧ ∃ m, w' = w.drewN m := by
  have h4 : w.cell? ⟨g, 4, none⟩ = some (.int .i64 sz) := h.cell 4
  have h5 : w.cell? ⟨g, 5, none⟩ = some (.int .i64 ba) := h.cell 5
  have hz : ((sz : Int) == 0) = false := by simp; omega
  by_cases c0 : 0 ≤ n
  · obtain ⟨n, rfl⟩ := Int.eq_ofNat_of_zero_le c0
    by_cases c1 : (n : Int) < ba
    · have hd : hasB V sz ba n = true := by unfold hasB; rw [decide_eq_true c0, decide_eq_true c1]; rfl
      rw [hd]
      go_enter Try.func75, Try.ntmps75
      go_wp2_with (go_at_call 96; refine (bit_none _ _ _ h4).mono ?_; rintro e w' ⟨rfl, rfl⟩)
      go_ret
      exact ⟨rfl, 0, rfl⟩
    · have hw := hide (within_sat E w F g V sz ba n h hs hb hn)
      obtain ⟨x, hx⟩ : ∃ x, x = inWin sz ba n := ⟨_, rfl⟩
      have hd : hasB V sz ba n = (x && bitAt V n) := by unfold hasB; rw [decide_eq_true c0, decide_eq_false c1, ← hx]; simp
      rw [hd]
      rw [← hx] at hw
      have hwd := fun m => BitAt.word (h.drewN m) (n % 256 / 64) (by omega)
      have hwl : n % 256 / 64 < 4 := by omega
      have hbt : bitAt V n = (bits .and .u64 (V (n % 256 / 64)) (2 ^ (n % 256 % 64) : Nat) != 0) := by
        rw [bits_and64 (hV _) (Nat.pow_lt_pow_right (by decide) (by omega))]
        unfold bitAt
        have := and_bit (V (n % 256 / 64)) (n % 256 % 64)
        cases hb : (V (n % 256 / 64)).testBit (n % 256 % 64)
        · rw [this.2 hb]; rfl
        · have h2 : ¬ (V (n % 256 / 64) &&& 2 ^ (n % 256 % 64) = 0) := fun h => by rw [this.1 h] at hb; cases hb
          symm; simpa using h2
      obtain ⟨wd, hwdd⟩ : ∃ wd, wd = n % 256 / 64 := ⟨_, rfl⟩
      obtain ⟨bt, hbtt⟩ : ∃ bt : Nat, bt = 2 ^ (n % 256 % 64) := ⟨_, rfl⟩
      rw [← hwdd] at hwd hwl hbt
      rw [← hbtt] at hbt
      have hpl := hide (fun w => place_call w n (by omega))
      rw [← hwdd, ← hbtt] at hpl
      clear hwdd hbtt hx h
      cases x
      all_goals
        go_enter Try.func75, Try.ntmps75
        go_wp2_with (first
          | (go_at_call 96; refine (bit_none _ _ _ h4).mono ?_; rintro e w' ⟨rfl, rfl⟩)
          | (go_at_call 97; refine (unhide hpl _).mono ?_; rintro e w' ⟨rfl, rfl⟩)
          | (go_at_call 98; refine (unhide hw).mono ?_; rintro e w' ⟨rfl, m, rfl⟩))
        go_ret
        first
        | exact ⟨rfl, _, rfl⟩
        | exact ⟨by rw [hbt]; rfl, _, rfl⟩
  · have hd : hasB V sz ba n = false := by unfold hasB; rw [decide_eq_false c0]; rfl
    rw [hd]
    go_enter Try.func75, Try.ntmps75
    go_wp2_with (go_at_call 96; refine (bit_none _ _ _ h4).mono ?_; rintro e w' ⟨rfl, rfl⟩)
    go_ret
    exact ⟨rfl, 0, rfl⟩
end Go.Proofs.Ytdfidijlconhnaa
