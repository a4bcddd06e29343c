/- The document's tomb: what its functions do. -/
import Derived.Test.YtcagfcflffhadaaTombR
import Derived.Test.YtcagfcflffhadaaRS
import Derived.Test.YtcagfcflffhadaaElt
import Derived.Deep.DeepCutAuto
namespace Go.Proofs.Ytcagfcflffhadaa
open Go.RowKit Asn
theorem in20 (w : World) (A : Option Addr) (n c : Nat) (L : List Int) (x : Int) (hr : RdW w A n 1 (ints L)) (hn : n ≤ 65536) :
    Calls Try.prog 127 #[.slice A n c, .int .i64 x] w fun e w' => e = .returned (.bool (decide (x ∈ L))) ∧ w = w' := by
  have hl : L.length = n := by have := hr.1; rw [length_ints] at this; omega
  have HL := hide hl
  have HR := hide hr
  clear hl hr
  go_enter Try.func127, Try.ntmps127
  go_wp2_with fail
  go_loop [5] (fun i => ∃ k : Nat, i = .int .i64 k ∧ k ≤ n ∧ Hid (∀ j, j < k → L.getD j 0 ≠ x)) (fun i => n - (intOf i).toNat)
  case atStart => exact ⟨0, rfl, Nat.zero_le _, fun j hj => absurd hj (by omega)⟩
  case round =>
    obtain ⟨k, rfl, hk, HK⟩ := hrel
    by_cases hlt : k < n
    · obtain ⟨ad, rfl, hc⟩ := (unhide HR).int_at hlt
      obtain ⟨y, hy⟩ : ∃ y, y = L.getD k 0 := ⟨_, rfl⟩
      rw [← hy] at hc
      have HY := hide hy
      clear hy
      by_cases hx : y = x
      · subst hx
        have hd : decide (y ∈ L) = true := by
          rw [decide_eq_true_eq, unhide HY]
          have hll := unhide HL
          rw [getD_lt (by omega)]
          exact List.getElem_mem _
        have HD := hide hd
        clear hd
        go_wp2_with fail
        go_ret
        exact ⟨by rw [unhide HD]; rfl, rfl⟩
      · go_wp2_with fail
        go_round
        case rel => exact ⟨k + 1, by go_num, by omega, fun j hj => by rcases Nat.lt_succ_iff_lt_or_eq.1 hj with h | h; exact HK.out j h; rw [h, ← unhide HY]; exact hx⟩
        case measure => simp [intOf]; omega
    · obtain rfl : k = n := by omega
      have hd : decide (x ∈ L) = false := by
        rw [decide_eq_false_iff_not]
        intro hm
        obtain ⟨j, hj, rfl⟩ := List.getElem_of_mem hm
        have hll := unhide HL
        exact HK.out j (by omega) (getD_lt hj)
      have HD := hide hd
      clear hd
      go_wp2_with fail
      go_ret
      exact ⟨by rw [unhide HD]; rfl, rfl⟩

set_option maxHeartbeats 2000000 in
set_option maxRecDepth 100000 in
theorem with20 (E w : World) (F : Asn) (A : Option Addr) (n c : Nat) (L : List Int) (x : Int) (hs : Sat E w F) (hr : rd F 1 A n (ints L)) (hn : n ≤ 65535) (hc : n ≤ c) (hA : A = none → c = 0) :
    Calls Try.prog 91 #[.slice A n c, .int .i64 x] w fun e w' => ∃ A' c', e = .returned (.slice A' (n + 1) c') ∧ Sat E w' (sl 3 1 A' (n + 1) c' (ints (insR L x)) * F) := by
  have hl := hr.ints_len hs
  have HL := hide hl
  have HR := hide (RdW.of_rd hr hs)
  clear hl
  go_enter Try.func91, Try.ntmps91
  go_wp2_with fail
  go_loop [5] (fun i => ∃ k : Nat, i = .int .i64 k ∧ k ≤ n ∧ Hid (∀ j, j < k → L.getD j 0 < x)) (fun i => n - (intOf i).toNat)
  case atStart => exact ⟨0, rfl, Nat.zero_le _, fun j hj => absurd hj (by omega)⟩
  case round =>
    obtain ⟨k, rfl, hk, HK⟩ := hrel
    by_cases hlt : k < n ∧ L.getD k 0 < x
    · obtain ⟨hlt, hx⟩ := hlt
      obtain ⟨ad, rfl, hc⟩ := (unhide HR).int_at hlt
      have HX := hide hx
      obtain ⟨y, hy⟩ : ∃ y, y = L.getD k 0 := ⟨_, rfl⟩
      rw [← hy] at hc hx
      clear hy
      go_wp2_with fail
      go_round
      case rel => exact ⟨k + 1, by go_num, by omega, fun j hj => by rcases Nat.lt_succ_iff_lt_or_eq.1 hj with h | h; exact HK.out j h; rw [h]; exact unhide HX⟩
      case measure => simp [intOf]; omega
    · have hll := unhide HL
      have hka : k = ahead L x := ahead_of (by omega) HK.out (fun h hx => hlt ⟨by omega, hx⟩)
      obtain ⟨A1, c1, w1, r1, hs1⟩ := Sat.app0 (t := 34) (ty := 34) hs elt_ints (hr.intsTake hk) oneCell_ints (by unfold maxLen; omega) (by omega) c
      obtain ⟨A2, c2, w2, r2, hs2⟩ := Sat.app1 (t := 34) (ty := 34) hs1 elt_ints (.int .i64 x) rfl (by unfold maxLen; omega) (by omega)
      obtain ⟨B, hB⟩ : ∃ B, B = if c = k then A else A.map (·.add k) := ⟨_, rfl⟩
      obtain ⟨A3, c3, w3, r3, hs3⟩ := Sat.append (P := Try.prog) (t := 34) (ty := 34) (d := c - k) elt_ints hs2 (RdW.of_rd (hr.intsRest hk hc hB) hs2.right) oneCell_ints (by unfold maxLen; omega) (by omega)
      have e1 : ints (insR L x) = ints (L.take k) ++ [Value.int .i64 x] ++ ints (L.drop k) := by rw [insR_eq, ints_append, ints_append, hka]; rfl
      have e2 : k + 1 + (n - k) = n + 1 := by omega
      rw [e2, ← e1] at hs3
      rw [e2] at r3
      have HS := hide hs3
      have R1 := Lib.hid r1
      have R2 := Lib.hid r2
      have R3 := Lib.hid r3
      have HRR := hide HR
      clear r1 r2 r3 hs1 hs2 hs3 e1 e2 hka hll
      by_cases hlt2 : k < n
      · obtain ⟨ad, rfl, hc⟩ := (unhide HR).int_at hlt2
        have hx : ¬ L.getD k 0 < x := fun h => hlt ⟨hlt2, h⟩
        obtain ⟨y, hy⟩ : ∃ y, y = L.getD k 0 := ⟨_, rfl⟩
        rw [← hy] at hc hx
        clear hy
        have hck : ¬ c = k := by omega
        rw [if_neg hck] at hB
        subst hB
        clear hlt
        go_wp2_with (first
          | (at_builtin; refine wpList_appendR rfl (.tmp 21) (.tmp 24) rfl rfl rfl R1.out ?_)
          | (at_builtin; refine wpList_appendR rfl (.tmp 26) (.tmp 28) rfl rfl rfl R2.out ?_)
          | (at_builtin; refine wpList_appendR rfl (.tmp 30) (.tmp 33) rfl rfl rfl R3.out ?_))
        go_ret
        exact ⟨_, _, rfl, unhide HS⟩
      · obtain rfl : k = n := by omega
        clear hlt
        rcases A with _ | ad
        · obtain rfl : c = 0 := hA rfl
          obtain rfl : k = 0 := by omega
          obtain rfl : B = none := by simpa using hB
          clear hB
          go_wp2_with (first
            | (at_builtin; refine wpList_appendR rfl (.tmp 21) (.tmp 24) rfl rfl rfl R1.out ?_)
            | (at_builtin; refine wpList_appendR rfl (.tmp 26) (.tmp 28) rfl rfl rfl R2.out ?_)
            | (at_builtin; refine wpList_appendR rfl (.tmp 30) (.tmp 33) rfl rfl rfl R3.out ?_))
          go_ret
          exact ⟨_, _, rfl, unhide HS⟩
        · by_cases hck : c = k
          · rw [if_pos hck] at hB
            subst hck hB
            have r4 := R3.out
            rw [Nat.sub_self] at r4
            have R4 := Lib.hid r4
            clear r4 R3
            go_wp2_with (first
              | (at_builtin; refine wpList_appendR rfl (.tmp 21) (.tmp 24) rfl rfl rfl R1.out ?_)
              | (at_builtin; refine wpList_appendR rfl (.tmp 26) (.tmp 28) rfl rfl rfl R2.out ?_)
              | (at_builtin; refine wpList_appendR rfl (.tmp 30) (.tmp 33) rfl rfl rfl R4.out ?_))
            go_ret
            exact ⟨_, _, rfl, unhide HS⟩
          · rw [if_neg hck] at hB
            subst hB
            have r4 := R3.out
            rw [Nat.sub_self] at r4
            have R4 := Lib.hid r4
            clear r4 R3
            go_wp2_with (first
              | (at_builtin; refine wpList_appendR rfl (.tmp 21) (.tmp 24) rfl rfl rfl R1.out ?_)
              | (at_builtin; refine wpList_appendR rfl (.tmp 26) (.tmp 28) rfl rfl rfl R2.out ?_)
              | (at_builtin; refine wpList_appendR rfl (.tmp 30) (.tmp 33) rfl rfl rfl R4.out ?_))
            go_ret
            exact ⟨_, _, rfl, unhide HS⟩
end Go.Proofs.Ytcagfcflffhadaa
