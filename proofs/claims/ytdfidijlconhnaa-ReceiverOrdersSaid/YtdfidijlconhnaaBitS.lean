/- The program's bitmap: Set, Advance. -/
import Derived.Test.YtdfidijlconhnaaBit
namespace Go.Proofs.Ytdfidijlconhnaa
open Go.RowKit Asn

/-- What Set leaves, tells, answers. -/
def setB (V : Nat → Nat) (sz ba : Nat) (n : Int) : (Nat → Nat) × Bool × Int :=
  if 0 ≤ n ∧ n < ba then (V, false, 0) else if inWin sz ba n then (onBit V n.toNat, !bitAt V n.toNat, 0) else (V, false, 5)

set_option maxHeartbeats 1000000 in
set_option maxRecDepth 100000 in
theorem set_call (E w : World) (F : Asn) (g : Nat) (V : Nat → Nat) (sz ba : Nat) (n : Int) (h : Sat E w (BitAt g V sz ba * F)) (hV : Small V) (h0 : 1 ≤ sz) (hs : sz ≤ 256) (hb : ba ≤ 1152921504606846977) (hn : -9223372036854775808 ≤ n ∧ n ≤ 9223372036854775807) :
    Calls Try.prog 78 #[.pointer (some ⟨g, 0, none⟩), .int .i64 n] w fun e w' => e = .returned (.tuple #[.bool (setB V sz ba n).2.1, .int .i64 (setB V sz ba n).2.2]) ∧ Sat E w' (BitAt g (setB V sz ba n).1 sz ba * F) := by
  have h4 : w.cell? ⟨g, 4, none⟩ = some (.int .i64 sz) := h.cell 4
  have h5 : w.cell? ⟨g, 5, none⟩ = some (.int .i64 ba) := h.cell 5
  have hz : ((sz : Int) == 0) = false := by simp; omega
  by_cases c0 : 0 ≤ n ∧ n < ba
  · have hd : setB V sz ba n = (V, false, 0) := by unfold setB; rw [if_pos c0]
    rw [hd]
    obtain ⟨c1, c2⟩ := c0
    have HS := hide h
    clear h
    go_enter Try.func78, Try.ntmps78
    go_wp2_with (go_at_call 96; refine (bit_none _ _ _ h4).mono ?_; rintro e w' ⟨rfl, rfl⟩)
    go_ret2
    exact ⟨rfl, unhide HS⟩
  · have hw := hide (within_sat E w F g V sz ba n h hs hb hn)
    cases hx : inWin sz ba n
    · have hd : setB V sz ba n = (V, false, 5) := by unfold setB; rw [if_neg c0, hx]; rfl
      rw [hd]
      rw [hx] at hw
      have HS := hide h
      clear h hx hd
      by_cases c1 : 0 ≤ n
      · have c2 : ¬ n < ba := fun h => c0 ⟨c1, h⟩
        clear c0
        go_enter Try.func78, Try.ntmps78
        go_wp2_with (first
          | (go_at_call 96; refine (bit_none _ _ _ h4).mono ?_; rintro e w' ⟨rfl, rfl⟩)
          | (go_at_call 98; refine (unhide hw).mono ?_; rintro e w' ⟨rfl, m, rfl⟩))
        go_ret2
        exact ⟨rfl, (unhide HS).drewN m⟩
      · clear c0
        go_enter Try.func78, Try.ntmps78
        go_wp2_with (first
          | (go_at_call 96; refine (bit_none _ _ _ h4).mono ?_; rintro e w' ⟨rfl, rfl⟩)
          | (go_at_call 98; refine (unhide hw).mono ?_; rintro e w' ⟨rfl, m, rfl⟩))
        go_ret2
        exact ⟨rfl, (unhide HS).drewN m⟩
    · have hw3 : (ba : Int) ≤ n ∧ n - ba < sz ∧ n ≤ 1152921504606846976 := by unfold inWin at hx; exact of_decide_eq_true hx
      obtain ⟨n, rfl⟩ := Int.eq_ofNat_of_zero_le (show 0 ≤ n by omega)
      have c1 : 0 ≤ (n : Int) := by omega
      have c2 : ¬ (n : Int) < ba := by omega
      have hd : setB V sz ba n = (onBit V n, !bitAt V n, 0) := by unfold setB; rw [if_neg c0, hx]; simp
      rw [hd]
      rw [hx] at hw
      have hwl : n % 256 / 64 < 4 := by omega
      have hbt2 : 2 ^ (n % 256 % 64) < 2 ^ 64 := Nat.pow_lt_pow_right (by decide) (by omega)
      have hbt : bitAt V n = (bits .and .u64 (V (n % 256 / 64)) (2 ^ (n % 256 % 64) : Nat) != 0) := by
        rw [bits_and64 (hV _) hbt2]
        unfold bitAt
        have := and_bit (V (n % 256 / 64)) (n % 256 % 64)
        cases hb : (V (n % 256 / 64)).testBit (n % 256 % 64)
        · rw [this.2 hb]; rfl
        · have h2 : ¬ (V (n % 256 / 64) &&& 2 ^ (n % 256 % 64) = 0) := fun h => by rw [this.1 h] at hb; cases hb
          symm; simpa using h2
      have hor := bits_or64 (hV (n % 256 / 64)) hbt2
      have hon : onBit V n = putW V (n % 256 / 64) (V (n % 256 / 64) ||| 2 ^ (n % 256 % 64)) := rfl
      rw [hbt, hon]
      obtain ⟨wd, hwdd⟩ : ∃ wd, wd = n % 256 / 64 := ⟨_, rfl⟩
      obtain ⟨bt, hbtt⟩ : ∃ bt : Nat, bt = 2 ^ (n % 256 % 64) := ⟨_, rfl⟩
      have hpl := hide (fun w => place_call w n (by omega))
      rw [← hwdd, ← hbtt] at hpl hor ⊢
      rw [← hwdd] at hwl
      obtain ⟨orv, horv⟩ : ∃ orv : Nat, orv = V wd ||| bt := ⟨_, rfl⟩
      rw [← horv] at hor ⊢
      clear hwdd hbtt hx c0 hw3 hbt hon hd hbt2 horv
      have hwd := fun m => BitAt.word (h.drewN m) wd hwl
      have hwi : (wd : Int) < 4 := by omega
      go_enter Try.func78, Try.ntmps78
      go_wp2_with (first
        | (go_at_call 96; refine (bit_none _ _ _ h4).mono ?_; rintro e w' ⟨rfl, rfl⟩)
        | (go_at_call 97; refine (unhide hpl _).mono ?_; rintro e w' ⟨rfl, rfl⟩)
        | (go_at_call 98; refine (unhide hw).mono ?_; rintro e w' ⟨rfl, m, rfl⟩))
      refine wp_region_slr (Q := _) (E := E) (fun _ => True) [11] [] [] [5] (fun _ => (0, #[], fun _ => undef)) [0, 1, 2, 3, 4, 5, 6, 7, 8, 9, 10, 11] (by kernel_rfl) (by kernel_rfl) (h.drewN m) (fun _ _ _ => trivial) ?_
      iterate 5
        refine wpS_f _ rfl rfl (v := ?_) ?_ ?_
        rotate_left
        · intro W hW
          go_simp
          rfl
        go_simp
      refine wpS_r _ rfl rfl (v := .int .u64 (V wd)) ?_ ?_
      · rintro W ⟨R, hW⟩
        have e7 := BitAt.word hW.asc wd hwl
        go_simp
      go_simp
      iterate 5
        refine wpS_f _ rfl rfl (v := ?_) ?_ ?_
        rotate_left
        · intro W hW
          go_simp
          rfl
        go_simp
      refine wpS_e _ rfl rfl (fun W R hW => ?_)
      have e7 := BitAt.word hW.asc wd hwl
      have e8 : W.frozen? ⟨g, wd, none⟩ = false := hW.asc.frozen wd
      have hset := hide (BitAt.put hW.asc wd orv hwl)
      unfold stp
      go_simp
      refine (show ∃ F', _ from ⟨BitAt g (putW V wd orv) sz ba * F, (unhide hset).csa, ?_⟩)
      clear hset e7 e8 hW
      go_simp
      refine wpS_n (fun w3 hs3 => ?_)
      have hs4 := hide hs3
      clear hs3 h
      go_wp2_with fail
      go_ret2
      exact ⟨by simp, unhide hs4⟩

/-- What Advance leaves: the words, the base. -/
def advF : Nat → (Nat → Nat) → Nat → (Nat → Nat) × Nat
  | 0, V, ba => (V, ba)
  | f + 1, V, ba => if ba ≤ 1152921504606846976 ∧ bitAt V ba = true then advF f (clrBit V ba) (ba + 1) else (V, ba)
/-- Advance, of V from ba on. -/
def advB (V : Nat → Nat) (ba : Nat) : (Nat → Nat) × Nat := advF (1152921504606846977 - ba) V ba
theorem advB_yes {V : Nat → Nat} {ba : Nat} (h1 : ba ≤ 1152921504606846976) (h2 : bitAt V ba = true) : advB V ba = advB (clrBit V ba) (ba + 1) := by
  unfold advB
  obtain ⟨f, hf⟩ : ∃ f, 1152921504606846977 - ba = f + 1 := ⟨1152921504606846977 - ba - 1, by omega⟩
  rw [hf, advF, if_pos ⟨h1, h2⟩]
  congr 1
  omega
theorem advB_no {V : Nat → Nat} {ba : Nat} (h : ¬ (ba ≤ 1152921504606846976 ∧ bitAt V ba = true)) : advB V ba = (V, ba) := by
  unfold advB
  generalize 1152921504606846977 - ba = f
  cases f with
  | zero => rfl
  | succ f => rw [advF, if_neg h]

set_option maxHeartbeats 1000000 in
set_option maxRecDepth 100000 in
theorem advance_call (E w : World) (F : Asn) (g : Nat) (V : Nat → Nat) (sz ba : Nat) (h : Sat E w (BitAt g V sz ba * F)) (hV : Small V) (h0 : 1 ≤ sz) (hs : sz ≤ 256) (hb : ba ≤ 1152921504606846977) :
    Calls Try.prog 102 #[.pointer (some ⟨g, 0, none⟩)] w fun e w' => ∃ k : Nat, e = .returned (.int .i64 k) ∧ (advB V ba).2 = ba + k ∧ (advB V ba).2 ≤ 1152921504606846977 ∧ Small (advB V ba).1 ∧ Sat E w' (BitAt g (advB V ba).1 sz (advB V ba).2 * F) := by
  go_enter Try.func102, Try.ntmps102
  go_wp2_with fail
  go_loopw [3, 4, 5] (fun s3 _ _ wr => ∃ (k : Nat) (V' : Nat → Nat), s3 = .int .i64 k ∧ ba + k ≤ 1152921504606846977 ∧ Small V' ∧ Hid (advB V' (ba + k) = advB V ba) ∧ Sat E wr (BitAt g V' sz (ba + k) * F)) (fun s3 _ _ _ => 1152921504606846977 - (intOf s3).toNat)
  case atStart => exact ⟨0, V, rfl, hb, hV, rfl, h⟩
  case round =>
    obtain ⟨k, V', rfl, hk, hV', HA, hsr⟩ := hrel
    clear h
    obtain ⟨bk, hbk⟩ : ∃ bk, bk = ba + k := ⟨_, rfl⟩
    rw [← hbk] at hsr HA hk
    have HBK := Lib.hid hbk
    have h4 : wr.cell? ⟨g, 4, none⟩ = some (.int .i64 sz) := hsr.cell 4
    have h5 : ∀ m, (wr.drewN m).cell? ⟨g, 5, none⟩ = some (.int .i64 bk) := fun m => (hsr.drewN m).cell 5
    have h50 : wr.cell? ⟨g, 5, none⟩ = some (.int .i64 bk) := hsr.cell 5
    have hz : ((sz : Int) == 0) = false := by simp; omega
    have hw := hide (within_sat E wr F g V' sz bk bk hsr hs hk (by omega))
    have hwv : inWin sz bk (bk : Int) = decide (bk ≤ 1152921504606846976) := by unfold inWin; rw [decide_eq_decide]; omega
    rw [hwv] at hw
    have hh := hide (fun m => has_call E (wr.drewN m) F g V' sz bk bk (hsr.drewN m) hV' h0 hs hk (by omega))
    have hhv : hasB V' sz bk (bk : Int) = (decide (bk ≤ 1152921504606846976) && bitAt V' bk) := by
      unfold hasB
      rw [decide_eq_true (by omega : (0 : Int) ≤ bk), decide_eq_false (by omega : ¬ ((bk : Int) < bk)), hwv]
      simp
    simp only [hhv] at hh
    have hkk : k ≤ bk := by omega
    clear hbk hwv hhv
    by_cases c1 : bk ≤ 1152921504606846976
    · have d1 : decide (bk ≤ 1152921504606846976) = true := decide_eq_true c1
      rw [d1] at hw
      simp only [d1, Bool.true_and] at hh
      cases hbit : bitAt V' bk
      · have hfin : advB V ba = (V', bk) := by rw [← HA.out]; exact advB_no (fun h => by rw [hbit] at h; cases h.2)
        rw [hbit] at hh
        have HFIN := Lib.hid hfin
        clear d1 hbit hfin
        go_wp2_with (first
          | (go_at_call 96; refine (bit_none _ _ _ h4).mono ?_; rintro e w' ⟨rfl, rfl⟩)
          | (go_at_call 98; refine (unhide hw).mono ?_; rintro e w' ⟨rfl, m, rfl⟩))
        refine (unhide hh _).mono ?_
        rintro e w2 ⟨rfl, m2, hw2⟩
        have hs2 := hide (show Sat E w2 (BitAt g V' sz bk * F) by rw [hw2]; exact (hsr.drewN m).drewN m2)
        clear hw2 hsr
        go_wp2_with fail
        go_ret
        rw [HFIN.out]
        exact ⟨k, rfl, HBK.out, hk, hV', unhide hs2⟩
      · have hstep : Hid (advB (clrBit V' bk) (bk + 1) = advB V ba) := by
          have := advB_yes c1 hbit
          rw [HA.out] at this
          exact this.symm
        rw [hbit] at hh
        clear d1 hbit
        go_wp2_with (first
          | (go_at_call 96; refine (bit_none _ _ _ h4).mono ?_; rintro e w' ⟨rfl, rfl⟩)
          | (go_at_call 98; refine (unhide hw).mono ?_; rintro e w' ⟨rfl, m, rfl⟩))
        refine (unhide hh _).mono ?_
        rintro e w2 ⟨rfl, m2, hw2⟩
        have hs2 : Sat E w2 (BitAt g V' sz bk * F) := by rw [hw2]; exact (hsr.drewN m).drewN m2
        clear hw2 hsr hh hw
        have h5b : w2.cell? ⟨g, 5, none⟩ = some (.int .i64 bk) := hs2.cell 5
        have hwl : bk % 256 / 64 < 4 := by omega
        have hoff := bits_off64 (a := V' (bk % 256 / 64)) (b := 2 ^ (bk % 256 % 64))
        have hon : clrBit V' bk = putW V' (bk % 256 / 64) (offBits (V' (bk % 256 / 64)) (2 ^ (bk % 256 % 64))) := rfl
        have HV2 := hide (hV'.clr bk)
        rw [hon] at HV2 hstep
        obtain ⟨wd, hwdd⟩ : ∃ wd, wd = bk % 256 / 64 := ⟨_, rfl⟩
        obtain ⟨bt, hbtt⟩ : ∃ bt : Nat, bt = 2 ^ (bk % 256 % 64) := ⟨_, rfl⟩
        have hpl := hide (fun w => place_call w bk (by omega))
        rw [← hwdd, ← hbtt] at hpl hoff HV2 hstep
        rw [← hwdd] at hwl
        obtain ⟨ov, hov⟩ : ∃ ov : Nat, ov = offBits (V' wd) bt := ⟨_, rfl⟩
        rw [← hov] at hoff HV2 hstep
        have hwi : (wd : Int) < 4 := by omega
        clear hwdd hbtt hon hov h5 h50
        go_wp2_with (go_at_call 97; refine (unhide hpl _).mono ?_; rintro e w' ⟨rfl, rfl⟩)
        refine wp_region_slr (Q := _) (E := E) (fun _ => True) [11] [] [] [5] (fun _ => (0, #[], fun _ => undef)) [0, 1, 2, 3, 4, 5, 6, 7, 8, 9, 10, 11] (by kernel_rfl) (by kernel_rfl) hs2 (fun _ _ _ => trivial) ?_
        iterate 5
          refine wpS_f _ rfl rfl (v := ?_) ?_ ?_
          rotate_left
          · intro W hW
            go_simp
            rfl
          go_simp
        refine wpS_r _ rfl rfl (v := .int .u64 (V' wd)) ?_ ?_
        · rintro W ⟨R, hW⟩
          have e7 := BitAt.word hW.asc wd hwl
          go_simp
        go_simp
        iterate 5
          refine wpS_f _ rfl rfl (v := ?_) ?_ ?_
          rotate_left
          · intro W hW
            go_simp
            rfl
          go_simp
        refine wpS_e _ rfl rfl (fun W R hW => ?_)
        have e7 := BitAt.word hW.asc wd hwl
        have e8 : W.frozen? ⟨g, wd, none⟩ = false := hW.asc.frozen wd
        have hset := hide (BitAt.put hW.asc wd ov hwl)
        unfold stp
        go_simp
        refine (show ∃ F', _ from ⟨BitAt g (putW V' wd ov) sz bk * F, (unhide hset).csa, ?_⟩)
        clear hset e7 e8 hW
        go_simp
        refine wpS_n (fun w3 hs3 => ?_)
        have e5 : w3.cell? ⟨g, 5, none⟩ = some (.int .i64 bk) := hs3.cell 5
        have e6 : w3.frozen? ⟨g, 5, none⟩ = false := hs3.frozen 5
        have hs4 := hide (show Sat E _ (BitAt g (putW V' wd ov) sz (bk + 1) * F) from hs3.set 5 (.int .i64 (bk + 1 : Nat)))
        clear hs3 hs2
        go_wp2_with fail
        go_roundw
        case rel => exact ⟨k + 1, putW V' wd ov, by go_num, by have := HBK.out; omega, HV2.out, by rw [show ba + (k + 1) = bk + 1 by rw [HBK.out]; omega]; exact hstep, by rw [show ba + (k + 1) = bk + 1 by rw [HBK.out]; omega]; exact unhide hs4⟩
        case measure => simp [intOf]; omega
    · have d1 : decide (bk ≤ 1152921504606846976) = false := decide_eq_false c1
      rw [d1] at hw
      have hfin : advB V ba = (V', bk) := by rw [← HA.out]; exact advB_no (fun h => c1 h.1)
      have HFIN := Lib.hid hfin
      have HS := hide hsr
      clear d1 hfin hh hsr
      go_wp2_with (first
        | (go_at_call 96; refine (bit_none _ _ _ h4).mono ?_; rintro e w' ⟨rfl, rfl⟩)
        | (go_at_call 98; refine (unhide hw).mono ?_; rintro e w' ⟨rfl, m, rfl⟩))
      go_ret
      rw [HFIN.out]
      exact ⟨k, rfl, HBK.out, hk, hV', (unhide HS).drewN m⟩
end Go.Proofs.Ytdfidijlconhnaa
