/- The document's perm: Rise. -/
import Derived.Test.YtpcoehbjbjfggaaPermR
namespace Go.Proofs.Ytpcoehbjbjfggaa
open Go.RowKit Asn

theorem riseL_nodup (pb : Nat → Bool) : (riseL pb).Nodup := by
  unfold riseL
  refine List.Pairwise.map _ (fun a b (h : a ≠ b) => ?_) (List.Pairwise.filter _ List.nodup_range)
  intro e
  exact h (by omega)
theorem riseL_memb (L : List Int) (x : Int) : x ∈ riseL (memb L) ↔ x ∈ L ∧ 0 ≤ x ∧ x < 8 := by
  rw [riseL_mem]
  unfold memb
  constructor
  · rintro ⟨p, h1, h2, rfl⟩
    exact ⟨by simpa using h2, by omega, by omega⟩
  · rintro ⟨h1, h2, h3⟩
    refine ⟨x.toNat, by omega, ?_, by omega⟩
    rw [Int.toNat_of_nonneg h2]
    simpa using h1
theorem rise_perm {L : List Int} (hg : Good L) : (riseL (memb L)).Perm L :=
  (List.perm_ext_iff_of_nodup (riseL_nodup _) hg.2).2 fun x => by
    rw [riseL_memb]
    exact ⟨fun h => h.1, fun h => ⟨h, hg.1 x h⟩⟩
theorem good_iff {L : List Int} (h : ∀ q : Nat, q < 8 → L.count (q : Int) ≤ 1) : (riseL (memb L)).length = L.length ↔ Good L := by
  constructor
  · intro hl
    have hf : (riseL (memb L)).Perm (L.filter fun x => decide (0 ≤ x ∧ x < 8)) := by
      refine (List.perm_ext_iff_of_nodup (riseL_nodup _) ?_).2 fun x => ?_
      · rw [List.nodup_iff_count]
        intro a
        by_cases ha : 0 ≤ a ∧ a < 8
        · have h1 := h a.toNat (by omega)
          rw [Int.toNat_of_nonneg ha.1] at h1
          have h2 := (List.filter_sublist (p := fun x => decide (0 ≤ x ∧ x < 8)) (l := L)).count_le a
          omega
        · have : List.count a (L.filter fun x => decide (0 ≤ x ∧ x < 8)) = 0 := by
            rw [List.count_eq_zero, List.mem_filter]
            rintro ⟨_, h3⟩
            exact ha (by simpa using h3)
          omega
      · rw [riseL_memb, List.mem_filter]
        simp
    have h2 := hf.length_eq
    have h3 : (L.filter fun x => decide (0 ≤ x ∧ x < 8)) = L := by
      rw [hl] at h2
      exact (List.filter_sublist (p := fun x => decide (0 ≤ x ∧ x < 8)) (l := L)).eq_of_length h2.symm
    rw [List.filter_eq_self] at h3
    refine ⟨fun x hx => by simpa using h3 x hx, ?_⟩
    rw [List.nodup_iff_count]
    intro a
    by_cases ha : a ∈ L
    · have h4 : 0 ≤ a ∧ a < 8 := by simpa using h3 a ha
      have h1 := h a.toNat (by omega)
      rwa [Int.toNat_of_nonneg h4.1] at h1
    · rw [List.count_eq_zero.2 ha]; omega
  · intro hg
    exact (rise_perm hg).length_eq
/-- What Rise leaves. -/
def RiseP (E : World) (F : Asn) (L : List Int) (e : Ending) (w' : World) : Prop :=
  ∃ A c M ok, e = .returned (.tuple #[.slice A M.length c, .bool ok]) ∧ (ok = true ↔ Good L ∧ L ≠ []) ∧ (Good L → M = riseL (memb L)) ∧ M.length ≤ 8 ∧ Sat E w' (sl 3 1 A M.length c (ints M) * F)
set_option maxHeartbeats 4000000 in
set_option maxRecDepth 100000 in
theorem rise_call (E w : World) (F : Asn) (A : Option Addr) (n c : Nat) (L : List Int) (hs : Sat E w F) (hr : rd F 1 A n (ints L)) (hn : n ≤ 60000) :
    Calls Try.prog 64 #[.slice A n c] w (RiseP E F L) := by
  have HL := hide (hr.ints_len hs)
  go_enter Try.func64, Try.ntmps64
  go_wp2_with fail
  go_loopw [4, 5, 6, 7] (fun s4 s5 _ _ wr => ∃ (p lc : Nat) (lA : Option Addr) (M : List Int), s5 = .int .i64 p ∧ s4 = .slice lA M.length lc ∧ p ≤ 8 ∧ M.length ≤ p ∧ Hid (M = ((List.range p).filter (memb L)).map fun (p : Nat) => (p : Int)) ∧ Hid (∀ q : Nat, q < p → L.count (q : Int) ≤ 1) ∧
      Sat E wr (sl 3 1 lA M.length lc (ints M) * F)) (fun _ s5 _ _ _ => 8 - (intOf s5).toNat)
  case atStart => exact ⟨0, 0, none, [], rfl, rfl, by omega, by simp, rfl, fun q hq => by omega, hs.slNil⟩
  case round =>
    obtain ⟨p, lc, lA, M, rfl, rfl, hp, hmp, HM, HC, hsr⟩ := hrel
    clear hs
    obtain ⟨q, hq⟩ : ∃ q, q = M.length := ⟨_, rfl⟩
    rw [← hq] at hsr hmp ⊢
    have HQ := hide hq
    by_cases hlt : p < 8
    · have hp8 : (p : Int) < 8 := by omega
      have HR := hide (RdW.of_rd hr hsr.right)
      have HS := hide hsr
      clear hsr hq
      go_wp2_with fail
      obtain ⟨wo, hwo⟩ : ∃ wo : World, wo = wr := ⟨_, rfl⟩
      subst hwo
      go_loop [6, 7] (fun s6 s7 => ∃ (k : Nat) (m : Nat), s7 = .int .i64 k ∧ s6 = .int .i64 m ∧ k ≤ n ∧ m ≤ k ∧ Hid (m = (L.take k).count (p : Int))) (fun _ s7 => n - (intOf s7).toNat)
      case atStart => exact ⟨0, 0, rfl, rfl, Nat.zero_le _, Nat.le_refl _, hide (by simp)⟩
      case round =>
        obtain ⟨k, m, rfl, rfl, hk, hmk, HK⟩ := hrel
        by_cases hlk : k < n
        · obtain ⟨ad, rfl, hc⟩ := (unhide HR).int_at hlk
          have hts := take_snoc' L (k := k) (by have := unhide HL; omega)
          obtain ⟨x, hx⟩ : ∃ x, x = L.getD k 0 := ⟨_, rfl⟩
          rw [← hx] at hc hts
          have hnx : Hid ((L.take (k + 1)).count (p : Int) = m + if x = p then 1 else 0) := by
            rw [hts, List.count_append, ← HK.out]
            simp [List.count_cons]
            exact trivial
          clear hts hx HK
          by_cases hxp : x = p
          · rw [if_pos hxp] at hnx
            go_wp2_with fail
            go_round
            case rel => exact ⟨k + 1, m + 1, by go_num, by go_num, by omega, by omega, hide (hnx.out).symm⟩
            case measure => simp [intOf]; omega
          · rw [if_neg hxp] at hnx
            go_wp2_with fail
            go_round
            case rel => exact ⟨k + 1, m, by go_num, rfl, by omega, by omega, hide (hnx.out).symm⟩
            case measure => simp [intOf]; omega
        · obtain rfl : k = n := by omega
          have hcnt : m = L.count (p : Int) := by
            have := HK.out
            rwa [List.take_of_length_le (by have := unhide HL; omega)] at this
          have hstep := riseL_step (memb L) p
          rw [← HM.out] at hstep
          have hmem : memb L p = decide (0 < m) := by
            unfold memb
            rw [hcnt, Bool.eq_iff_iff, decide_eq_true_eq, decide_eq_true_eq, List.count_pos_iff]
          rw [hmem] at hstep
          have HCNT := hide hcnt
          have HST := hide hstep
          clear hcnt hmem hstep HK HM
          rcases (by omega : m = 0 ∨ m = 1 ∨ 1 < m) with rfl | rfl | hm1
          · go_wp2_with fail
            go_roundw
            case rel => exact ⟨p + 1, lc, lA, M, by go_num, by rw [unhide HQ], by omega, by have := unhide HQ; omega, hide (by rw [unhide HST]; simp), hide (fun z hz => by rcases Nat.lt_succ_iff_lt_or_eq.1 hz with h | h; exact HC.out z h; rw [h, ← unhide HCNT]; omega), by rw [← unhide HQ]; exact unhide HS⟩
            case measure => simp [intOf]; omega
          · obtain ⟨A4, c4, w4, run4, hs5⟩ := Sat.app1 (t := 52) (ty := 52) (unhide HS) elt_ints (.int .i64 p) rfl (by unfold maxLen; omega) (by omega)
            have R4 := Lib.hid run4
            have HS5 := hide hs5
            clear run4 hs5 HS
            go_wp2_with (at_builtin; refine wpList_appendR rfl (.tmp 30) (.tmp 32) rfl rfl rfl R4.out ?_)
            go_roundw
            case rel => exact ⟨p + 1, c4, A4, M ++ [(p : Int)], by go_num, by rw [unhide HQ]; simp, by omega, by have := unhide HQ; simp; omega, hide (by rw [unhide HST]; simp), hide (fun z hz => by rcases Nat.lt_succ_iff_lt_or_eq.1 hz with h | h; exact HC.out z h; rw [h, ← unhide HCNT]; omega), by have := unhide HS5; rw [unhide HQ] at this; simpa [ints_append, ints] using this⟩
            case measure => simp [intOf]; omega
          · have hfin : Hid (RiseP E F L (.returned (.tuple #[.slice none 0 0, .bool false])) wo) := by
              refine ⟨none, 0, [], false, rfl, ⟨(fun h => by cases h), fun h => ?_⟩, fun h => ?_, by simp, (unhide HS).right.slNil⟩
              · have := List.nodup_iff_count.1 h.1.2 (p : Int)
                have := unhide HCNT
                omega
              · have := List.nodup_iff_count.1 h.2 (p : Int)
                have := unhide HCNT
                omega
            clear HS
            go_wp2_with fail
            go_ret2
            exact unhide hfin
    · obtain rfl : p = 8 := by omega
      have hM : M = riseL (memb L) := HM.out
      have hgi := good_iff HC.out
      rw [← hM] at hgi
      have hfin : Hid (∀ b, b = decide (q = n ∧ 0 < n) → RiseP E F L (.returned (.tuple #[.slice lA q lc, .bool b])) wr) := by
        intro b hb
        refine ⟨lA, lc, M, b, by rw [hq], ?_, fun _ => hM, by omega, by rw [← hq]; exact hsr⟩
        have hll := unhide HL
        rw [hb, decide_eq_true_eq, ← hgi]
        constructor
        · rintro ⟨h1, h2⟩
          refine ⟨by omega, ?_⟩
          intro h; rw [h] at hll; simp at hll; omega
        · rintro ⟨h1, h2⟩
          refine ⟨by omega, ?_⟩
          rcases Nat.eq_zero_or_pos n with h | h
          · rw [h] at hll; exact absurd (List.eq_nil_of_length_eq_zero hll) h2
          · exact h
      clear hsr hM hgi hq HM
      by_cases hqn : q = n
      · have hq2 : ((q : Int) == n) = true := by simp; omega
        go_wp2_with fail
        go_ret2
        exact unhide hfin _ (by simp [hqn])
      · have hq2 : ((q : Int) == n) = false := by simp; omega
        go_wp2_with fail
        go_ret2
        exact unhide hfin _ (by simp [hqn])
end Go.Proofs.Ytpcoehbjbjfggaa
