/- The document's bitmap: Lacking, New. -/
import Derived.Test.YtpcoehbjbjfggaaRef10B
namespace Go.Proofs.Ytpcoehbjbjfggaa
open Go.RowKit Asn

theorem winR_len (L : List Int) (sz ba : Nat) : (winR L sz ba).length = winN sz ba := by simp [winR]
theorem winR_snoc {L : List Int} {sz ba j : Nat} (h : j < winN sz ba) : (winR L sz ba).take (j + 1) = (winR L sz ba).take j ++ [(ba + j, decide (((ba + j : Nat) : Int) ∈ L))] := by
  rw [List.take_succ_eq_append_getElem (by rw [winR_len]; exact h)]
  congr 2
  simp [winR]
/-- What Lacking leaves. -/
def Lack10 (E : World) (F : Asn) (ys : List Value) (e : Ending) (w' : World) : Prop := ∃ A' c', e = .returned (.slice A' ys.length c') ∧ Sat E w' (sl 3 1 A' ys.length c' ys * F)
set_option maxHeartbeats 2000000 in
set_option maxRecDepth 100000 in
theorem lack10 (E w : World) (F : Asn) (A : Option Addr) (n c : Nat) (L : List Int) (sz ba : Nat) (most : Int) (hs : Sat E w F) (hr : RS F A n c L) (hn : n ≤ 60000) (hsz : sz ≤ 256) (hba : ba ≤ 1152921504606846977) :
    Calls Try.prog 94 #[.agg #[.int .i64 sz, .int .i64 ba, .slice A n c], .int .i64 most] w (Lack10 E F ((lk (winR L sz ba)).take most.toNat)) := by
  have hs2 := hs.alloc #[.int .i64 sz, .int .i64 ba, .slice A n c] 93
  have hwn : winN sz ba ≤ 256 := by unfold winN; omega
  go_enter Try.func94, Try.ntmps94
  go_wp2_with fail
  go_loopw [5, 6] (fun s5 s6 wr => ∃ (j lc : Nat) (lA : Option Addr) (ys : List Value), s5 = .slice lA ys.length lc ∧ s6 = .int .i64 (ba + j : Nat) ∧ j ≤ winN sz ba ∧ ys.length ≤ most.toNat ∧ ys.length ≤ j ∧ Hid (ys = lk ((winR L sz ba).take j)) ∧
      Sat E wr (sl 3 1 lA ys.length lc ys * (Asn.blk w.heap.size 93 #[.int .i64 sz, .int .i64 ba, .slice A n c] * F))) (fun _ s6 _ => ba + winN sz ba - (intOf s6).toNat)
  case atStart => exact ⟨0, 0, none, [], rfl, rfl, Nat.zero_le _, Nat.zero_le _, Nat.le_refl _, rfl, hs2.slNil⟩
  case round =>
    obtain ⟨j, lc, lA, ys, rfl, rfl, hj, hlm, hlj, HY, hsr⟩ := hrel
    clear hs2
    obtain ⟨m, hm⟩ : ∃ m, m = ba + j := ⟨_, rfl⟩
    obtain ⟨q, hq⟩ : ∃ q, q = ys.length := ⟨_, rfl⟩
    rw [← hm]
    rw [← hq] at hsr hlm hlj ⊢
    have hmb : m ≤ 1152921504606847300 := by omega
    have b0 : wr.cell? ⟨w.heap.size, 0, none⟩ = some (.int .i64 sz) := hsr.f2.cell 0
    have b1 : wr.cell? ⟨w.heap.size, 1, none⟩ = some (.int .i64 ba) := hsr.f2.cell 1
    have b2 : wr.cell? ⟨w.heap.size, 2, none⟩ = some (.slice A n c) := hsr.f2.cell 2
    by_cases hgo : j < winN sz ba ∧ (q : Int) < most
    · obtain ⟨hjw, hqm⟩ := hgo
      have h1 : (m : Int) < ba + sz := by unfold winN at hjw; omega
      have h2 : (m : Int) ≤ 1152921504606846976 := by unfold winN at hjw; omega
      have hsn := winR_snoc (L := L) hjw
      rw [← hm] at hsn
      obtain ⟨is, his⟩ : ∃ is, is = decide ((m : Int) ∈ L) := ⟨_, rfl⟩
      rw [← his] at hsn
      have hin := hide (in10 wr A n c L m (RdW.of_rd hr.rd hsr.right.right) (by omega))
      rw [← his] at hin
      have hnext : Hid (ys ++ (if is then [] else [Value.int .i64 (m : Nat)]) = lk ((winR L sz ba).take (j + 1))) := by
        rw [hsn, lk_snoc, HY.out]
        rfl
      have hjw' : j + 1 ≤ winN sz ba := hjw
      have HM := hide hm
      have HQ := hide hq
      clear hsn his hm hq hjw HY
      cases is
      · obtain ⟨A4, c4, w4, run4, hs5⟩ := Sat.app1 (t := 52) (ty := 52) hsr elt_ints (.int .i64 m) rfl (by unfold maxLen; omega) (by omega)
        have R4 := Lib.hid run4
        have HS := hide hs5
        clear run4 hs5 hsr
        go_wp2_with (first
          | (go_at_call 103; refine (unhide hin).mono ?_; rintro e w2 ⟨rfl, rfl⟩)
          | (at_builtin; refine wpList_appendR rfl (.tmp 33) (.tmp 35) rfl rfl rfl R4.out ?_))
        go_roundw
        case rel =>
          have hq := unhide HQ
          have hm := unhide HM
          refine ⟨j + 1, c4, A4, _, ?_, ?_, hjw', ?_, ?_, hnext, ?_⟩
          · simp [hq]
          · rw [hm]; go_num
          · simp; omega
          · simp; omega
          · have := unhide HS
            simpa [hq] using this
        case measure => have hm := unhide HM; simp [intOf]; omega
      · have HS := hide hsr
        clear hsr
        go_wp2_with (go_at_call 103; refine (unhide hin).mono ?_; rintro e w2 ⟨rfl, rfl⟩)
        go_roundw
        case rel =>
          have hq := unhide HQ
          have hm := unhide HM
          refine ⟨j + 1, lc, lA, _, ?_, ?_, hjw', ?_, ?_, hnext, ?_⟩
          · simp [hq]
          · rw [hm]; go_num
          · simp; omega
          · simp; omega
          · have := unhide HS
            simpa [hq] using this
        case measure => have hm := unhide HM; simp [intOf]; omega
    · have hend : ys = (lk (winR L sz ba)).take most.toNat := by
        by_cases hjw : j < winN sz ba
        · have hmq : most.toNat = q := by omega
          rw [hmq, hq, HY.out]
          refine lk_pre ?_
          rw [List.length_take, winR_len, Nat.min_eq_left hj]
        · have hjw2 : j = winN sz ba := by omega
          have hy := HY.out
          rw [hjw2, List.take_of_length_le (by rw [winR_len]; exact Nat.le_refl _)] at hy
          rw [← hy, List.take_of_length_le (by omega)]
      have HFIN : Hid (Lack10 E F ((lk (winR L sz ba)).take most.toNat) (.returned (.slice lA q lc)) wr) := by
        rw [← hend]
        rw [hq] at hsr ⊢
        exact ⟨lA, lc, rfl, hsr.f2.right⟩
      have hw0 : ¬ (j < winN sz ba ∧ (q : Int) < most) → ¬ ((m : Int) < ba + sz ∧ (m : Int) ≤ 1152921504606846976 ∧ (q : Int) < most) := by
        intro h h2
        exact h ⟨by unfold winN; omega, h2.2.2⟩
      have hw1 := hw0 hgo
      clear hend hm hq HY hw0 hgo hsr hs
      by_cases g1 : (m : Int) < ba + sz
      · by_cases g2 : (m : Int) ≤ 1152921504606846976
        · have g3 : ¬ (q : Int) < most := fun h => hw1 ⟨g1, g2, h⟩
          clear hw1
          go_wp2_with fail
          go_ret
          exact unhide HFIN
        · clear hw1
          go_wp2_with fail
          go_ret
          exact unhide HFIN
      · clear hw1
        go_wp2_with fail
        go_ret
        exact unhide HFIN

theorem new10 (w : World) (sz ba : Int) (h : 1 ≤ sz ∧ sz ≤ 256 ∧ 0 ≤ ba ∧ ba ≤ 1152921504606846976) :
    Calls Try.prog 54 #[.int .i64 sz, .int .i64 ba] w fun e w' => e = .returned (.tuple #[.agg #[.int .i64 sz, .int .i64 ba, .slice none 0 0], .int .i64 0]) ∧ Below w.heap.size w w' := by
  obtain ⟨h1, h2, h3, h4⟩ := h
  go_enter Try.func54, Try.ntmps54
  go_wp2_with fail
  exact bodyPost_ret (v := .tuple #[.agg #[.int .i64 sz, .int .i64 ba, .slice none 0 0], .int .i64 0]) (by simp [results, Try.results54, go_sem]) rfl ⟨rfl, (Below.refl _ _).alloc (Nat.le_refl _) _⟩
theorem new10_no (w : World) (sz ba : Int) (h : ¬ (1 ≤ sz ∧ sz ≤ 256 ∧ 0 ≤ ba ∧ ba ≤ 1152921504606846976)) :
    Calls Try.prog 54 #[.int .i64 sz, .int .i64 ba] w fun e w' => e = .returned (.tuple #[.agg #[.int .i64 0, .int .i64 0, .slice none 0 0], .int .i64 100]) ∧ Below w.heap.size w w' := by
  go_enter Try.func54, Try.ntmps54
  go_wp2_with fail
  all_goals first
    | (exfalso; omega)
    | exact bodyPost_ret (v := .tuple #[.agg #[.int .i64 0, .int .i64 0, .slice none 0 0], .int .i64 100]) (by simp [results, Try.results54, go_sem]) rfl ⟨rfl, (Below.refl _ _).alloc (Nat.le_refl _) _⟩
end Go.Proofs.Ytpcoehbjbjfggaa
