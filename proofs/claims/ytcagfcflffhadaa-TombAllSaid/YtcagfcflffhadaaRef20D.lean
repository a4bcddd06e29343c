/- The document's tomb: Open, New. -/
import Derived.Test.YtcagfcflffhadaaRef20C
import Derived.Test.YtcagfcflffhadaaTombO
namespace Go.Proofs.Ytcagfcflffhadaa
open Go.RowKit Asn
theorem filt_pre {p : Int → Bool} (A : List Int) (j : Nat) : (A.take j).filter p = (A.filter p).take ((A.take j).filter p).length := by
  have e : A.filter p = (A.take j).filter p ++ (A.drop j).filter p := by
    rw [← List.filter_append, List.take_append_drop]
  rw [e, List.take_left']
  rfl
/-- The window's numbers. -/
def winI (sz ba : Nat) : List Int := (List.range sz).map fun j => ((ba + j : Nat) : Int)
def opnB (L : List Int) (x : Int) : Bool := decide (x ∉ L) && decide (x ≤ 1073741824)
theorem winI_snoc {sz ba j : Nat} (h : j < sz) : (winI sz ba).take (j + 1) = (winI sz ba).take j ++ [((ba + j : Nat) : Int)] := by
  rw [List.take_succ_eq_append_getElem (by simp [winI]; exact h)]
  congr 2
  simp [winI]
/-- What Open leaves. -/
def Open20 (E : World) (F : Asn) (M : List Int) (e : Ending) (w' : World) : Prop := ∃ A' c', e = .returned (.slice A' M.length c') ∧ Sat E w' (sl 3 1 A' M.length c' (ints M) * F)
set_option maxHeartbeats 2000000 in
set_option maxRecDepth 100000 in
theorem open20 (E w : World) (F : Asn) (A : Option Addr) (n c : Nat) (L : List Int) (sz ba : Nat) (most : Int) (hs : Sat E w F) (hr : RS F A n c L) (hn : n ≤ 60000) (hsz : sz ≤ 64) (hba : ba ≤ 1073741825) :
    Calls Try.prog 93 #[.agg #[.int .i64 sz, .int .i64 ba, .slice A n c], .int .i64 most] w (Open20 E F ((openA sz ba L).take most.toNat)) := by
  have hs2 := hs.alloc #[.int .i64 sz, .int .i64 ba, .slice A n c] 45
  have hOA : openA sz ba L = (winI sz ba).filter (opnB L) := rfl
  rw [hOA]
  go_enter Try.func93, Try.ntmps93
  go_wp2_with fail
  go_loopw [5, 6] (fun s5 s6 wr => ∃ (j lc : Nat) (lA : Option Addr) (M : List Int), s5 = .slice lA M.length lc ∧ s6 = .int .i64 (ba + j : Nat) ∧ j ≤ sz ∧ M.length ≤ most.toNat ∧ M.length ≤ j ∧ Hid (M = ((winI sz ba).take j).filter (opnB L)) ∧
      Sat E wr (sl 3 1 lA M.length lc (ints M) * (Asn.blk w.heap.size 45 #[.int .i64 sz, .int .i64 ba, .slice A n c] * F))) (fun _ s6 _ => ba + sz - (intOf s6).toNat)
  case atStart => exact ⟨0, 0, none, [], rfl, rfl, Nat.zero_le _, Nat.zero_le _, Nat.le_refl _, hide (by simp), hs2.slNil⟩
  case round =>
    obtain ⟨j, lc, lA, M, rfl, rfl, hj, hlm, hlj, HY, hsr⟩ := hrel
    clear hs2
    obtain ⟨m, hm⟩ : ∃ m, m = ba + j := ⟨_, rfl⟩
    obtain ⟨q, hq⟩ : ∃ q, q = M.length := ⟨_, rfl⟩
    rw [← hm]
    rw [← hq] at hsr hlm hlj ⊢
    have hmb : m ≤ 1073741825 + 64 := by omega
    have b0 : wr.cell? ⟨w.heap.size, 0, none⟩ = some (.int .i64 sz) := hsr.f2.cell 0
    have b1 : wr.cell? ⟨w.heap.size, 1, none⟩ = some (.int .i64 ba) := hsr.f2.cell 1
    have b2 : wr.cell? ⟨w.heap.size, 2, none⟩ = some (.slice A n c) := hsr.f2.cell 2
    by_cases hgo : j < sz ∧ (q : Int) < most
    · obtain ⟨hjw, hqm⟩ := hgo
      have h1 : (m : Int) < ba + sz := by omega
      have hsn := winI_snoc (ba := ba) hjw
      rw [← hm] at hsn
      obtain ⟨is, his⟩ : ∃ is, is = opnB L m := ⟨_, rfl⟩
      have hmay := may20 wr A n c L sz ba m (RdW.of_rd hr.rd hsr.right.right) (by omega) hsz hba
      have hval : mayR sz ba L m = is := by
        rw [his]
        unfold mayR opnB
        rw [← Bool.decide_and, decide_eq_decide]
        exact ⟨fun h => ⟨h.2.2.2, h.2.2.1⟩, fun h => ⟨by omega, by omega, h.2, h.1⟩⟩
      rw [hval] at hmay
      have HMAY := hide hmay
      have hnext : Hid (((winI sz ba).take (j + 1)).filter (opnB L) = M ++ (if is then [(m : Int)] else [])) := by
        rw [hsn, List.filter_append, ← HY.out, List.filter_cons, ← his]
        cases is <;> exact rfl
      have hjw' : j + 1 ≤ sz := hjw
      have HM := hide hm
      have HQ := hide hq
      have HSR := hide hsr
      clear hsn his hm hq hjw HY hmay hval hsr
      cases is
      · go_wp2_with fail
        refine (unhide HMAY).mono ?_
        rintro e w2 ⟨rfl, hb⟩
        have HS := hide ((unhide HSR).under hb)
        clear HSR HMAY hb
        go_wp2_with fail
        go_roundw
        case rel => exact ⟨j + 1, lc, lA, M, by rw [unhide HQ], by rw [unhide HM]; go_num, hjw', by have := unhide HQ; omega, by have := unhide HQ; omega, hide (by rw [unhide hnext]; simp), by rw [← unhide HQ]; exact unhide HS⟩
        case measure => have hm := unhide HM; simp [intOf]; omega
      · go_wp2_with fail
        refine (unhide HMAY).mono ?_
        rintro e w2 ⟨rfl, hb⟩
        obtain ⟨A4, c4, w4, run4, hs5⟩ := Sat.app1 (t := 34) (ty := 34) ((unhide HSR).under hb) elt_ints (.int .i64 m) rfl (by unfold maxLen; omega) (by omega)
        have R4 := Lib.hid run4
        have HS := hide hs5
        clear HSR HMAY hb run4 hs5
        go_wp2_with (at_builtin; refine wpList_appendR rfl (.tmp 27) (.tmp 29) rfl rfl rfl R4.out ?_)
        go_roundw
        case rel => exact ⟨j + 1, c4, A4, M ++ [(m : Int)], by rw [unhide HQ]; simp, by rw [unhide HM]; go_num, hjw', by have := unhide HQ; simp; omega, by have := unhide HQ; simp; omega, hide (by rw [unhide hnext]; simp), by have := unhide HS; rw [unhide HQ] at this; simpa [ints_append, ints] using this⟩
        case measure => have hm := unhide HM; simp [intOf]; omega
    · have hend : M = ((winI sz ba).filter (opnB L)).take most.toNat := by
        have hwl : (winI sz ba).length = sz := by simp [winI]
        by_cases hjw : j < sz
        · have hmq : most.toNat = q := by omega
          rw [hmq, hq, HY.out]
          exact filt_pre _ _
        · have hjw2 : j = sz := by omega
          have hy := HY.out
          rw [List.take_of_length_le (by omega)] at hy
          rw [← hy, List.take_of_length_le (by omega)]
      have HFIN : Hid (Open20 E F (((winI sz ba).filter (opnB L)).take most.toNat) (.returned (.slice lA q lc)) wr) := by
        rw [← hend]
        rw [hq] at hsr ⊢
        exact ⟨lA, lc, rfl, hsr.f2.right⟩
      have hw1 : ¬ ((m : Int) < ba + sz ∧ (q : Int) < most) := fun h => hgo ⟨by omega, h.2⟩
      clear hend hm hq HY hgo hsr hs
      by_cases g1 : (m : Int) < ba + sz
      · have g3 : ¬ (q : Int) < most := fun h => hw1 ⟨g1, h⟩
        clear hw1
        go_wp2_with fail
        go_ret
        exact unhide HFIN
      · clear hw1
        go_wp2_with fail
        go_ret
        exact unhide HFIN
theorem new20 (w : World) (sz : Int) (h : 1 ≤ sz ∧ sz ≤ 64) :
    Calls Try.prog 29 #[.int .i64 sz] w fun e w' => e = .returned (.tuple #[.agg #[.int .i64 sz, .int .i64 1, .slice none 0 0], .int .i64 0]) ∧ Below w.heap.size w w' := by
  obtain ⟨h1, h2⟩ := h
  go_enter Try.func29, Try.ntmps29
  go_wp2_with fail
  exact bodyPost_ret (v := .tuple #[.agg #[.int .i64 sz, .int .i64 1, .slice none 0 0], .int .i64 0]) (by simp [results, Try.results29, go_sem]) rfl ⟨rfl, (Below.refl _ _).alloc (Nat.le_refl _) _⟩
theorem new20_no (w : World) (sz : Int) (h : ¬ (1 ≤ sz ∧ sz ≤ 64)) :
    Calls Try.prog 29 #[.int .i64 sz] w fun e w' => e = .returned (.tuple #[.agg #[.int .i64 0, .int .i64 0, .slice none 0 0], .int .i64 200]) ∧ Below w.heap.size w w' := by
  go_enter Try.func29, Try.ntmps29
  go_wp2_with fail
  all_goals first
    | (exfalso; omega)
    | exact bodyPost_ret (v := .tuple #[.agg #[.int .i64 0, .int .i64 0, .slice none 0 0], .int .i64 200]) (by simp [results, Try.results29, go_sem]) rfl ⟨rfl, (Below.refl _ _).alloc (Nat.le_refl _) _⟩
end Go.Proofs.Ytcagfcflffhadaa
