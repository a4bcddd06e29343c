/- The program's tomb: Open. -/
import Derived.Test.YtcagfcflffhadaaTomb
import Derived.Test.YtcagfcflffhadaaRS
namespace Go.Proofs.Ytcagfcflffhadaa
open Go.RowKit Asn
section
variable {E w : World} {F : Asn} {t g sz ba : Nat} {V : Nat → Nat} {L : List Int}
theorem take_snoc20 (L : List Int) {k : Nat} (h : k < L.length) : L.take (k + 1) = L.take k ++ [L.getD k 0] := by
  rw [List.take_succ_eq_append_getElem h]
  simp [List.getD, h]
theorem lackL_mem {x : Int} (h : x ∈ lackL sz ba L) (hs : sz ≤ 64) : (ba : Int) ≤ x ∧ x < ba + sz ∧ x ∉ L := by
  unfold lackL at h
  rw [List.mem_filter, List.mem_map] at h
  obtain ⟨⟨j, hj, rfl⟩, h2⟩ := h
  have := List.mem_range.1 hj
  unfold winN at this
  exact ⟨by omega, by omega, by simpa using h2⟩
theorem lackL_len (hs : sz ≤ 64) : (lackL sz ba L).length ≤ 64 := by
  unfold lackL
  refine Nat.le_trans (List.length_filter_le _ _) ?_
  rw [List.length_map, List.length_range]
  unfold winN; omega
set_option maxHeartbeats 2000000 in
set_option maxRecDepth 100000 in
theorem tomb_open {most : Int} (hs : Sat E w (TombAt t g sz V ba * F)) (hi : TInv sz ba V L) :
    Calls Try.prog 49 #[.pointer (some ⟨t, 0, none⟩), .int .i64 most] w fun e w' => ∃ A c, e = .returned (.slice A ((openA sz ba L).take most.toNat).length c) ∧ Sat E w' (sl 3 1 A ((openA sz ba L).take most.toNat).length c (ints ((openA sz ba L).take most.toNat)) * (TombAt t g sz V ba * F)) := by
  obtain ⟨M0, hM0⟩ : ∃ M, M = (openA sz ba L).take most.toNat := ⟨_, rfl⟩
  rw [← hM0]
  obtain ⟨A0, hA0⟩ : ∃ A, A = (lackL sz ba L).take most.toNat := ⟨_, rfl⟩
  have hAM : A0.filter (fun x => decide (x ≤ 1073741824)) = M0 := by rw [hA0, hM0]; exact openA_lack hi.top hi.sz _
  have hAm : ∀ x ∈ A0, (ba : Int) ≤ x ∧ x < ba + sz ∧ x ∉ L := fun x hx => lackL_mem (List.mem_of_mem_take (hA0 ▸ hx)) hi.sz
  have hA64 : A0.length ≤ 64 := by rw [hA0, List.length_take]; have := lackL_len (ba := ba) (L := L) hi.sz; omega
  have hno := hide (tomb_is hs)
  have h1 : w.cell? ⟨t, 0, none⟩ = some (.pointer (some ⟨g, 0, none⟩)) := hs.asc.cell 0
  have hlk := lacking_call E w _ g V sz ba most hs.asc.f2 hi.r.small hi.r.one hi.r.le hi.r.top
  rw [hi.r.winEq, lackL_ints, ints_take, ← hA0, length_ints] at hlk
  have HLK := hide hlk
  have HI := hide hi
  have HAM := hide hAM
  have HAm := hide hAm
  have hb1 := hi.one
  have hb2 := hi.top
  have hb3 := hi.sz
  clear hs hi hlk hM0 hA0 hAM hAm
  go_enter Try.func49, Try.ntmps49
  go_wp2_with (go_at_call 82; refine (unhide hno).mono ?_; rintro e w' ⟨rfl, rfl⟩)
  refine (unhide HLK).mono ?_
  rintro e w2 ⟨A1, c1, rfl, hs2⟩
  obtain ⟨q, hq⟩ : ∃ q, q = A0.length := ⟨_, rfl⟩
  rw [← hq] at hs2 ⊢
  have HQ := hide hq
  have hs3 := hide ((hs2.slNil (e := 3) (z := 1)).perm (show _ = sl 3 1 none 0 0 [] * (sl 3 1 A1 q c1 (ints A0) * (TombAt t g sz V ba * F)) by unfold TombAt; ac_rfl))
  have hq64 : q ≤ 64 := by omega
  clear hs2 HLK h1 hq
  go_wp2_with fail
  go_loopw [5, 7, 17] (fun s5 _ s17 wr => ∃ (k lc : Nat) (lA : Option Addr) (M : List Int), s17 = .int .i64 k ∧ s5 = .slice lA M.length lc ∧ k ≤ q ∧ M.length ≤ k ∧ Hid (M = (A0.take k).filter (fun x => decide (x ≤ 1073741824))) ∧
      Sat E wr (sl 3 1 lA M.length lc (ints M) * (sl 3 1 A1 q c1 (ints A0) * (TombAt t g sz V ba * F)))) (fun _ _ s17 _ => q - (intOf s17).toNat)
  case atStart => exact ⟨0, 0, none, [], rfl, rfl, Nat.zero_le _, Nat.le_refl _, hide (by simp), unhide hs3⟩
  case round =>
    obtain ⟨k, lc, lA, M, rfl, rfl, hk, hmk, HM, hsr⟩ := hrel
    clear hs3
    obtain ⟨mq, hmq⟩ : ∃ mq, mq = M.length := ⟨_, rfl⟩
    rw [← hmq] at hsr hmk ⊢
    have HMQ := hide hmq
    by_cases hlt : k < q
    · obtain ⟨ad, rfl, hc⟩ := (hsr.right.slRd).int_at hlt
      have hql := unhide HQ
      have hts := take_snoc20 A0 (k := k) (by omega)
      have hmem : A0.getD k 0 ∈ A0 := by rw [getD_lt (by omega)]; exact List.getElem_mem _
      obtain ⟨x, hx⟩ : ∃ x, x = A0.getD k 0 := ⟨_, rfl⟩
      rw [← hx] at hc hts hmem
      obtain ⟨x1, x2, x3⟩ := unhide HAm x hmem
      have hmay := tomb_may (n := x) (hsr.perm (show _ = TombAt t g sz V ba * (F * (sl 3 1 lA mq lc (ints M) * sl 3 1 (some ad) q c1 (ints A0))) by ac_rfl)) (unhide HI) (by omega)
      have hval : mayR sz ba L x = decide (x ≤ 1073741824) := by
        unfold mayR
        rw [decide_eq_decide]
        exact ⟨fun h => h.2.2.1, fun h => ⟨x1, x2, h, x3⟩⟩
      rw [hval] at hmay
      have hnx : Hid ((A0.take (k + 1)).filter (fun x => decide (x ≤ 1073741824)) = M ++ if x ≤ 1073741824 then [x] else []) := by
        rw [hts, List.filter_append, ← HM.out]
        by_cases h : x ≤ 1073741824 <;> simp [h, Hid]
      by_cases hxt : x ≤ 1073741824
      · rw [decide_eq_true hxt] at hmay
        rw [if_pos hxt] at hnx
        have HMAY := hide hmay
        clear hmay hsr hts hmem hx hval hql hmq
        go_wp2_with fail
        refine (unhide HMAY).mono ?_
        rintro e w4 ⟨rfl, hs4⟩
        obtain ⟨A4, c4, w5, run4, hs5⟩ := Sat.app1 (t := 34) (ty := 34) (hs4.perm (show _ = sl 3 1 lA mq lc (ints M) * (sl 3 1 (some ad) q c1 (ints A0) * (TombAt t g sz V ba * F)) by ac_rfl)) elt_ints (.int .i64 x) rfl (by unfold maxLen; omega) (by omega)
        have R4 := Lib.hid run4
        have HS5 := hide hs5
        clear hs4 run4 hs5 HMAY
        go_wp2_with (at_builtin; refine wpList_appendR rfl (.tmp 24) (.tmp 26) rfl rfl rfl R4.out ?_)
        go_roundw
        case rel => exact ⟨k + 1, c4, A4, M ++ [x], by go_num, by rw [unhide HMQ]; simp, by omega, by have := unhide HMQ; simp; omega, hide hnx.out.symm, by have := unhide HS5; rw [unhide HMQ] at this; simpa [ints_append, ints] using this⟩
        case measure => simp [intOf]; omega
      · rw [decide_eq_false hxt] at hmay
        rw [if_neg hxt, List.append_nil] at hnx
        have HMAY := hide hmay
        clear hmay hsr hts hmem hx hval hql hmq
        go_wp2_with fail
        refine (unhide HMAY).mono ?_
        rintro e w4 ⟨rfl, hs4⟩
        have HS5 := hide (hs4.perm (show _ = sl 3 1 lA mq lc (ints M) * (sl 3 1 (some ad) q c1 (ints A0) * (TombAt t g sz V ba * F)) by ac_rfl))
        clear hs4 HMAY
        go_wp2_with fail
        go_roundw
        case rel => exact ⟨k + 1, lc, lA, M, by go_num, by rw [unhide HMQ], by omega, by have := unhide HMQ; omega, hide hnx.out.symm, by rw [← unhide HMQ]; exact unhide HS5⟩
        case measure => simp [intOf]; omega
    · obtain rfl : k = q := by omega
      have hMM : M = M0 := by
        have h := HM.out
        have hql := unhide HQ
        rwa [List.take_of_length_le (by omega), unhide HAM] at h
      have HMM := hide hMM
      have HS := hide hsr.f2.right
      clear hsr hMM hmq
      go_wp2_with fail
      go_ret
      refine ⟨lA, lc, by rw [← unhide HMM, ← unhide HMQ]; rfl, ?_⟩
      rw [← unhide HMM, ← unhide HMQ]
      exact unhide HS
end
end Go.Proofs.Ytcagfcflffhadaa
