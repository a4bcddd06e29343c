/- The program's bitmap: Lacking. -/
import Derived.Test.YtcagfcflffhadaaBitL
namespace Go.Proofs.Ytcagfcflffhadaa
open Go.RowKit Asn
attribute [local go_sem] Oper.semAt_some

/-- Those of a window that are not set. -/
def lk (pre : List (Nat × Bool)) : List Value := (pre.filter (!·.2)).map fun x => Value.int .i64 (x.1 : Nat)
theorem lk_len (pre : List (Nat × Bool)) : (lk pre).length ≤ pre.length := by unfold lk; rw [List.length_map]; exact List.length_filter_le _ _
theorem lk_snoc (pre : List (Nat × Bool)) (x : Nat × Bool) : lk (pre ++ [x]) = lk pre ++ (if x.2 then [] else [Value.int .i64 (x.1 : Nat)]) := by
  unfold lk
  rw [List.filter_append, List.map_append]
  cases h : x.2 <;> simp [h]
theorem lk_pre {pre W : List (Nat × Bool)} (h : pre = W.take pre.length) : lk pre = (lk W).take (lk pre).length := by
  have e : lk W = lk pre ++ lk (W.drop pre.length) := by
    have : W = pre ++ W.drop pre.length := by conv => lhs; rw [← List.take_append_drop pre.length W, ← h]
    unfold lk
    conv => lhs; rw [this]
    rw [List.filter_append, List.map_append]
  rw [e, List.take_left']
  rfl
set_option maxHeartbeats 1000000 in
set_option maxRecDepth 100000 in
theorem lacking_call (E w : World) (F : Asn) (g : Nat) (V : Nat → Nat) (sz ba : Nat) (most : Int) (h : Sat E w (BitAt g V sz ba * F)) (hV : Small V) (h0 : 1 ≤ sz) (hs : sz ≤ 256) (hb : ba ≤ 1152921504606846977) :
    Calls Try.prog 102 #[.pointer (some ⟨g, 0, none⟩), .int .i64 most] w fun e w' => ∃ A c, e = .returned (.slice A ((lk (winL V sz ba)).take most.toNat).length c) ∧ Sat E w' (sl 3 1 A ((lk (winL V sz ba)).take most.toNat).length c ((lk (winL V sz ba)).take most.toNat) * (BitAt g V sz ba * F)) := by
  obtain ⟨ys, hys⟩ : ∃ ys, ys = (lk (winL V sz ba)).take most.toNat := ⟨_, rfl⟩
  have HYS0 := Lib.hid hys
  rw [← hys]
  clear hys
  have hs1 := ((h.alloc #[.int .i64 most] 3).alloc #[.slice none 0 0] 34).alloc #[.pointer (some ⟨g, 0, none⟩)] 86
  simp only [World.size_alloc] at hs1
  refine callsIn_wide.1 (callsIn_of_wp_marks (F := Fence.wide) (n := 0) Try.func102 rfl trivial (wpIn_wide.2 ?_) rfl)
  simp only [Try.ntmps102, List.size_toArray, List.length_cons, List.length_nil, Nat.reduceAdd, Nat.reduceSub, Array.replicate_succ, Array.replicate_zero, List.push_toArray, List.append_toArray, List.nil_append, List.cons_append]
  go_wp2_with (go_at_call 129; refine (window_call _ _).mono ?_; rintro e w' ⟨rfl, rfl⟩)
  refine wpIn_wide.1 (wpIn_rangeFunc_sl (E := E) (α := Nat × Bool) (R := F) (win_seq E (w.heap.size + 1 + 1) g V sz ba hV h0 hs hb) rfl (enters_of Try.func138 (by kernel_rfl) rfl) (fun x => rfl)
    (fun pre => Asn.fact (pre = (winL V sz ba).take pre.length ∧ (lk pre).length ≤ most.toNat) * (Asn.blk w.heap.size 3 #[.int .i64 most] * BoxL (w.heap.size + 1) (lk pre)))
    (fun c _ => Asn.fact (c = .exit 0) * BoxL (w.heap.size + 1) ys) ?h0 ?round ?done ?stop)
  case h0 =>
    have h2 : Sat E _ (BoxL (w.heap.size + 1) (lk []) * (Asn.blk (w.heap.size + 1 + 1) 86 #[.pointer (some ⟨g, 0, none⟩)] * (Asn.blk w.heap.size 3 #[.int .i64 most] * (BitAt g V sz ba * F)))) := Sat.mkEx (none, 0) (Sat.csa (Sat.f2 (Sat.slNil hs1.f2)))
    exact (Sat.mkFact (p := ([] : List (Nat × Bool)) = (winL V sz ba).take ([] : List (Nat × Bool)).length ∧ (lk []).length ≤ most.toNat) ⟨by simp, Nat.zero_le _⟩ h2).perm (by unfold WinM; ac_rfl)
  case round =>
    rintro l pre x ⟨rfl, hlt⟩ T W hsW
    unfold winE
    gi_wp2
    refine ⟨_, hsW, ?_⟩
    intro W2 T3 rec hs2
    obtain ⟨⟨hpre, hmost⟩, hs3⟩ := Sat.fact (p := pre = (winL V sz ba).take pre.length ∧ (lk pre).length ≤ most.toNat) (F := BoxL (w.heap.size + 1) (lk pre) * (Asn.blk w.heap.size 3 #[.int .i64 most] * (WinM (w.heap.size + 1 + 1) g V sz ba * (Asn.obj l (.loop rec) * T3)))) (hs2.perm (by ac_rfl))
    have hnext := hide (winL_next hpre hlt)
    have hlkp := hide (lk_pre hpre)
    have hwn : winN sz ba ≤ sz := Nat.min_le_left _ _
    have hsn := lk_snoc pre (ba + pre.length, bitAt V (ba + pre.length))
    have hll := lk_len pre
    obtain ⟨⟨A, c⟩, hs4⟩ := hs3.ex
    have hs5 := hs4.asc
    clear hs2 hs3 hs4 hsW hpre
    generalize bitAt V (ba + pre.length) = bv at hsn hnext ⊢
    obtain ⟨m, hm⟩ : ∃ m, m = (lk pre).length := ⟨_, rfl⟩
    have HM := Lib.hid hm
    obtain ⟨bk, hbk⟩ : ∃ bk, bk = ba + pre.length := ⟨_, rfl⟩
    have hbk2 : bk ≤ 1152921504606847500 := by omega
    have hnum : (ba : Int) + pre.length = bk := by omega
    rw [← hbk] at hsn hnext ⊢
    have hm2 : m ≤ 256 := by omega
    rw [← hm] at hs5 hmost hlkp
    dsimp only at hs5
    have HMOST := Lib.hid hmost
    clear hm hbk hll
    have d0 : W2.cell? ⟨w.heap.size + 1, 0, none⟩ = some (.slice A m c) := hs5.cell 0
    have d3 : W2.cell? ⟨w.heap.size, 0, none⟩ = some (.int .i64 most) := hs5.f3.cell 0
    by_cases hge : most ≤ m
    · have HYS : Hid (ys = lk pre) := by
        show _ = _
        rw [HYS0.out, show most.toNat = m by have := HMOST.out; omega]
        exact hlkp.out.symm
      have HS := hide hs5
      clear hs5 hsn hmost
      gi_wp2
      have hbox : Sat E W2 (BoxL (w.heap.size + 1) ys * (Asn.blk w.heap.size 3 #[.int .i64 most] * (WinM (w.heap.size + 1 + 1) g V sz ba * (Asn.obj l (.loop rec) * T3)))) := by
        rw [HYS.out]
        refine Sat.mkEx (A, c) (Sat.csa ?_)
        rw [← HM.out]
        exact unhide HS
      exact (Sat.mkFact (p := Code.exit 0 = Code.exit 0) rfl hbox.f2.right).perm (by show _ = (WinM _ _ _ _ _ * (Asn.fact _ * BoxL _ _)) * _; ac_rfl)
    · cases bv
      · have hs6 := hs5.alloc #[.int .i64 bk] 3
        obtain ⟨A4, c4, w4, run4, hs7⟩ := Sat.append (P := Try.prog) (t := 34) (ty := 34) (d := 1) elt_ints hs6.f3 (RdW.new _ #[.int .i64 bk] 3 1 1 rfl) (by intro u hu; simp at hu; subst hu; rfl) (by unfold maxLen; omega) (by omega)
        have R4 := Lib.hid run4
        have d1 : w4.cell? ⟨w.heap.size + 1, 0, none⟩ = some (.slice A m c) := hs7.f3.cell 0
        have d2 : w4.frozen? ⟨w.heap.size + 1, 0, none⟩ = false := hs7.f3.frozen 0
        have hs8 := hide (hs7.f3.set 0 (.slice A4 (m + 1) c4))
        have hm3 : m + 1 ≤ most.toNat := by omega
        have HM3 := Lib.hid hm3
        have HSN := Lib.hid hsn
        clear hs5 hs6 hs7 run4 hsn hmost hm3
        gi_wp2_with (gi_at_builtin; refine wpListIn_appendR rfl (.tmp 18) (.tmp 20) rfl rfl rfl R4.out ?_)
        have hsn2 : lk (pre ++ [(bk, false)]) = lk pre ++ [Value.int .i64 (bk : Nat)] := by rw [HSN.out]; simp
        have hl1 : (lk (pre ++ [(bk, false)])).length = m + 1 := by rw [hsn2, List.length_append, ← HM.out]; rfl
        have hbox : Sat E (w4.setCell ⟨w.heap.size + 1, 0, none⟩ (.slice A4 (m + 1) c4)) (BoxL (w.heap.size + 1) (lk (pre ++ [(bk, false)])) * (Asn.blk w.heap.size 3 #[.int .i64 most] * (WinM (w.heap.size + 1 + 1) g V sz ba * (Asn.obj l (.loop rec) * T3)))) := by
          refine Sat.mkEx (A4, c4) (Sat.csa ?_)
          rw [hl1, hsn2]
          exact (unhide hs8).f3.right
        exact (Sat.mkFact (p := pre ++ [(bk, false)] = (winL V sz ba).take (pre.length + 1) ∧ (lk (pre ++ [(bk, false)])).length ≤ most.toNat) ⟨hnext.out, by rw [hl1]; exact HM3.out⟩ hbox).perm (by ac_rfl)
      · have HSN := Lib.hid hsn
        have HS := hide hs5
        clear hs5 hsn hmost
        gi_wp2
        have hsn2 : lk (pre ++ [(bk, true)]) = lk pre := by rw [HSN.out]; simp
        have hbox : Sat E W2 (BoxL (w.heap.size + 1) (lk (pre ++ [(bk, true)])) * (Asn.blk w.heap.size 3 #[.int .i64 most] * (WinM (w.heap.size + 1 + 1) g V sz ba * (Asn.obj l (.loop rec) * T3)))) := by
          rw [hsn2]
          refine Sat.mkEx (A, c) (Sat.csa ?_)
          rw [← HM.out]
          exact unhide HS
        exact (Sat.mkFact (p := pre ++ [(bk, true)] = (winL V sz ba).take (pre.length + 1) ∧ (lk (pre ++ [(bk, true)])).length ≤ most.toNat) ⟨hnext.out, by rw [hsn2, ← HM.out]; exact HMOST.out⟩ hbox).perm (by ac_rfl)
  case done =>
    rintro D xs W hx hsW
    obtain ⟨⟨hpre, hmost⟩, hs3⟩ := Sat.fact (p := xs = (winL V sz ba).take xs.length ∧ (lk xs).length ≤ most.toNat) (F := BoxL (w.heap.size + 1) (lk xs) * (Asn.obj D (.deferred (some [])) * (WinM (w.heap.size + 1 + 1) g V sz ba * (Asn.blk w.heap.size 3 #[.int .i64 most] * F)))) (hsW.perm (by ac_rfl))
    have hxs : xs = winL V sz ba := by rw [hpre, List.take_of_length_le (by rw [winL_len, hx]; exact Nat.le_refl _)]
    subst hxs
    have hs3 : Sat E W (BoxL (w.heap.size + 1) ys * (Asn.obj D (.deferred (some [])) * (WinM (w.heap.size + 1 + 1) g V sz ba * F))) := by
      rw [HYS0.out, List.take_of_length_le hmost]
      exact (Sat.right (A := Asn.blk w.heap.size 3 #[.int .i64 most]) (hs3.perm (by ac_rfl)))
    clear hpre hmost
    obtain ⟨⟨A, c⟩, hs4⟩ := hs3.ex
    have hs5 := hs4.asc
    have d0 : W.cell? ⟨w.heap.size + 1, 0, none⟩ = some (.slice A ys.length c) := hs5.cell 0
    have hs6 := hs5.f3
    have HK := hide hs6.obj
    have HS := hide (sat_putObj (o' := .deferred none) hs6)
    clear hsW hs3 hs4 hs5 hs6
    obtain ⟨m, hm⟩ : ∃ m, m = ys.length := ⟨_, rfl⟩
    have HM := Lib.hid hm
    rw [← hm] at d0
    clear hm
    go_wp2_with fail
    refine ⟨by simp, .inl ⟨_, _, rfl, run_takeDeferred HK.out, ?_⟩⟩
    refine ⟨_, results_tmp rfl _ _ _, A, c, by rw [← HM.out]; rfl, ?_⟩
    exact ((unhide HS).right.right.perm (by unfold WinM; ac_rfl) : Sat E _ (Asn.blk (w.heap.size + 1 + 1) 86 #[.pointer (some ⟨g, 0, none⟩)] * (sl 3 1 A ys.length c ys * (BitAt g V sz ba * F)))).right
  case stop =>
    rintro D c pre W _ hsW
    obtain ⟨rfl, hs3⟩ := Sat.fact (p := c = .exit 0) (F := BoxL (w.heap.size + 1) ys * (Asn.obj D (.deferred (some [])) * (WinM (w.heap.size + 1 + 1) g V sz ba * F))) (hsW.perm (by ac_rfl))
    refine wpIn_wide.2 ?_
    obtain ⟨⟨A, c⟩, hs4⟩ := hs3.ex
    have hs5 := hs4.asc
    have d0 : W.cell? ⟨w.heap.size + 1, 0, none⟩ = some (.slice A ys.length c) := hs5.cell 0
    have hs6 := hs5.f3
    have HK := hide hs6.obj
    have HS := hide (sat_putObj (o' := .deferred none) hs6)
    clear hsW hs3 hs4 hs5 hs6
    obtain ⟨m, hm⟩ : ∃ m, m = ys.length := ⟨_, rfl⟩
    have HM := Lib.hid hm
    rw [← hm] at d0
    clear hm
    go_wp2_with fail
    refine ⟨by simp, .inl ⟨_, _, rfl, run_takeDeferred HK.out, ?_⟩⟩
    refine ⟨_, results_tmp rfl _ _ _, A, c, by rw [← HM.out]; rfl, ?_⟩
    exact ((unhide HS).right.right.perm (by unfold WinM; ac_rfl) : Sat E _ (Asn.blk (w.heap.size + 1 + 1) 86 #[.pointer (some ⟨g, 0, none⟩)] * (sl 3 1 A ys.length c ys * (BitAt g V sz ba * F)))).right
end Go.Proofs.Ytcagfcflffhadaa
