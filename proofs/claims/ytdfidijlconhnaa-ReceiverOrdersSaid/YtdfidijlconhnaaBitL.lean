/- The program's bitmap: the window's iterator; List, Lacking, Count. -/
import Derived.Test.YtdfidijlconhnaaBitS
import Derived.Test.YtdfidijlconhnaaElt
namespace Go.Proofs.Ytdfidijlconhnaa
open Go.RowKit Asn
attribute [local go_sem] Oper.semAt_some

/-- What the window's iterator reads. -/
def WinM (a g : Nat) (V : Nat → Nat) (sz ba : Nat) : Asn := Asn.blk a 115 #[.pointer (some ⟨g, 0, none⟩)] * BitAt g V sz ba
def winE (x : Nat × Bool) : Array Value := #[.int .i64 x.1, .bool x.2]
/-- How many there are. -/
def winN (sz ba : Nat) : Nat := min sz (1152921504606846977 - ba)
set_option maxHeartbeats 1000000 in
set_option maxRecDepth 100000 in
theorem win_seq (E : World) (a g : Nat) (V : Nat → Nat) (sz ba : Nat) (hV : Small V) (h0 : 1 ≤ sz) (hs : sz ≤ 256) (hb : ba ≤ 1152921504606846977) :
    SeqSL E Try.prog 112 #[.pointer (some ⟨a, 0, none⟩)] winE (fun _ => WinM a g V sz ba)
      (fun xs => xs.length = winN sz ba) (fun _ => True) (fun pre x => x = (ba + pre.length, bitAt V (ba + pre.length)) ∧ pre.length < winN sz ba) := by
  intro l J Jx W hY hsat
  have hca : ∀ {A : Asn} {W : World}, Sat E W (WinM a g V sz ba * A) → W.cell? ⟨a, 0, none⟩ = some (.pointer (some ⟨g, 0, none⟩)) := fun h => h.asc.cell 0
  have hcb : ∀ {A : Asn} {W : World}, Sat E W (WinM a g V sz ba * A) → Sat E W (BitAt g V sz ba * (Asn.blk a 115 #[.pointer (some ⟨g, 0, none⟩)] * A)) := fun h => h.asc.f2
  refine callsIn_wide.1 (callsIn_of_wp (F := Fence.wide) (n := 0) Try.func112 rfl trivial ?_ rfl)
  have c0 := hca hsat
  have h4 : W.cell? ⟨g, 4, none⟩ = some (.int .i64 sz) := (hcb hsat).cell 4
  have hz : ((sz : Int) == 0) = false := by simp; omega
  simp only [Try.ntmps112, List.size_toArray, List.length_cons, List.length_nil, Nat.reduceAdd, Nat.reduceSub, Array.replicate_succ, Array.replicate_zero, List.push_toArray, List.append_toArray, List.nil_append, List.cons_append]
  gi_wp2_with (gi_at_call 96; refine (callsIn_wide.2 (bit_none _ _ _ h4)).mono ?_; rintro e w' ⟨rfl, rfl⟩)
  gi_loopw [3, 4, 11] (fun _ _ p wr => ∃ pre : List (Nat × Bool), p = .int .i64 pre.length ∧ pre.length ≤ winN sz ba ∧ Sat E wr (WinM a g V sz ba * J pre)) (fun _ _ p _ => sz - (intOf p).toNat)
  case atStart => exact ⟨[], rfl, Nat.zero_le _, hsat⟩
  case round =>
    obtain ⟨pre, rfl, hle, hsr⟩ := hrel
    obtain ⟨k, hk⟩ : ∃ k, k = pre.length := ⟨_, rfl⟩
    rw [← hk] at hle
    rw [← hk]
    have HK := Lib.hid hk
    clear hk
    have c1 := hca hsr
    have c5 : wr.cell? ⟨g, 5, none⟩ = some (.int .i64 ba) := (hcb hsr).cell 5
    have hwn : winN sz ba ≤ sz := Nat.min_le_left _ _
    have hw := hide (within_sat E wr _ g V sz ba (ba + k : Nat) (hcb hsr) hs hb (by omega))
    have hwv : k < sz → inWin sz ba ((ba + k : Nat) : Int) = decide (k < winN sz ba) := by intro h; unfold inWin winN; rw [decide_eq_decide]; omega
    by_cases hlt : k < sz
    · rw [hwv hlt] at hw
      have hnum : (ba : Int) + k = ((ba + k : Nat) : Int) := by omega
      obtain ⟨bk, hbk⟩ : ∃ bk, bk = ba + k := ⟨_, rfl⟩
      have HBK := Lib.hid hbk
      rw [← hbk] at hw hnum
      have hbk2 : bk ≤ 1152921504606847500 := by omega
      clear hbk
      by_cases hin : k < winN sz ba
      · rw [decide_eq_true hin] at hw
        have hhv : hasB V sz ba (bk : Int) = bitAt V bk := by
          unfold hasB
          have := hwv hlt
          rw [← HBK.out, decide_eq_true hin] at this
          have h1 := HBK.out
          rw [this, decide_eq_true (by omega : (0 : Int) ≤ bk), decide_eq_false (by omega : ¬ ((bk : Int) < ba))]
          simp
        have hh := hide (fun m => has_call E (wr.drewN m) _ g V sz ba bk ((hcb hsr).drewN m) hV h0 hs hb (by omega))
        simp only [hhv] at hh
        have c1m : ∀ m, (wr.drewN m).cell? ⟨a, 0, none⟩ = some (.pointer (some ⟨g, 0, none⟩)) := fun m => hca (hsr.drewN m)
        clear hhv hwv
        gi_wp2_with (gi_at_call 98; refine (callsIn_wide.2 (unhide hw)).mono ?_; rintro e w' ⟨rfl, m, rfl⟩)
        refine (callsIn_wide.2 (unhide hh _)).mono ?_
        rintro e w2 ⟨rfl, m2, hw2⟩
        have hs2 : Sat E w2 (WinM a g V sz ba * J pre) := by rw [hw2]; exact (hsr.drewN m).drewN m2
        clear hw2 hsr hh hw c1 c1m c5
        obtain ⟨fn, tmps, assign, body, hy, hR⟩ := hY pre (bk, bitAt V bk) w2 ⟨by rw [← HK.out, ← HBK.out], by rw [← HK.out]; exact hin⟩ hs2
        unfold winE at hy
        dsimp only at hy
        clear hs2
        gi_wp2
        refine hR.mono ?_
        rintro e w3 (⟨rfl, hs3⟩ | ⟨rfl, hs3⟩)
        · have hs4 := hide hs3
          clear hs3 hR hy
          gi_wp2
          refine ⟨⟨pre ++ [(bk, bitAt V bk)], ?_, ?_, unhide hs4⟩, by simp [intOf]; omega⟩
          · simp only [List.length_append, List.length_cons, List.length_nil]
            rw [← HK.out]
            simp
          · simp only [List.length_append, List.length_cons, List.length_nil]
            rw [← HK.out]
            omega
        · have hs4 := hide hs3
          clear hs3 hR hy
          gi_wp2
          refine bodyPost_ret (results_none rfl _ _ _) rfl ?_
          exact ⟨⟨_, rfl⟩, .inr ⟨_, trivial, unhide hs4⟩⟩
      · rw [decide_eq_false hin] at hw
        have hkn : Hid (k = winN sz ba) := by show k = winN sz ba; omega
        have hs3 := hide hsr
        clear hsr hwv
        gi_wp2_with (gi_at_call 98; refine (callsIn_wide.2 (unhide hw)).mono ?_; rintro e w' ⟨rfl, m, rfl⟩)
        refine bodyPost_ret (results_none rfl _ _ _) rfl ?_
        exact ⟨⟨_, rfl⟩, .inl ⟨pre, by rw [← HK.out]; exact hkn.out, (unhide hs3).drewN m⟩⟩
    · have hkn : Hid (k = winN sz ba) := by show k = winN sz ba; omega
      have hs3 := hide hsr
      clear hsr hwv hw
      gi_wp2
      go_end0
      exact ⟨⟨_, rfl⟩, .inl ⟨pre, by rw [← HK.out]; exact hkn.out, unhide hs3⟩⟩

/-- append within a round. -/
theorem wpListIn_appendR {Fe : Fence} {nF : Nat} {P : Program} {w w' : World} {ops : Array Oper} {rest : List Oper} {o : Oper} {a : Act} {Q : Exit → Act → World → Prop} {v u u' : Value} {t s : TypeId} (hgd : o.guard = none) (x y : Operand)
    (ho : o.op = .call { callee := .builtin .append, args := #[x, y], argTypes := #[t, s] }) (hx : a.eval x = u) (hy : a.eval y = u')
    (hrun : (Builtin.append_ #[t, s] o.type #[u, u']).run P w = .ok v w') (h : wpListIn Fe nF P ops Q rest (a.put o.dst v) w') : wpListIn Fe nF P ops Q (o :: rest) a w := by
  refine wpListIn_plain hgd fun K hK => ?_
  unfold Oper.wpIn
  refine ⟨by simp [Oper.about, ho, resolve, Target.leads, Sem.run_pure], ?_⟩
  rw [Oper.semAt_plain Fe _ _ (by rw [ho]; intro c hc'; cases hc')]
  simp [execOp, ho, resolve, invoke, builtin, hx, hy, hrun, Result.andThen]
  exact hK _ _ h
theorem window_call (w : World) (p : Option Addr) : Calls Try.prog 105 #[.pointer p] w fun e w' => e = .returned (.func (.func 112) #[] #[.pointer (some ⟨w.heap.size, 0, none⟩)]) ∧ w' = w.alloc (.cells #[.pointer p] 115) := by
  go_enter Try.func105, Try.ntmps105
  go_wp2_with fail
  go_ret
  exact ⟨rfl, rfl⟩
/-- Those of a window that are set. -/
def lst (pre : List (Nat × Bool)) : List Value := (pre.filter (·.2)).map fun x => Value.int .i64 (x.1 : Nat)
theorem lst_len (pre : List (Nat × Bool)) : (lst pre).length ≤ pre.length := by unfold lst; rw [List.length_map]; exact List.length_filter_le _ _
/-- A box that holds an owned slice of numbers. -/
def BoxL (b : Nat) (xs : List Value) : Asn := Asn.ex fun x : Option Addr × Nat => Asn.blk b 34 #[.slice x.1 xs.length x.2] * sl 3 1 x.1 xs.length x.2 xs
/-- The window, in full. -/
def winL (V : Nat → Nat) (sz ba : Nat) : List (Nat × Bool) := (List.range (winN sz ba)).map fun j => (ba + j, bitAt V (ba + j))
theorem winL_len (V : Nat → Nat) (sz ba : Nat) : (winL V sz ba).length = winN sz ba := by simp [winL]
theorem winL_next {V : Nat → Nat} {sz ba : Nat} {pre : List (Nat × Bool)} (h : pre = (winL V sz ba).take pre.length) (hl : pre.length < winN sz ba) :
    pre ++ [(ba + pre.length, bitAt V (ba + pre.length))] = (winL V sz ba).take (pre.length + 1) := by
  have hx : (winL V sz ba)[pre.length]? = some (ba + pre.length, bitAt V (ba + pre.length)) := by simp [winL, hl]
  rw [List.take_add_one, hx, ← h]
  rfl
theorem lst_snoc (pre : List (Nat × Bool)) (x : Nat × Bool) : lst (pre ++ [x]) = lst pre ++ (if x.2 then [Value.int .i64 (x.1 : Nat)] else []) := by
  unfold lst
  rw [List.filter_append, List.map_append]
  cases h : x.2 <;> simp [h]
set_option maxHeartbeats 1000000 in
set_option maxRecDepth 100000 in
theorem list_call (E w : World) (F : Asn) (g : Nat) (V : Nat → Nat) (sz ba : Nat) (h : Sat E w (BitAt g V sz ba * F)) (hV : Small V) (h0 : 1 ≤ sz) (hs : sz ≤ 256) (hb : ba ≤ 1152921504606846977) :
    Calls Try.prog 90 #[.pointer (some ⟨g, 0, none⟩)] w fun e w' => ∃ A c, e = .returned (.slice A (lst (winL V sz ba)).length c) ∧ Sat E w' (sl 3 1 A (lst (winL V sz ba)).length c (lst (winL V sz ba)) * (BitAt g V sz ba * F)) := by
  have hs1 := (h.alloc #[.slice none 0 0] 34).alloc #[.pointer (some ⟨g, 0, none⟩)] 115
  rw [World.size_alloc] at hs1
  refine callsIn_wide.1 (callsIn_of_wp_marks (F := Fence.wide) (n := 0) Try.func90 rfl trivial (wpIn_wide.2 ?_) rfl)
  simp only [Try.ntmps90, List.size_toArray, List.length_cons, List.length_nil, Nat.reduceAdd, Nat.reduceSub, Array.replicate_succ, Array.replicate_zero, List.push_toArray, List.append_toArray, List.nil_append, List.cons_append]
  go_wp2_with (go_at_call 105; refine (window_call _ _).mono ?_; rintro e w' ⟨rfl, rfl⟩)
  refine wpIn_wide.1 (wpIn_rangeFunc_sl (E := E) (α := Nat × Bool) (R := F) (win_seq E (w.heap.size + 1) g V sz ba hV h0 hs hb) rfl (enters_of Try.func112 (by kernel_rfl) rfl) (fun x => rfl)
    (fun pre => Asn.fact (pre = (winL V sz ba).take pre.length) * BoxL w.heap.size (lst pre)) (fun _ _ => Asn.fact False) ?h0 ?round ?done ?stop)
  case h0 =>
    have h2 : Sat E _ (BoxL w.heap.size (lst []) * (Asn.blk (w.heap.size + 1) 115 #[.pointer (some ⟨g, 0, none⟩)] * (BitAt g V sz ba * F))) := Sat.mkEx (none, 0) (Sat.csa (Sat.f2 (Sat.slNil hs1.f2)))
    exact (Sat.mkFact (p := ([] : List (Nat × Bool)) = (winL V sz ba).take ([] : List (Nat × Bool)).length) (by simp) h2).perm (by unfold WinM; ac_rfl)
  case round =>
    rintro l pre x ⟨rfl, hlt⟩ T W hsW
    unfold winE
    gi_wp2
    refine ⟨_, hsW, ?_⟩
    intro W2 T3 rec hs2
    obtain ⟨hpre, hs3⟩ := Sat.fact (p := pre = (winL V sz ba).take pre.length) (F := BoxL w.heap.size (lst pre) * (WinM (w.heap.size + 1) g V sz ba * (Asn.obj l (.loop rec) * T3))) (hs2.perm (by ac_rfl))
    have hnext := hide (winL_next hpre hlt)
    have hwn : winN sz ba ≤ sz := Nat.min_le_left _ _
    have hsn := lst_snoc pre (ba + pre.length, bitAt V (ba + pre.length))
    have hll := lst_len pre
    obtain ⟨⟨A, c⟩, hs4⟩ := hs3.ex
    have hs5 := hs4.asc
    clear hs2 hs3 hs4 hsW hpre
    generalize bitAt V (ba + pre.length) = bv at hsn hnext ⊢
    obtain ⟨m, hm⟩ : ∃ m, m = (lst pre).length := ⟨_, rfl⟩
    have HM := Lib.hid hm
    obtain ⟨bk, hbk⟩ : ∃ bk, bk = ba + pre.length := ⟨_, rfl⟩
    have hbk2 : bk ≤ 1152921504606847500 := by omega
    have hnum : (ba : Int) + pre.length = bk := by omega
    rw [← hbk] at hsn hnext ⊢
    have hm2 : m ≤ 256 := by omega
    rw [← hm] at hs5
    dsimp only at hs5
    clear hm hbk hll
    cases bv
    · have hsn2 : Hid (lst (pre ++ [(bk, false)]) = lst pre) := by show _ = _; rw [hsn]; simp
      have HS := hide hs5
      clear hs5 hsn
      gi_wp2
      have hbox : Sat E W2 (BoxL w.heap.size (lst (pre ++ [(bk, false)])) * (WinM (w.heap.size + 1) g V sz ba * (Asn.obj l (.loop rec) * T3))) := by
        rw [hsn2.out]
        refine Sat.mkEx (A, c) (Sat.csa ?_)
        rw [← HM.out]
        exact unhide HS
      exact (Sat.mkFact (p := pre ++ [(bk, false)] = (winL V sz ba).take (pre ++ [(bk, false)]).length) (by rw [List.length_append]; exact hnext.out) hbox).perm (by ac_rfl)
    · have d0 : W2.cell? ⟨w.heap.size, 0, none⟩ = some (.slice A m c) := hs5.cell 0
      have hs6 := hs5.alloc #[.int .i64 bk] 3
      obtain ⟨A4, c4, w4, run4, hs7⟩ := Sat.append (P := Try.prog) (t := 34) (ty := 34) (d := 1) elt_ints hs6.f3 (RdW.new _ #[.int .i64 bk] 3 1 1 rfl) (by intro u hu; simp at hu; subst hu; rfl) (by unfold maxLen; omega) (by omega)
      have R4 := Lib.hid run4
      have d1 : w4.cell? ⟨w.heap.size, 0, none⟩ = some (.slice A m c) := hs7.f3.cell 0
      have d2 : w4.frozen? ⟨w.heap.size, 0, none⟩ = false := hs7.f3.frozen 0
      have hs8 := hide (hs7.f3.set 0 (.slice A4 (m + 1) c4))
      clear hs5 hs6 hs7 run4
      gi_wp2_with (gi_at_builtin; refine wpListIn_appendR rfl (.tmp 11) (.tmp 13) rfl rfl rfl R4.out ?_)
      have hbox : Sat E (w4.setCell ⟨w.heap.size, 0, none⟩ (.slice A4 (m + 1) c4)) (BoxL w.heap.size (lst pre ++ [Value.int .i64 bk]) * (WinM (w.heap.size + 1) g V sz ba * (Asn.obj l (.loop rec) * T3))) := by
        have hl1 : (lst pre ++ [Value.int .i64 (bk : Nat)]).length = m + 1 := by rw [List.length_append, ← HM.out]; rfl
        refine Sat.mkEx (A4, c4) (Sat.csa ?_)
        rw [hl1]
        exact (unhide hs8).f3.right
      exact (Sat.mkFact (p := pre ++ [(bk, true)] = (winL V sz ba).take (pre.length + 1)) hnext.out hbox).perm (by ac_rfl)
  case done =>
    rintro D xs W hx hsW
    obtain ⟨hpre, hs3⟩ := Sat.fact (p := xs = (winL V sz ba).take xs.length) (F := BoxL w.heap.size (lst xs) * (Asn.obj D (.deferred (some [])) * (WinM (w.heap.size + 1) g V sz ba * F))) (hsW.perm (by ac_rfl))
    have hxs : xs = winL V sz ba := by rw [hpre, List.take_of_length_le (by rw [winL_len, hx]; exact Nat.le_refl _)]
    subst hxs
    obtain ⟨⟨A, c⟩, hs4⟩ := hs3.ex
    have hs5 := hs4.asc
    have d0 : W.cell? ⟨w.heap.size, 0, none⟩ = some (.slice A (lst (winL V sz ba)).length c) := hs5.cell 0
    have hs6 := hs5.f3
    have HK := hide hs6.obj
    have HS := hide (sat_putObj (o' := .deferred none) hs6)
    clear hsW hs3 hs4 hs5 hs6 hpre
    obtain ⟨m, hm⟩ : ∃ m, m = (lst (winL V sz ba)).length := ⟨_, rfl⟩
    have HM := Lib.hid hm
    rw [← hm] at d0
    clear hm
    go_wp2_with fail
    refine ⟨by simp, .inl ⟨_, _, rfl, run_takeDeferred HK.out, ?_⟩⟩
    refine ⟨_, results_tmp rfl _ _ _, A, c, by rw [← HM.out]; rfl, ?_⟩
    exact ((unhide HS).right.right.perm (by unfold WinM; ac_rfl) : Sat E _ (Asn.blk (w.heap.size + 1) 115 #[.pointer (some ⟨g, 0, none⟩)] * (sl 3 1 A (lst (winL V sz ba)).length c (lst (winL V sz ba)) * (BitAt g V sz ba * F)))).right
  case stop =>
    rintro D c pre W _ hsW
    exact (Sat.fact (p := False) (F := WinM (w.heap.size + 1) g V sz ba * (Asn.obj D (.deferred (some [])) * F)) (hsW.perm (by ac_rfl))).1.elim

theorem bit_fork (E w : World) (F : Asn) (g : Nat) (V : Nat → Nat) (sz ba : Nat) (h : Sat E w (BitAt g V sz ba * F)) (h0 : 1 ≤ sz) :
    Calls Try.prog 87 #[.pointer (some ⟨g, 0, none⟩)] w fun e w' => ∃ k, e = .returned (.pointer (some ⟨k, 0, none⟩)) ∧ Sat E w' (BitAt k V sz ba * (BitAt g V sz ba * F)) := by
  have e0 : w.cell? ⟨g, 0, none⟩ = some (.int .u64 (V 0)) := h.cell 0
  have e1 : w.cell? ⟨g, 1, none⟩ = some (.int .u64 (V 1)) := h.cell 1
  have e2 : w.cell? ⟨g, 2, none⟩ = some (.int .u64 (V 2)) := h.cell 2
  have e3 : w.cell? ⟨g, 3, none⟩ = some (.int .u64 (V 3)) := h.cell 3
  have e4 : w.cell? ⟨g, 4, none⟩ = some (.int .i64 sz) := h.cell 4
  have e5 : w.cell? ⟨g, 5, none⟩ = some (.int .i64 ba) := h.cell 5
  have hz : ((sz : Int) == 0) = false := by simp; omega
  have hs1 := hide (h.alloc #[.int .u64 (V 0), .int .u64 (V 1), .int .u64 (V 2), .int .u64 (V 3), .int .i64 sz, .int .i64 ba] 162)
  clear h
  go_enter Try.func87, Try.ntmps87
  go_wp2_with (go_at_call 96; refine (bit_none _ _ _ e4).mono ?_; rintro e w' ⟨rfl, rfl⟩)
  go_ret
  exact ⟨_, rfl, unhide hs1⟩
end Go.Proofs.Ytdfidijlconhnaa
