/- The queue of pieces: what a walk over its lacking numbers tells, at most so many. -/
import Derived.Test.YtdfidijlconhnaaSqK
namespace Go.Proofs.Ytdfidijlconhnaa
open Go.RowKit Asn
attribute [local go_sem] Oper.semAt_some
/-- append within a round. -/
theorem wpListIn_appendR {Fe : Fence} {nF : Nat} {P : Program} {w w' : World} {ops : Array Oper} {rest : List Oper} {o : Oper} {a : Act} {Q : Exit → Act → World → Prop} {v u u' : Value} {t s : TypeId} (hgd : o.guard = none) (x y : Operand)
    (ho : o.op = .call { callee := .builtin .append, args := #[x, y], argTypes := #[t, s] }) (hx : a.eval x = u) (hy : a.eval y = u')
    (hrun : (Builtin.append_ #[t, s] o.type #[u, u']).run P w = .ok v w') (h : wpListIn Fe nF P ops Q rest (a.put o.dst v) w') : wpListIn Fe nF P ops Q (o :: rest) a w := by
  refine wpListIn_plain hgd fun K hK => ?_
  unfold Oper.wpIn
  refine ⟨by simp [Oper.about, ho, resolve, Target.leads, Sem.run_pure], ?_⟩
  rw [Oper.semAt_plain Fe _ _ (by rw [ho]; intro c hc'; cases hc')]
  simp [execOp, ho, resolve, invoke, builtin, hx, hy, hrun, Result.andThen]
  exact hK _ _ h
def natI (l : List Nat) : List Int := l.map fun (n : Nat) => (n : Int)
/-- A box that holds an owned row of numbers. -/
def BoxI (b : Nat) (L : List Int) : Asn := Asn.ex fun x : Option Addr × Nat => Asn.blk b 34 #[.slice x.1 L.length x.2] * sl 3 1 x.1 L.length x.2 (ints L)
theorem lackN_len (low next : Nat) (H : List HR) : (lackN low next H).length ≤ next - low := by unfold lackN; exact Nat.le_trans (List.length_filter_le _ _) (by simp)
def LackP (E : World) (F : Asn) (L : List Int) (e : Ending) (w' : World) : Prop := ∃ A' c', e = .returned (.slice A' L.length c') ∧ Sat E w' (sl 3 1 A' L.length c' (ints L) * F)
def FewN (m : Nat) (pre : List Nat) : Prop := pre.length ≤ m ∧ pre.length ≤ 60000
theorem run_func_nil (w : World) (f : FuncId) (a b : Array Value) : (binOp .eql 127 (.func (.func f) a b) .nilFunc).run Try.prog w = .ok (.bool false) w := by kernel_rfl
set_option maxHeartbeats 2000000 in
set_option maxRecDepth 100000 in
theorem lacking13 (E w : World) (F : Asn) (g most low next : Nat) (H : List HR) (row : List Int) (A B : Option Addr) (c d m : Nat) (hs : Sat E w (QAt g most low next H row A c B d * F)) (h1 : 1 ≤ most) (hl : next ≤ low + H.length) (hb : low ≤ 100000) (hh : H.length ≤ 60000) (hln : low ≤ next) (hm : m ≤ 100000) :
    Calls Try.prog 15 #[.pointer (some ⟨g, 0, none⟩), .int .i64 m] w (LackP E (QAt g most low next H row A c B d * F) (natI ((lackN low next H).take m))) := by
  have hs1 := (hs.alloc #[.int .i64 m] 3).alloc #[.slice none 0 0] 34
  have hs2 := hs1.alloc #[.pointer (some ⟨g, 0, none⟩)] 23
  simp only [World.size_alloc] at hs2
  have HS2 := hide hs2
  have hfn := fun (w : World) (z : Nat) => run_func_nil w 93 #[] #[.pointer (some ⟨z, 0, none⟩)]
  clear hs hs1 hs2
  refine callsIn_wide.1 (callsIn_of_wp_marks (F := Fence.wide) (n := 0) Try.func15 rfl trivial (wpIn_wide.2 ?_) rfl)
  simp only [Try.ntmps15, List.size_toArray, List.length_cons, List.length_nil, Nat.reduceAdd, Nat.reduceSub, Array.replicate_succ, Array.replicate_zero, List.push_toArray, List.append_toArray, List.nil_append, List.cons_append]
  go_wp2_with (go_at_call 60; refine (sq_lacking _ _ (.inr ⟨g, rfl⟩)).mono ?_; rintro e w' ⟨rfl, rfl⟩)
  obtain ⟨z, hz⟩ : ∃ z, z = w.heap.size := ⟨_, rfl⟩
  rw [← hz] at HS2 ⊢
  clear hz
  refine wpIn_wide.1 (wpIn_rangeFunc_sl (E := E) (α := Nat) (R := F) (sq_seq E (z + 2) g most low next H row A B c d h1 hl hb (by omega) hln) rfl (enters_of Try.func93 (by kernel_rfl) rfl) (fun _ => by rfl)
    (fun pre => Asn.fact (FewN m pre) * (BoxI (z + 1) (natI pre) * Asn.blk z 3 #[.int .i64 m])) (fun c _ => Asn.fact (c = .exit 0) * (BoxI (z + 1) (natI ((lackN low next H).take m)) * Asn.blk z 3 #[.int .i64 m])) ?h0 ?round ?done ?stop)
  case h0 =>
    have h2 : Sat E _ (BoxI (z + 1) (natI []) * (Asn.blk (z + 2) 23 #[.pointer (some ⟨g, 0, none⟩)] * (Asn.blk z 3 #[.int .i64 m] * (QAt g most low next H row A c B d * F)))) := Sat.mkEx (none, 0) (Sat.csa (Sat.f2 (Sat.slNil (unhide HS2).f2)))
    exact (Sat.mkFact (p := FewN m []) ⟨Nat.zero_le _, Nat.zero_le _⟩ h2).perm (by unfold SeqM; ac_rfl)
  case round =>
    rintro l pre x ⟨t, ht⟩ T W hsW
    have HT := Lib.hid ht
    clear ht HS2
    gi_wp2
    refine ⟨_, hsW, ?_⟩
    intro W2 T3 rec hs2
    obtain ⟨⟨hpre, hpre6⟩, hs3⟩ := Sat.fact (p := FewN m pre) (F := BoxI (z + 1) (natI pre) * (Asn.blk z 3 #[.int .i64 m] * (SeqM (z + 2) g most low next H row A c B d * (Asn.obj l (.loop rec) * T3)))) (hs2.perm (by ac_rfl))
    obtain ⟨⟨A2, c2⟩, hs4⟩ := hs3.ex
    have hs5 := hs4.asc
    dsimp only at hs5
    have hnl : (natI pre).length = pre.length := by unfold natI; rw [List.length_map]
    have hll := lackN_len low next H
    rw [HT.out] at hll
    simp only [List.length_append, List.length_cons] at hll
    obtain ⟨k, hk⟩ : ∃ k, k = pre.length := ⟨_, rfl⟩
    rw [hnl, ← hk] at hs5
    rw [← hk] at hpre hpre6 hll
    have d0 : W2.cell? ⟨z + 1, 0, none⟩ = some (.slice A2 k c2) := hs5.cell 0
    have d3 : W2.cell? ⟨z, 0, none⟩ = some (.int .i64 m) := hs5.f3.cell 0
    have HNL := hide hnl
    have HK := hide hk
    clear hs2 hs3 hs4 hsW hk hnl
    by_cases hkm : k < m
    · have hs6 := hs5.alloc #[.int .i64 x] 3
      obtain ⟨A4, c4, w4, run4, hs7⟩ := Sat.append (P := Try.prog) (t := 34) (ty := 34) (d := 1) elt_ints hs6.f3 (RdW.new _ #[.int .i64 x] 3 1 1 rfl) (by intro u hu; simp at hu; subst hu; rfl) (by unfold maxLen; omega) (by omega)
      have R4 := Lib.hid run4
      have d1 : w4.cell? ⟨z + 1, 0, none⟩ = some (.slice A2 k c2) := hs7.f3.cell 0
      have d2 : w4.frozen? ⟨z + 1, 0, none⟩ = false := hs7.f3.frozen 0
      have hs8 := hide (hs7.f3.set 0 (.slice A4 (k + 1) c4))
      have hkm2 : ¬ (m : Int) ≤ k := by omega
      clear hs5 hs6 hs7 run4
      gi_wp2_with (gi_at_builtin; refine wpListIn_appendR rfl (.tmp 18) (.tmp 20) rfl rfl rfl R4.out ?_)
      have hn1 : (natI (pre ++ [x])).length = k + 1 := by unfold natI; rw [List.length_map, List.length_append, ← unhide HK]; rfl
      have hn2 : ints (natI (pre ++ [x])) = ints (natI pre) ++ [.int .i64 x] := by unfold natI ints; simp
      have hbox : Sat E (w4.setCell ⟨z + 1, 0, none⟩ (.slice A4 (k + 1) c4)) (BoxI (z + 1) (natI (pre ++ [x])) * (Asn.blk z 3 #[.int .i64 m] * (SeqM (z + 2) g most low next H row A c B d * (Asn.obj l (.loop rec) * T3)))) := by
        refine Sat.mkEx (A4, c4) (Sat.csa ?_)
        dsimp only
        rw [hn1, hn2]
        exact (unhide hs8).f3.right
      exact (Sat.mkFact (p := FewN m (pre ++ [x])) (by unfold FewN; rw [List.length_append, ← unhide HK]; exact ⟨hkm, by simp; omega⟩) hbox).perm (by ac_rfl)
    · have hkm2 : (m : Int) ≤ k := by omega
      have htk : (lackN low next H).take m = pre := by
        rw [HT.out, show m = pre.length by rw [← unhide HK]; omega, List.take_left']
        rfl
      have hbox : Sat E W2 (BoxI (z + 1) (natI ((lackN low next H).take m)) * (Asn.blk z 3 #[.int .i64 m] * (SeqM (z + 2) g most low next H row A c B d * (Asn.obj l (.loop rec) * T3)))) := by
        rw [htk]
        refine Sat.mkEx (A2, c2) (Sat.csa ?_)
        dsimp only
        rw [unhide HNL, ← unhide HK]
        exact hs5
      have HBOX := hide hbox
      clear hs5 hbox htk
      gi_wp2
      exact (Sat.mkFact (p := Code.exit 0 = Code.exit 0) rfl (unhide HBOX)).perm (by show _ = (SeqM (z + 2) g most low next H row A c B d * (Asn.fact _ * (BoxI (z + 1) (natI ((lackN low next H).take m)) * Asn.blk z _ _))) * (Asn.obj l (.loop rec) * T3); ac_rfl)
  case done =>
    rintro D xs W hx hsW
    obtain ⟨⟨hpre, hpre6⟩, hs3⟩ := Sat.fact (p := FewN m xs) (F := BoxI (z + 1) (natI xs) * (Asn.obj D (.deferred (some [])) * (Asn.blk z 3 #[.int .i64 m] * (SeqM (z + 2) g most low next H row A c B d * F)))) (hsW.perm (by ac_rfl))
    have hxs : (lackN low next H).take m = xs := by rw [hx] at hpre ⊢; exact List.take_of_length_le hpre
    have HXS := hide hxs
    obtain ⟨⟨A2, c2⟩, hs4⟩ := hs3.ex
    have hs5 := hs4.asc
    dsimp only at hs5
    obtain ⟨q, hq⟩ : ∃ q, q = (natI xs).length := ⟨_, rfl⟩
    have HQ := hide hq
    rw [← hq] at hs5
    have d0 : W.cell? ⟨z + 1, 0, none⟩ = some (.slice A2 q c2) := hs5.cell 0
    have hs6 := hs5.f3
    have HK := hide hs6.obj
    have HS := hide (sat_putObj (o' := .deferred none) hs6)
    clear hsW hs3 hs4 hs5 hs6 hx hxs hq HS2
    go_wp2_with fail
    refine ⟨by simp, .inl ⟨_, _, rfl, run_takeDeferred HK.out, ?_⟩⟩
    refine ⟨_, results_tmp rfl _ _ _, A2, c2, by rw [unhide HXS, ← unhide HQ]; rfl, ?_⟩
    rw [unhide HXS, ← unhide HQ]
    exact ((unhide HS).right.right.perm (show _ = (Asn.blk z 3 #[.int .i64 m] * Asn.blk (z + 2) 23 #[.pointer (some ⟨g, 0, none⟩)]) * (sl 3 1 A2 q c2 (ints (natI xs)) * (QAt g most low next H row A c B d * F)) by unfold SeqM; ac_rfl)).right
  case stop =>
    rintro D c' pre W _ hsW
    obtain ⟨rfl, hs3⟩ := Sat.fact (p := c' = .exit 0) (F := BoxI (z + 1) (natI ((lackN low next H).take m)) * (Asn.obj D (.deferred (some [])) * (Asn.blk z 3 #[.int .i64 m] * (SeqM (z + 2) g most low next H row A c B d * F)))) (hsW.perm (by ac_rfl))
    obtain ⟨⟨A2, c2⟩, hs4⟩ := hs3.ex
    have hs5 := hs4.asc
    dsimp only at hs5
    obtain ⟨q, hq⟩ : ∃ q, q = (natI ((lackN low next H).take m)).length := ⟨_, rfl⟩
    have HQ := hide hq
    rw [← hq] at hs5
    have d0 : W.cell? ⟨z + 1, 0, none⟩ = some (.slice A2 q c2) := hs5.cell 0
    have hs6 := hs5.f3
    have HK := hide hs6.obj
    have HS := hide (sat_putObj (o' := .deferred none) hs6)
    clear hsW hs3 hs4 hs5 hs6 hq HS2
    gi_wp2
    go_wp2_with fail
    refine ⟨by simp, .inl ⟨_, _, rfl, run_takeDeferred HK.out, ?_⟩⟩
    refine ⟨_, results_tmp rfl _ _ _, A2, c2, by rw [← unhide HQ]; rfl, ?_⟩
    rw [← unhide HQ]
    exact ((unhide HS).right.right.perm (show _ = (Asn.blk z 3 #[.int .i64 m] * Asn.blk (z + 2) 23 #[.pointer (some ⟨g, 0, none⟩)]) * (sl 3 1 A2 q c2 (ints (natI ((lackN low next H).take m))) * (QAt g most low next H row A c B d * F)) by unfold SeqM; ac_rfl)).right
end Go.Proofs.Ytdfidijlconhnaa
