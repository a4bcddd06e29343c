/- A region whose order is open, within a round of a range over a function. Nothing of the program is named here. -/
import Derived.Test.YtdfidijlconhnaaRegB
import Derived.Test.YtdfidijlconhnaaRange
import Derived.OrdersIn
namespace Go.Proofs.Ytdfidijlconhnaa
open Go.RowKit Asn

def noDefer (o : Oper) : Bool := match o.op with | .defer _ => false | _ => true
theorem noDefer_spec {o : Oper} (h : noDefer o = true) : ∀ c, o.op ≠ .defer c := by
  intro c hc
  unfold noDefer at h
  rw [hc] at h
  cases h
section
variable {P : Program} {ops : Array Oper} {Q : Exit → Act → World → Prop} {E : World} {C : World → Prop} {eff cal al rds : List Nat} {ad : Nat → TypeId × Array Value × (Nat → Value)} {a : Act} {w : World}
theorem wpOpIn_of_stp {lr nr i : Nat} {o : Oper} {K : Act → World → Prop} (hd : ∀ c, o.op ≠ .defer c) (ho : ops[i]? = some o) (h : stp P ops o a w fun v w' => K (a.put o.dst v) w') : wpOpIn (Fence.wide.inRound lr) nr P ops Q i K a w := by
  unfold wpOpIn
  simp only [ho]
  unfold stp at h
  split
  · rename_i hw
    rw [if_pos hw] at h
    unfold Oper.wpIn
    refine ⟨fun _ _ => trivial, ?_⟩
    rw [Oper.semAt_plain _ _ _ hd]
    generalize (execOp a.eval o).run P w = r at h ⊢
    cases r with
    | ok n w' =>
      cases n <;> simp only [stpUpon] at h <;> simp only [Oper.uponIn]
      case value v => exact h
      case skip => exact h
      case enter f args => exact ⟨fun hh => by simp at hh, (CallsIn.inRound lr (callsIn_wide.2 h)).mono fun e w'' he => by cases e <;> first | exact he | exact he.elim⟩
    | halt x w' => simp only [stpUpon] at h
  · rename_i hw
    rw [if_neg hw] at h
    exact ⟨fun _ _ => trivial, h⟩
theorem wpAnyIn_of_S {lr nr : Nat} {md : Region.Mode} {ord : List Nat} (hdef : ∀ (i : Nat) (o : Oper), ops[i]? = some o → ∀ c, o.op ≠ .defer c) (hsel : Region.noSelect ops = true) (hB : regB md ops eff cal al rds [] ord = true) (hall : ∀ i, i < ops.size → i ∈ ord) :
    ∀ (n : Nat) (L : Array Bool) (a : Act) (F R : Asn) (w : World), L.size = ops.size → Closed md ops L → (ord.filter fun i => !L.getD i true).length = n → (∀ w R, Sat E w (F * R) → C w) →
      wpS P ops Q E C eff cal al rds ad (ord.filter fun i => !L.getD i true) a F → Sat E w (F * R) → wpAnyIn (Fence.wide.inRound lr) nr P md ops Q n L a w := by
  have hnd : ord.Nodup := by
    have : ∀ (l seen : List Nat), regB md ops eff cal al rds seen l = true → seen.Nodup → (seen ++ l).Nodup := by
      intro l
      induction l with
      | nil => intro seen _ h; simpa using h
      | cons x l ih =>
        intro seen h hs
        unfold regB at h
        simp only [Bool.and_eq_true] at h
        have := ih _ h.2 (List.nodup_append.2 ⟨hs, by simp, fun a ha b hb => by
          have hb : b = x := by simpa using hb
          subst hb
          rintro rfl
          have := h.1.2
          simp [ha] at this⟩)
        simpa using this
    simpa using this ord [] hB List.nodup_nil
  have hready : ∀ (L : Array Bool) (j : Nat), L.size = ops.size → j ∈ Region.ready md ops L → j ∈ ord.filter fun i => !L.getD i true := by
    intro L j hL hj
    obtain ⟨h0, o, ho, _⟩ := mem_ready.1 hj
    exact List.mem_filter.2 ⟨hall j (Array.getElem?_eq_some_iff.1 ho).1, by simp [h0]⟩
  have hdone : ∀ (L : Array Bool), L.size = ops.size → Closed md ops L → Region.ready md ops L = [] → (ord.filter fun i => !L.getD i true) = [] := by
    intro L hL hc hr
    cases hf : ord.filter (fun i => !L.getD i true) with
    | nil => rfl
    | cons i l =>
      obtain ⟨pre, post, hsplit, hpre, hi, _⟩ := List.filter_eq_cons_iff.1 hf
      obtain ⟨oi, hoi, hdep, hni, _⟩ := regB_spec ord [] hB pre post i hsplit
      have : i ∈ Region.ready md ops L := by
        refine mem_ready.2 ⟨by simpa using hi, oi, hoi, fun e he hb => ?_⟩
        have he' := hdep e he hb
        rw [List.nil_append] at he'
        have h1 := hpre e.on he'
        have hin : e.on ∈ ord := by rw [hsplit]; exact List.mem_append_left _ he'
        obtain ⟨p2, q2, hs2⟩ := List.append_of_mem hin
        obtain ⟨o2, ho2, _⟩ := regB_spec ord [] hB p2 q2 e.on hs2
        have hlt : e.on < L.size := by rw [hL]; exact (Array.getElem?_eq_some_iff.1 ho2).1
        simp [hlt] at h1 ⊢
        exact h1
      rw [hr] at this
      cases this
  intro n
  induction n with
  | zero =>
    intro L a F R w hL hc hn hF h hw
    have h0 := List.eq_nil_of_length_eq_zero hn
    refine ⟨?_, ?_⟩
    · cases hr : Region.ready md ops L with
      | nil => rfl
      | cons j r =>
        have := hready L j hL (by rw [hr]; exact List.mem_cons_self)
        rw [h0] at this
        cases this
    · rw [h0] at h
      exact h w hw.left
  | succ n ih =>
    intro L a F R w hL hc hn hF h hw
    refine ⟨fun hr => ?_, fun j hj => ?_⟩
    · have := hdone L hL hc hr
      rw [this] at hn
      cases hn
    · have hjl := hready L j hL hj
      obtain ⟨hju, oj, hoj, hdeps⟩ := mem_ready.1 hj
      have hlt : j < L.size := by rw [hL]; exact (Array.getElem?_eq_some_iff.1 hoj).1
      have hfirst := wpS_first hsel j oj hoj _ a F hjl hF ⟨w, R, hw⟩ (fun k ok hk hok => by
        have hjo : j ∈ ord := (List.mem_filter.1 hjl).1
        obtain ⟨pre, post, hsplit⟩ := List.append_of_mem hjo
        obtain ⟨oj', hoj', _, hjn, hpairs⟩ := regB_spec ord [] hB pre post j hsplit
        rw [hoj] at hoj'
        injection hoj' with hoj'
        subst hoj'
        rw [List.nil_append] at hjn hpairs
        have hkl := List.mem_filter.1 ((List.takeWhile_sublist _).subset hk)
        have hkp : k ∈ pre := by
          rw [hsplit, List.filter_append, List.filter_cons, if_pos (by simpa using hju)] at hk
          have hnj : ∀ x ∈ pre.filter (fun i => !L.getD i true), (x != j) = true := fun x hx => by
            have := (List.mem_filter.1 hx).1
            simp only [bne_iff_ne]
            rintro rfl
            exact hjn this
          rw [List.takeWhile_append_of_pos hnj, List.takeWhile_cons, if_neg (by simp), List.append_nil] at hk
          exact (List.mem_filter.1 hk).1
        rcases hpairs k hkp with h1 | ⟨ok', hok', h1, h2⟩
        · have hku : L.getD k false = false := by
            have := hkl.2
            have hkz : k < L.size := by rw [hL]; exact (Array.getElem?_eq_some_iff.1 hok).1
            simp [hkz] at this ⊢
            exact this
          obtain ⟨o2, ho2, e, he, hb, hn⟩ := waits_not hc hku _ _ h1
          rw [hoj] at ho2
          injection ho2 with ho2
          subst ho2
          have := hdeps e he hb
          rw [hn] at this
          cases this
        · rw [hok] at hok'
          injection hok' with hok'
          subst hok'
          exact ⟨h1, h2⟩) h
      have hL' : (L.setIfInBounds j true).size = ops.size := by simpa using hL
      have hc' : Closed md ops (L.setIfInBounds j true) := by
        intro i o ho hi e he hb
        by_cases hij : j = i
        · subst hij
          rw [hoj] at ho
          injection ho with ho
          subst ho
          exact getD_set_true (hdeps e he hb)
        · rw [getD_set_ne true hij] at hi
          exact getD_set_true (hc i o ho hi e he hb)
      have hfs := filter_set hnd hlt hju
      have hn' : (ord.filter fun i => !(L.setIfInBounds j true).getD i true).length = n := by
        rw [hfs, List.length_erase_of_mem hjl, hn]; rfl
      rw [← hfs] at hfirst
      obtain ⟨oj', hoj', hf⟩ := hfirst
      rw [hoj] at hoj'
      injection hoj' with hoj'
      subst hoj'
      refine wpOpIn_of_stp (hdef _ _ hoj) hoj ?_
      split at hf
      · exact stp_mono (hf w R hw) fun v w' ⟨F', hC', hs', hr'⟩ => ih _ _ F' R w' hL' hc' hn' hC' hr' hs'
      · split at hf
        · refine stp_mono (hf.1 w) fun v w' ⟨hv, hw'⟩ => ?_
          subst hv hw'
          have hs1 : Sat E (w.alloc (.cells (ad j).2.1 (ad j).1)) ((Asn.blk w.heap.size (ad j).1 (ad j).2.1 * F) * R) := (hw.alloc _ _).perm (by ac_rfl)
          exact ih _ _ _ R _ hL' hc' hn' (fun w R hw => hF w (Asn.blk _ (ad j).1 (ad j).2.1 * R) (hw.perm (by ac_rfl))) (hf.2 _ ⟨_, _, hs1⟩) hs1
        · split at hf
          · obtain ⟨v, h1, h2⟩ := hf
            refine stp_mono (h1 w (hF w R hw)) fun u w' ⟨hu, hb⟩ => ?_
            subst hu
            exact ih _ _ F R w' hL' hc' hn' hF h2 (hw.under hb)
          · obtain ⟨v, h1, h2⟩ := hf
            have hpr : prs E C rds j F w := by
              unfold prs
              split
              · exact ⟨R, hw⟩
              · exact hF w R hw
            refine stp_mono (h1.stp hpr) fun u w' ⟨hu, hw'⟩ => ?_
            subst hu hw'
            exact ih _ _ F R _ hL' hc' hn' hF h2 hw

/-- A region whose order is open, over what is owned. -/
theorem wpIn_region_slr {lr nr : Nat} {id : Nat} {l : List Oper} {a : Act} {w : World} {F : Asn} (C : World → Prop) (eff cal al rds : List Nat) (ad : Nat → TypeId × Array Value × (Nat → Value)) (ord : List Nat) (hm : P.follows .mixedOrders = true)
    (hB : (Region.noSelect l.toArray && regB .any l.toArray eff cal al rds [] ord && (List.range l.toArray.size).all ord.contains && decide (ord.length = l.toArray.size)) = true)
    (hD : l.all noDefer = true) (hs : Sat E w F) (hC : ∀ w R, Sat E w (F * R) → C w) (h : wpS P l.toArray Q E C eff cal al rds ad ord a F) : (Code.region id l.toArray true).wpIn (Fence.wide.inRound lr) nr P Q a w := by
  simp only [Bool.and_eq_true, decide_eq_true_eq] at hB
  obtain ⟨⟨⟨h1, h2⟩, h3⟩, h4⟩ := hB
  refine wpIn_region_any hm ?_
  have hrep : ∀ i, i < l.toArray.size → (Array.replicate l.toArray.size false).getD i true = false := fun i hi => by simp at hi; simp [hi]
  have hord : ∀ i ∈ ord, i < l.toArray.size := fun i hi => by
    obtain ⟨p, q, hpq⟩ := List.append_of_mem hi
    obtain ⟨o, ho, _⟩ := regB_spec ord [] h2 p q i hpq
    exact (Array.getElem?_eq_some_iff.1 ho).1
  have hf : (ord.filter fun i => !(Array.replicate l.toArray.size false).getD i true) = ord := List.filter_eq_self.2 fun i hi => by rw [hrep i (hord i hi)]; rfl
  refine wpAnyIn_of_S (fun i o ho => noDefer_spec (List.all_eq_true.1 hD o (List.mem_of_getElem? (by simpa using ho)))) (E := E) (C := C) (eff := eff) (cal := cal) (al := al) (rds := rds) (ad := ad) (ord := ord) h1 h2 (fun i hi => ?_) _ _ a F 1 _ (by simp) ?_ (by rw [hf, h4]) hC (by rw [hf]; exact h) ?_
  · have := List.all_eq_true.1 h3 i (List.mem_range.2 hi)
    simpa using this
  · intro j o ho hj
    rw [hrep j (Array.getElem?_eq_some_iff.1 ho).1] at hj
    cases hj
  · exact (show Sat E { w with drawn := w.drawn + 1 } F from hs).perm (sep_one F).symm

end
section
variable {P : Program} {ops : Array Oper} {a : Act}
/-- A struct stored whole, within a region. -/
theorem stp_store_row {o : Oper} {w : World} {K : Value → World → Prop} (hw : Region.wanted o (yielded ops a.tmps) = true) (ty : TypeId) (x y : Operand) (ho : o.op = .store ty x y)
    (g : Nat) (cells : Array Value) (hx : a.eval x = .pointer (some ⟨g, 0, none⟩)) (hy : a.eval y = .agg cells) (t : TypeId) (old : Array Value) (hg : w.heap[g]? = some (.cells old t (0, 0))) (hi : (P.info? ty).map (·.size) = some cells.size)
    (hold : old.size = cells.size) (h1 : cells.all (·.oneCell') = true) (hk : K undef (w.setRow g cells)) : stp P ops o a w K := by
  unfold stp
  rw [if_pos hw]
  unfold execOp
  simp only [ho, hx, hy, Instr.storeAt, Instr.sureAddr, Sem.run_bind, Sem.run_pure, Result.andThen_ok, run_storeVar_row w g t ty old cells hg hi hold h1]
  exact hk
/-- A struct loaded whole. -/
theorem freeS_load_row {o : Oper} {C : World → Prop} (hw : Region.wanted o (yielded ops a.tmps) = true) (ty : TypeId) (x : Operand) (ho : o.op = .load ty x)
    (g : Nat) (hx : a.eval x = .pointer (some ⟨g, 0, none⟩)) (t : TypeId) (cs : Array Value) (d : TypeDesc) (hg : ∀ w, C w → w.heap[g]? = some (.cells cs t (0, 0)))
    (hu : P.underlying ty = some d) (hd : (match d with | .struct _ | .array _ _ => true | _ => false) = true) (hi : (P.info? ty).map (·.size) = some cs.size) : FreeS P ops C o (.agg cs) a := by
  intro w hC
  rw [if_pos hw]
  left
  unfold execOp
  simp only [ho, hx, Instr.loadAt, Instr.sureAddr, Sem.run_bind, Sem.run_pure, Result.andThen_ok, run_loadVar_row w g t ty cs (0, 0) d (hg w hC) hu hd hi]
/-- A map asked. -/
theorem freeS_lookup {o : Oper} {C : World → Prop} (hw : Region.wanted o (yielded ops a.tmps) = true) (T : TypeId) (x y : Operand) (ho : o.op = .lookup T x y true) (m key v : Value) (hx : a.eval x = m) (hy : a.eval y = key)
    (hr : ∀ w, C w → (Instr.lookup T m key true).run P w = .ok v w) : FreeS P ops C o v a := by
  intro w hC
  rw [if_pos hw]
  left
  unfold execOp
  simp [ho, hx, hy, hr w hC, Result.andThen]
/-- A builtin with an effect: delete, clear. -/
theorem stp_delete {o : Oper} {w w' : World} {K : Value → World → Prop} {u u' : Value} {t s : TypeId} (hw : Region.wanted o (yielded ops a.tmps) = true) (x y : Operand)
    (ho : o.op = .call { callee := .builtin .delete, args := #[x, y], argTypes := #[t, s] }) (hx : a.eval x = u) (hy : a.eval y = u')
    (hrun : (Builtin.delete_ #[t, s] o.type #[u, u']).run P w = .ok (.tuple #[]) w') (hk : K (.tuple #[]) w') : stp P ops o a w K := by
  unfold stp
  rw [if_pos hw]
  simp [execOp, ho, resolve, invoke, builtin, hx, hy, hrun, Result.andThen, stpUpon]
  exact hk
theorem stp_makeMap {o : Oper} {w : World} {K : Value → World → Prop} (hw : Region.wanted o (yielded ops a.tmps) = true) (T : TypeId) (ho : o.op = .makeMap T none) (hk : K (.map (some w.heap.size)) (w.alloc (.map #[] 0))) : stp P ops o a w K := by
  unfold stp
  rw [if_pos hw]
  simp [execOp, ho, Instr.makeMap, Result.andThen, stpUpon]
  exact hk
theorem stp_mapUpdate {o : Oper} {w w' : World} {K : Value → World → Prop} {m key v : Value} (hw : Region.wanted o (yielded ops a.tmps) = true) (T : TypeId) (x y z : Operand)
    (ho : o.op = .mapUpdate T x y z) (hx : a.eval x = m) (hy : a.eval y = key) (hz : a.eval z = v) (hrun : (Instr.mapUpdate T m key v).run P w = .ok () w') (hk : K undef w') : stp P ops o a w K := by
  unfold stp
  rw [if_pos hw]
  simp [execOp, ho, hx, hy, hz, hrun, Result.andThen, stpUpon]
  exact hk
end
theorem wpListIn_load_row {Fe : Fence} {nF : Nat} {P : Program} {ops : Array Oper} {rest : List Oper} {o : Oper} {a : Act} {w : World} {Q : Exit → Act → World → Prop} (hgd : o.guard = none) (ty : TypeId) (x : Operand) (ho : o.op = .load ty x)
    (g : Nat) (hx : a.eval x = .pointer (some ⟨g, 0, none⟩)) (t : TypeId) (cs : Array Value) (fr : Nat × Nat) (d : TypeDesc) (hg : w.heap[g]? = some (.cells cs t fr))
    (hu : P.underlying ty = some d) (hd : (match d with | .struct _ | .array _ _ => true | _ => false) = true) (hi : (P.info? ty).map (·.size) = some cs.size)
    (h : wpListIn Fe nF P ops Q rest (a.put o.dst (.agg cs)) w) : wpListIn Fe nF P ops Q (o :: rest) a w := by
  refine wpListIn_plain hgd fun K hK => ?_
  unfold Oper.wpIn
  refine ⟨by simp [Oper.about, ho], ?_⟩
  rw [Oper.semAt_plain Fe _ _ (by rw [ho]; intro c hc'; cases hc')]
  unfold execOp
  simp only [ho, hx, Instr.loadAt, Instr.sureAddr, Sem.run_bind, Sem.run_pure, Result.andThen_ok, run_loadVar_row w g t ty cs fr d hg hu hd hi]
  exact hK _ _ h
theorem zero_run {P : Program} {t : TypeId} {zv : Value} (h : (P.info? t).bind (·.zero) = some zv) (w : World) : (zeroValue t).run P w = .ok zv w := by
  cases hq : P.info? t with
  | none => simp [hq] at h
  | some i =>
    have hz : i.zero = some zv := by simpa [hq] using h
    simp [zeroValue, typeInfo, hq, hz, Result.andThen]
end Go.Proofs.Ytdfidijlconhnaa
