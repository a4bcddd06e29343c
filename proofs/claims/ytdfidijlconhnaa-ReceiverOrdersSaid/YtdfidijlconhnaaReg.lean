/- A region whose order is open, over what is owned: each operation is met once, in an order of our own; operations that do not wait for each other may go either way. Nothing of the program is named here. -/
import Derived.Test.YtdfidijlconhnaaSlOps
import Derived.Orders
namespace Go.Proofs.Ytdfidijlconhnaa
open Go.RowKit Asn

section
variable {P : Program} {ops : Array Oper} {a : Act} {w : World}

/-- What comes of one operation that does not panic: its value, and the world behind it. -/
def stpUpon (P : Program) (K : Value → World → Prop) : Result Next → Prop
  | .ok (.value v) w' => K v w'
  | .ok .skip w' => K undef w'
  | .ok (.enter f args) w' => Calls P f args w' fun
      | .returned v, w'' => K v w''
      | _, _ => False
  | _ => False
def stp (P : Program) (ops : Array Oper) (o : Oper) (a : Act) (w : World) (K : Value → World → Prop) : Prop :=
  if Region.wanted o (yielded ops a.tmps) then stpUpon P K ((execOp a.eval o).run P w) else K undef w
theorem stp_mono {o : Oper} {K K' : Value → World → Prop} (h : stp P ops o a w K) (hk : ∀ v w', K v w' → K' v w') : stp P ops o a w K' := by
  unfold stp at *
  split
  · rename_i hw
    rw [if_pos hw] at h
    generalize (execOp a.eval o).run P w = r at h
    cases r with
    | ok n w' =>
      cases n <;> simp only [stpUpon] at h ⊢
      case value v => exact hk _ _ h
      case skip => exact hk _ _ h
      case enter f args => exact h.mono fun e w'' he => by cases e <;> first | exact hk _ _ he | exact he
    | halt x w' => simp only [stpUpon] at h
  · rename_i hw
    rw [if_neg hw] at h
    exact hk _ _ h
theorem stp_ex {o : Oper} {K : Value → World → Prop} (h : stp P ops o a w K) : ∃ v w', K v w' := by
  unfold stp at h
  split at h
  · generalize (execOp a.eval o).run P w = r at h
    cases r with
    | ok n w' =>
      cases n <;> simp only [stpUpon] at h
      case value v => exact ⟨_, _, h⟩
      case skip => exact ⟨_, _, h⟩
      case enter f args =>
        obtain ⟨e, w'', _, hr, _⟩ := h []
        cases e with
        | returned v => exact ⟨_, _, hr⟩
        | panicked _ => exact hr.elim
        | outgrown => exact hr.elim
    | halt x w' => simp only [stpUpon] at h
  · exact ⟨_, _, h⟩
theorem wpOp_of_stp {i : Nat} {o : Oper} {K : Act → World → Prop} {Q : Exit → Act → World → Prop} (ho : ops[i]? = some o) (h : stp P ops o a w fun v w' => K (a.put o.dst v) w') : wpOp P ops Q i K a w := by
  unfold wpOp
  simp only [ho]
  unfold stp at h
  split
  · rename_i hw
    rw [if_pos hw] at h
    left
    unfold Oper.wp
    generalize (execOp a.eval o).run P w = r at h
    cases r with
    | ok n w' =>
      cases n <;> simp only [stpUpon] at h <;> simp only [Oper.upon]
      case value v => exact h
      case skip => exact h
      case enter f args => exact h.mono fun e w'' he => by cases e <;> first | exact he | exact he.elim
    | halt x w' => simp only [stpUpon] at h
  · rename_i hw
    rw [if_neg hw] at h
    exact h
theorem stp_put {o : Oper} (hs : ∀ cs b, o.op ≠ .select cs b) (dst : Option Tmp) (v : Value) (h : ∀ d, dst = some d → d ∉ o.looksAt ops) (K : Value → World → Prop) : stp P ops o (a.put dst v) w K = stp P ops o a w K := by
  unfold stp
  rw [execOp_put o hs a dst v h, wanted_put o a dst v h]

/-- It reads alone: in every world of which C is so it yields v, and nothing turns. -/
def FreeS (P : Program) (ops : Array Oper) (C : World → Prop) (o : Oper) (v : Value) (a : Act) : Prop :=
  ∀ w, C w → if Region.wanted o (yielded ops a.tmps) then (execOp a.eval o).run P w = .ok (.value v) w ∨ (v = undef ∧ (execOp a.eval o).run P w = .ok .skip w) else v = undef
/-- It is a call that yields v in every such world, and turns nothing that was there. -/
def FreeC (P : Program) (ops : Array Oper) (C : World → Prop) (o : Oper) (v : Value) (a : Act) : Prop :=
  ∀ w, C w → stp P ops o a w fun u w' => u = v ∧ Below w.heap.size w w'
/-- It makes one block. -/
def AllocS (P : Program) (ops : Array Oper) (x : TypeId × Array Value × (Nat → Value)) (o : Oper) (a : Act) : Prop :=
  ∀ w : World, stp P ops o a w fun u w' => u = x.2.2 w.heap.size ∧ w' = w.alloc (.cells x.2.1 x.1)
theorem FreeS.stp {C : World → Prop} {o : Oper} {v : Value} (h : FreeS P ops C o v a) (hw : C w) : stp P ops o a w fun u w' => u = v ∧ w' = w := by
  have := h w hw
  unfold Go.Proofs.Ytdfidijlconhnaa.stp
  split
  · rename_i hwt
    rw [if_pos hwt] at this
    rcases this with h3 | ⟨e, h3⟩ <;> rw [h3]
    · exact ⟨rfl, rfl⟩
    · exact ⟨e.symm, rfl⟩
  · rename_i hwt
    rw [if_neg hwt] at this
    exact ⟨this.symm, rfl⟩
theorem FreeS.eq {C : World → Prop} {o : Oper} {v v' : Value} (h : FreeS P ops C o v a) (h' : FreeS P ops C o v' a) (hw : C w) : v = v' := by
  have h1 := h w hw
  have h2 := h' w hw
  by_cases hwt : Region.wanted o (yielded ops a.tmps) = true
  · rw [if_pos hwt] at h1 h2
    rcases h1 with h1 | ⟨e1, h1⟩ <;> rcases h2 with h2 | ⟨e2, h2⟩ <;> rw [h1] at h2 <;> injection h2 with h2
    · injection h2
    · cases h2
    · cases h2
    · rw [e1, e2]
  · rw [if_neg hwt] at h1 h2
    rw [h1, h2]
theorem FreeS.put {C : World → Prop} {o : Oper} {v : Value} (hs : ∀ cs b, o.op ≠ .select cs b) {dst : Option Tmp} {u : Value} (h : ∀ d, dst = some d → d ∉ o.looksAt ops) : FreeS P ops C o v (a.put dst u) = FreeS P ops C o v a := by
  unfold FreeS
  rw [execOp_put o hs a dst u h, wanted_put o a dst u h]
theorem FreeC.put {C : World → Prop} {o : Oper} {v : Value} (hs : ∀ cs b, o.op ≠ .select cs b) {dst : Option Tmp} {u : Value} (h : ∀ d, dst = some d → d ∉ o.looksAt ops) : FreeC P ops C o v (a.put dst u) = FreeC P ops C o v a := by
  unfold FreeC
  simp only [stp_put hs dst u h]
theorem AllocS.put {x : TypeId × Array Value × (Nat → Value)} {o : Oper} (hs : ∀ cs b, o.op ≠ .select cs b) {dst : Option Tmp} {u : Value} (h : ∀ d, dst = some d → d ∉ o.looksAt ops) : AllocS P ops x o (a.put dst u) = AllocS P ops x o a := by
  unfold AllocS
  simp only [stp_put hs dst u h]
end

/-- There is a world in which it lies. -/
def Wit (E : World) (F : Asn) : Prop := ∃ w R, Sat E w (F * R)

section
variable (P : Program) (ops : Array Oper) (Q : Exit → Act → World → Prop) (E : World) (C : World → Prop) (eff cal al rds : List Nat) (ad : Nat → TypeId × Array Value × (Nat → Value))

/-- Of which worlds an operation that only reads speaks: of all in which C is so; one that is named speaks of what is owned where it stands. -/
def prs (i : Nat) (F : Asn) (w : World) : Prop := if rds.contains i then ∃ R, Sat E w (F * R) else C w
/-- The operations, in an order of our own, each met once. -/
def wpS : List Nat → Act → Asn → Prop
  | [], a, F => ∀ w, Sat E w F → Q .normal a w
  | i :: l, a, F => ∃ o, ops[i]? = some o ∧
      if eff.contains i then ∀ w R, Sat E w (F * R) → stp P ops o a w fun v w' => ∃ F', (∀ w R, Sat E w (F' * R) → C w) ∧ Sat E w' (F' * R) ∧ wpS l (a.put o.dst v) F'
      else if al.contains i then AllocS P ops (ad i) o a ∧ ∀ g, Wit E (Asn.blk g (ad i).1 (ad i).2.1 * F) → wpS l (a.put o.dst ((ad i).2.2 g)) (Asn.blk g (ad i).1 (ad i).2.1 * F)
      else if cal.contains i then ∃ v, FreeC P ops C o v a ∧ wpS l (a.put o.dst v) F
      else ∃ v, FreeS P ops (prs E C rds i F) o v a ∧ wpS l (a.put o.dst v) F

def badB (k j : Nat) : Bool := (eff.contains k && (eff.contains j || cal.contains j)) || (al.contains k && (cal.contains j || eff.contains j)) || (eff.contains j && al.contains j) || (cal.contains j && (eff.contains j || al.contains j)) || (rds.contains j && (eff.contains k || al.contains k)) || (rds.contains k && eff.contains j)
end

section
variable {P : Program} {ops : Array Oper} {Q : Exit → Act → World → Prop} {E : World} {C : World → Prop} {eff cal al rds : List Nat} {ad : Nat → TypeId × Array Value × (Nat → Value)}

/-- What is met later may be met first. -/
theorem wpS_first (hsel : Region.noSelect ops = true) (j : Nat) (oj : Oper) (hj : ops[j]? = some oj) : ∀ (l : List Nat) (a : Act) (F : Asn), j ∈ l → (∀ w R, Sat E w (F * R) → C w) → Wit E F →
    (∀ k ok, k ∈ l.takeWhile (· != j) → ops[k]? = some ok → ok.apart ops oj = true ∧ badB eff cal al rds k j = false) → wpS P ops Q E C eff cal al rds ad l a F → wpS P ops Q E C eff cal al rds ad (j :: l.erase j) a F := by
  intro l
  induction l with
  | nil => intro a F h; simp at h
  | cons k r ih =>
    intro a F hjl hF hex hap h
    by_cases hkj : k = j
    · subst hkj
      rw [List.erase_cons_head]
      exact h
    · have hne : (k != j) = true := by simpa using hkj
      have hjr : j ∈ r := by
        rcases List.mem_cons.1 hjl with h | h
        · exact absurd h.symm hkj
        · exact h
      rw [List.erase_cons_tail (by simpa using hkj)]
      obtain ⟨ok, hok, h⟩ := h
      have htw : (k :: r).takeWhile (· != j) = k :: r.takeWhile (· != j) := by rw [List.takeWhile_cons, if_pos hne]
      rw [htw] at hap
      obtain ⟨hapk, hbad⟩ := hap k ok List.mem_cons_self hok
      have hap' := fun k' ok' h1 h2 => hap k' ok' (List.mem_cons_of_mem k h1) h2
      obtain ⟨a1, a2, a3⟩ := Oper.apart_spec hapk
      have sk := fun cs b => Region.noSelect_spec hsel k ok cs b hok
      have sj := fun cs b => Region.noSelect_spec hsel j oj cs b hj
      have comm : ∀ (u v : Value), (a.put ok.dst u).put oj.dst v = (a.put oj.dst v).put ok.dst u := fun u v => Act.put_comm a u v a2
      -- the head again, behind j
      have again : ∀ {G : Asn} {v : Value} {T : List Nat}, (if eff.contains k then ∀ w R, Sat E w (G * R) → stp P ops ok a w fun u w' => ∃ F', (∀ w R, Sat E w (F' * R) → C w) ∧ Sat E w' (F' * R) ∧ wpS P ops Q E C eff cal al rds ad T ((a.put oj.dst v).put ok.dst u) F'
          else if al.contains k then AllocS P ops (ad k) ok a ∧ ∀ g, Wit E (Asn.blk g (ad k).1 (ad k).2.1 * G) → wpS P ops Q E C eff cal al rds ad T ((a.put oj.dst v).put ok.dst ((ad k).2.2 g)) (Asn.blk g (ad k).1 (ad k).2.1 * G)
          else if cal.contains k then ∃ u, FreeC P ops C ok u a ∧ wpS P ops Q E C eff cal al rds ad T ((a.put oj.dst v).put ok.dst u) G
          else ∃ u, FreeS P ops (prs E C rds k G) ok u a ∧ wpS P ops Q E C eff cal al rds ad T ((a.put oj.dst v).put ok.dst u) G) → wpS P ops Q E C eff cal al rds ad (k :: T) (a.put oj.dst v) G := by
        intro G v T h
        refine ⟨ok, hok, ?_⟩
        split at h
        · rename_i h1
          rw [if_pos h1]
          intro w R hw
          rw [stp_put sk oj.dst v a3]
          exact h w R hw
        · rename_i h1
          rw [if_neg h1]
          split at h
          · rename_i h2
            rw [if_pos h2]
            rw [AllocS.put sk a3]
            exact h
          · rename_i h2
            rw [if_neg h2]
            split at h
            · rename_i h3
              rw [if_pos h3]
              obtain ⟨u, h4, h5⟩ := h
              exact ⟨u, by rw [FreeC.put sk a3]; exact h4, h5⟩
            · rename_i h3
              rw [if_neg h3]
              obtain ⟨u, h4, h5⟩ := h
              exact ⟨u, by rw [FreeS.put sk a3]; exact h4, h5⟩
      have hb := hbad
      simp only [badB, Bool.or_eq_false_iff, Bool.and_eq_false_iff] at hb
      obtain ⟨⟨⟨⟨⟨hb1, hb2⟩, hb3⟩, hb4⟩, hb5⟩, hb6⟩ := hb
      by_cases e1 : eff.contains k = true
      · -- the head has an effect
        rw [if_pos e1] at h
        have hje : eff.contains j = false := by rcases hb1 with h | h; · rw [e1] at h; cases h
                                                · exact h.1
        have hjc : cal.contains j = false := by rcases hb1 with h | h; · rw [e1] at h; cases h
                                                · exact h.2
        have hjd : rds.contains j = false := by rcases hb5 with h | h; · exact h
                                                · rw [e1] at h; cases h.1
        have hpj : ∀ G, prs E C rds j G = C := fun G => by funext w; unfold prs; rw [if_neg (by rw [hjd]; simp)]
        obtain ⟨w0, R0, hw0⟩ := hex
        obtain ⟨v0, w0', F0, hC0, hs0, h0⟩ := stp_ex (h w0 R0 hw0)
        have h0' := ih _ _ hjr hC0 ⟨w0', R0, hs0⟩ hap' h0
        obtain ⟨oj', hj', h0'⟩ := h0'
        rw [hj] at hj'
        injection hj' with hj'
        subst hj'
        rw [if_neg (by rw [hje]; simp)] at h0'
        refine ⟨oj, hj, ?_⟩
        rw [if_neg (by rw [hje]; simp)]
        by_cases e2 : al.contains j = true
        · rw [if_pos e2] at h0' ⊢
          rw [AllocS.put sj a1] at h0'
          refine ⟨h0'.1, fun g _ => again ?_⟩
          rw [if_pos e1]
          intro w R hw
          have hw' : Sat E w (F * (Asn.blk g (ad j).1 (ad j).2.1 * R)) := hw.perm (by ac_rfl)
          refine stp_mono (h w _ hw') fun v w' ⟨F', hC', hs', hr'⟩ => ?_
          obtain ⟨oj', hj', hr⟩ := ih _ _ hjr hC' ⟨w', _, hs'⟩ hap' hr'
          rw [hj] at hj'
          injection hj' with hj'
          subst hj'
          rw [if_neg (by rw [hje]; simp), if_pos e2] at hr
          refine ⟨Asn.blk g (ad j).1 (ad j).2.1 * F', fun w R hw => hC' w (Asn.blk g (ad j).1 (ad j).2.1 * R) (hw.perm (by ac_rfl)), hs'.perm (by ac_rfl), ?_⟩
          have := hr.2 g ⟨w', R, hs'.perm (by ac_rfl)⟩
          rw [comm] at this
          exact this
        · rw [if_neg e2, if_neg (by rw [hjc]; simp)] at h0' ⊢
          rw [hpj] at h0' ⊢
          obtain ⟨vj, hf0, _⟩ := h0'
          rw [FreeS.put sj a1] at hf0
          refine ⟨vj, hf0, again ?_⟩
          rw [if_pos e1]
          intro w R hw
          refine stp_mono (h w R hw) fun v w' ⟨F', hC', hs', hr'⟩ => ⟨F', hC', hs', ?_⟩
          obtain ⟨oj', hj', hr⟩ := ih _ _ hjr hC' ⟨w', _, hs'⟩ hap' hr'
          rw [hj] at hj'
          injection hj' with hj'
          subst hj'
          rw [if_neg (by rw [hje]; simp), if_neg e2, if_neg (by rw [hjc]; simp), hpj] at hr
          obtain ⟨vj', hf', hr⟩ := hr
          rw [FreeS.put sj a1] at hf'
          have := hf'.eq hf0 (hC' w' R hs')
          subst this
          rw [comm] at hr
          exact hr
      · rw [if_neg e1] at h
        by_cases e2 : al.contains k = true
        · -- the head makes a block
          rw [if_pos e2] at h
          obtain ⟨hal, h⟩ := h
          have hjc : cal.contains j = false := by rcases hb2 with h | h; · rw [e2] at h; cases h
                                                  · exact h.1
          have hje : eff.contains j = false := by rcases hb2 with h | h; · rw [e2] at h; cases h
                                                  · exact h.2
          have hjd : rds.contains j = false := by rcases hb5 with h | h; · exact h
                                                  · rw [e2] at h; cases h.2
          have hpj : ∀ G, prs E C rds j G = C := fun G => by funext w; unfold prs; rw [if_neg (by rw [hjd]; simp)]
          have hwit : ∀ g, (∀ w R, Sat E w ((Asn.blk g (ad k).1 (ad k).2.1 * F) * R) → C w) := fun g w R hw => hF w (Asn.blk g (ad k).1 (ad k).2.1 * R) (hw.perm (by ac_rfl))
          obtain ⟨w0, R0, hw0⟩ := id hex
          have hex' : ∀ g, Wit E (Asn.blk g (ad k).1 (ad k).2.1 * F) → wpS P ops Q E C eff cal al rds ad (j :: r.erase j) (a.put ok.dst ((ad k).2.2 g)) (Asn.blk g (ad k).1 (ad k).2.1 * F) :=
            fun g hx => ih _ _ hjr (hwit g) hx hap' (h g hx)
          have hw1 : Sat E (w0.alloc (.cells (ad k).2.1 (ad k).1)) ((Asn.blk w0.heap.size (ad k).1 (ad k).2.1 * F) * R0) := (hw0.alloc (ad k).2.1 (ad k).1).perm (by ac_rfl)
          have h0' := hex' w0.heap.size ⟨_, _, hw1⟩
          obtain ⟨oj', hj', h0'⟩ := h0'
          rw [hj] at hj'
          injection hj' with hj'
          subst hj'
          rw [if_neg (by rw [hje]; simp)] at h0'
          refine ⟨oj, hj, ?_⟩
          rw [if_neg (by rw [hje]; simp)]
          by_cases e3 : al.contains j = true
          · rw [if_pos e3] at h0' ⊢
            rw [AllocS.put sj a1] at h0'
            refine ⟨h0'.1, fun g' _ => again ?_⟩
            rw [if_neg e1, if_pos e2]
            refine ⟨hal, fun g hx => ?_⟩
            obtain ⟨wx, Rx, hsx⟩ := hx
            obtain ⟨oj', hj', hr⟩ := hex' g ⟨wx, Asn.blk g' (ad j).1 (ad j).2.1 * Rx, hsx.perm (by ac_rfl)⟩
            rw [hj] at hj'
            injection hj' with hj'
            subst hj'
            rw [if_neg (by rw [hje]; simp), if_pos e3] at hr
            have := hr.2 g' ⟨wx, Rx, hsx.perm (by ac_rfl)⟩
            rw [comm, sep_left_comm] at this
            exact this
          · rw [if_neg e3, if_neg (by rw [hjc]; simp)] at h0' ⊢
            rw [hpj] at h0' ⊢
            obtain ⟨vj, hf0, _⟩ := h0'
            rw [FreeS.put sj a1] at hf0
            refine ⟨vj, hf0, again ?_⟩
            rw [if_neg e1, if_pos e2]
            refine ⟨hal, fun g hx => ?_⟩
            obtain ⟨oj', hj', hr⟩ := hex' g hx
            rw [hj] at hj'
            injection hj' with hj'
            subst hj'
            rw [if_neg (by rw [hje]; simp), if_neg e3, if_neg (by rw [hjc]; simp), hpj] at hr
            obtain ⟨vj', hf', hr⟩ := hr
            rw [FreeS.put sj a1] at hf'
            have := hf'.eq hf0 (hF w0 R0 hw0)
            subst this
            rw [comm] at hr
            exact hr
        · -- the head reads alone, or is a call that turns nothing
          rw [if_neg e2] at h
          have main : ∀ vk, wpS P ops Q E C eff cal al rds ad r (a.put ok.dst vk) F → (∀ (G : Asn) (v : Value) (T : List Nat), (∀ w, prs E C rds k G w → prs E C rds k F w) → wpS P ops Q E C eff cal al rds ad T ((a.put oj.dst v).put ok.dst vk) G → wpS P ops Q E C eff cal al rds ad (k :: T) (a.put oj.dst v) G) →
              wpS P ops Q E C eff cal al rds ad (j :: k :: r.erase j) a F := by
            intro vk hr hagain
            obtain ⟨oj', hj', hr⟩ := ih _ _ hjr hF hex hap' hr
            rw [hj] at hj'
            injection hj' with hj'
            subst hj'
            refine ⟨oj, hj, ?_⟩
            split at hr
            · rename_i e3
              rw [if_pos e3]
              intro w R hw
              have := hr w R hw
              rw [stp_put sj ok.dst vk a1] at this
              have hkd : rds.contains k = false := by rcases hb6 with h | h; · exact h
                                                      · rw [e3] at h; cases h
              refine stp_mono this fun v w' ⟨F', hC', hs', hr'⟩ => ⟨F', hC', hs', hagain _ _ _ (fun w => ?_) ?_⟩
              · unfold prs
                rw [if_neg (by rw [hkd]; simp), if_neg (by rw [hkd]; simp)]
                exact id
              rw [← comm]
              exact hr'
            · rename_i e3
              rw [if_neg e3]
              split at hr
              · rename_i e4
                rw [if_pos e4]
                rw [AllocS.put sj a1] at hr
                refine ⟨hr.1, fun g hx => hagain _ _ _ (fun w => ?_) ?_⟩
                · unfold prs
                  split
                  · rintro ⟨R, hR⟩
                    exact ⟨Asn.blk g (ad j).1 (ad j).2.1 * R, hR.perm (by ac_rfl)⟩
                  · exact id
                rw [← comm]
                exact hr.2 g hx
              · rename_i e4
                rw [if_neg e4]
                split at hr
                · rename_i e5
                  rw [if_pos e5]
                  obtain ⟨v, h1, h2⟩ := hr
                  rw [FreeC.put sj a1] at h1
                  exact ⟨v, h1, hagain _ _ _ (fun _ => id) (by rw [← comm]; exact h2)⟩
                · rename_i e5
                  rw [if_neg e5]
                  obtain ⟨v, h1, h2⟩ := hr
                  rw [FreeS.put sj a1] at h1
                  exact ⟨v, h1, hagain _ _ _ (fun _ => id) (by rw [← comm]; exact h2)⟩
          by_cases e3 : cal.contains k = true
          · rw [if_pos e3] at h
            obtain ⟨vk, hf, hr⟩ := h
            exact main vk hr fun G v T _ hT => again (by rw [if_neg e1, if_neg e2, if_pos e3]; exact ⟨vk, hf, hT⟩)
          · rw [if_neg e3] at h
            obtain ⟨vk, hf, hr⟩ := h
            exact main vk hr fun G v T hG hT => again (by rw [if_neg e1, if_neg e2, if_neg e3]; exact ⟨vk, fun w hw => hf w (hG w hw), hT⟩)

/-- Does operation j wait, over others too, for k? -/
def waitsB (md : Region.Mode) (ops : Array Oper) (k : Nat) : Nat → Nat → Bool
  | 0, _ => false
  | f + 1, j => match ops[j]? with
    | none => false
    | some o => o.after.any fun e => Region.binds md e && (e.on == k || (Nat.blt k e.on && waitsB md ops k f e.on))
/-- The order of our own fits the region: what an operation waits for stands ahead of it; two that do not wait for each other are apart, and of kinds that may change places. -/
def regB (md : Region.Mode) (ops : Array Oper) (eff cal al rds : List Nat) : List Nat → List Nat → Bool
  | _, [] => true
  | seen, j :: l => (match ops[j]? with
      | none => false
      | some oj => (oj.after.all fun e => !Region.binds md e || seen.contains e.on) &&
          seen.all fun k => (match ops[k]? with
            | none => false
            | some ok => ok.apart ops oj && !badB eff cal al rds k j) || waitsB md ops k ops.size j) && !seen.contains j && regB md ops eff cal al rds (seen ++ [j]) l
def Closed (md : Region.Mode) (ops : Array Oper) (L : Array Bool) : Prop := ∀ j o, ops[j]? = some o → L.getD j true = true → ∀ e ∈ o.after, Region.binds md e = true → L.getD e.on false = true
theorem waits_not {md : Region.Mode} {L : Array Bool} (hc : Closed md ops L) {k : Nat} (hk : L.getD k false = false) : ∀ f j, waitsB md ops k f j = true → ∃ o, ops[j]? = some o ∧ ∃ e ∈ o.after, Region.binds md e = true ∧ L.getD e.on false = false
  | 0, j, h => by simp [waitsB] at h
  | f + 1, j, h => by
    unfold waitsB at h
    split at h
    · cases h
    · rename_i o ho
      obtain ⟨e, he, hb⟩ := Array.any_eq_true'.1 h
      simp only [Bool.and_eq_true, Bool.or_eq_true, beq_iff_eq] at hb
      refine ⟨o, ho, e, he, hb.1, ?_⟩
      rcases hb.2 with h1 | ⟨_, h1⟩
      · rw [h1]; exact hk
      · obtain ⟨o', ho', e', he', hb', hn⟩ := waits_not hc hk f e.on h1
        cases hL : L.getD e.on false with
        | false => rfl
        | true =>
          have := hc e.on o' ho' (by
            rcases Nat.lt_or_ge e.on L.size with h2 | h2
            · simp [h2] at hL ⊢; exact hL
            · simp [Array.getElem?_eq_none h2] at hL) e' he' hb'
          rw [hn] at this
          cases this

/-- The order's facts, read off. -/
theorem regB_spec {md : Region.Mode} : ∀ (l seen : List Nat), regB md ops eff cal al rds seen l = true →
    ∀ (pre post : List Nat) (j : Nat), l = pre ++ j :: post → ∃ oj, ops[j]? = some oj ∧ (∀ e ∈ oj.after, Region.binds md e = true → e.on ∈ seen ++ pre) ∧ j ∉ seen ++ pre ∧
      ∀ k ∈ seen ++ pre, waitsB md ops k ops.size j = true ∨ ∃ ok, ops[k]? = some ok ∧ ok.apart ops oj = true ∧ badB eff cal al rds k j = false
  | [], _, _, pre, post, j, hl => by cases pre <;> cases hl
  | x :: l, seen, h, pre, post, j, hl => by
    unfold regB at h
    simp only [Bool.and_eq_true] at h
    obtain ⟨⟨h1, h2⟩, h3⟩ := h
    cases pre with
    | nil =>
      simp only [List.nil_append, List.cons.injEq] at hl
      obtain ⟨rfl, rfl⟩ := hl
      split at h1
      · cases h1
      · rename_i oj hj
        simp only [Bool.and_eq_true] at h1
        refine ⟨oj, hj, fun e he hb => ?_, by simpa using h2, fun k hk => ?_⟩
        · have := Array.all_eq_true_iff_forall_mem.1 h1.1 e he
          rw [hb] at this
          simpa using this
        · have := List.all_eq_true.1 h1.2 k (by simpa using hk)
          simp only [Bool.or_eq_true] at this
          rcases this.symm with h4 | h4
          · exact .inl h4
          · right
            split at h4
            · cases h4
            · rename_i ok hok
              simp only [Bool.and_eq_true, Bool.not_eq_true'] at h4
              exact ⟨ok, hok, h4.1, h4.2⟩
    | cons y pre =>
      simp only [List.cons_append, List.cons.injEq] at hl
      obtain ⟨rfl, rfl⟩ := hl
      have := regB_spec _ _ h3 pre post j rfl
      rwa [List.append_assoc, List.singleton_append] at this

theorem Sat.under {F : Asn} {w w' : World} (h : Sat E w F) (hb : Below w.heap.size w w') : Sat E w' F :=
  h.keep hb.os hb.tape hb.output fun k o hk => by rw [hb.block k (Array.getElem?_eq_some_iff.1 hk).1]; exact hk

theorem filter_set {ord : List Nat} {L : Array Bool} {j : Nat} (hnd : ord.Nodup) (hlt : j < L.size) (hj : L.getD j true = false) :
    (ord.filter fun i => !(L.setIfInBounds j true).getD i true) = (ord.filter fun i => !L.getD i true).erase j := by
  rw [List.Nodup.erase_eq_filter (hnd.filter _), List.filter_filter]
  refine List.filter_congr fun i _ => ?_
  by_cases h : i = j
  · subst h
    simp [hlt]
  · rw [getD_set_ne true (Ne.symm h)]
    simp [h]

theorem wpAny_of_S {md : Region.Mode} {ord : List Nat} (hsel : Region.noSelect ops = true) (hB : regB md ops eff cal al rds [] ord = true) (hall : ∀ i, i < ops.size → i ∈ ord) :
    ∀ (n : Nat) (L : Array Bool) (a : Act) (F R : Asn) (w : World), L.size = ops.size → Closed md ops L → (ord.filter fun i => !L.getD i true).length = n → (∀ w R, Sat E w (F * R) → C w) →
      wpS P ops Q E C eff cal al rds ad (ord.filter fun i => !L.getD i true) a F → Sat E w (F * R) → wpAny P md ops Q n L a w := by
  have hnd : ord.Nodup := by
    have : ∀ (l seen : List Nat), regB md ops eff cal al rds seen l = true → seen.Nodup → (seen ++ l).Nodup := by
      intro l
      induction l with
      | nil => intro seen _ h; simpa using h
      | cons x l ih =>
        intro seen h hs
        unfold regB at h
        simp only [Bool.and_eq_true] at h
        have := ih _ h.2 (List.nodup_append.2 ⟨hs, by simp, fun a ha b hb => by
          have hb : b = x := by simpa using hb
          subst hb
          rintro rfl
          have := h.1.2
          simp [ha] at this⟩)
        simpa using this
    simpa using this ord [] hB List.nodup_nil
  have hready : ∀ (L : Array Bool) (j : Nat), L.size = ops.size → j ∈ Region.ready md ops L → j ∈ ord.filter fun i => !L.getD i true := by
    intro L j hL hj
    obtain ⟨h0, o, ho, _⟩ := mem_ready.1 hj
    exact List.mem_filter.2 ⟨hall j (Array.getElem?_eq_some_iff.1 ho).1, by simp [h0]⟩
  have hdone : ∀ (L : Array Bool), L.size = ops.size → Closed md ops L → Region.ready md ops L = [] → (ord.filter fun i => !L.getD i true) = [] := by
    intro L hL hc hr
    cases hf : ord.filter (fun i => !L.getD i true) with
    | nil => rfl
    | cons i l =>
      obtain ⟨pre, post, hsplit, hpre, hi, _⟩ := List.filter_eq_cons_iff.1 hf
      obtain ⟨oi, hoi, hdep, hni, _⟩ := regB_spec ord [] hB pre post i hsplit
      have : i ∈ Region.ready md ops L := by
        refine mem_ready.2 ⟨by simpa using hi, oi, hoi, fun e he hb => ?_⟩
        have he' := hdep e he hb
        rw [List.nil_append] at he'
        have h1 := hpre e.on he'
        have hin : e.on ∈ ord := by rw [hsplit]; exact List.mem_append_left _ he'
        obtain ⟨p2, q2, hs2⟩ := List.append_of_mem hin
        obtain ⟨o2, ho2, _⟩ := regB_spec ord [] hB p2 q2 e.on hs2
        have hlt : e.on < L.size := by rw [hL]; exact (Array.getElem?_eq_some_iff.1 ho2).1
        simp [hlt] at h1 ⊢
        exact h1
      rw [hr] at this
      cases this
  intro n
  induction n with
  | zero =>
    intro L a F R w hL hc hn hF h hw
    have h0 := List.eq_nil_of_length_eq_zero hn
    refine ⟨?_, ?_⟩
    · cases hr : Region.ready md ops L with
      | nil => rfl
      | cons j r =>
        have := hready L j hL (by rw [hr]; exact List.mem_cons_self)
        rw [h0] at this
        cases this
    · rw [h0] at h
      exact h w hw.left
  | succ n ih =>
    intro L a F R w hL hc hn hF h hw
    refine ⟨fun hr => ?_, fun j hj => ?_⟩
    · have := hdone L hL hc hr
      rw [this] at hn
      cases hn
    · have hjl := hready L j hL hj
      obtain ⟨hju, oj, hoj, hdeps⟩ := mem_ready.1 hj
      have hlt : j < L.size := by rw [hL]; exact (Array.getElem?_eq_some_iff.1 hoj).1
      have hfirst := wpS_first hsel j oj hoj _ a F hjl hF ⟨w, R, hw⟩ (fun k ok hk hok => by
        have hjo : j ∈ ord := (List.mem_filter.1 hjl).1
        obtain ⟨pre, post, hsplit⟩ := List.append_of_mem hjo
        obtain ⟨oj', hoj', _, hjn, hpairs⟩ := regB_spec ord [] hB pre post j hsplit
        rw [hoj] at hoj'
        injection hoj' with hoj'
        subst hoj'
        rw [List.nil_append] at hjn hpairs
        have hkl := List.mem_filter.1 ((List.takeWhile_sublist _).subset hk)
        have hkp : k ∈ pre := by
          rw [hsplit, List.filter_append, List.filter_cons, if_pos (by simpa using hju)] at hk
          have hnj : ∀ x ∈ pre.filter (fun i => !L.getD i true), (x != j) = true := fun x hx => by
            have := (List.mem_filter.1 hx).1
            simp only [bne_iff_ne]
            rintro rfl
            exact hjn this
          rw [List.takeWhile_append_of_pos hnj, List.takeWhile_cons, if_neg (by simp), List.append_nil] at hk
          exact (List.mem_filter.1 hk).1
        rcases hpairs k hkp with h1 | ⟨ok', hok', h1, h2⟩
        · have hku : L.getD k false = false := by
            have := hkl.2
            have hkz : k < L.size := by rw [hL]; exact (Array.getElem?_eq_some_iff.1 hok).1
            simp [hkz] at this ⊢
            exact this
          obtain ⟨o2, ho2, e, he, hb, hn⟩ := waits_not hc hku _ _ h1
          rw [hoj] at ho2
          injection ho2 with ho2
          subst ho2
          have := hdeps e he hb
          rw [hn] at this
          cases this
        · rw [hok] at hok'
          injection hok' with hok'
          subst hok'
          exact ⟨h1, h2⟩) h
      have hL' : (L.setIfInBounds j true).size = ops.size := by simpa using hL
      have hc' : Closed md ops (L.setIfInBounds j true) := by
        intro i o ho hi e he hb
        by_cases hij : j = i
        · subst hij
          rw [hoj] at ho
          injection ho with ho
          subst ho
          exact getD_set_true (hdeps e he hb)
        · rw [getD_set_ne true hij] at hi
          exact getD_set_true (hc i o ho hi e he hb)
      have hfs := filter_set hnd hlt hju
      have hn' : (ord.filter fun i => !(L.setIfInBounds j true).getD i true).length = n := by
        rw [hfs, List.length_erase_of_mem hjl, hn]; rfl
      rw [← hfs] at hfirst
      obtain ⟨oj', hoj', hf⟩ := hfirst
      rw [hoj] at hoj'
      injection hoj' with hoj'
      subst hoj'
      refine wpOp_of_stp hoj ?_
      split at hf
      · exact stp_mono (hf w R hw) fun v w' ⟨F', hC', hs', hr'⟩ => ih _ _ F' R w' hL' hc' hn' hC' hr' hs'
      · split at hf
        · refine stp_mono (hf.1 w) fun v w' ⟨hv, hw'⟩ => ?_
          subst hv hw'
          have hs1 : Sat E (w.alloc (.cells (ad j).2.1 (ad j).1)) ((Asn.blk w.heap.size (ad j).1 (ad j).2.1 * F) * R) := (hw.alloc _ _).perm (by ac_rfl)
          exact ih _ _ _ R _ hL' hc' hn' (fun w R hw => hF w (Asn.blk _ (ad j).1 (ad j).2.1 * R) (hw.perm (by ac_rfl))) (hf.2 _ ⟨_, _, hs1⟩) hs1
        · split at hf
          · obtain ⟨v, h1, h2⟩ := hf
            refine stp_mono (h1 w (hF w R hw)) fun u w' ⟨hu, hb⟩ => ?_
            subst hu
            exact ih _ _ F R w' hL' hc' hn' hF h2 (hw.under hb)
          · obtain ⟨v, h1, h2⟩ := hf
            have hpr : prs E C rds j F w := by
              unfold prs
              split
              · exact ⟨R, hw⟩
              · exact hF w R hw
            refine stp_mono (h1.stp hpr) fun u w' ⟨hu, hw'⟩ => ?_
            subst hu hw'
            exact ih _ _ F R _ hL' hc' hn' hF h2 hw

/-- A region whose order is open, over what is owned. -/
theorem wp_region_slr {id : Nat} {l : List Oper} {a : Act} {w : World} {F : Asn} (C : World → Prop) (eff cal al rds : List Nat) (ad : Nat → TypeId × Array Value × (Nat → Value)) (ord : List Nat) (hm : P.follows .mixedOrders = true)
    (hB : (Region.noSelect l.toArray && regB .any l.toArray eff cal al rds [] ord && (List.range l.toArray.size).all ord.contains && decide (ord.length = l.toArray.size)) = true)
    (hs : Sat E w F) (hC : ∀ w R, Sat E w (F * R) → C w) (h : wpS P l.toArray Q E C eff cal al rds ad ord a F) : (Code.region id l.toArray true).wp P Q a w := by
  simp only [Bool.and_eq_true, decide_eq_true_eq] at hB
  obtain ⟨⟨⟨h1, h2⟩, h3⟩, h4⟩ := hB
  refine wp_region_any hm ?_
  have hrep : ∀ i, i < l.toArray.size → (Array.replicate l.toArray.size false).getD i true = false := fun i hi => by simp at hi; simp [hi]
  have hord : ∀ i ∈ ord, i < l.toArray.size := fun i hi => by
    obtain ⟨p, q, hpq⟩ := List.append_of_mem hi
    obtain ⟨o, ho, _⟩ := regB_spec ord [] h2 p q i hpq
    exact (Array.getElem?_eq_some_iff.1 ho).1
  have hf : (ord.filter fun i => !(Array.replicate l.toArray.size false).getD i true) = ord := List.filter_eq_self.2 fun i hi => by rw [hrep i (hord i hi)]; rfl
  refine wpAny_of_S (E := E) (C := C) (eff := eff) (cal := cal) (al := al) (rds := rds) (ad := ad) (ord := ord) h1 h2 (fun i hi => ?_) _ _ a F 1 _ (by simp) ?_ (by rw [hf, h4]) hC (by rw [hf]; exact h) ?_
  · have := List.all_eq_true.1 h3 i (List.mem_range.2 hi)
    simpa using this
  · intro j o ho hj
    rw [hrep j (Array.getElem?_eq_some_iff.1 ho).1] at hj
    cases hj
  · exact (show Sat E { w with drawn := w.drawn + 1 } F from hs).perm (sep_one F).symm

theorem wp_region_sl {id : Nat} {l : List Oper} {a : Act} {w : World} {F : Asn} (C : World → Prop) (eff cal al : List Nat) (ad : Nat → TypeId × Array Value × (Nat → Value)) (ord : List Nat) (hm : P.follows .mixedOrders = true)
    (hB : (Region.noSelect l.toArray && regB .any l.toArray eff cal al [] [] ord && (List.range l.toArray.size).all ord.contains && decide (ord.length = l.toArray.size)) = true)
    (hs : Sat E w F) (hC : ∀ w R, Sat E w (F * R) → C w) (h : wpS P l.toArray Q E C eff cal al [] ad ord a F) : (Code.region id l.toArray true).wp P Q a w :=
  wp_region_slr C eff cal al [] ad ord hm hB hs hC h

section
variable {i : Nat} {l : List Nat} {a : Act} {F : Asn} {o : Oper}
theorem wpS_f (o : Oper) (ho : ops[i]? = some o) (h0 : (eff.contains i || al.contains i || cal.contains i || rds.contains i) = false) {v : Value} (hf : FreeS P ops C o v a) (h : wpS P ops Q E C eff cal al rds ad l (a.put o.dst v) F) : wpS P ops Q E C eff cal al rds ad (i :: l) a F := by
  simp only [Bool.or_eq_false_iff] at h0
  refine ⟨o, ho, ?_⟩
  rw [if_neg (by rw [h0.1.1.1]; simp), if_neg (by rw [h0.1.1.2]; simp), if_neg (by rw [h0.1.2]; simp)]
  exact ⟨v, fun w hw => hf w (by unfold prs at hw; rwa [if_neg (by rw [h0.2]; simp)] at hw), h⟩
/-- One that reads what is owned where it stands. -/
theorem wpS_r (o : Oper) (ho : ops[i]? = some o) (h0 : (eff.contains i || al.contains i || cal.contains i || !rds.contains i) = false) {v : Value} (hf : FreeS P ops (fun w => ∃ R, Sat E w (F * R)) o v a) (h : wpS P ops Q E C eff cal al rds ad l (a.put o.dst v) F) : wpS P ops Q E C eff cal al rds ad (i :: l) a F := by
  simp only [Bool.or_eq_false_iff, Bool.not_eq_false'] at h0
  refine ⟨o, ho, ?_⟩
  rw [if_neg (by rw [h0.1.1.1]; simp), if_neg (by rw [h0.1.1.2]; simp), if_neg (by rw [h0.1.2]; simp)]
  exact ⟨v, fun w hw => hf w (by unfold prs at hw; rwa [if_pos h0.2] at hw), h⟩
theorem wpS_c (o : Oper) (ho : ops[i]? = some o) (h0 : (eff.contains i || al.contains i || !cal.contains i) = false) {v : Value} (hf : FreeC P ops C o v a) (h : wpS P ops Q E C eff cal al rds ad l (a.put o.dst v) F) : wpS P ops Q E C eff cal al rds ad (i :: l) a F := by
  simp only [Bool.or_eq_false_iff, Bool.not_eq_false'] at h0
  exact ⟨o, ho, by rw [if_neg (by rw [h0.1.1]; simp), if_neg (by rw [h0.1.2]; simp), if_pos h0.2]; exact ⟨v, hf, h⟩⟩
theorem wpS_a (o : Oper) (ho : ops[i]? = some o) (h0 : (eff.contains i || !al.contains i) = false) (hf : AllocS P ops (ad i) o a) (h : ∀ g, wpS P ops Q E C eff cal al rds ad l (a.put o.dst ((ad i).2.2 g)) (Asn.blk g (ad i).1 (ad i).2.1 * F)) : wpS P ops Q E C eff cal al rds ad (i :: l) a F := by
  simp only [Bool.or_eq_false_iff, Bool.not_eq_false'] at h0
  exact ⟨o, ho, by rw [if_neg (by rw [h0.1]; simp), if_pos h0.2]; exact ⟨hf, fun g _ => h g⟩⟩
theorem wpS_e (o : Oper) (ho : ops[i]? = some o) (h0 : eff.contains i = true)
    (h : ∀ w R, Sat E w (F * R) → stp P ops o a w fun v w' => ∃ F', (∀ w R, Sat E w (F' * R) → C w) ∧ Sat E w' (F' * R) ∧ wpS P ops Q E C eff cal al rds ad l (a.put o.dst v) F') : wpS P ops Q E C eff cal al rds ad (i :: l) a F :=
  ⟨o, ho, by rw [if_pos h0]; exact h⟩
theorem wpS_n (h : ∀ w, Sat E w F → Q .normal a w) : wpS P ops Q E C eff cal al rds ad [] a F := h
/-- A call of a Go function that yields v and turns nothing that was there. -/
theorem freeC_call {f : FuncId} {args : Array Value} {v : Value} (hw : Region.wanted o (yielded ops a.tmps) = true) (hr : ∀ w, (execOp a.eval o).run P w = .ok (.enter f args) w)
    (hc : ∀ w, C w → Calls P f args w fun e w' => e = .returned v ∧ Below w.heap.size w w') : FreeC P ops C o v a := by
  intro w hC
  unfold stp
  rw [if_pos hw, hr w]
  exact (hc w hC).mono fun e w' ⟨he, hb⟩ => by subst he; exact ⟨rfl, hb⟩
theorem freeC_not {v : Value} (hw : Region.wanted o (yielded ops a.tmps) = false) (hv : v = undef) : FreeC P ops C o v a := by
  intro w hC
  unfold stp
  rw [if_neg (by rw [hw]; simp)]
  exact ⟨hv.symm, Below.refl _ _⟩
/-- A call of a Go function with an effect. -/
theorem stp_call {f : FuncId} {args : Array Value} {w : World} {K : Value → World → Prop} (hw : Region.wanted o (yielded ops a.tmps) = true) (hr : (execOp a.eval o).run P w = .ok (.enter f args) w)
    (hc : Calls P f args w fun e w' => ∃ v, e = .returned v ∧ K v w') : stp P ops o a w K := by
  unfold stp
  rw [if_pos hw, hr]
  exact hc.mono fun e w' ⟨v, he, hk⟩ => by subst he; exact hk
end
end

/-! A region that only reads and calls what turns nothing: each operation's value is given ahead; each is looked at once, in the act that stands behind all of them. -/
section
variable (P : Program) (ops : Array Oper) (C : World → Prop) (cal : List Nat) (aV : Act)
def putAll (a : Act) : List Oper → List Value → Act
  | o :: l, v :: vs => putAll (a.put o.dst v) l vs
  | _, _ => a
def AllFree : Nat → List Oper → List Value → Prop
  | i, o :: l, v :: vs => (if cal.contains i then FreeC P ops C o v aV else FreeS P ops C o v aV) ∧ AllFree (i + 1) l vs
  | _, [], [] => True
  | _, _, _ => False
def laterB : List Oper → Bool
  | [] => true
  | o :: l => (o :: l).all (fun o' => match o'.dst with | none => true | some d => !(o.looksAt ops).contains d) && laterB l
end
section
variable {P : Program} {ops : Array Oper} {Q : Exit → Act → World → Prop} {E : World} {C : World → Prop} {cal : List Nat} {F : Asn}
theorem FreeS.back {o : Oper} {v : Value} (hs : ∀ cs b, o.op ≠ .select cs b) : ∀ (l : List Oper) (vs : List Value) (a : Act), (∀ o' ∈ l, ∀ d, o'.dst = some d → d ∉ o.looksAt ops) → FreeS P ops C o v (putAll a l vs) → FreeS P ops C o v a
  | [], _, _, _, h => by simpa [putAll] using h
  | _ :: _, [], _, _, h => by simpa [putAll] using h
  | o' :: l, v' :: vs, a, hl, h => by
    have := FreeS.back hs l vs _ (fun o h => hl o (List.mem_cons_of_mem _ h)) h
    rwa [FreeS.put hs (hl o' List.mem_cons_self)] at this
theorem FreeC.back {o : Oper} {v : Value} (hs : ∀ cs b, o.op ≠ .select cs b) : ∀ (l : List Oper) (vs : List Value) (a : Act), (∀ o' ∈ l, ∀ d, o'.dst = some d → d ∉ o.looksAt ops) → FreeC P ops C o v (putAll a l vs) → FreeC P ops C o v a
  | [], _, _, _, h => by simpa [putAll] using h
  | _ :: _, [], _, _, h => by simpa [putAll] using h
  | o' :: l, v' :: vs, a, hl, h => by
    have := FreeC.back hs l vs _ (fun o h => hl o (List.mem_cons_of_mem _ h)) h
    rwa [FreeC.put hs (hl o' List.mem_cons_self)] at this
theorem laterB_spec {o : Oper} {l : List Oper} (h : laterB ops (o :: l) = true) : (∀ o' ∈ o :: l, ∀ d, o'.dst = some d → d ∉ o.looksAt ops) ∧ laterB ops l = true := by
  unfold laterB at h
  simp only [Bool.and_eq_true] at h
  refine ⟨fun o' ho d hd => ?_, h.2⟩
  have := List.all_eq_true.1 h.1 o' ho
  rw [hd] at this
  simpa using this
theorem wpS_vals (hsel : Region.noSelect ops = true) : ∀ (l : List Oper) (vs : List Value) (i : Nat) (a : Act), (∀ j, ops[i + j]? = l[j]?) → laterB ops l = true →
    AllFree P ops C cal (putAll a l vs) i l vs → (∀ w, Sat E w F → Q .normal (putAll a l vs) w) → wpS P ops Q E C [] cal [] [] (fun _ => (0, #[], fun _ => undef)) (List.range' i l.length) a F
  | [], [], _, _, _, _, _, hq => hq
  | [], _ :: _, _, _, _, _, h, _ => h.elim
  | _ :: _, [], _, _, _, _, h, _ => h.elim
  | o :: l, v :: vs, i, a, ho, hl, h, hq => by
    obtain ⟨h1, h2⟩ := laterB_spec hl
    obtain ⟨h3, h4⟩ := h
    have hoi : ops[i]? = some o := by simpa using ho 0
    have hsl := fun cs b => Region.noSelect_spec hsel i o cs b hoi
    have ih := wpS_vals hsel l vs (i + 1) (a.put o.dst v) (fun j => by simpa [Nat.add_assoc, Nat.add_comm 1 j] using ho (j + 1)) h2 h4 hq
    show wpS P ops Q E C [] cal [] [] _ (i :: List.range' (i + 1) l.length) a F
    refine ⟨o, hoi, ?_⟩
    rw [if_neg (by simp), if_neg (by simp)]
    split at h3
    · rename_i hc
      rw [if_pos hc]
      exact ⟨v, FreeC.back hsl (o :: l) (v :: vs) a h1 h3, ih⟩
    · rename_i hc
      rw [if_neg hc]
      exact ⟨v, FreeS.back hsl (o :: l) (v :: vs) a h1 h3, ih⟩
theorem wp_region_vals {id : Nat} {l : List Oper} {a aV : Act} {w : World} (C : World → Prop) (cal : List Nat) (vs : List Value) (hm : P.follows .mixedOrders = true)
    (hB : (Region.noSelect l.toArray && regB .any l.toArray [] cal [] [] [] (List.range' 0 l.length) && laterB l.toArray l) = true)
    (hs : Sat E w F) (hC : ∀ w R, Sat E w (F * R) → C w) (haV : putAll a l vs = aV) (h : AllFree P l.toArray C cal aV 0 l vs) (hq : ∀ w, Sat E w F → Q .normal aV w) : (Code.region id l.toArray true).wp P Q a w := by
  subst haV
  simp only [Bool.and_eq_true] at hB
  refine wp_region_sl (E := E) C [] cal [] (fun _ => (0, #[], fun _ => undef)) (List.range' 0 l.length) hm ?_ hs hC (wpS_vals hB.1.1 l vs 0 a (fun j => by simp) hB.2 h hq)
  simp only [Bool.and_eq_true, decide_eq_true_eq]
  refine ⟨⟨⟨hB.1.1, hB.1.2⟩, List.all_eq_true.2 fun i hi => ?_⟩, by simp⟩
  have := List.mem_range.1 hi
  simp only [List.contains_iff_mem, List.mem_range'_1]
  simp at this
  omega
theorem AllFree.s {i : Nat} {o : Oper} {l : List Oper} {v : Value} {vs : List Value} {aV : Act} (hc : cal.contains i = false) (h : FreeS P ops C o v aV) (h2 : AllFree P ops C cal aV (i + 1) l vs) : AllFree P ops C cal aV i (o :: l) (v :: vs) :=
  ⟨by rw [if_neg (by rw [hc]; simp)]; exact h, h2⟩
theorem AllFree.c {i : Nat} {o : Oper} {l : List Oper} {v : Value} {vs : List Value} {aV : Act} (hc : cal.contains i = true) (h : FreeC P ops C o v aV) (h2 : AllFree P ops C cal aV (i + 1) l vs) : AllFree P ops C cal aV i (o :: l) (v :: vs) :=
  ⟨by rw [if_pos hc]; exact h, h2⟩
/-- One that is looked at: its run. -/
theorem freeS_run {o : Oper} {v : Value} {aV : Act} (h : ∀ w, C w → (execOp aV.eval o).run P w = .ok (.value v) w) (hw : Region.wanted o (yielded ops aV.tmps) = true) : FreeS P ops C o v aV := by
  intro w hC
  rw [if_pos hw]
  exact .inl (h w hC)
/-- One whose guard is not met. -/
theorem freeS_not {o : Oper} {aV : Act} (hw : Region.wanted o (yielded ops aV.tmps) = false) : FreeS P ops C o undef aV := by
  intro w hC
  rw [if_neg (by rw [hw]; simp)]
end
end Go.Proofs.Ytdfidijlconhnaa
