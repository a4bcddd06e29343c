/- ReceiverOrders' plain law: whatever order a row's packets come in. Nothing of the program is named here. -/
import Derived.Test.YtdfidijlconhnaaR11C
namespace Go.Proofs.Ytdfidijlconhnaa
open Go.RowKit

abbrev Pc := List UInt8 × Bool × Bool
/-- A row: pieces that are not empty, then the end. -/
structure RowOk (ql : List Pc) : Prop where
  fin : ∃ body : List Pc, ql = body ++ [([], false, true)] ∧ ∀ x ∈ body, x.1 ≠ [] ∧ x.1.length ≤ 20 ∧ x.2.2 = false
  few : ql.length ≤ 481
def pcAt (ql : List Pc) (k : Nat) : Pc := ql.getD k ([], false, false)
def pktA (ql : List Pc) (k : Nat) : Pkt := ⟨1, flOf (pcAt ql k).2.1 (pcAt ql k).2.2, 0, 0, 1, 1, k, 0, (pcAt ql k).1⟩
theorem RowOk.pos {ql : List Pc} (h : RowOk ql) : 1 ≤ ql.length := by
  obtain ⟨body, hb, _⟩ := h.fin
  rw [hb, List.length_append]
  simp
theorem RowOk.body {ql : List Pc} (h : RowOk ql) {k : Nat} (hk : k < ql.length - 1) : (pcAt ql k).1 ≠ [] ∧ (pcAt ql k).1.length ≤ 20 ∧ (pcAt ql k).2.2 = false := by
  obtain ⟨body, hb, hx⟩ := h.fin
  have hl : k < body.length := by rw [hb, List.length_append] at hk; simp at hk; exact hk
  have : pcAt ql k = body[k] := by
    unfold pcAt
    rw [hb, List.getD_eq_getElem?_getD, List.getElem?_append_left hl, List.getElem?_eq_getElem hl]
    rfl
  rw [this]
  exact hx _ (List.getElem_mem hl)
theorem RowOk.last {ql : List Pc} (h : RowOk ql) : pcAt ql (ql.length - 1) = ([], false, true) := by
  obtain ⟨body, hb, _⟩ := h.fin
  unfold pcAt
  rw [hb, List.length_append]
  simp
theorem fl_fin (e f : Bool) : hasF (flOf e f) 2 = f := by cases e <;> cases f <;> decide
theorem fl_bounced (e f : Bool) : hasF (flOf e f) 4 = false := by cases e <;> cases f <;> decide
theorem fl_trim (e f : Bool) : hasF (flOf e f) 3 = false := by cases e <;> cases f <;> decide
theorem fl_bounced8 (e f : Bool) : hasF (flOf e f + 8) 4 = false := by cases e <;> cases f <;> decide
theorem fl_trim8 (e f : Bool) : hasF (flOf e f + 8) 3 = true := by cases e <;> cases f <;> decide
theorem fin_iff {ql : List Pc} (h : RowOk ql) {k : Nat} (hk : k < ql.length) : hasF (pktA ql k).fl 2 = decide (k = ql.length - 1) := by
  show hasF (flOf _ _) 2 = _
  rw [fl_fin]
  by_cases h1 : k = ql.length - 1
  · rw [h1, h.last]; simp
  · rw [(h.body (by omega)).2.2]; simp [h1]
/-- What comes of the first k. -/
def foldT (ql : List Pc) (k : Nat) : RJ × List (List UInt8) := ((List.range k).map (pktA ql)).foldl eatA (⟨[], 0, 0, 0⟩, [])
theorem foldT_succ (ql : List Pc) (k : Nat) : foldT ql (k + 1) = eatA (foldT ql k) (pktA ql k) := by
  unfold foldT
  rw [List.range_succ, List.map_append, List.foldl_append]
  rfl
theorem eatA_out (j : RJ) (o0 o : List (List UInt8)) (p : Pkt) : eatA (j, o0 ++ o) p = ((eatA (j, o) p).1, o0 ++ (eatA (j, o) p).2) := by
  unfold eatA
  dsimp only
  split <;> simp
theorem goesM_out : ∀ (K : List Pkt) (n : Int) (j : RJ) (o0 o : List (List UInt8)), goesM K n (j, o0 ++ o) = ((goesM K n (j, o)).1, ((goesM K n (j, o)).2.1.1, o0 ++ (goesM K n (j, o)).2.1.2), (goesM K n (j, o)).2.2)
  | [], _, _, _, _ => rfl
  | p :: l, n, j, o0, o => by
    unfold goesM
    by_cases hq : p.q = n
    · rw [if_pos hq, if_pos hq]
      cases hf : hasF p.fl 2 with
      | true => rfl
      | false =>
        simp only [Bool.false_eq_true, if_false]
        rw [eatA_out, goesM_out l]
    · rw [if_neg hq, if_neg hq]
/-- Going on, along a row. -/
theorem goesM_row {ql : List Pc} (h : RowOk ql) : ∀ (K : List Pkt) (n : Nat), (∀ x ∈ K, ∃ k : Nat, k < ql.length ∧ n ≤ k ∧ x = pktA ql k) → (K.map (·.q)).Pairwise (· < ·) → n ≤ ql.length - 1 →
    ((goesM K n (foldT ql n)).2.2.1 = true → n + (goesM K n (foldT ql n)).1 = ql.length ∧ (goesM K n (foldT ql n)).2.1 = foldT ql (ql.length - 1) ∧ ∀ i, n ≤ i → i < ql.length → (i : Int) ∈ K.map (·.q)) ∧
    ((goesM K n (foldT ql n)).2.2.1 = false → n + (goesM K n (foldT ql n)).1 ≤ ql.length - 1 ∧ (goesM K n (foldT ql n)).2.1 = foldT ql (n + (goesM K n (foldT ql n)).1) ∧
      (∀ i : Nat, (i : Int) ∈ K.map (·.q) ↔ (n ≤ i ∧ i < n + (goesM K n (foldT ql n)).1) ∨ (i : Int) ∈ (goesM K n (foldT ql n)).2.2.2.map (·.q)) ∧
      (∀ x ∈ (goesM K n (foldT ql n)).2.2.2, ∃ k : Nat, k < ql.length ∧ n + (goesM K n (foldT ql n)).1 < k ∧ x = pktA ql k) ∧ ((goesM K n (foldT ql n)).2.2.2.map (·.q)).Pairwise (· < ·))
  | [], n, _, _, hn => ⟨fun hh => by simp [goesM] at hh, fun _ => ⟨hn, rfl, fun i => by simp [goesM], fun x hx => by simp [goesM] at hx, by simp [goesM]⟩⟩
  | p :: l, n, hk, hs, hn => by
    rw [List.map_cons, List.pairwise_cons] at hs
    obtain ⟨k, hkl, hnk, hpk⟩ := hk p List.mem_cons_self
    have hpq : p.q = k := by rw [hpk]; rfl
    have hlk : ∀ x ∈ l, ∃ k' : Nat, k' < ql.length ∧ k < k' ∧ x = pktA ql k' := by
      intro x hx
      obtain ⟨k', h1, h2, h3⟩ := hk x (List.mem_cons_of_mem _ hx)
      refine ⟨k', h1, ?_, h3⟩
      have := hs.1 x.q (List.mem_map_of_mem hx)
      rw [hpq, h3] at this
      have h4 : (pktA ql k').q = (k' : Int) := rfl
      omega
    by_cases hq : p.q = (n : Int)
    · have hkn : k = n := by omega
      subst hkn
      have hf := fin_iff h hkl
      by_cases hlast : k = ql.length - 1
      · have hfin : hasF p.fl 2 = true := by rw [hpk, hf]; simp [hlast]
        have hg : goesM (p :: l) k (foldT ql k) = (1, foldT ql k, true, []) := by
          rw [goesM, if_pos hq, if_pos hfin]
        rw [hg]
        refine ⟨fun _ => ⟨by dsimp only; omega, by rw [← hlast], fun i h1 h2 => ?_⟩, fun hh => by simp at hh⟩
        have : i = k := by omega
        rw [this, List.map_cons, hpq]
        exact List.mem_cons_self
      · have hfin : hasF p.fl 2 = false := by rw [hpk, hf]; simp [hlast]
        have heat : eatA (foldT ql k) p = foldT ql (k + 1) := by rw [foldT_succ, hpk]
        have hg : goesM (p :: l) k (foldT ql k) = ((goesM l ((k + 1 : Nat) : Int) (foldT ql (k + 1))).1 + 1, (goesM l ((k + 1 : Nat) : Int) (foldT ql (k + 1))).2) := by
          rw [goesM, if_pos hq, if_neg (by rw [hfin]; simp), heat]
          push_cast
          rfl
        rw [hg]
        obtain ⟨i1, i2⟩ := goesM_row h l (k + 1) (fun x hx => by obtain ⟨k', a, b, c⟩ := hlk x hx; exact ⟨k', a, by omega, c⟩) hs.2 (by omega)
        refine ⟨fun hh => ?_, fun hh => ?_⟩
        · obtain ⟨a1, a2, a3⟩ := i1 hh
          refine ⟨by dsimp only; omega, a2, fun i h1 h2 => ?_⟩
          rw [List.map_cons, hpq]
          by_cases hik : i = k
          · rw [hik]; exact List.mem_cons_self
          · exact List.mem_cons_of_mem _ (a3 i (by omega) h2)
        · obtain ⟨a1, a2, a3, a4, a5⟩ := i2 hh
          refine ⟨by dsimp only; omega, ?_, fun i => ?_, fun x hx => ?_, a5⟩
          · rw [a2]
            dsimp only
            congr 1
            omega
          · rw [List.map_cons, hpq, List.mem_cons, a3 i]
            dsimp only
            constructor
            · rintro (hh | hh | hh)
              · left; omega
              · left; omega
              · right; exact hh
            · rintro (hh | hh)
              · by_cases hik : i = k
                · left; omega
                · right; left; omega
              · right; right; exact hh
          · obtain ⟨k', b1, b2, b3⟩ := a4 x hx
            exact ⟨k', b1, by dsimp only; omega, b3⟩
    · have hg : goesM (p :: l) n (foldT ql n) = (0, foldT ql n, false, p :: l) := by rw [goesM, if_neg hq]
      rw [hg]
      refine ⟨fun hh => by simp at hh, fun _ => ⟨hn, rfl, fun i => ⟨fun hh => .inr hh, fun hh => hh.elim (fun h' => by have := h'.1; have := h'.2; dsimp only at this; omega) id⟩, fun x hx => ?_, by rw [List.map_cons, List.pairwise_cons]; exact hs⟩⟩
      rcases List.mem_cons.1 hx with rfl | hx
      · exact ⟨k, hkl, by dsimp only; omega, hpk⟩
      · obtain ⟨k', b1, b2, b3⟩ := hlk x hx
        exact ⟨k', b1, by dsimp only; omega, b3⟩

/-- A receiver of a row, and the law's own count. -/
structure OInv (win : Nat) (ql : List Pc) (m : RM) (came : List Bool) (next : Nat) (told : List (List UInt8)) : Prop where
  nx : m.next = next
  len : came.length = ql.length
  cm : ∀ k : Nat, k < ql.length → (came.getD k false = true ↔ k < next ∨ (k : Int) ∈ m.K.map (·.q))
  le : next ≤ ql.length
  dn : m.done = decide (next = ql.length)
  kk : ∀ x ∈ m.K, ∃ k : Nat, k < ql.length ∧ next < k ∧ x = pktA ql k
  srt : (m.K.map (·.q)).Pairwise (· < ·)
  st : (m.j, told) = foldT ql (min next (ql.length - 1))
theorem OInv.start {ql : List Pc} (win : Nat) (h : RowOk ql) : OInv win ql rm0 (List.replicate ql.length false) 0 [] :=
  ⟨rfl, by simp, fun k hk => by simp [rm0, List.getD_eq_getElem?_getD, hk], Nat.zero_le _, by have := h.pos; simp [rm0]; omega, fun x hx => by simp [rm0] at hx, List.Pairwise.nil, by rw [Nat.zero_min]; rfl⟩
section
variable {win : Nat} {ql : List Pc} {m : RM} {came : List Bool} {next : Nat} {told : List (List UInt8)}
theorem OInv.had (h : OInv win ql m came next told) {k : Nat} (hk : k < ql.length) (p : Pkt) (hq : p.q = k) : hadM m p ↔ came.getD k false = true := by
  unfold hadM
  rw [h.cm k hk, h.dn, hq, h.nx]
  simp only [decide_eq_true_eq]
  constructor
  · rintro (hh | hh | hh)
    · left; omega
    · left; omega
    · right; exact hh
  · rintro (hh | hh)
    · right; left; omega
    · right; right; exact hh
theorem OInv.set_had (h : OInv win ql m came next told) {k : Nat} (hk : k < ql.length) (hc : came.getD k false = true) : came.set k true = came := by
  have hkl : k < came.length := by rw [h.len]; exact hk
  apply List.ext_getElem?
  intro i
  rw [List.getElem?_set]
  by_cases hik : k = i
  · subst hik
    rw [if_pos rfl, if_pos hkl, List.getElem?_eq_getElem hkl]
    rw [List.getD_eq_getElem?_getD, List.getElem?_eq_getElem hkl] at hc
    simp at hc
    rw [hc]
  · rw [if_neg hik]
/-- One that was trimmed. -/
theorem OInv.trimmed (h : OInv win ql m came next told) (hr : RowOk ql) {k : Nat} (hk : k < ql.length) (p : Pkt) (hp : p.kind = 1 ∧ p.fl = (pktA ql k).fl + 8 ∧ p.q = k) :
    (takeM win m p).2.2 = [] ∧ (takeM win m p).1.next = m.next ∧ OInv win ql (takeM win m p).1 came next told := by
  obtain ⟨h1, h2, h3⟩ := hp
  have hl := hr.few
  have hb : ¬ badP p := by
    unfold badP
    rw [h1, h2, h3]
    show ¬ ((1 : Int) ≠ 1 ∨ hasF (flOf _ _ + 8) 4 = true ∨ _)
    rw [fl_bounced8]
    simp
    omega
  have ht : hasF p.fl 3 = true := by rw [h2]; exact fl_trim8 _ _
  unfold takeM
  rw [if_neg hb]
  by_cases hh : hadM m p
  · rw [if_pos hh]; exact ⟨rfl, rfl, h⟩
  · rw [if_neg hh]
    by_cases hf : (win : Int) ≤ p.q - m.next
    · rw [if_pos hf]; exact ⟨rfl, rfl, h⟩
    · rw [if_neg hf, if_pos ht]
      exact ⟨rfl, rfl, ⟨h.nx, h.len, h.cm, h.le, h.dn, h.kk, h.srt, h.st⟩⟩
/-- One whole. -/
theorem OInv.whole (h : OInv win ql m came next told) (hr : RowOk ql) {k : Nat} (hk : k < ql.length) (hw : 1 ≤ win) :
    OInv win ql (takeM win m (pktA ql k)).1 (if k < next + win then came.set k true else came) (takeM win m (pktA ql k)).1.next (told ++ (takeM win m (pktA ql k)).2.2) ∧ next ≤ (takeM win m (pktA ql k)).1.next := by
  have hl := hr.few
  have hb : ¬ badP (pktA ql k) := by
    unfold badP
    show ¬ ((1 : Int) ≠ 1 ∨ hasF (flOf _ _) 4 = true ∨ ¬ ((0 : Int) ≤ (k : Int) ∧ (k : Int) ≤ _))
    rw [fl_bounced]
    simp
    omega
  have hq : (pktA ql k).q = (k : Int) := rfl
  unfold takeM
  rw [if_neg hb]
  by_cases hh : hadM m (pktA ql k)
  · rw [if_pos hh]
    have hc := (h.had hk _ hq).1 hh
    dsimp only
    rw [List.append_nil, h.set_had hk hc, ite_self, h.nx]
    exact ⟨h, Nat.le_refl _⟩
  · rw [if_neg hh]
    have hc : ¬ came.getD k false = true := fun hc => hh ((h.had hk _ hq).2 hc)
    have hnk : next ≤ k ∧ (k : Int) ∉ m.K.map (·.q) := by
      rw [h.cm k hk] at hc
      simp only [not_or] at hc
      exact ⟨by omega, hc.2⟩
    by_cases hf : (win : Int) ≤ (pktA ql k).q - m.next
    · rw [if_pos hf]
      rw [hq, h.nx] at hf
      dsimp only
      rw [List.append_nil, if_neg (show ¬ k < next + win by omega), h.nx]
      exact ⟨h, Nat.le_refl _⟩
    · rw [if_neg hf, if_neg (by show ¬ hasF (flOf _ _) 3 = true; rw [fl_trim]; simp)]
      rw [hq, h.nx] at hf
      rw [if_pos (show k < next + win by omega)]
      have hnl : next < ql.length := by omega
      have hmin : min next (ql.length - 1) = next := by omega
      have hst := h.st
      rw [hmin] at hst
      have hins : ∀ x ∈ insP m.K (pktA ql k), x = pktA ql k ∨ x ∈ m.K := by
        intro x hx
        have := (insP_perm m.K (pktA ql k)).mem_iff.2 hx
        rcases List.mem_append.1 this with hh | hh
        · exact .inr hh
        · exact .inl (List.mem_singleton.1 hh)
      have hkk : ∀ x ∈ insP m.K (pktA ql k), ∃ k' : Nat, k' < ql.length ∧ next ≤ k' ∧ x = pktA ql k' := by
        intro x hx
        rcases hins x hx with rfl | hx
        · exact ⟨k, hk, hnk.1, rfl⟩
        · obtain ⟨k', a, b, c⟩ := h.kk x hx
          exact ⟨k', a, by omega, c⟩
      have hsrt : ((insP m.K (pktA ql k)).map (·.q)).Pairwise (· < ·) := by rw [insP_q]; exact srt_insR h.srt hnk.2
      have hmem : ∀ i : Nat, (i : Int) ∈ (insP m.K (pktA ql k)).map (·.q) ↔ i = k ∨ (i : Int) ∈ m.K.map (·.q) := by
        intro i
        rw [insP_q, mem_insR, hq]
        constructor
        · rintro (hh | hh)
          · left; omega
          · right; exact hh
        · rintro (hh | hh)
          · left; omega
          · right; exact hh
      obtain ⟨g1, g2⟩ := goesM_row hr (insP m.K (pktA ql k)) next hkk hsrt (by omega)
      have hout := goesM_out (insP m.K (pktA ql k)) next m.j told []
      rw [List.append_nil, hst] at hout
      rw [h.nx]
      obtain ⟨r, hrd⟩ : ∃ r, r = goesM (insP m.K (pktA ql k)) next (m.j, []) := ⟨_, rfl⟩
      rw [← hrd] at hout ⊢
      have hset : ∀ i, i < ql.length → ((came.set k true).getD i false = true ↔ i = k ∨ came.getD i false = true) := by
        intro i hi
        rw [List.getD_eq_getElem?_getD, List.getElem?_set, List.getD_eq_getElem?_getD]
        by_cases hik : k = i
        · subst hik
          rw [if_pos rfl, if_pos (by rw [h.len]; exact hi)]
          simp
        · rw [if_neg hik]
          constructor
          · exact fun hh => .inr hh
          · rintro (hh | hh)
            · exact absurd hh.symm hik
            · exact hh
      rw [hout] at g1 g2
      dsimp only at g1 g2 ⊢
      refine ⟨?_, by omega⟩
      cases hfin : r.2.2.1 with
      | true =>
        obtain ⟨a1, a2, a3⟩ := g1 hfin
        have hrest : r.2.2.2 = [] := by rw [hrd] at hfin ⊢; exact goesM_fin _ _ _ hfin
        refine ⟨rfl, by rw [List.length_set]; exact h.len, fun i hi => ?_, by omega, by dsimp only; rw [a1]; simp, fun x hx => ?_, ?_, ?_⟩
        · rw [hset i hi, h.cm i hi, a1]
          refine ⟨fun _ => .inl hi, fun _ => ?_⟩
          by_cases hin : i < next
          · exact .inr (.inl hin)
          · rcases (hmem i).1 (a3 i (by omega) hi) with hh | hh
            · exact .inl hh
            · exact .inr (.inr hh)
        · dsimp only at hx
          rw [hrest] at hx
          simp at hx
        · dsimp only
          rw [hrest]
          exact List.Pairwise.nil
        · dsimp only
          rw [a1, a2]
          congr 1
          omega
      | false =>
        obtain ⟨a1, a2, a3, a4, a5⟩ := g2 hfin
        refine ⟨rfl, by rw [List.length_set]; exact h.len, fun i hi => ?_, by omega, ?_, a4, a5, ?_⟩
        · rw [hset i hi, h.cm i hi]
          dsimp only
          have := a3 i
          rw [hmem i] at this
          constructor
          · rintro (hh | hh | hh)
            · rcases this.1 (.inl hh) with h2 | h2
              · left; omega
              · right; exact h2
            · left; omega
            · rcases this.1 (.inr hh) with h2 | h2
              · left; omega
              · right; exact h2
          · rintro (hh | hh)
            · by_cases hin : i < next
              · right; left; exact hin
              · rcases this.2 (.inl ⟨by omega, hh⟩) with h2 | h2
                · left; exact h2
                · right; right; exact h2
            · rcases this.2 (.inr hh) with h2 | h2
              · left; exact h2
              · right; right; exact h2
        · dsimp only
          rw [decide_eq_false (by have := hr.pos; omega)]
        · dsimp only
          rw [a2]
          congr 1
          omega
/-- Where the law's own count stops. -/
theorem OInv.came_lt (h : OInv win ql m came next told) {j : Nat} (hj : j < next) (hl : j < ql.length) : came.getD j false = true := (h.cm j hl).2 (.inl hj)
theorem OInv.came_stop (h : OInv win ql m came next told) (hl : next < ql.length) : came.getD next false = false := by
  cases hc : came.getD next false with
  | false => rfl
  | true =>
    rcases (h.cm next hl).1 hc with hh | hh
    · omega
    · obtain ⟨x, hx, hxq⟩ := List.mem_map.1 hh
      obtain ⟨k, a, b, c⟩ := h.kk x hx
      rw [c] at hxq
      have h4 : (pktA ql k).q = (k : Int) := rfl
      omega
end

/-- What the document makes of the first pieces. -/
def partsL (ql : List Pc) (k : Nat) : List (List UInt8) := (List.range k).map fun i => (pcAt ql i).1
def endsL (ql : List Pc) (k : Nat) : List Bool := (List.range k).map fun i => hasF (pktA ql i).fl 1
theorem foldT_opn {ql : List Pc} (h : RowOk ql) : ∀ k, k ≤ ql.length - 1 → (foldT ql k).1.opn.length ≤ 20 * k
  | 0, _ => by show ([] : List UInt8).length ≤ _; simp
  | k + 1, hk => by
    have ih := foldT_opn h k (by omega)
    have hb := h.body (k := k) (by omega)
    rw [foldT_succ]
    unfold eatA
    dsimp only
    have hp : (pktA ql k).b = (pcAt ql k).1 := rfl
    unfold RJ.add
    rw [hp]
    split
    · dsimp only; omega
    · split
      · dsimp only; omega
      · split
        · simp
        · simp only [List.length_append]; omega
theorem allF_fold {ql : List Pc} (h : RowOk ql) (k : Nat) (hk : k ≤ ql.length - 1) : ∀ d i : Nat, i + d = k → allF (endsL ql k) i ((partsL ql k).drop i) (foldT ql i).1.opn (foldT ql i).2 = ((foldT ql k).2, k, 0)
  | 0, i, hd => by
    obtain rfl : i = k := by omega
    rw [List.drop_of_length_le (by simp [partsL])]
    rfl
  | d + 1, i, hd => by
    have hf := h.few
    have hb := h.body (k := i) (by omega)
    have ho := foldT_opn h i (by omega)
    have hat : (partsL ql k)[i]? = some (pcAt ql i).1 := by unfold partsL; rw [List.getElem?_map, List.getElem?_range (by omega)]; rfl
    have hen : (endsL ql k).getD i false = hasF (pktA ql i).fl 1 := by unfold endsL; rw [List.getD_eq_getElem?_getD, List.getElem?_map, List.getElem?_range (by omega)]; rfl
    rw [drop_of hat, allF_step _ _ _ _ _ _ (foldT ql i).1.parts (foldT ql i).1.n (foldT ql i).1.bytes, hen]
    have heta : (⟨(foldT ql i).1.opn, (foldT ql i).1.parts, (foldT ql i).1.n, (foldT ql i).1.bytes⟩ : RJ) = (foldT ql i).1 := rfl
    rw [heta]
    have hz : (RJ.add (foldT ql i).1 (pcAt ql i).1 (hasF (pktA ql i).fl 1)).2.2.2 = 0 := by
      have h0 : (pcAt ql i).1.length ≠ 0 := fun hh => hb.1 (List.eq_nil_of_length_eq_zero hh)
      unfold RJ.add
      rw [if_neg h0, if_neg (by omega)]
      split <;> rfl
    rw [if_pos hz]
    have ih := allF_fold h k hk d (i + 1) (by omega)
    rw [foldT_succ] at ih
    exact ih
theorem allF_row {ql : List Pc} (h : RowOk ql) (k : Nat) (hk : k ≤ ql.length - 1) : (allF (endsL ql k) 0 (partsL ql k) [] []).1 = (foldT ql k).2 := by
  have := allF_fold h k hk k 0 (by omega)
  rw [List.drop_zero] at this
  have h0 : foldT ql 0 = (⟨[], 0, 0, 0⟩, []) := rfl
  rw [h0] at this
  rw [this]
/-- The pieces of messages are a row. -/
theorem cutL_ok {m : List UInt8} {mtu : Nat} (h1 : 1 ≤ m.length) (h3 : 1 ≤ mtu) (h4 : mtu ≤ 20) : ∀ x ∈ cutL m mtu, x.1 ≠ [] ∧ x.1.length ≤ 20 ∧ x.2.2 = false := by
  intro x hx
  unfold cutL at hx
  obtain ⟨i, hi, rfl⟩ := List.mem_map.1 hx
  have := cut_at h1 h3 (List.mem_range.1 hi)
  refine ⟨fun hh => ?_, ?_, rfl⟩
  · have := congrArg List.length hh
    simp only [List.length_take, List.length_drop, List.length_nil] at this
    omega
  · simp only [List.length_take]
    omega
theorem piecesL_ok {ls : List (List UInt8)} {mtu : Nat} (hl : ∀ m ∈ ls, 1 ≤ m.length) (h3 : 1 ≤ mtu) (h4 : mtu ≤ 20) (hn : (piecesL ls mtu).length ≤ 480) : RowOk (piecesL ls mtu ++ [([], false, true)]) := by
  refine ⟨⟨_, rfl, fun x hx => ?_⟩, by rw [List.length_append]; simp; omega⟩
  obtain ⟨m, hm, hx⟩ := List.mem_flatMap.1 hx
  exact cutL_ok (hl m hm) h3 h4 x hx
end Go.Proofs.Ytdfidijlconhnaa
