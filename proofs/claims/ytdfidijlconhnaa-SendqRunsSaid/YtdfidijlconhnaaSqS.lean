/- SendqRuns' plain law: what the queue and the document's have in common, and how calls keep it. -/
import Derived.Test.YtdfidijlconhnaaSqW
namespace Go.Proofs.Ytdfidijlconhnaa
open Go.RowKit Asn
/-- A queue and the document's. -/
structure St13 where
  g : Nat
  low : Nat
  next : Nat
  H : List HR
  row : List Int
  A : Option Addr
  c : Nat
  B : Option Addr
  d : Nat
  ak : List Bool
  P : List PR
  la : Option Addr
  lc : Nat
  aa : Option Addr
  ac : Nat
  ra : Option Addr
  rc : Nat
structure I13 (most n : Nat) (X : Asn) (s : St13) : Prop where
  q : QI s.ak s.low s.next s.H
  pl : s.P.length = s.ak.length
  hp : rd X 3 s.la s.ak.length (pieceC s.P)
  ha : rd X 1 s.aa s.ak.length (bools s.ak)
  hr : RS X s.ra s.row.length s.rc s.row
  is : ∀ (i : Nat) (h : HR) (p : PR), s.H[i]? = some h → s.P[s.low + i]? = some p → isP X h p
  rw : ∀ x ∈ s.row, lacksD s.ak s.next x = true
  nd : s.row.Nodup
  cap : s.ak.length ≤ most + s.low
  few : s.ak.length ≤ 5 * n
theorem I13.perm {most n : Nat} {X Y : Asn} {s : St13} (h : I13 most n X s) (e : X = Y) : I13 most n Y s := e ▸ h
theorem I13.right {most n : Nat} {X G : Asn} {s : St13} (h : I13 most n X s) : I13 most n (G * X) s :=
  ⟨h.q, h.pl, h.hp.right, h.ha.right, h.hr.right, fun i a b x y => (h.is i a b x y).right, h.rw, h.nd, h.cap, h.few⟩
theorem I13.up {most n m : Nat} {X : Asn} {s : St13} (h : I13 most n X s) (hm : n ≤ m) : I13 most m X s :=
  ⟨h.q, h.pl, h.hp, h.ha, h.hr, h.is, h.rw, h.nd, h.cap, by have := h.few; omega⟩
theorem filter_split (l : List Int) (p : Int → Bool) : (l.filter p).length + (l.filter fun x => !p x).length = l.length := by
  induction l with
  | nil => rfl
  | cons x t ih =>
    rw [List.filter_cons, List.filter_cons]
    cases h : p x <;> simp [h] <;> omega
theorem nodup_le : ∀ (k : Nat) (l : List Int) (a : Int), l.Nodup → (∀ x ∈ l, a ≤ x ∧ x < a + k) → l.length ≤ k
  | 0, l, a, _, h => by
    match l, h with
    | [], _ => exact Nat.le_refl _
    | x :: t, h => have := h x List.mem_cons_self; omega
  | k + 1, l, a, hn, h => by
    have hf : (l.filter fun x => decide (x ≠ a + k)).length ≤ k := nodup_le k _ a (hn.filter _) fun x hx => by
      rw [List.mem_filter] at hx
      have := h x hx.1
      have h2 : x ≠ a + k := by simpa using hx.2
      omega
    have hc := filter_split l fun x => decide (x ≠ a + k)
    have h1 : (l.filter fun x => !decide (x ≠ a + k)).length ≤ 1 := by
      have hn2 := hn.filter fun x => !decide (x ≠ a + k)
      have hall : ∀ x ∈ l.filter (fun x => !decide (x ≠ a + k)), x = a + k := fun x hx => by
        rw [List.mem_filter] at hx; simpa using hx.2
      match hL : l.filter (fun x => !decide (x ≠ a + k)), hn2, hall with
      | [], _, _ => exact Nat.zero_le _
      | [x], _, _ => exact Nat.le_refl _
      | x :: y :: t, hn2, hall =>
        have e1 := hall x (by simp)
        have e2 := hall y (by simp)
        rw [List.pairwise_cons] at hn2
        exact absurd (e1.trans e2.symm) (hn2.1 y (by simp))
    omega
theorem I13.rows {most n : Nat} {X : Asn} {s : St13} (h : I13 most n X s) : s.row.length ≤ most := by
  have hb : s.row.length ≤ s.next - s.low := nodup_le _ s.row s.low h.nd fun x hx => by
    have hl := h.rw x hx
    rw [← h.q.lacks] at hl
    unfold lacksB at hl
    simp only [Bool.and_eq_true, decide_eq_true_eq] at hl
    have := hl.1.1; have := hl.1.2
    omega
  have := h.q.nx
  have := h.cap
  have := h.q.lo
  omega
section
variable {most n : Nat} {X : Asn} {s : St13}
/-- Add. -/
theorem I13.add (h : I13 most n X s) {Y : Asn} {H2 : List HR} {P2 : List PR} {la : Option Addr} {lc : Nat} {aa : Option Addr} {ac : Nat} {A : Option Addr} {c : Nat} {G : Asn} (hl : H2.length = P2.length) (hY : Y = G * X)
    (hp : rd Y 3 la (s.P.length + P2.length) (pieceC (s.P ++ P2))) (ha : rd Y 1 aa (s.ak.length + P2.length) (bools (s.ak ++ List.replicate P2.length false))) (hnw : newP Y H2 P2) (hfit : (P2.length : Int) ≤ most - s.H.length) (hm : P2.length ≤ 5) :
    I13 most (n + 1) Y { s with H := s.H ++ H2, A := A, c := c, ak := s.ak ++ List.replicate P2.length false, P := s.P ++ P2, la := la, lc := lc, aa := aa, ac := ac } := by
  have hq := h.q.add (H2 := H2) fun x hx => by
    obtain ⟨i, hi, rfl⟩ := List.getElem_of_mem hx
    exact (hnw i _ _ (List.getElem?_eq_getElem hi) (List.getElem?_eq_getElem (by omega))).2
  rw [hl] at hq
  have hlen := h.q.len
  have hpl := h.pl
  have hcap := h.cap
  have hfew := h.few
  have hal : (s.ak ++ List.replicate P2.length false).length = s.ak.length + P2.length := by simp
  refine ⟨hq, by simp [hpl], by simpa [hpl] using hp, by simpa using ha, hY ▸ h.hr.right, fun i a b x y => ?_, fun x hx => ?_, h.nd, ?_, ?_⟩
  · dsimp only at x y
    by_cases hi : i < s.H.length
    · rw [List.getElem?_append_left hi] at x
      rw [List.getElem?_append_left (by omega)] at y
      exact hY ▸ (h.is i a b x y).right
    · rw [List.getElem?_append_right (by omega)] at x
      rw [List.getElem?_append_right (by omega)] at y
      have e : s.low + i - s.P.length = i - s.H.length := by omega
      rw [e] at y
      exact (hnw _ _ _ x y).1
  · have := h.rw x hx
    rw [← h.q.lacks] at this
    rw [← hq.lacks]
    unfold lacksB at this ⊢
    simp only [Bool.and_eq_true, decide_eq_true_eq] at this ⊢
    refine ⟨this.1, ?_⟩
    have h3 := this.2
    try dsimp only
    cases e : s.H[(x - (s.low : Int)).toNat]? with
    | none => rw [e] at h3; cases h3
    | some hh =>
      rw [List.getElem?_append_left (List.getElem?_eq_some_iff.1 e).1, e]
      rw [e] at h3
      exact h3
  · show (s.ak ++ List.replicate P2.length false).length ≤ most + s.low
    rw [hal]; omega
  · show (s.ak ++ List.replicate P2.length false).length ≤ 5 * (n + 1)
    rw [hal]; omega
/-- Send. -/
theorem I13.send (h : I13 most n X s) (hlt : s.next < s.ak.length) : I13 most n X { s with next := s.next + 1 } :=
  ⟨h.q.send hlt, h.pl, h.hp, h.ha, h.hr, h.is, fun x hx => by
    have := h.rw x hx
    unfold lacksD at this ⊢
    simp only [Bool.and_eq_true, decide_eq_true_eq] at this ⊢
    exact ⟨⟨this.1.1, by have := this.1.2; show x < ((s.next + 1 : Nat) : Int); omega⟩, this.2⟩, h.nd, h.cap, h.few⟩
/-- Again. -/
theorem I13.again (h : I13 most n X s) {Y G : Asn} {seq : Int} {ra : Option Addr} {rc : Nat} {B : Option Addr} {d : Nat} (hY : Y = G * X) (hr : RS Y ra (s.row ++ [seq]).length rc (s.row ++ [seq])) (hyes : (lacksD s.ak s.next seq && !decide (seq ∈ s.row)) = true) :
    I13 most n Y { s with row := s.row ++ [seq], B := B, d := d, ra := ra, rc := rc } := by
  simp only [Bool.and_eq_true, Bool.not_eq_true', decide_eq_false_iff_not] at hyes
  refine ⟨h.q, h.pl, hY ▸ h.hp.right, hY ▸ h.ha.right, hr, fun i a b x y => hY ▸ (h.is i a b x y).right, fun x hx => ?_, ?_, h.cap, h.few⟩
  · rcases List.mem_append.1 hx with hx | hx
    · exact h.rw x hx
    · obtain rfl : x = seq := by simpa using hx
      exact hyes.1
  · show (s.row ++ [seq]).Nodup
    rw [List.nodup_append]
    exact ⟨h.nd, by simp, fun a ha b hb => by obtain rfl : b = seq := by simpa using hb
                                              exact fun e => hyes.2 (e ▸ ha)⟩
/-- Repeat. -/
theorem I13.rep (h : I13 most n X s) {x : Int} {l : List Int} {ra : Option Addr} {rc : Nat} {B : Option Addr} {d : Nat} (he : s.row = x :: l) (hr : RS X ra l.length rc l) : I13 most n X { s with row := l, B := B, d := d, ra := ra, rc := rc } := by
  have hnd := h.nd
  rw [he, List.nodup_cons] at hnd
  exact ⟨h.q, h.pl, h.hp, h.ha, hr, h.is, fun y hy => h.rw y (by rw [he]; exact List.mem_cons_of_mem _ hy), hnd.2, h.cap, h.few⟩
/-- Fork. -/
theorem I13.fork (h : I13 most n X s) {g : Nat} {A B : Option Addr} {c d : Nat} : I13 most n X { s with g := g, A := A, c := c, B := B, d := d } := ⟨h.q, h.pl, h.hp, h.ha, h.hr, h.is, h.rw, h.nd, h.cap, h.few⟩
/-- Ack. -/
theorem I13.ack (h : I13 most n X s) {Y G : Asn} {seq : Int} {low2 : Nat} {H2 : List HR} {A B : Option Addr} {c d : Nat} {aa : Option Addr} {ac : Nat} {ra : Option Addr} {rc : Nat} (hY : Y = G * X) (hyes : lacksD s.ak s.next seq = true) (hle : s.low ≤ low2) (hq : QI (s.ak.set seq.toNat true) low2 s.next H2) (hpo : partOf s.H H2 (low2 - s.low))
    (ha : rd Y 1 aa s.ak.length (bools (s.ak.set seq.toNat true))) (hr : RS Y ra (s.row.filter fun y => decide (y ≠ seq)).length rc (s.row.filter fun y => decide (y ≠ seq))) :
    I13 most n Y { s with low := low2, H := H2, row := s.row.filter fun y => decide (y ≠ seq), A := A, c := c, B := B, d := d, ak := s.ak.set seq.toNat true, aa := aa, ac := ac, ra := ra, rc := rc } := by
  have hseq : 0 ≤ seq ∧ seq < s.next := by
    unfold lacksD at hyes
    simp only [Bool.and_eq_true, decide_eq_true_eq] at hyes
    exact hyes.1
  have hnx := h.q.nx
  refine ⟨hq, by simp [h.pl], by simpa using (hY ▸ h.hp.right : rd Y 3 _ _ _), by simpa using ha, hr, fun i a b x y => ?_, fun x hx => ?_, h.nd.filter _, by have := h.cap; simp; omega, by have := h.few; simpa using this⟩
  · dsimp only at x y
    obtain ⟨hh, hh1, s1, s2, s3, s4, s5⟩ := hpo i a x
    have e : s.low + (low2 - s.low + i) = low2 + i := by omega
    obtain ⟨i1, i2, l, i3, i4⟩ := h.is _ hh b hh1 (by rw [e]; exact y)
    exact ⟨by rw [s4]; exact i1, by rw [s5]; exact i2, l, by rw [s1, s2, s3]; exact hY ▸ i3.right, hY ▸ i4.right⟩
  · rw [List.mem_filter] at hx
    have hl := h.rw x hx.1
    have hne : x ≠ seq := by simpa using hx.2
    unfold lacksD at hl ⊢
    simp only [Bool.and_eq_true, decide_eq_true_eq] at hl ⊢
    refine ⟨hl.1, ?_⟩
    show (!akB (s.ak.set seq.toNat true) x.toNat) = true
    rw [akB_set _ _ _ (by omega), if_neg (by have := hl.1.1; omega)]
    exact hl.2
end
end Go.Proofs.Ytdfidijlconhnaa
