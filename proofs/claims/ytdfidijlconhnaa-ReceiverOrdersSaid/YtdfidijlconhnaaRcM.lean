/- The receiver as the document has it: what is kept, by rising numbers; against the program's map and bitmap. -/
import Derived.Test.YtdfidijlconhnaaRcZ
namespace Go.Proofs.Ytdfidijlconhnaa
open Go.RowKit Asn

/-- A packet. -/
structure Pkt where
  kind : Int
  fl : Int
  pa : Int
  src : Int
  dst : Int
  co : Int
  q : Int
  pu : Int
  b : List UInt8
def Pk.abs (p : Pk) : Pkt := ⟨p.kind, p.fl, p.pa, p.src, p.dst, p.co, p.q, p.pu, p.b⟩
theorem Pk.abs_q (p : Pk) : p.abs.q = p.q := rfl
def eatA (s : RJ × List (List UInt8)) (p : Pkt) : RJ × List (List UInt8) :=
  ((RJ.add s.1 p.b (hasF p.fl 1)).1, if (RJ.add s.1 p.b (hasF p.fl 1)).2.2.1 then s.2 ++ [(RJ.add s.1 p.b (hasF p.fl 1)).2.1] else s.2)
theorem eatS_abs (s : RJ × List (List UInt8)) (p : Pk) : eatS s p = eatA s p.abs := rfl
/-- One goes on: how many, what comes of them, is it the end, what is left. -/
def goesM : List Pkt → Int → RJ × List (List UInt8) → Nat × (RJ × List (List UInt8)) × Bool × List Pkt
  | [], _, s => (0, s, false, [])
  | p :: l, n, s => if p.q = n then (if hasF p.fl 2 then (1, s, true, []) else ((goesM l (n + 1) (eatA s p)).1 + 1, (goesM l (n + 1) (eatA s p)).2)) else (0, s, false, p :: l)
def insP (K : List Pkt) (p : Pkt) : List Pkt := K.takeWhile (fun x => decide (x.q < p.q)) ++ p :: K.dropWhile (fun x => decide (x.q < p.q))
structure RM where
  next : Nat
  K : List Pkt
  j : RJ
  arr : Nat
  iss : Nat
  pen : Nat
  done : Bool
def badP (p : Pkt) : Prop := p.kind ≠ 1 ∨ hasF p.fl 4 = true ∨ ¬ (0 ≤ p.q ∧ p.q ≤ 1152921504606846976)
instance (p : Pkt) : Decidable (badP p) := by unfold badP; infer_instance
/-- Is it there? -/
def hadM (m : RM) (p : Pkt) : Prop := m.done = true ∨ p.q < m.next ∨ p.q ∈ m.K.map (·.q)
instance (m : RM) (p : Pkt) : Decidable (hadM m p) := by unfold hadM; infer_instance
/-- Take. -/
def takeM (win : Nat) (m : RM) (p : Pkt) : RM × Option Int × List (List UInt8) :=
  if badP p then (m, none, [])
  else if hadM m p then (m, some 2, [])
  else if (win : Int) ≤ p.q - m.next then (m, none, [])
  else if hasF p.fl 3 = true then ({ m with arr := m.arr + 1, pen := m.pen + 1 }, some 3, [])
  else (⟨m.next + (goesM (insP m.K p) m.next (m.j, [])).1, (goesM (insP m.K p) m.next (m.j, [])).2.2.2, (goesM (insP m.K p) m.next (m.j, [])).2.1.1, m.arr + 1, m.iss, if (goesM (insP m.K p) m.next (m.j, [])).2.2.1 then 0 else m.pen + 1, (goesM (insP m.K p) m.next (m.j, [])).2.2.1⟩,
    some 2, (goesM (insP m.K p) m.next (m.j, [])).2.1.2)

theorem insP_q (K : List Pkt) (p : Pkt) : (insP K p).map (·.q) = insR (K.map (·.q)) p.q := by
  unfold insP insR
  rw [List.map_append, List.map_cons, List.takeWhile_map, List.dropWhile_map]
  rfl
theorem insP_perm (K : List Pkt) (p : Pkt) : (K ++ [p]).Perm (insP K p) := by
  unfold insP
  conv => lhs; rw [← List.takeWhile_append_dropWhile (p := fun x : Pkt => decide (x.q < p.q)) (l := K)]
  rw [List.append_assoc]
  refine List.Perm.append_left _ ?_
  exact List.perm_append_comm
theorem goesM_adv : ∀ (K : List Pkt) (n : Int) (s : RJ × List (List UInt8)), (goesM K n s).2.2.1 = false → advR (K.map (·.q)) n = ((goesM K n s).2.2.2.map (·.q), n + (goesM K n s).1)
  | [], n, s, _ => by simp [goesM, advR]
  | p :: l, n, s, h => by
    unfold goesM at h ⊢
    by_cases hq : p.q = n
    · rw [if_pos hq] at h ⊢
      cases hf : hasF p.fl 2 with
      | true => rw [hf] at h; simp at h
      | false =>
        rw [hf] at h
        simp only [Bool.false_eq_true, if_false] at h ⊢
        rw [List.map_cons, advR, if_pos hq, goesM_adv l (n + 1) _ h]
        congr 1
        push_cast
        omega
    · rw [if_neg hq]
      simp [advR, hq]
theorem restR_cons (L : List Pk) (n : Int) : ∀ k, restR L n (k + 1) = restR (delP L n) (n + 1) k
  | 0 => by simp [restR]
  | k + 1 => by
    rw [restR, restR_cons L n k, restR]
    congr 1
    push_cast
    omega
theorem delP_perm {L : List Pk} {n : Int} {p : Pk} (h : getP L n = some p) : L.Perm (p :: delP L n) := by
  unfold getP at h
  unfold delP
  induction L with
  | nil => simp at h
  | cons a l ih =>
    rw [List.find?_cons] at h
    rw [List.eraseP_cons]
    by_cases ha : a.q = n
    · simp only [ha, decide_true] at h ⊢
      obtain rfl : a = p := by simpa using h
      exact List.Perm.refl _
    · simp only [ha, decide_false] at h ⊢
      exact ((ih h).cons a).trans (List.Perm.swap _ _ _)
/-- The map's way is the row's. -/
theorem goX_goesM : ∀ (K : List Pkt) (L : List Pk) (n : Int) (s : RJ × List (List UInt8)), (L.map Pk.abs).Perm K → (K.map (·.q)).Pairwise (· < ·) → (∀ x ∈ K, n ≤ x.q) →
    goX (runP L n) s = ((goesM K n s).1, (goesM K n s).2.1, (goesM K n s).2.2.1) ∧ ((goesM K n s).2.2.1 = false → ((restR L n (goesM K n s).1).map Pk.abs).Perm (goesM K n s).2.2.2)
  | [], L, n, s, hp, _, _ => by
    have : L = [] := by simpa using hp
    subst this
    exact ⟨rfl, fun _ => by simp [goesM, restR]⟩
  | p :: l, L, n, s, hp, hs, hb => by
    rw [List.map_cons, List.pairwise_cons] at hs
    by_cases hq : p.q = n
    · obtain ⟨x, hx, hxp⟩ : ∃ x ∈ L, x.abs = p := by
        have : p ∈ L.map Pk.abs := hp.mem_iff.2 List.mem_cons_self
        obtain ⟨x, h1, h2⟩ := List.mem_map.1 this
        exact ⟨x, h1, h2⟩
      obtain ⟨y, hy⟩ : ∃ y, getP L n = some y := by
        have : (getP L n).isSome := by
          unfold getP
          rw [List.find?_isSome]
          exact ⟨x, hx, by rw [← hq, ← hxp]; simp [Pk.abs]⟩
        exact Option.isSome_iff_exists.1 this
      obtain ⟨hyL, hyq⟩ := getP_mem hy
      have hya : y.abs = p := by
        have : y.abs ∈ p :: l := hp.mem_iff.1 (List.mem_map_of_mem hyL)
        rcases List.mem_cons.1 this with h | h
        · exact h
        · have := hs.1 y.abs.q (List.mem_map_of_mem h)
          rw [Pk.abs_q, hyq] at this
          omega
      have hp2 : ((delP L n).map Pk.abs).Perm l := by
        have h1 := ((delP_perm hy).map Pk.abs).symm.trans hp
        rw [List.map_cons, hya] at h1
        exact h1.cons_inv
      have ih := goX_goesM l (delP L n) (n + 1) (eatA s p) hp2 hs.2 (fun z hz => by have := hs.1 z.q (List.mem_map_of_mem hz); omega)
      rw [runP_some hy]
      have hfl : y.fl = p.fl := by rw [← hya]; rfl
      have heat : eatS s y = eatA s p := by rw [eatS_abs, hya]
      unfold goesM goX
      rw [if_pos hq, hfl, heat]
      cases hf : hasF p.fl 2 with
      | true => exact ⟨rfl, fun h => by simp at h⟩
      | false =>
        simp only [Bool.false_eq_true, if_false]
        rw [ih.1]
        refine ⟨rfl, fun h => ?_⟩
        rw [restR_cons]
        exact ih.2 h
    · have hn : getP L n = none := by
        unfold getP
        rw [List.find?_eq_none]
        intro y hy
        have : y.abs ∈ p :: l := hp.mem_iff.1 (List.mem_map_of_mem hy)
        have hpn := hb p List.mem_cons_self
        rcases List.mem_cons.1 this with h | h
        · have : y.q = p.q := by rw [← h]; rfl
          simp; omega
        · have := hs.1 y.abs.q (List.mem_map_of_mem h)
          rw [Pk.abs_q] at this
          simp; omega
      rw [runP_none hn]
      unfold goesM
      rw [if_neg hq]
      exact ⟨rfl, fun _ => by simpa [restR] using hp⟩

theorem goesM_fin : ∀ (K : List Pkt) (n : Int) (s : RJ × List (List UInt8)), (goesM K n s).2.2.1 = true → (goesM K n s).2.2.2 = []
  | [], _, _, h => by simp [goesM] at h
  | p :: l, n, s, h => by
    unfold goesM at h ⊢
    by_cases hq : p.q = n
    · rw [if_pos hq] at h ⊢
      cases hf : hasF p.fl 2 with
      | true => rfl
      | false =>
        rw [hf] at h
        simp only [Bool.false_eq_true, if_false] at h ⊢
        exact goesM_fin l _ _ h
    · rw [if_neg hq] at h
      simp at h
theorem goesM_le (M : Int) : ∀ (K : List Pkt) (n : Int) (s : RJ × List (List UInt8)), (∀ x ∈ K, x.q ≤ M) → n ≤ M + 1 → n + (goesM K n s).1 ≤ M + 1
  | [], n, s, _, h => by simpa [goesM] using h
  | p :: l, n, s, hx, h => by
    unfold goesM
    by_cases hq : p.q = n
    · rw [if_pos hq]
      have h1 := hx p List.mem_cons_self
      cases hf : hasF p.fl 2 with
      | true => simp; omega
      | false =>
        simp only [Bool.false_eq_true, if_false]
        have := goesM_le M l (n + 1) (eatA s p) (fun x hx' => hx x (List.mem_cons_of_mem _ hx')) (by omega)
        push_cast
        omega
    · rw [if_neg hq]
      simpa using h
/-- The program's map, bitmap and join stand for the document's row. -/
structure RcInv (win : Nat) (m : RM) (L : List Pk) (V : Nat → Nat) (ba : Nat) (j : JoinM) : Prop where
  jn : j.rj = m.j
  inv : m.done = false → ba = m.next ∧ RInv win ba V (m.K.map (·.q)) ∧ (L.map Pk.abs).Perm m.K
  fin : m.done = true → m.K = [] ∧ L = []
theorem RcInv.had {win ba : Nat} {m : RM} {L : List Pk} {V : Nat → Nat} {j : JoinM} (h : RcInv win m L V ba j) (hd : m.done = false) (p : Pkt) (hp : 0 ≤ p.q) : hasB V win ba p.q = decide (hadM m p) := by
  obtain ⟨rfl, h1, _⟩ := h.inv hd
  rw [h1.has]
  have hiff : hadM m p ↔ (p.q < (m.next : Int) ∨ p.q ∈ m.K.map (·.q)) := by unfold hadM; simp [hd]
  have e : decide (hadM m p) = (decide (p.q < (m.next : Int)) || decide (p.q ∈ m.K.map (·.q))) := by
    rw [Bool.eq_iff_iff]
    simp only [decide_eq_true_eq, Bool.or_eq_true, hiff]
  rw [e]
  unfold hasR
  rw [decide_eq_true hp, Bool.true_and]
end Go.Proofs.Ytdfidijlconhnaa
