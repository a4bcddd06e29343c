/- A range over a function whose iterator turns what it owns between two rounds: what lies there while a round runs (Mb), behind a round (M), behind a last one (Mx). -/
import Derived.Test.YtdfidijlconhnaaRange
namespace Go.Proofs.Ytdfidijlconhnaa
open Go.RowKit Asn

section
variable {α : Type} {P : Program} {E w : World} {gf : Nat} {lb : Array Value} {encs : α → Array Value} {Mb : List α → α → Asn} {M Mx : List α → Asn} {S Sp : List α → Prop} {Nx : List α → α → Prop}
def SeqSM (E : World) (P : Program) (gf : Nat) (lb : Array Value) (encs : α → Array Value) (Mb : List α → α → Asn) (M Mx : List α → Asn) (S Sp : List α → Prop) (Nx : List α → α → Prop) : Prop :=
  ∀ (l : Nat) (J Jx : List α → Asn) (W : World),
    (∀ pre x W1, Nx pre x → Sat E W1 (Mb pre x * J pre) → YieldAt Fence.wide 0 P l (encs x) W1 fun e W' =>
      (e = .returned (.bool true) ∧ Sat E W' (M (pre ++ [x]) * J (pre ++ [x]))) ∨ (e = .returned (.bool false) ∧ Sat E W' (Mx (pre ++ [x]) * Jx (pre ++ [x])))) →
    Sat E W (M [] * J []) →
    Calls P gf (#[.func (.yield l) #[] #[]] ++ lb) W fun e W' => (∃ v, e = .returned v) ∧ ((∃ xs, S xs ∧ Sat E W' (M xs * J xs)) ∨ (∃ pre, Sp pre ∧ Sat E W' (Mx pre * Jx pre)))
/-- **THE STATEMENT, in no other loop over a function.** -/
theorem wpIn_rangeFunc_sm {g : Operand} {ps : Array Tmp} {assign body : Code} {Q : Exit → Act → World → Prop} {a : Act} {R : Asn}
    (hseq : SeqSM E P gf lb encs Mb M Mx S Sp Nx) (hg : a.eval g = .func (.func gf) #[] lb) (eg : ∀ args w, (callFunc gf args).run P w = .ok (.enter gf args) w) (hps : ∀ x, (encs x).size = ps.size)
    (J : List α → Asn) (Jx : Code → List α → Asn) (h0 : Sat E w (M [] * (J [] * R)))
    (hround : ∀ (l : Nat) (pre : List α) (x : α), Nx pre x → RoundSL E P a ps assign body l (encs x) (Mb pre x * J pre) (M (pre ++ [x]) * J (pre ++ [x])) (fun c => Mx (pre ++ [x]) * Jx c (pre ++ [x])))
    (hdone : ∀ (D : Nat) (xs : List α) (W : World), S xs → Sat E W (M xs * (J xs * (Asn.obj D (.deferred (some [])) * R))) → Q .normal { a with defers := { target := .collected D, args := #[] } :: a.defers } W)
    (hstop : ∀ (D : Nat) (c : Code) (pre : List α) (W : World), Sp pre → Sat E W (Mx pre * (Jx c pre * (Asn.obj D (.deferred (some [])) * R))) → c.wpIn Fence.wide 0 P Q { a with defers := { target := .collected D, args := #[] } :: a.defers } W) :
    (Code.rangeFunc g ps assign body).wpIn Fence.wide 0 P Q a w := by
  refine wpIn_rangeFunc ?_
  intro fn hfn
  have h1 := (h0.allocO (.deferred (some []))).allocO (.loop { state := .ready, pending := none, fn := fn, tmps := a.tmps, params := ps, assign := assign, body := body, defers := w.heap.size })
  rw [World.size_alloc] at h1
  have henter := run_enterLoop_outer (P := P) (w := w) fn a.tmps ps assign body
  obtain ⟨W1, hW1⟩ : ∃ W1, W1 = (w.alloc (.deferred (some []))).alloc (.loop { state := .ready, pending := none, fn := fn, tmps := a.tmps, params := ps, assign := assign, body := body, defers := w.heap.size }) := ⟨_, rfl⟩
  rw [← hW1] at h1 henter
  refine ⟨w.heap.size + 1, [{ target := .collected w.heap.size, args := #[] }], W1, { target := .fn (.func gf) lb, args := #[.func (.yield (w.heap.size + 1)) #[] #[]] }, W1, gf,
    #[.func (.yield (w.heap.size + 1)) #[] #[]] ++ lb, W1, henter, ?_, (fun _ _ => trivial), ?_, (fun h => by simp [Fence.wide] at h), ?_⟩
  · simp only [resolve, hg]
    simp [go_sem]
  · simp [invoke, go_sem, eg]
  · refine callsIn_wide.2 ((hseq (w.heap.size + 1)
      (fun pre => J pre * (Asn.obj (w.heap.size + 1) (.loop { state := .ready, pending := none, fn := fn, tmps := a.tmps, params := ps, assign := assign, body := body, defers := w.heap.size }) * (Asn.obj w.heap.size (.deferred (some [])) * R)))
      (fun pre => Asn.ex fun c => Jx c pre * (Asn.obj (w.heap.size + 1) (.loop { state := .done, pending := some c, fn := fn, tmps := a.tmps, params := ps, assign := assign, body := body, defers := w.heap.size }) * (Asn.obj w.heap.size (.deferred (some [])) * R)))
      _ ?_ (h1.perm (by ac_rfl))).mono ?_)
    · intro pre x W hx hs
      refine (yield_of_round (hround _ pre x hx) (hps x) (fn := fn) (D := w.heap.size) (R := Asn.obj w.heap.size (.deferred (some [])) * R) (hs.perm (by ac_rfl))).mono ?_
      rintro e W' (⟨rfl, h⟩ | ⟨rfl, c, h⟩)
      · exact .inl ⟨rfl, h.perm (by ac_rfl)⟩
      · refine .inr ⟨rfl, Sat.comm (Sat.mkEx c ?_)⟩
        exact h.perm (by ac_rfl)
    · rintro e W2 ⟨⟨v, rfl⟩, (⟨xs, hS, hs⟩ | ⟨pre, hSp, hs⟩)⟩
      · have hs' : Sat E W2 (Asn.obj (w.heap.size + 1) (.loop { state := .ready, pending := none, fn := fn, tmps := a.tmps, params := ps, assign := assign, body := body, defers := w.heap.size }) * (M xs * (J xs * (Asn.obj w.heap.size (.deferred (some [])) * R)))) := hs.perm (by ac_rfl)
        exact ⟨none, _, run_endLoop hs'.obj (by simp), hdone _ xs _ hS (sat_putObj hs').right⟩
      · obtain ⟨c, hs⟩ := hs.comm.ex
        have hs' : Sat E W2 (Asn.obj (w.heap.size + 1) (.loop { state := .done, pending := some c, fn := fn, tmps := a.tmps, params := ps, assign := assign, body := body, defers := w.heap.size }) * (Mx pre * (Jx c pre * (Asn.obj w.heap.size (.deferred (some [])) * R)))) := hs.perm (by ac_rfl)
        exact ⟨some c, _, run_endLoop hs'.obj (by simp), hstop _ c pre _ hSp (sat_putObj hs').right⟩
end
end Go.Proofs.Ytdfidijlconhnaa
