/- A range over a function, over what is owned: the statement, the iterator's contract, a round's end, the return. Nothing of the program is named here. -/
import Derived.Test.YtdfidijlconhnaaSlOps
import Derived.RangeFuncNested
import Derived.RangeFuncBound
import Derived.RangeFuncCalls
import Derived.RangeFuncLeaves
import Derived.Shelf.Abstract
import Derived.Shelf.RegionOpen
import Derived.WalkKit
import Derived.OwnWalkIn
import Derived.TacticsInMore
import Derived.LoopNIn
import Derived.LoopIn
namespace Go.Proofs.Ytdfidijlconhnaa
open Go.RowKit Asn

@[simp, go_sem] theorem wide_fn (f : FuncId) : Fence.wide.fn f = True := rfl
@[simp, go_sem] theorem wide_depth : Fence.wide.depth = none := rfl
@[simp, go_sem] theorem wide_round (l : Nat) : (Fence.wide.inRound l).fn = Fence.wide.fn := rfl
@[simp, go_sem] theorem wide_round_depth (l : Nat) : (Fence.wide.inRound l).depth = none := rfl

section
variable {α : Type} {P : Program} {E w : World} {gf : Nat} {lb : Array Value} {encs : α → Array Value} {M : List α → Asn} {S Sp : List α → Prop} {Nx : List α → α → Prop}

/-- AN ITERATOR's CONTRACT: whatever the caller owns between two rounds (J), and where a round has said 'no more' (Jx). M: what the iterator reads; Nx: what may come next; S: all have come; Sp: a part has come, and the round was the last one. -/
def SeqSL (E : World) (P : Program) (gf : Nat) (lb : Array Value) (encs : α → Array Value) (M : List α → Asn) (S Sp : List α → Prop) (Nx : List α → α → Prop) : Prop :=
  ∀ (l : Nat) (J Jx : List α → Asn) (W : World),
    (∀ pre x W1, Nx pre x → Sat E W1 (M pre * J pre) → YieldAt Fence.wide 0 P l (encs x) W1 fun e W' =>
      (e = .returned (.bool true) ∧ Sat E W' (M (pre ++ [x]) * J (pre ++ [x]))) ∨ (e = .returned (.bool false) ∧ Sat E W' (M (pre ++ [x]) * Jx (pre ++ [x])))) →
    Sat E W (M [] * J []) →
    Calls P gf (#[.func (.yield l) #[] #[]] ++ lb) W fun e W' => (∃ v, e = .returned v) ∧ ((∃ xs, S xs ∧ Sat E W' (M xs * J xs)) ∨ (∃ pre, Sp pre ∧ Sat E W' (M pre * Jx pre)))

/-- How the body of a round may be left. -/
def roundSL (E : World) (A : Asn) (Ax : Code → Asn) (T : Asn) : Exit → Act → World → Prop
  | .normal, _, W => Sat E W (A * T)
  | .ret, _, W => Sat E W (Ax .ret * T)
  | .exit id, _, W => Sat E W (Ax (.exit id) * T)
  | .goto t, _, W => Sat E W (Ax (.goto t) * T)
  | .panic _, _, _ => False
  | .outgrown, _, _ => False

/-- One round: the assignment, walked; the body, walked. -/
def RoundSL (E : World) (P : Program) (a : Act) (ps : Array Tmp) (assign body : Code) (l : Nat) (args : Array Value) (A B : Asn) (Bx : Code → Asn) : Prop :=
  ∀ (T : Asn) (W : World), Sat E W (A * T) →
    assign.wpIn (Fence.wide.inRound l) 0 P (Exit.then (fun a₁ W1 => ∃ F', Sat E W1 (F' * T) ∧
      ∀ (W2 : World) (T3 : Asn) (rec : Loop), Sat E W2 (F' * (Asn.obj l (.loop rec) * T3)) → body.wpIn (Fence.wide.inRound l) 0 P (roundSL E B Bx (Asn.obj l (.loop rec) * T3)) a₁ W2) (fun _ _ _ => False))
      { tmps := (ps.zip args).foldl (fun t (p, v) => t.setIfInBounds p v) a.tmps, defers := [] } W

theorem sat_putObj {l : Nat} {o o' : Obj} {F : Asn} (h : Sat E w (Asn.obj l o * F)) : Sat E (w.putObj l o') (Asn.obj l o' * F) :=
  h.turn rfl rfl rfl (World.putObj_heap_same (Array.getElem?_eq_some_iff.1 h.obj).1) fun k u hu hk => by rw [World.putObj_heap_other hk]; exact hu

/-- What yield does, the loop's record lying there: a round. -/
theorem yield_of_round {a : Act} {ps : Array Tmp} {assign body : Code} {l fn D : Nat} {args : Array Value} {A B R : Asn} {Bx : Code → Asn} {W : World}
    (h : RoundSL E P a ps assign body l args A B Bx) (hps : args.size = ps.size)
    (hs : Sat E W (A * (Asn.obj l (.loop { state := .ready, pending := none, fn := fn, tmps := a.tmps, params := ps, assign := assign, body := body, defers := D }) * R))) :
    YieldAt Fence.wide 0 P l args W fun e W' =>
      (e = .returned (.bool true) ∧ Sat E W' (B * (Asn.obj l (.loop { state := .ready, pending := none, fn := fn, tmps := a.tmps, params := ps, assign := assign, body := body, defers := D }) * R))) ∨
      (e = .returned (.bool false) ∧ ∃ c, Sat E W' (Bx c * (Asn.obj l (.loop { state := .done, pending := some c, fn := fn, tmps := a.tmps, params := ps, assign := assign, body := body, defers := D }) * R))) := by
  have hl := hs.f2.obj
  refine ⟨fn, _, assign, body, run_yield hl hps, roundIn_of_wpIn trivial (wpIn_mono (h _ W hs) ?_)⟩
  rintro e a1 W1 hp
  cases e with
  | normal =>
    obtain ⟨F', hs1, hb⟩ := hp
    have hl1 := hs1.f2.obj
    refine ⟨_, run_beginRound hl1 rfl, wpIn_mono (hb _ R _ (sat_putObj hs1.f2).f2) ?_⟩
    rintro e2 a2 W2 hp2
    have fin : ∀ (jump : Option Code) (X : Asn), Sat E W2 (X * (Asn.obj l (.loop { state := .busy, pending := none, fn := fn, tmps := a.tmps, params := ps, assign := assign, body := body, defers := D }) * R)) →
        ∃ v w', (Instr.endRound l jump).run P W2 = .ok v w' ∧ v = .bool jump.isNone ∧ Sat E w' (X * (Asn.obj l (.loop { state := if jump.isNone then .ready else .done, pending := jump, fn := fn, tmps := a.tmps, params := ps, assign := assign, body := body, defers := D }) * R)) := fun jump X h => by
      have := run_endRound (P := P) jump h.f2.obj
      exact ⟨_, _, this, rfl, (sat_putObj h.f2).f2⟩
    cases e2 with
    | normal =>
      obtain ⟨v, w', h1, rfl, h2⟩ := fin none _ hp2
      exact ⟨_, w', h1, .inl ⟨rfl, h2⟩⟩
    | ret =>
      obtain ⟨v, w', h1, rfl, h2⟩ := fin (some .ret) _ hp2
      exact ⟨_, w', h1, .inr ⟨rfl, _, h2⟩⟩
    | exit id =>
      obtain ⟨v, w', h1, rfl, h2⟩ := fin (some (.exit id)) _ hp2
      exact ⟨_, w', h1, .inr ⟨rfl, _, h2⟩⟩
    | goto t =>
      obtain ⟨v, w', h1, rfl, h2⟩ := fin (some (.goto t)) _ hp2
      exact ⟨_, w', h1, .inr ⟨rfl, _, h2⟩⟩
    | panic c => exact hp2.elim
    | outgrown => exact hp2.elim
  | ret => exact hp.elim
  | exit id => exact hp.elim
  | goto t => exact hp.elim
  | panic c => exact hp.elim
  | outgrown => exact hp.elim

/-- **THE STATEMENT, in no other loop over a function.** -/
theorem wpIn_rangeFunc_sl {g : Operand} {ps : Array Tmp} {assign body : Code} {Q : Exit → Act → World → Prop} {a : Act} {R : Asn}
    (hseq : SeqSL E P gf lb encs M S Sp Nx) (hg : a.eval g = .func (.func gf) #[] lb) (eg : ∀ args w, (callFunc gf args).run P w = .ok (.enter gf args) w) (hps : ∀ x, (encs x).size = ps.size)
    (J : List α → Asn) (Jx : Code → List α → Asn) (h0 : Sat E w (M [] * (J [] * R)))
    (hround : ∀ (l : Nat) (pre : List α) (x : α), Nx pre x → RoundSL E P a ps assign body l (encs x) (M pre * J pre) (M (pre ++ [x]) * J (pre ++ [x])) (fun c => M (pre ++ [x]) * Jx c (pre ++ [x])))
    (hdone : ∀ (D : Nat) (xs : List α) (W : World), S xs → Sat E W (M xs * (J xs * (Asn.obj D (.deferred (some [])) * R))) → Q .normal { a with defers := { target := .collected D, args := #[] } :: a.defers } W)
    (hstop : ∀ (D : Nat) (c : Code) (pre : List α) (W : World), Sp pre → Sat E W (M pre * (Jx c pre * (Asn.obj D (.deferred (some [])) * R))) → c.wpIn Fence.wide 0 P Q { a with defers := { target := .collected D, args := #[] } :: a.defers } W) :
    (Code.rangeFunc g ps assign body).wpIn Fence.wide 0 P Q a w := by
  refine wpIn_rangeFunc ?_
  intro fn hfn
  have h1 := (h0.allocO (.deferred (some []))).allocO (.loop { state := .ready, pending := none, fn := fn, tmps := a.tmps, params := ps, assign := assign, body := body, defers := w.heap.size })
  rw [World.size_alloc] at h1
  have henter := run_enterLoop_outer (P := P) (w := w) fn a.tmps ps assign body
  obtain ⟨W1, hW1⟩ : ∃ W1, W1 = (w.alloc (.deferred (some []))).alloc (.loop { state := .ready, pending := none, fn := fn, tmps := a.tmps, params := ps, assign := assign, body := body, defers := w.heap.size }) := ⟨_, rfl⟩
  rw [← hW1] at h1 henter
  refine ⟨w.heap.size + 1, [{ target := .collected w.heap.size, args := #[] }], W1, { target := .fn (.func gf) lb, args := #[.func (.yield (w.heap.size + 1)) #[] #[]] }, W1, gf,
    #[.func (.yield (w.heap.size + 1)) #[] #[]] ++ lb, W1, henter, ?_, (fun _ _ => trivial), ?_, (fun h => by simp [Fence.wide] at h), ?_⟩
  · simp only [resolve, hg]
    simp [go_sem]
  · simp [invoke, go_sem, eg]
  · refine callsIn_wide.2 ((hseq (w.heap.size + 1)
      (fun pre => J pre * (Asn.obj (w.heap.size + 1) (.loop { state := .ready, pending := none, fn := fn, tmps := a.tmps, params := ps, assign := assign, body := body, defers := w.heap.size }) * (Asn.obj w.heap.size (.deferred (some [])) * R)))
      (fun pre => Asn.ex fun c => Jx c pre * (Asn.obj (w.heap.size + 1) (.loop { state := .done, pending := some c, fn := fn, tmps := a.tmps, params := ps, assign := assign, body := body, defers := w.heap.size }) * (Asn.obj w.heap.size (.deferred (some [])) * R)))
      _ ?_ (h1.perm (by ac_rfl))).mono ?_)
    · intro pre x W hx hs
      refine (yield_of_round (hround _ pre x hx) (hps x) (fn := fn) (D := w.heap.size) (R := Asn.obj w.heap.size (.deferred (some [])) * R) (hs.perm (by ac_rfl))).mono ?_
      rintro e W' (⟨rfl, h⟩ | ⟨rfl, c, h⟩)
      · exact .inl ⟨rfl, h.perm (by ac_rfl)⟩
      · refine .inr ⟨rfl, Sat.comm (Sat.mkEx c ?_)⟩
        exact h.perm (by ac_rfl)
    · rintro e W2 ⟨⟨v, rfl⟩, (⟨xs, hS, hs⟩ | ⟨pre, hSp, hs⟩)⟩
      · have hs' : Sat E W2 (Asn.obj (w.heap.size + 1) (.loop { state := .ready, pending := none, fn := fn, tmps := a.tmps, params := ps, assign := assign, body := body, defers := w.heap.size }) * (M xs * (J xs * (Asn.obj w.heap.size (.deferred (some [])) * R)))) := hs.perm (by ac_rfl)
        exact ⟨none, _, run_endLoop hs'.obj (by simp), hdone _ xs _ hS (sat_putObj hs').right⟩
      · obtain ⟨c, hs⟩ := hs.comm.ex
        have hs' : Sat E W2 (Asn.obj (w.heap.size + 1) (.loop { state := .done, pending := some c, fn := fn, tmps := a.tmps, params := ps, assign := assign, body := body, defers := w.heap.size }) * (M pre * (Jx c pre * (Asn.obj w.heap.size (.deferred (some [])) * R)))) := hs.perm (by ac_rfl)
        exact ⟨some c, _, run_endLoop hs'.obj (by simp), hstop _ c pre _ hSp (sat_putObj hs').right⟩
end
end Go.Proofs.Ytdfidijlconhnaa
