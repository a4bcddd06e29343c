/- Words of separation over the machine's memory: a partial heap, what is owned, what a world satisfies. Nothing of the program is named here. -/
import Derived.WalkKit
import Derived.Deep.Draws
import Derived.Laws.Rows
namespace Go.Proofs.Ytdfidijlconhnaa
open Go.RowKit

/-- A part of the heap. -/
abbrev Hp := Nat → Option Obj
def Hp.dj (a b : Hp) : Prop := ∀ k, a k = none ∨ b k = none
def Hp.un (a b : Hp) : Hp := fun k => (a k).or (b k)
def Hp.nil : Hp := fun _ => none
def Hp.one (g : Nat) (o : Obj) : Hp := fun k => if k = g then some o else none

/-- What may be said of a part of the heap. -/
def Asn := Hp → Prop
namespace Asn
def sep (A B : Asn) : Asn := fun h => ∃ a b, Hp.dj a b ∧ h = Hp.un a b ∧ A a ∧ B b
def emp : Asn := fun h => h = Hp.nil
instance : Mul Asn := ⟨sep⟩
instance : One Asn := ⟨emp⟩

theorem dj_comm {a b : Hp} (h : Hp.dj a b) : Hp.dj b a := fun k => (h k).symm
theorem un_comm {a b : Hp} (h : Hp.dj a b) : Hp.un a b = Hp.un b a := by
  funext k
  unfold Hp.un
  rcases h k with h | h
  · rw [h]; cases b k <;> rfl
  · rw [h]; cases a k <;> rfl
theorem sep_comm (A B : Asn) : A * B = B * A := by
  funext h
  apply propext
  constructor
  · rintro ⟨a, b, hd, rfl, ha, hb⟩
    exact ⟨b, a, dj_comm hd, un_comm hd, hb, ha⟩
  · rintro ⟨a, b, hd, rfl, ha, hb⟩
    exact ⟨b, a, dj_comm hd, un_comm hd, hb, ha⟩
theorem sep_assoc (A B C : Asn) : A * B * C = A * (B * C) := by
  funext h
  apply propext
  constructor
  · rintro ⟨ab, c, hd, rfl, ⟨a, b, hd2, rfl, ha, hb⟩, hc⟩
    refine ⟨a, Hp.un b c, ?_, ?_, ha, b, c, ?_, rfl, hb, hc⟩
    · intro k
      have h1 := hd k; have h2 := hd2 k
      unfold Hp.un at *
      cases hak : a k with
      | none => exact .inl rfl
      | some x =>
        rw [hak] at h1 h2
        simp at h1 h2
        rw [h2, h1]; exact .inr rfl
    · funext k; unfold Hp.un; cases a k <;> rfl
    · intro k
      have h1 := hd k; have h2 := hd2 k
      unfold Hp.un at h1
      cases hbk : b k with
      | none => exact .inl rfl
      | some x =>
        rw [hbk] at h1 h2
        rcases h1 with h1 | h1
        · cases ha' : a k <;> rw [ha'] at h1 <;> simp at h1
        · exact .inr h1
  · rintro ⟨a, bc, hd, rfl, ha, b, c, hd2, rfl, hb, hc⟩
    refine ⟨Hp.un a b, c, ?_, ?_, ⟨a, b, ?_, rfl, ha, hb⟩, hc⟩
    · intro k
      have h1 := hd k; have h2 := hd2 k
      unfold Hp.un at *
      cases hck : c k with
      | none => exact .inr rfl
      | some x =>
        rw [hck] at h1 h2
        simp at h2
        rw [h2] at h1 ⊢
        simp at h1
        rw [h1]; exact .inl rfl
    · funext k; unfold Hp.un; cases a k <;> rfl
    · intro k
      have h1 := hd k
      unfold Hp.un at h1
      rcases h1 with h1 | h1
      · exact .inl h1
      · refine .inr ?_
        cases hbk : b k with
        | none => rfl
        | some x => rw [hbk] at h1; simp at h1
theorem one_sep (A : Asn) : 1 * A = A := by
  funext h
  apply propext
  constructor
  · rintro ⟨a, b, _, rfl, ha, hb⟩
    have ha : a = Hp.nil := ha
    subst ha
    have : Hp.un Hp.nil b = b := by funext k; rfl
    rw [this]; exact hb
  · intro hA
    exact ⟨Hp.nil, h, fun _ => .inl rfl, by funext k; rfl, rfl, hA⟩
theorem sep_one (A : Asn) : A * 1 = A := by rw [sep_comm, one_sep]
theorem sep_left_comm (A B C : Asn) : A * (B * C) = B * (A * C) := by rw [← sep_assoc, sep_comm A B, sep_assoc]
instance : Std.Associative (α := Asn) (fun a b => a * b) := ⟨sep_assoc⟩
instance : Std.Commutative (α := Asn) (fun a b => a * b) := ⟨sep_comm⟩

/-- One block. -/
def obj (g : Nat) (o : Obj) : Asn := fun h => h = Hp.one g o
/-- One block of cells, none of them frozen. -/
def blk (g : Nat) (t : TypeId) (cs : Array Value) : Asn := obj g (.cells cs t (0, 0))
/-- A fact. -/
def fact (p : Prop) : Asn := fun h => h = Hp.nil ∧ p
/-- Something of which it is so. -/
def ex {α : Type} (A : α → Asn) : Asn := fun h => ∃ x, A x h
/-- All of a list's, apart. -/
def all : List Asn → Asn
  | [] => 1
  | A :: l => A * all l
/-- All that lies in a world, as it lies. -/
def exact (w : World) : Asn := fun h => h = fun k => w.heap[k]?
theorem all_append (l m : List Asn) : all (l ++ m) = all l * all m := by
  induction l with
  | nil => simp only [List.nil_append, all, one_sep]
  | cons a l ih => simp only [List.cons_append, all, ih, sep_assoc]
end Asn
open Asn

/-- A world of E's streams and tape, in which A lies (and whatever else). -/
def Sat (E w : World) (A : Asn) : Prop := w.os = E.os ∧ w.tape = E.tape ∧ w.output = E.output ∧ ∃ h : Hp, (∀ k o, h k = some o → w.heap[k]? = some o) ∧ A h

section
variable {E w w' : World} {A B F : Asn} {g : Nat} {t : TypeId} {cs : Array Value}
theorem Sat.perm (h : Sat E w A) (e : A = B) : Sat E w B := e ▸ h
theorem Sat.mono (h : Sat E w A) (e : ∀ x, A x → B x) : Sat E w B := ⟨h.1, h.2.1, h.2.2.1, h.2.2.2.imp fun x hx => ⟨hx.1, e x hx.2⟩⟩
theorem sep_mono {A' B' : Asn} (h : ∀ x, A x → A' x) (h' : ∀ x, B x → B' x) : ∀ x, (A * B) x → (A' * B') x := by
  rintro x ⟨a, b, hd, rfl, ha, hb⟩
  exact ⟨a, b, hd, rfl, h a ha, h' b hb⟩
theorem Sat.left (h : Sat E w (A * B)) : Sat E w A := by
  obtain ⟨h1, h2, h3, x, hx, a, b, hd, rfl, ha, hb⟩ := h
  exact ⟨h1, h2, h3, a, fun k o hk => hx k o (by unfold Hp.un; rw [hk]; rfl), ha⟩
theorem Sat.comm (h : Sat E w (A * B)) : Sat E w (B * A) := h.perm (sep_comm A B)
theorem Sat.right (h : Sat E w (A * B)) : Sat E w B := h.comm.left
theorem Sat.monoL {A' : Asn} (h : Sat E w (A * B)) (e : ∀ x, A x → A' x) : Sat E w (A' * B) := h.mono (sep_mono e fun _ h => h)
theorem Sat.asc {C : Asn} (h : Sat E w (A * B * C)) : Sat E w (A * (B * C)) := h.perm (sep_assoc A B C)
theorem Sat.csa {C : Asn} (h : Sat E w (A * (B * C))) : Sat E w (A * B * C) := h.perm (sep_assoc A B C).symm
/-- The k-th to the front. -/
theorem Sat.f2 {X1 X2 R : Asn} (h : Sat E w (X1 * (X2 * R))) : Sat E w (X2 * (X1 * R)) := h.perm (sep_left_comm _ _ _)
theorem Sat.f3 {X1 X2 X3 R : Asn} (h : Sat E w (X1 * (X2 * (X3 * R)))) : Sat E w (X3 * (X1 * (X2 * R))) := h.perm (by ac_rfl)
theorem Sat.f4 {X1 X2 X3 X4 R : Asn} (h : Sat E w (X1 * (X2 * (X3 * (X4 * R))))) : Sat E w (X4 * (X1 * (X2 * (X3 * R)))) := h.perm (by ac_rfl)
theorem Sat.f5 {X1 X2 X3 X4 X5 R : Asn} (h : Sat E w (X1 * (X2 * (X3 * (X4 * (X5 * R)))))) : Sat E w (X5 * (X1 * (X2 * (X3 * (X4 * R))))) := h.perm (by ac_rfl)
theorem Sat.f6 {X1 X2 X3 X4 X5 X6 R : Asn} (h : Sat E w (X1 * (X2 * (X3 * (X4 * (X5 * (X6 * R))))))) : Sat E w (X6 * (X1 * (X2 * (X3 * (X4 * (X5 * R)))))) := h.perm (by ac_rfl)
/-- The first to the k-th place. -/
theorem Sat.b3 {X1 X2 X3 R : Asn} (h : Sat E w (X3 * (X1 * (X2 * R)))) : Sat E w (X1 * (X2 * (X3 * R))) := h.perm (by ac_rfl)
theorem Sat.b4 {X1 X2 X3 X4 R : Asn} (h : Sat E w (X4 * (X1 * (X2 * (X3 * R))))) : Sat E w (X1 * (X2 * (X3 * (X4 * R)))) := h.perm (by ac_rfl)
theorem Sat.b5 {X1 X2 X3 X4 X5 R : Asn} (h : Sat E w (X5 * (X1 * (X2 * (X3 * (X4 * R)))))) : Sat E w (X1 * (X2 * (X3 * (X4 * (X5 * R))))) := h.perm (by ac_rfl)
/-- The last to the front. -/
theorem Sat.l2 {X1 X2 : Asn} (h : Sat E w (X1 * X2)) : Sat E w (X2 * X1) := h.perm (sep_comm _ _)
theorem Sat.l3 {X1 X2 X3 : Asn} (h : Sat E w (X1 * (X2 * X3))) : Sat E w (X3 * (X1 * X2)) := h.perm (by ac_rfl)
theorem Sat.l4 {X1 X2 X3 X4 : Asn} (h : Sat E w (X1 * (X2 * (X3 * X4)))) : Sat E w (X4 * (X1 * (X2 * X3))) := h.perm (by ac_rfl)
theorem Sat.ex {α : Type} {A : α → Asn} (h : Sat E w (Asn.ex A * F)) : ∃ x, Sat E w (A x * F) := by
  obtain ⟨h1, h2, h3, x, hx, a, b, hd, rfl, ⟨y, ha⟩, hb⟩ := h
  exact ⟨y, h1, h2, h3, _, hx, a, b, hd, rfl, ha, hb⟩
theorem Sat.mkEx {α : Type} {A : α → Asn} (y : α) (h : Sat E w (A y * F)) : Sat E w (Asn.ex A * F) := h.monoL fun _ h => ⟨y, h⟩
theorem Sat.fact {p : Prop} (h : Sat E w (Asn.fact p * F)) : p ∧ Sat E w F := by
  obtain ⟨h1, h2, h3, x, hx, a, b, hd, rfl, ⟨_, hp⟩, hb⟩ := id h
  exact ⟨hp, h.right⟩
theorem fact_one {p : Prop} (hp : p) : Asn.fact p = 1 := by
  funext h
  apply propext
  exact ⟨fun h => h.1, fun h => ⟨h, hp⟩⟩
theorem Sat.mkFact {p : Prop} (hp : p) (h : Sat E w F) : Sat E w (Asn.fact p * F) := h.perm (by rw [fact_one hp, one_sep])
theorem Sat.obj {o : Obj} (h : Sat E w (Asn.obj g o * F)) : w.heap[g]? = some o := by
  obtain ⟨h1, h2, h3, x, hx, a, b, hd, rfl, ha, hb⟩ := h
  have ha : a = Hp.one g o := ha
  subst ha
  exact hx g o (by unfold Hp.un Hp.one; simp)
theorem Sat.blk (h : Sat E w (blk g t cs * F)) : w.heap[g]? = some (.cells cs t (0, 0)) := Sat.obj h
theorem Sat.cell (h : Sat E w (Asn.blk g t cs * F)) (i : Nat) : w.cell? ⟨g, i, none⟩ = cs[i]? := cell_of_row w g i cs t (0, 0) h.blk
theorem Sat.frozen (h : Sat E w (Asn.blk g t cs * F)) (i : Nat) : w.frozen? ⟨g, i, none⟩ = false := frozen_of_row w g i cs t h.blk
theorem Sat.lt {o : Obj} (h : Sat E w (Asn.obj g o * F)) : g < w.heap.size := (Array.getElem?_eq_some_iff.1 h.obj).1
theorem Sat.drew (h : Sat E w A) : Sat E w.drew A := h
theorem Sat.drewN (h : Sat E w A) (n : Nat) : Sat E (w.drewN n) A := h
/-- A step that turns block g alone, and makes new ones. -/
theorem Sat.turn {o o' : Obj} (h : Sat E w (Asn.obj g o * F)) (hos : w'.os = w.os) (ht : w'.tape = w.tape) (hou : w'.output = w.output) (hg : w'.heap[g]? = some o') (hk : ∀ (k : Nat) (o : Obj), w.heap[k]? = some o → k ≠ g → w'.heap[k]? = some o) :
    Sat E w' (Asn.obj g o' * F) := by
  obtain ⟨h1, h2, h3, x, hx, a, b, hd, rfl, ha, hb⟩ := h
  have ha : a = Hp.one g o := ha
  subst ha
  have hbg : b g = none := by
    rcases hd g with h | h
    · simp [Hp.one] at h
    · exact h
  refine ⟨hos.trans h1, ht.trans h2, hou.trans h3, _, ?_, Hp.one g o', b, ?_, rfl, rfl, hb⟩
  · intro k u hu
    by_cases hkg : k = g
    · subst hkg
      have : u = o' := by simpa [Hp.un, Hp.one] using hu.symm
      rw [this]; exact hg
    · have hbk : b k = some u := by simpa [Hp.un, Hp.one, hkg] using hu
      exact hk k u (hx k u (by simp [Hp.un, Hp.one, hkg, hbk])) hkg
  · intro k
    by_cases hkg : k = g
    · subst hkg; exact .inr hbg
    · exact .inl (by simp [Hp.one, hkg])
/-- A step that only makes new blocks: one of them. -/
theorem Sat.make {o : Obj} (h : Sat E w F) (hos : w'.os = w.os) (ht : w'.tape = w.tape) (hou : w'.output = w.output) (hg : w'.heap[g]? = some o) (hge : w.heap.size ≤ g) (hk : ∀ (k : Nat) (o : Obj), w.heap[k]? = some o → w'.heap[k]? = some o) :
    Sat E w' (Asn.obj g o * F) := by
  obtain ⟨h1, h2, h3, x, hx, hF⟩ := h
  have hxg : x g = none := by
    cases hxg : x g with
    | none => rfl
    | some u =>
      have := hx g u hxg
      rw [Array.getElem?_eq_none hge] at this
      cases this
  refine ⟨hos.trans h1, ht.trans h2, hou.trans h3, _, ?_, Hp.one g o, x, ?_, rfl, rfl, hF⟩
  · intro k u hu
    by_cases hkg : k = g
    · subst hkg
      have : u = o := by simpa [Hp.un, Hp.one] using hu.symm
      rw [this]; exact hg
    · exact hk k u (hx k u (by simpa [Hp.un, Hp.one, hkg] using hu))
  · intro k
    by_cases hkg : k = g
    · subst hkg; exact .inr hxg
    · exact .inl (by simp [Hp.one, hkg])
theorem Sat.keep (h : Sat E w F) (hos : w'.os = w.os) (ht : w'.tape = w.tape) (hou : w'.output = w.output) (hk : ∀ (k : Nat) (o : Obj), w.heap[k]? = some o → w'.heap[k]? = some o) : Sat E w' F := by
  obtain ⟨h1, h2, h3, x, hx, hF⟩ := h
  exact ⟨hos.trans h1, ht.trans h2, hou.trans h3, x, fun k u hu => hk k u (hx k u hu), hF⟩
theorem heap_alloc_keeps (w : World) (o : Obj) : ∀ (k : Nat) (u : Obj), w.heap[k]? = some u → (w.alloc o).heap[k]? = some u := fun k u hu => by
  rw [Below.heap_alloc w o k (Array.getElem?_eq_some_iff.1 hu).1]; exact hu
theorem Sat.allocO (h : Sat E w F) (o : Obj) : Sat E (w.alloc o) (Asn.obj w.heap.size o * F) :=
  h.make rfl rfl rfl (heap_alloc_new w o) (Nat.le_refl _) (heap_alloc_keeps w o)
theorem Sat.alloc (h : Sat E w F) (cs : Array Value) (t : TypeId) : Sat E (w.alloc (.cells cs t)) (Asn.blk w.heap.size t cs * F) := h.allocO _
theorem Sat.allocKeep (h : Sat E w F) (o : Obj) : Sat E (w.alloc o) F := (h.allocO o).right
theorem Sat.set (h : Sat E w (Asn.blk g t cs * F)) (i : Nat) (v : Value) : Sat E (w.setCell ⟨g, i, none⟩ v) (Asn.blk g t (cs.setIfInBounds i v) * F) :=
  h.turn rfl rfl rfl (heap_setCell_same w g i cs t v h.blk) fun k u hu hk => by rw [heap_setCell_other w ⟨g, i, none⟩ k v hk]; exact hu
theorem Sat.row (h : Sat E w (Asn.blk g t cs * F)) (cs' : Array Value) : Sat E (w.setRow g cs') (Asn.blk g t cs' * F) :=
  h.turn rfl rfl rfl (Go.setRow_heap w g cs cs' t (0, 0) h.blk) fun k u hu hk => by
    have : (w.setRow g cs').heap[k]? = w.heap[k]? := by
      simp only [World.setRow, Array.getElem?_modify]
      rw [if_neg (fun e => hk e.symm)]
    rw [this]; exact hu
theorem Sat.start (w : World) : Sat w w (Asn.exact w) := ⟨rfl, rfl, rfl, _, fun _ _ h => h, rfl⟩
theorem Sat.below {w0 : World} (h : Sat w0 w (Asn.exact w0 * F)) : Below w0.heap.size w0 w := by
  obtain ⟨h1, h2, h3, x, hx, a, b, hd, rfl, ha, hb⟩ := h
  have ha : a = fun k => w0.heap[k]? := ha
  subst ha
  have hk : ∀ k, k < w0.heap.size → w.heap[k]? = w0.heap[k]? := fun k hk => by
    have hs : w0.heap[k]? = some w0.heap[k] := Array.getElem?_eq_getElem hk
    rw [hs]
    exact hx k _ (by simp [Hp.un, hs])
  refine ⟨h1, h2, h3, ?_, hk⟩
  rcases Nat.lt_or_ge w.heap.size w0.heap.size with hlt | hge
  · have := hk w.heap.size hlt
    rw [Array.getElem?_eq_none (Nat.le_refl _)] at this
    rw [Array.getElem?_eq_getElem hlt] at this
    cases this
  · exact hge
end

/-! ### Slices that are owned -/

/-- A slice's value (A, n, c) whose array is owned: elements of type e, z cells each; its elements' cells are xs. -/
def sl (e z : Nat) (A : Option Addr) (n c : Nat) (xs : List Value) : Asn :=
  Asn.fact (xs.length = n * z ∧ n ≤ c ∧ c ≤ maxLen) *
    Asn.ex fun x : Option (Nat × Nat × Array Value) => match x with
      | none => Asn.fact (A = none ∧ n = 0 ∧ c = 0)
      | some (b, off, cells) => Asn.fact (A = some ⟨b, off, none⟩ ∧ off + c * z ≤ cells.size ∧ ∀ j u, xs[j]? = some u → cells[off + j]? = some u) * Asn.blk b e cells

section
variable {E w w' : World} {A B F : Asn}
theorem Sat.slLen {e z n c : Nat} {A : Option Addr} {xs : List Value} (h : Sat E w (sl e z A n c xs * F)) : xs.length = n * z ∧ n ≤ c ∧ c ≤ maxLen := by
  unfold sl at h
  rw [sep_assoc] at h
  exact h.fact.1
theorem Sat.slOpen {e z n c : Nat} {A : Option Addr} {xs : List Value} (h : Sat E w (sl e z A n c xs * F)) :
    (A = none ∧ n = 0 ∧ c = 0 ∧ xs = [] ∧ Sat E w F) ∨
    ∃ b off cells, A = some ⟨b, off, none⟩ ∧ off + c * z ≤ cells.size ∧ (∀ j u, xs[j]? = some u → cells[off + j]? = some u) ∧ Sat E w (Asn.blk b e cells * F) := by
  have hl := h.slLen
  unfold sl at h
  rw [sep_assoc] at h
  obtain ⟨_, h⟩ := h.fact
  obtain ⟨x, h⟩ := h.ex
  match x, h with
  | none, h =>
    obtain ⟨⟨h1, h2, h3⟩, h⟩ := h.fact
    exact .inl ⟨h1, h2, h3, List.eq_nil_of_length_eq_zero (by rw [hl.1, h2]; simp), h⟩
  | some (b, off, cells), h =>
    rw [sep_assoc] at h
    obtain ⟨⟨h1, h2, h3⟩, h⟩ := h.fact
    exact .inr ⟨b, off, cells, h1, h2, h3, h⟩
theorem Sat.slNil {e z : Nat} (h : Sat E w F) : Sat E w (sl e z none 0 0 [] * F) := by
  unfold sl
  rw [sep_assoc]
  refine Sat.mkFact ⟨by simp, Nat.le_refl _, Nat.zero_le _⟩ (Sat.mkEx none ?_)
  exact Sat.mkFact ⟨rfl, rfl, rfl⟩ h
theorem Sat.slMk {e z n c b off : Nat} {cells : Array Value} {xs : List Value} (h : Sat E w (Asn.blk b e cells * F)) (hl : xs.length = n * z) (hn : n ≤ c) (hc : c ≤ maxLen) (hsz : off + c * z ≤ cells.size)
    (hx : ∀ j u, xs[j]? = some u → cells[off + j]? = some u) : Sat E w (sl e z (some ⟨b, off, none⟩) n c xs * F) := by
  unfold sl
  rw [sep_assoc]
  refine Sat.mkFact ⟨hl, hn, hc⟩ (Sat.mkEx (some (b, off, cells)) ?_)
  dsimp only
  rw [sep_assoc]
  exact Sat.mkFact ⟨rfl, hsz, hx⟩ h
end

/-- A slice's value (A, n, ..) reads as the cells xs in a part of the heap. -/
def RdH (h : Hp) (A : Option Addr) (n z : Nat) (xs : List Value) : Prop :=
  xs.length = n * z ∧ (0 < n → ∃ ad, A = some ad ∧ ∀ j u, xs[j]? = some u → ∃ cs t fr, h ad.block = some (.cells cs t fr) ∧ (ad.add j).spot = none ∧ cs[(ad.add j).off]? = some u)
/-- It does so in every part of the heap of which F is so: it may be read as long as F stays. -/
def rd (F : Asn) (z : Nat) (A : Option Addr) (n : Nat) (xs : List Value) : Prop := ∀ h, F h → RdH h A n z xs
section
variable {F G X : Asn} {z n : Nat} {A : Option Addr} {xs : List Value}
theorem rd.nil (F : Asn) (z : Nat) (A : Option Addr) : rd F z A 0 [] := fun _ _ => ⟨by simp, fun h => absurd h (by omega)⟩
theorem rd.left (h : rd F z A n xs) : rd (F * G) z A n xs := by
  rintro x ⟨a, b, hd, rfl, ha, hb⟩
  obtain ⟨h1, h2⟩ := h a ha
  refine ⟨h1, fun hn => ?_⟩
  obtain ⟨ad, hA, h3⟩ := h2 hn
  refine ⟨ad, hA, fun j u hu => ?_⟩
  obtain ⟨cs, t, fr, h4, h5⟩ := h3 j u hu
  exact ⟨cs, t, fr, by unfold Hp.un; rw [h4]; rfl, h5⟩
theorem rd.right (h : rd F z A n xs) : rd (G * F) z A n xs := by rw [sep_comm]; exact h.left
theorem RdH.take {h : Hp} {k : Nat} (hr : RdH h A n z xs) (hk : k ≤ n) : RdH h A k z (xs.take (k * z)) := by
  refine ⟨?_, fun h0 => ?_⟩
  · rw [List.length_take, hr.1]
    exact Nat.min_eq_left (Nat.mul_le_mul_right z hk)
  · obtain ⟨ad, hA, h2⟩ := hr.2 (by omega)
    refine ⟨ad, hA, fun j u hu => h2 j u ?_⟩
    rw [List.getElem?_take] at hu
    split at hu
    · exact hu
    · cases hu
theorem RdH.drop {h : Hp} {k : Nat} (hr : RdH h A n z xs) (hk : k ≤ n) : RdH h (A.map (·.add (k * z))) (n - k) z (xs.drop (k * z)) := by
  refine ⟨by rw [List.length_drop, hr.1, Nat.sub_mul], fun h0 => ?_⟩
  obtain ⟨ad, rfl, h2⟩ := hr.2 (by omega)
  refine ⟨ad.add (k * z), rfl, fun j u hu => ?_⟩
  have := h2 (k * z + j) u (by rw [← hu, List.getElem?_drop])
  have e1 : (ad.add (k * z)).block = ad.block := by unfold Addr.add; split <;> rfl
  have e2 : (ad.add (k * z)).add j = ad.add (k * z + j) := by
    unfold Addr.add
    by_cases hi : k * z = 0 <;> by_cases hj : j = 0 <;> simp [hi, hj, Nat.add_assoc]
  rw [e1, e2]
  exact this
theorem rd.take {k : Nat} (h : rd F z A n xs) (hk : k ≤ n) : rd F z A k (xs.take (k * z)) := fun x hx => (h x hx).take hk
theorem rd.drop {k : Nat} (h : rd F z A n xs) (hk : k ≤ n) : rd F z (A.map (·.add (k * z))) (n - k) (xs.drop (k * z)) := fun x hx => (h x hx).drop hk
theorem rd.perm (h : rd F z A n xs) (e : F = G) : rd G z A n xs := e ▸ h
end
end Go.Proofs.Ytdfidijlconhnaa
