/- A map from numbers to values that is owned: made, asked, put into, taken from, cleared. Nothing of the program is named here. -/
import Derived.Test.YtdfidijlconhnaaSlOps
import Derived.MapKept
import Derived.WalkKit
namespace Go.Proofs.Ytdfidijlconhnaa
open Go.RowKit Asn Go.MapKept

/-- The rows of a map from numbers: the key, what it is mapped to. -/
def MapAt (g : Nat) (L : List (Int × Value)) : Asn :=
  Asn.ex fun x : Array MapEntry × Nat => Asn.fact (x.1.toList.map (fun e => (e.key, e.val)) = L.map fun y => (Value.int .i64 y.1, y.2)) * Asn.obj g (.map x.1 x.2)
def mget (L : List (Int × Value)) (k : Int) : Option Value := (L.find? fun y => decide (y.1 = k)).map (·.2)
def mdel (L : List (Int × Value)) (k : Int) : List (Int × Value) := L.eraseP fun y => decide (y.1 = k)

theorem Sat.mapOpen {E w : World} {F : Asn} {g : Nat} {L : List (Int × Value)} (h : Sat E w (MapAt g L * F)) :
    ∃ es clock, es.toList.map (fun e => (e.key, e.val)) = L.map (fun y => (Value.int .i64 y.1, y.2)) ∧ Sat E w (Asn.obj g (.map es clock) * F) := by
  obtain ⟨⟨es, clock⟩, h⟩ := h.ex
  obtain ⟨h1, h⟩ := h.asc.fact
  exact ⟨es, clock, h1, h⟩
theorem Sat.mapMk {E w : World} {F : Asn} {g : Nat} {L : List (Int × Value)} {es : Array MapEntry} {clock : Nat} (h1 : es.toList.map (fun e => (e.key, e.val)) = L.map (fun y => (Value.int .i64 y.1, y.2))) (h : Sat E w (Asn.obj g (.map es clock) * F)) :
    Sat E w (MapAt g L * F) := Sat.mkEx (es, clock) (Sat.csa (Sat.mkFact h1 h))

theorem findNow_int (k : Int) : ∀ (l : List MapEntry) (L : List (Int × Value)) (i : Nat), l.map (fun e => (e.key, e.val)) = L.map (fun y => (Value.int .i64 y.1, y.2)) →
    Instr.findNow (.int .i64) (.int .i64 k) l i = some ((L.findIdx? fun y => decide (y.1 = k)).bind fun j => (L[j]?).map fun y => (i + j, y.2))
  | [], L, i, h => by
    have : L = [] := by simpa using h.symm
    subst this
    rfl
  | e :: es, [], i, h => by simp at h
  | e :: es, y :: L, i, h => by
    simp only [List.map_cons, List.cons.injEq, Prod.mk.injEq] at h
    obtain ⟨⟨h1, h2⟩, h3⟩ := h
    rw [Instr.findNow, h1]
    simp only [Instr.sameNow, if_true]
    by_cases hk : y.1 = k
    · have : (k == y.1) = true := by simp [hk]
      rw [this]
      simp only [List.findIdx?_cons, hk, decide_true, if_true, Option.bind_some, List.getElem?_cons_zero, Option.map_some, Nat.add_zero, h2]
    · have : (k == y.1) = false := by simp; omega
      rw [this]
      simp only [List.findIdx?_cons, hk, decide_false, Bool.false_eq_true, if_false]
      rw [findNow_int k es L (i + 1) h3]
      cases hf : L.findIdx? fun y => decide (y.1 = k) with
      | none => rfl
      | some j =>
        simp only [Option.bind_some, Option.map_some, List.getElem?_cons_succ]
        rw [show i + 1 + j = i + (j + 1) by omega]
theorem mget_idx (L : List (Int × Value)) (k : Int) : mget L k = (L.findIdx? fun y => decide (y.1 = k)).bind fun j => (L[j]?).map (·.2) := by
  unfold mget
  induction L with
  | nil => rfl
  | cons y L ih =>
    rw [List.find?_cons, List.findIdx?_cons]
    by_cases hk : y.1 = k
    · simp [hk]
    · simp only [hk, decide_false, Bool.false_eq_true, if_false]
      rw [ih]
      cases L.findIdx? fun y => decide (y.1 = k) <;> simp
theorem mdel_idx (L : List (Int × Value)) (k : Int) : mdel L k = match L.findIdx? fun y => decide (y.1 = k) with | none => L | some j => L.eraseIdx j := by
  unfold mdel
  induction L with
  | nil => rfl
  | cons y L ih =>
    rw [List.eraseP_cons, List.findIdx?_cons]
    by_cases hk : y.1 = k
    · simp [hk]
    · simp only [hk, decide_false, Bool.false_eq_true, if_false, cond_false]
      rw [ih]
      cases L.findIdx? fun y => decide (y.1 = k) <;> simp

section
variable {P : Program} {E w : World} {F : Asn} {g : Nat} {L : List (Int × Value)} {T kt et : TypeId} {zv : Value}
theorem Sat.lookupI (hs : Sat E w (MapAt g L * F)) (hm : P.underlying T = some (.map kt et)) (hd : P.underlying kt = some (.int .i64)) (hz : ∀ w, (zeroValue et).run P w = .ok zv w) (k : Int) :
    (Instr.lookup T (.map (some g)) (.int .i64 k) true).run P w = .ok (.tuple #[(mget L k).getD zv, .bool (mget L k).isSome]) w := by
  obtain ⟨es, clock, h1, hs⟩ := hs.mapOpen
  have hb := hs.obj
  have hf := findNow_int k es.toList L 0 h1
  rw [mget_idx]
  have hk : IsKey (.int .i64) (.int .i64 k) := rfl
  cases hi : L.findIdx? fun y => decide (y.1 = k) with
  | none =>
    rw [hi] at hf
    simp only [Option.bind_none] at hf ⊢
    simp [Instr.lookup, run_underlying hm, MapKept.run_getObj_map hb, run_checkKey hd hk, run_findKey hd hf, hz, Result.andThen]
  | some j =>
    rw [hi] at hf
    simp only [Option.bind_some] at hf ⊢
    have hj : j < L.length := by
      have := List.findIdx?_eq_some_iff_getElem.1 hi
      exact this.1
    rw [List.getElem?_eq_getElem hj] at hf ⊢
    simp only [Option.map_some, Nat.zero_add] at hf ⊢
    simp [Instr.lookup, run_underlying hm, MapKept.run_getObj_map hb, run_checkKey hd hk, run_findKey hd hf, Result.andThen]
theorem Sat.updateI (hs : Sat E w (MapAt g L * F)) (hm : P.underlying T = some (.map kt et)) (hd : P.underlying kt = some (.int .i64)) (k : Int) (v : Value) (hno : ∀ y ∈ L, y.1 ≠ k) :
    ∃ w', (Instr.mapUpdate T (.map (some g)) (.int .i64 k) v).run P w = .ok () w' ∧ Sat E w' (MapAt g (L ++ [(k, v)]) * F) := by
  obtain ⟨es, clock, h1, hs⟩ := hs.mapOpen
  have hb := hs.obj
  have hf := findNow_int k es.toList L 0 h1
  have hi : (L.findIdx? fun y => decide (y.1 = k)) = none := by
    rw [List.findIdx?_eq_none_iff]
    intro y hy
    simpa using hno y hy
  rw [hi] at hf
  simp only [Option.bind_none] at hf
  have hk : IsKey (.int .i64) (.int .i64 k) := rfl
  refine ⟨{ w with heap := w.heap.setIfInBounds g (.map (es.push { key := .int .i64 k, val := v, born := clock }) (clock + 1)) }, ?_, ?_⟩
  · simp [Instr.mapUpdate, run_underlying hm, MapKept.run_getObj_map hb, run_checkKey hd hk, run_findKey hd hf, MapKept.run_setObj_map _ hb, Result.andThen]
  · refine Sat.mapMk (es := es.push { key := .int .i64 k, val := v, born := clock }) (clock := clock + 1) (by simp [h1]) (hs.turn rfl rfl rfl (heap_set hb).1 fun r u hu hr => by rw [(heap_set hb).2 r hr]; exact hu)
theorem Sat.deleteI (hs : Sat E w (MapAt g L * F)) (hm : P.underlying T = some (.map kt et)) (hd : P.underlying kt = some (.int .i64)) (k : Int) (ty : TypeId) :
    ∃ w', (Builtin.delete_ #[T, kt] ty #[.map (some g), .int .i64 k]).run P w = .ok (.tuple #[]) w' ∧ Sat E w' (MapAt g (mdel L k) * F) := by
  obtain ⟨es, clock, h1, hs⟩ := hs.mapOpen
  have hb := hs.obj
  have hf := findNow_int k es.toList L 0 h1
  have hk : IsKey (.int .i64) (.int .i64 k) := rfl
  have hlen : es.size = L.length := by have := congrArg List.length h1; simpa using this
  rw [mdel_idx]
  cases hi : L.findIdx? fun y => decide (y.1 = k) with
  | none =>
    rw [hi] at hf
    simp only [Option.bind_none] at hf
    refine ⟨{ w with heap := w.heap.setIfInBounds g (.map es clock) }, ?_, Sat.mapMk h1 (hs.turn rfl rfl rfl (heap_set hb).1 fun r u hu hr => by rw [(heap_set hb).2 r hr]; exact hu)⟩
    simp [Builtin.delete_, run_underlying hm, MapKept.run_getObj_map hb, run_checkKey hd hk, run_findKey hd hf, MapKept.run_setObj_map _ hb, Result.andThen]
  | some j =>
    rw [hi] at hf
    have hj : j < L.length := (List.findIdx?_eq_some_iff_getElem.1 hi).1
    simp only [Option.bind_some, List.getElem?_eq_getElem hj, Option.map_some, Nat.zero_add] at hf
    refine ⟨{ w with heap := w.heap.setIfInBounds g (.map (es.eraseIdxIfInBounds j) clock) }, ?_, Sat.mapMk (es := es.eraseIdxIfInBounds j) (clock := clock) ?_ (hs.turn rfl rfl rfl (heap_set hb).1 fun r u hu hr => by rw [(heap_set hb).2 r hr]; exact hu)⟩
    · simp [Builtin.delete_, run_underlying hm, MapKept.run_getObj_map hb, run_checkKey hd hk, run_findKey hd hf, MapKept.run_setObj_map _ hb, Result.andThen]
    · unfold Array.eraseIdxIfInBounds
      rw [dif_pos (by omega)]
      simp only [Array.toList_eraseIdx]
      have em : ∀ {α β : Type} (f : α → β) (l : List α) (i : Nat), (l.eraseIdx i).map f = (l.map f).eraseIdx i := by
        intro α β f l i
        induction l generalizing i with
        | nil => rfl
        | cons a l ih => cases i <;> simp [ih]
      rw [em, em, h1]
theorem Sat.clearI (hs : Sat E w (MapAt g L * F)) (hm : P.underlying T = some (.map kt et)) (ty : TypeId) :
    ∃ w', (Builtin.clear_ #[T] ty #[.map (some g)]).run P w = .ok (.tuple #[]) w' ∧ Sat E w' (MapAt g [] * F) := by
  obtain ⟨es, clock, h1, hs⟩ := hs.mapOpen
  have hb := hs.obj
  refine ⟨{ w with heap := w.heap.setIfInBounds g (.map #[] clock) }, ?_, Sat.mapMk (L := []) (es := #[]) (clock := clock) (by simp) (hs.turn rfl rfl rfl (heap_set hb).1 fun r u hu hr => by rw [(heap_set hb).2 r hr]; exact hu)⟩
  simp [Builtin.clear_, run_underlying hm, MapKept.run_getObj_map hb, MapKept.run_setObj_map _ hb, Result.andThen]
theorem Sat.makeMapI (hs : Sat E w F) : Sat E (w.alloc (.map #[] 0)) (MapAt w.heap.size [] * F) := Sat.mapMk (L := []) (by simp) (hs.allocO _)
end
end Go.Proofs.Ytdfidijlconhnaa
