/- How a law's arguments, read as data, are laid open: slices of whole numbers, bools, strings, of slices, of structs. Nothing of the program is named here. -/
import Derived.Test.YtdfidijlconhnaaSlOps
import Derived.ProofKit
import Derived.OpenShut
import Derived.ShutString
import Derived.ChangeOld
import Derived.SizedLaws
import Derived.Deep.Slices
namespace Go.Proofs.Ytdfidijlconhnaa
open Go.RowKit Asn Go.ChangeShapes Go.WideShapes Go.Deep

section
variable {H : Type} {enc : TypeId × Value → H} {P : Program} {W : World} {base : Nat} {spare : Nat → Bool} {held : Bool}

/-- Cells that read as data of type t. -/
def Trods (enc : TypeId × Value → H) (P : Program) (W : World) (base : Nat) (spare : Nat → Bool) (held : Bool) (t : TypeId) (cs : List Value) : Prop :=
  ∃ (fuel : Nat) (y : DataW H × List MemPlace), DataW.trod enc P W base spare held fuel t cs = some y

theorem cells?_at {w : World} {base : Nat} {a : Addr} {n : Nat} {cs : List Value} (h : w.cells? base a n = some cs) : cs.length = n ∧ ∀ j, j < n → w.cell? (a.add j) = cs[j]? := by
  obtain ⟨_, h1, h2⟩ := World.cells?_some h
  exact ⟨h1, h2⟩

/-- A slice that reads as data: its cells, and each element's own reading. -/
theorem Trods.slice {t e : TypeId} {cs : List Value} (ht : P.underlying t = some (.slice e)) (h : Trods enc P W base spare held t cs) :
    ∃ (A : Option Addr) (n c : Nat) (xs : List Value), cs = [.slice A n c] ∧ n ≤ c ∧ c ≤ maxLen ∧ RdW W A n (P.cellsOf e) xs ∧ (A = none → c = 0) ∧ (∀ ad, A = some ad → ad.block < W.heap.size ∨ n * P.cellsOf e = 0) ∧
      ∀ i, i < n → Trods enc P W base spare held e ((xs.drop (i * P.cellsOf e)).take (P.cellsOf e)) := by
  obtain ⟨fuel, y, h⟩ := h
  rcases open_slice ht h with ⟨rfl, _⟩ | ⟨a, len, cap, m, n, D, Pl, rfl, _, hl, hm, hmm, _, hi⟩
  · exact ⟨none, 0, 0, [], rfl, Nat.le_refl _, Nat.zero_le _, RdW.nil _ _ _, fun _ => rfl, (fun _ h => by cases h), fun i hi => absurd hi (by omega)⟩
  · have hlm : len ≤ m := by rw [hmm]; split <;> omega
    have hex : ∀ i, i < len → ∃ cs', W.cells? base (a.add (i * P.cellsOf e)) (P.cellsOf e) = some cs' ∧ Trods enc P W base spare held e cs' := fun i h => by
      obtain ⟨cs', h1, h2⟩ := hi i (by omega)
      exact ⟨cs', h1, n, _, h2⟩
    obtain ⟨f, hf⟩ := choose_lt hex
    have hlen : ∀ k, k ≤ len → ((List.range k).flatMap f).length = k * P.cellsOf e := by
      intro k
      induction k with
      | zero => intro _; simp
      | succ k ih =>
        intro hk
        rw [List.range_succ, List.flatMap_append, List.length_append, ih (by omega)]
        simp only [List.flatMap_cons, List.flatMap_nil, List.append_nil, (cells?_at (hf k (by omega)).1).1]
        rw [Nat.add_mul, Nat.one_mul]
    have hat : ∀ k, k ≤ len → ∀ i, i < k → ∀ j, j < P.cellsOf e → ((List.range k).flatMap f)[i * P.cellsOf e + j]? = (f i)[j]? := by
      intro k
      induction k with
      | zero => intro _ i hi; omega
      | succ k ih =>
        intro hk i hik j hj
        rw [List.range_succ, List.flatMap_append]
        by_cases h : i < k
        · have hlt : i * P.cellsOf e + j < k * P.cellsOf e := by
            have : (i + 1) * P.cellsOf e ≤ k * P.cellsOf e := Nat.mul_le_mul_right _ h
            rw [Nat.add_mul, Nat.one_mul] at this
            omega
          rw [List.getElem?_append_left (by rw [hlen k (by omega)]; exact hlt)]
          exact ih (by omega) i h j hj
        · obtain rfl : i = k := by omega
          rw [List.getElem?_append_right (by rw [hlen i (by omega)]; omega), hlen i (by omega)]
          simp only [List.flatMap_cons, List.flatMap_nil, List.append_nil]
          congr 1
          omega
    refine ⟨some a, len, cap, (List.range len).flatMap f, rfl, hl, hm, ⟨hlen len (Nat.le_refl _), fun _ => ⟨a, rfl, fun j u hu => ?_⟩⟩, (fun h => by cases h), ?_, fun i hil => ?_⟩
    · have hj : j < len * P.cellsOf e := by
        have := (List.getElem?_eq_some_iff.1 hu).1
        rwa [hlen len (Nat.le_refl _)] at this
      have hz : 0 < P.cellsOf e := by
        rcases Nat.eq_zero_or_pos (P.cellsOf e) with h0 | h0
        · rw [h0] at hj; omega
        · exact h0
      have hd : j / P.cellsOf e < len := (Nat.div_lt_iff_lt_mul hz).2 hj
      have hr : j % P.cellsOf e < P.cellsOf e := Nat.mod_lt _ hz
      have hjj : j / P.cellsOf e * P.cellsOf e + j % P.cellsOf e = j := by rw [Nat.mul_comm]; exact Nat.div_add_mod j _
      have h2 := hat len (Nat.le_refl _) _ hd _ hr
      rw [hjj, hu] at h2
      have h3 := (cells?_at (hf _ hd).1).2 _ hr
      rw [add_of_add, hjj, ← h2] at h3
      exact h3
    · intro ad had
      injection had with had
      subst had
      rcases Nat.eq_zero_or_pos (len * P.cellsOf e) with h0 | h0
      · exact .inr h0
      · left
        have hz : 0 < P.cellsOf e := Nat.pos_of_mul_pos_left h0
        have hl0 : 0 < len := Nat.pos_of_mul_pos_right h0
        have h3 := (cells?_at (hf 0 hl0).1).2 0 hz
        have hl1 := (cells?_at (hf 0 hl0).1).1
        rw [List.getElem?_eq_getElem (by omega)] at h3
        have := World.block_lt_of_cell? W _ h3
        rwa [block_of_add, block_of_add] at this
    · have : (((List.range len).flatMap f).drop (i * P.cellsOf e)).take (P.cellsOf e) = f i := by
        apply List.ext_getElem?
        intro j
        rw [List.getElem?_take]
        split
        · rename_i hj
          rw [List.getElem?_drop]
          exact hat len (Nat.le_refl _) i hil j hj
        · rename_i hj
          rw [List.getElem?_eq_none]
          rw [(cells?_at (hf i hil).1).1]
          omega
      rw [this]
      exact (hf i hil).2

/-- One cell that reads as a whole number. -/
theorem Trods.int {t : TypeId} {k : IntKind} {v : Value} (ht : P.underlying t = some (.int k)) (h : Trods enc P W base spare held t [v]) : ∃ n : Int, v = .int k n ∧ (Lit.int k n).wf = true := by
  obtain ⟨fuel, y, h⟩ := h
  obtain ⟨n, hv, _, hw⟩ := DataW.trod_int ht h
  refine ⟨n, ?_, hw⟩
  simpa using hv
theorem Trods.bool {t : TypeId} {v : Value} (ht : P.underlying t = some .bool) (h : Trods enc P W base spare held t [v]) : ∃ b : Bool, v = .bool b := by
  obtain ⟨fuel, y, h⟩ := h
  obtain ⟨b, hv, _⟩ := DataW.trod_bool ht h
  exact ⟨b, by simpa using hv⟩
theorem Trods.string {t : TypeId} {v : Value} (ht : P.underlying t = some .string) (h : Trods enc P W base spare held t [v]) : ∃ s : ByteArray, v = .string s ∧ s.size ≤ maxLen := by
  obtain ⟨fuel, y, h⟩ := h
  obtain ⟨s, hv, _, hs⟩ := DataW.trod_string ht h
  exact ⟨s, by simpa using hv, hs⟩

theorem one_of {z : Nat} {xs : List Value} {n i : Nat} (hz : z = 1) (hl : xs.length = n * z) (hi : i < n) : ∃ v, xs[i]? = some v ∧ (xs.drop (i * z)).take z = [v] := by
  subst hz
  have hi' : i < xs.length := by omega
  refine ⟨xs[i], List.getElem?_eq_getElem hi', ?_⟩
  rw [Nat.mul_one, List.drop_eq_getElem_cons hi']
  rfl

/-- A slice of whole numbers. -/
theorem Trods.ints {t e : TypeId} {k : IntKind} {cs : List Value} (ht : P.underlying t = some (.slice e)) (he : P.underlying e = some (.int k)) (hz : P.cellsOf e = 1) (h : Trods enc P W base spare held t cs) :
    ∃ (A : Option Addr) (n c : Nat) (l : List Int), cs = [.slice A n c] ∧ n ≤ c ∧ c ≤ maxLen ∧ (A = none → c = 0) ∧ RdW W A n 1 (l.map (Value.int k)) ∧ ∀ x ∈ l, (Lit.int k x).wf = true := by
  obtain ⟨A, n, c, xs, rfl, h1, h2, h3, hA, _, hi⟩ := h.slice ht
  have hall : ∀ i, i < n → ∃ x : Int, xs[i]? = some (.int k x) ∧ (Lit.int k x).wf = true := fun i hin => by
    obtain ⟨v, hv, hd⟩ := one_of hz h3.1 hin
    have := hi i hin
    rw [hd] at this
    obtain ⟨x, rfl, hw⟩ := this.int he
    exact ⟨x, hv, hw⟩
  obtain ⟨f, hf⟩ := choose_lt hall
  have hxs : xs = ((List.range n).map f).map (Value.int k) := by
    apply List.ext_getElem?
    intro j
    by_cases hj : j < n
    · rw [(hf j hj).1]; simp [hj]
    · have : xs.length = n := by have := h3.1; rw [hz] at this; omega
      rw [List.getElem?_eq_none (by omega), List.getElem?_eq_none (by simp; omega)]
  rw [hz] at h3
  refine ⟨A, n, c, (List.range n).map f, rfl, h1, h2, hA, hxs ▸ h3, fun x hx => ?_⟩
  obtain ⟨j, hj, rfl⟩ := List.mem_map.1 hx
  exact (hf j (List.mem_range.1 hj)).2
/-- A slice of bytes. -/
theorem Trods.bytes {t e : TypeId} {cs : List Value} (ht : P.underlying t = some (.slice e)) (he : P.underlying e = some (.int .u8)) (hz : P.cellsOf e = 1) (h : Trods enc P W base spare held t cs) :
    ∃ (A : Option Addr) (n c : Nat) (l : List UInt8), cs = [.slice A n c] ∧ n ≤ c ∧ c ≤ maxLen ∧ (A = none → c = 0) ∧ RdW W A n 1 (bytes l) := by
  obtain ⟨A, n, c, l, h0, h1, h2, hA, h3, h4⟩ := h.ints ht he hz
  refine ⟨A, n, c, l.map (fun x => UInt8.ofNat x.toNat), h0, h1, h2, hA, ?_⟩
  have : Go.Proofs.Ytdfidijlconhnaa.bytes (l.map (fun x => UInt8.ofNat x.toNat)) = l.map (Value.int .u8) := by
    unfold Go.Proofs.Ytdfidijlconhnaa.bytes
    rw [List.map_map]
    refine List.map_congr_left fun x hx => ?_
    have hw := h4 x hx
    have hw2 : 0 ≤ x ∧ x ≤ 255 := by
      have h1 : IntKind.u8.min = 0 := by decide
      have h2 : IntKind.u8.max = 255 := by decide
      simpa only [Lit.wf, h1, h2, Bool.and_eq_true, decide_eq_true_eq] using hw
    simp
    omega
  rw [this]
  exact h3
theorem Trods.bools {t e : TypeId} {cs : List Value} (ht : P.underlying t = some (.slice e)) (he : P.underlying e = some .bool) (hz : P.cellsOf e = 1) (h : Trods enc P W base spare held t cs) :
    ∃ (A : Option Addr) (n c : Nat) (l : List Bool), cs = [.slice A n c] ∧ n ≤ c ∧ c ≤ maxLen ∧ (A = none → c = 0) ∧ RdW W A n 1 (l.map Value.bool) := by
  obtain ⟨A, n, c, xs, rfl, h1, h2, h3, hA, _, hi⟩ := h.slice ht
  have hall : ∀ i, i < n → ∃ x : Bool, xs[i]? = some (.bool x) := fun i hin => by
    obtain ⟨v, hv, hd⟩ := one_of hz h3.1 hin
    have := hi i hin
    rw [hd] at this
    obtain ⟨x, rfl⟩ := this.bool he
    exact ⟨x, hv⟩
  obtain ⟨f, hf⟩ := choose_lt hall
  have hxs : xs = ((List.range n).map f).map Value.bool := by
    apply List.ext_getElem?
    intro j
    by_cases hj : j < n
    · rw [(hf j hj)]; simp [hj]
    · have : xs.length = n := by have := h3.1; rw [hz] at this; omega
      rw [List.getElem?_eq_none (by omega), List.getElem?_eq_none (by simp; omega)]
  rw [hz] at h3
  exact ⟨A, n, c, (List.range n).map f, rfl, h1, h2, hA, hxs ▸ h3⟩
/-- A slice of slices of bytes. -/
theorem Trods.rows {t e b : TypeId} {cs : List Value} (ht : P.underlying t = some (.slice e)) (he : P.underlying e = some (.slice b)) (hb : P.underlying b = some (.int .u8)) (hz : P.cellsOf e = 1) (hz1 : P.cellsOf b = 1) (h : Trods enc P W base spare held t cs) :
    ∃ (A : Option Addr) (n c : Nat) (rs : List (Option Addr × Nat × Nat)) (ls : List (List UInt8)), cs = [.slice A n c] ∧ n ≤ c ∧ c ≤ maxLen ∧ rs.length = n ∧ ls.length = n ∧ RdW W A n 1 (rs.map fun r => .slice r.1 r.2.1 r.2.2) ∧ (∀ r ∈ rs, r.2.1 ≤ r.2.2 ∧ r.2.2 ≤ maxLen) ∧
      ∀ (i : Nat) (r : Option Addr × Nat × Nat) (l : List UInt8), rs[i]? = some r → ls[i]? = some l → RdW W r.1 r.2.1 1 (Go.Proofs.Ytdfidijlconhnaa.bytes l) := by
  obtain ⟨A, n, c, xs, rfl, h1, h2, h3, hA, _, hi⟩ := h.slice ht
  have hall : ∀ i, i < n → ∃ x : (Option Addr × Nat × Nat) × List UInt8, xs[i]? = some (.slice x.1.1 x.1.2.1 x.1.2.2) ∧ x.1.2.1 ≤ x.1.2.2 ∧ x.1.2.2 ≤ maxLen ∧ RdW W x.1.1 x.1.2.1 1 (Go.Proofs.Ytdfidijlconhnaa.bytes x.2) := fun i hin => by
    obtain ⟨v, hv, hd⟩ := one_of hz h3.1 hin
    have := hi i hin
    rw [hd] at this
    obtain ⟨A', n', c', l', h4, h5, h6, _, h7⟩ := this.bytes he hb hz1
    exact ⟨((A', n', c'), l'), by rw [hv]; simpa using h4, h5, h6, h7⟩
  obtain ⟨f, hf⟩ := choose_lt hall
  have hxs : xs = ((List.range n).map fun i => (f i).1).map fun r => Value.slice r.1 r.2.1 r.2.2 := by
    apply List.ext_getElem?
    intro j
    by_cases hj : j < n
    · rw [(hf j hj).1]; simp [hj]
    · have : xs.length = n := by have := h3.1; rw [hz] at this; omega
      rw [List.getElem?_eq_none (by omega), List.getElem?_eq_none (by simp; omega)]
  rw [hz] at h3
  refine ⟨A, n, c, (List.range n).map fun i => (f i).1, (List.range n).map fun i => (f i).2, rfl, h1, h2, by simp, by simp, hxs ▸ h3, fun r hr => ?_, fun i r l hr hl => ?_⟩
  · obtain ⟨i, hi2, rfl⟩ := List.mem_map.1 hr
    exact ⟨(hf i (List.mem_range.1 hi2)).2.1, (hf i (List.mem_range.1 hi2)).2.2.1⟩
  · have hin : i < n := by have := (List.getElem?_eq_some_iff.1 hr).1; simpa using this
    simp only [List.getElem?_map, List.getElem?_range hin, Option.map_some, Option.some.injEq] at hr hl
    subst hr
    subst hl
    exact (hf i hin).2.2.2
/-- A slice of strings. -/
theorem Trods.strs {t e : TypeId} {cs : List Value} (ht : P.underlying t = some (.slice e)) (he : P.underlying e = some .string) (hz : P.cellsOf e = 1) (h : Trods enc P W base spare held t cs) :
    ∃ (A : Option Addr) (n c : Nat) (ls : List (List UInt8)), cs = [.slice A n c] ∧ n ≤ c ∧ c ≤ maxLen ∧ (A = none → c = 0) ∧ RdW W A n 1 (ls.map fun l => Value.string ⟨l.toArray⟩) ∧ ∀ l ∈ ls, l.length ≤ maxLen := by
  obtain ⟨A, n, c, xs, rfl, h1, h2, h3, hA, _, hi⟩ := h.slice ht
  have hall : ∀ i, i < n → ∃ l : List UInt8, xs[i]? = some (.string ⟨l.toArray⟩) ∧ l.length ≤ maxLen := fun i hin => by
    obtain ⟨v, hv, hd⟩ := one_of hz h3.1 hin
    have := hi i hin
    rw [hd] at this
    obtain ⟨b, rfl, hb⟩ := this.string he
    exact ⟨b.data.toList, by rw [hv], by rw [Array.length_toList]; exact hb⟩
  obtain ⟨f, hf⟩ := choose_lt hall
  have hxs : xs = ((List.range n).map f).map fun l => Value.string ⟨l.toArray⟩ := by
    apply List.ext_getElem?
    intro j
    by_cases hj : j < n
    · rw [(hf j hj).1]; simp [hj]
    · have : xs.length = n := by have := h3.1; rw [hz] at this; omega
      rw [List.getElem?_eq_none (by omega), List.getElem?_eq_none (by simp; omega)]
  rw [hz] at h3
  refine ⟨A, n, c, (List.range n).map f, rfl, h1, h2, hA, hxs ▸ h3, fun l hl => ?_⟩
  obtain ⟨j, hj, rfl⟩ := List.mem_map.1 hl
  exact (hf j (List.mem_range.1 hj)).2
/-- Cells that read as a struct. -/
theorem Trods.struct {t : TypeId} {fs : Array Field} {cs : List Value} (ht : P.underlying t = some (.struct fs)) (h : Trods enc P W base spare held t cs) :
    cs.length = P.cellsOf t ∧ ∀ (i : Nat) (f : Field), fs[i]? = some f → Trods enc P W base spare held f.type ((cs.drop f.offset).take (P.cellsOf f.type)) := by
  obtain ⟨fuel, y, h⟩ := h
  obtain ⟨xs, n, _, _, hl, hlen, hf⟩ := DataW.trod_struct ht h
  refine ⟨hl, fun i f hi => ⟨n, xs[i]'(by rw [hlen]; exact (Array.getElem?_eq_some_iff.1 hi).1), ?_⟩⟩
  have := hf i f hi
  rw [this, List.getElem?_eq_getElem]
theorem take1 {cs : List Value} {k z : Nat} {v : Value} (hz : z = 1) (h : (cs.drop k).take z = [v]) : cs[k]? = some v := by
  subst hz
  have := congrArg (·[0]?) h
  simpa [List.getElem?_take, List.getElem?_drop] using this
/-- A Trod as cells. -/
theorem trods_of {t : TypeId} {v : Value} {d : DataW H} {p : List MemPlace} (h : DataW.Trod enc P W base spare held t v d p) : Trods enc P W base spare held t v.cells.toList := by
  obtain ⟨fuel, h⟩ := h
  exact ⟨fuel, _, h⟩
end
end Go.Proofs.Ytdfidijlconhnaa
