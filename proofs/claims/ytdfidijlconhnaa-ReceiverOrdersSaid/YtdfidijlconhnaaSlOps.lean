/- Owned slices under the machine's operations: read, append, copy, make, a store. Nothing of the program is named here. -/
import Derived.Test.YtdfidijlconhnaaSl
import Derived.Laws.MakeOwn
import Derived.Laws.BytesArg
import Derived.Lib.SlBytesConst
import Derived.Deep.QuietTactic
import Derived.BigQuiet
import Derived.Lib.Hide
namespace Go.Proofs.Ytdfidijlconhnaa
open Go.RowKit Asn

theorem block_of_add (a : Addr) (n : Nat) : (a.add n).block = a.block := by unfold Addr.add; split <;> rfl
theorem add_of_add (a : Addr) (i j : Nat) : (a.add i).add j = a.add (i + j) := by
  unfold Addr.add
  by_cases hi : i = 0 <;> by_cases hj : j = 0 <;> simp [hi, hj, Nat.add_assoc]
theorem add_lit' (b o k : Nat) : (⟨b, o, none⟩ : Addr).add k = ⟨b, o + k, none⟩ := by unfold Addr.add; split <;> simp_all

/-- A slice's value (A, n, ..) reads in w as the cells xs, z cells an element. -/
def RdW (w : World) (A : Option Addr) (n z : Nat) (xs : List Value) : Prop :=
  xs.length = n * z ∧ (0 < n → ∃ ad, A = some ad ∧ ∀ j u, xs[j]? = some u → w.cell? (ad.add j) = some u)

/-- The type t is a slice of e's: z cells, so many bytes an element. -/
def Elt (P : Program) (t e z bytes : Nat) (zv : Value) : Prop := ∃ i, P.underlying t = some (.slice e) ∧ P.info? e = some i ∧ i.zero = some zv ∧ i.size = z ∧ i.bytes = bytes ∧ zv.cells.size = z ∧ 0 < z
theorem elt_of {P : Program} {t e z bytes : Nat} {zv : Value} (h1 : P.underlying t = some (.slice e)) (h2 : (P.info? e).map (fun i => (i.zero, i.size, i.bytes)) = some (some zv, z, bytes)) (h3 : zv.cells.size = z) (h4 : 0 < z) : Elt P t e z bytes zv := by
  obtain ⟨i, hi, hz0, hz1, hz2⟩ := info_parts h2
  exact ⟨i, h1, hi, hz0, hz1, hz2, h3, h4⟩

/-- Cells, written over from a place on. -/
def putAt (cs : Array Value) : Nat → List Value → Array Value
  | _, [] => cs
  | o, v :: r => putAt (cs.setIfInBounds o v) (o + 1) r
theorem size_putAt : ∀ (vs : List Value) (cs : Array Value) (o : Nat), (putAt cs o vs).size = cs.size
  | [], _, _ => rfl
  | v :: r, cs, o => by rw [putAt, size_putAt r]; simp
theorem putAt_out : ∀ (vs : List Value) (cs : Array Value) (o k : Nat), (k < o ∨ o + vs.length ≤ k) → (putAt cs o vs)[k]? = cs[k]?
  | [], _, _, _, _ => rfl
  | v :: r, cs, o, k, h => by
    rw [putAt, putAt_out r _ _ _ (by simp at h; omega), Array.getElem?_setIfInBounds_ne (by simp at h; omega)]
theorem putAt_in : ∀ (vs : List Value) (cs : Array Value) (o : Nat), o + vs.length ≤ cs.size → ∀ j (u : Value), vs[j]? = some u → (putAt cs o vs)[o + j]? = some u
  | v :: r, cs, o, h, 0, u, hu => by
    have hu : v = u := by simpa using hu
    subst hu
    simp at h
    rw [putAt, putAt_out r _ _ _ (by omega), Nat.add_zero, Array.getElem?_setIfInBounds_self_of_lt (by omega)]
  | v :: r, cs, o, h, j + 1, u, hu => by
    simp at h
    rw [putAt, show o + (j + 1) = o + 1 + j from by omega]
    exact putAt_in r _ _ (by simp; omega) j u (by simpa using hu)

section
variable {P : Program} {E w w' : World} {F : Asn} {A B : Option Addr} {e z n c m d : Nat} {xs ys : List Value}

theorem RdW.nil (w : World) (A : Option Addr) (z : Nat) : RdW w A 0 z [] := ⟨by simp, fun h => absurd h (by omega)⟩
theorem RdW.of_rd (h : rd F z A n xs) (hs : Sat E w F) : RdW w A n z xs := by
  obtain ⟨_, _, _, x, hx, hF⟩ := hs
  obtain ⟨h1, h2⟩ := h x hF
  refine ⟨h1, fun hn => ?_⟩
  obtain ⟨ad, hA, hr⟩ := h2 hn
  refine ⟨ad, hA, fun j u hu => ?_⟩
  obtain ⟨cs, t, fr, h1, h2, h3⟩ := hr j u hu
  have := hx _ _ h1
  unfold World.cell?
  rw [block_of_add, this]
  simp [h2, h3]
theorem RdW.exact (h : RdW w A n z xs) : rd (Asn.exact w) z A n xs := by
  intro x hx
  have hx : x = fun k => w.heap[k]? := hx
  subst hx
  refine ⟨h.1, fun hn => ?_⟩
  obtain ⟨ad, hA, hr⟩ := h.2 hn
  refine ⟨ad, hA, fun j u hu => ?_⟩
  have hc := hr j u hu
  unfold World.cell? at hc
  rw [block_of_add] at hc
  split at hc
  · rename_i c t fr hb
    split at hc
    · cases hc
    · rename_i hsp
      exact ⟨c, t, fr, hb, by simpa using hsp, hc⟩
  · cases hc
theorem RdW.below (h : RdW w A n z xs) (hb : Below w.heap.size w w') : RdW w' A n z xs := by
  refine ⟨h.1, fun hn => ?_⟩
  obtain ⟨ad, hA, hr⟩ := h.2 hn
  refine ⟨ad, hA, fun j u hu => ?_⟩
  have hc := hr j u hu
  rw [hb.cell (World.block_lt_of_cell? w _ hc)]
  exact hc
theorem Sat.slRd (h : Sat E w (sl e z A n c xs * F)) : RdW w A n z xs := by
  refine ⟨h.slLen.1, fun hn => ?_⟩
  rcases h.slOpen with ⟨_, h0, _⟩ | ⟨b, off, cells, hA, hsz, hx, hs⟩
  · omega
  · refine ⟨_, hA, fun j u hu => ?_⟩
    rw [add_lit', hs.cell]
    exact hx j u hu
theorem rd_sl : rd (sl e z A n c xs) z A n xs := by
  intro h hh
  unfold sl at hh
  obtain ⟨a, b, _, rfl, ⟨rfl, hl, _⟩, x, hb⟩ := hh
  refine ⟨hl, fun hn => ?_⟩
  match x, hb with
  | none, hb =>
    obtain ⟨_, _, h0, _⟩ := hb
    omega
  | some (b', off, cells), hb =>
    obtain ⟨a2, b2, _, rfl, ⟨rfl, hA, _, hx⟩, hb2⟩ := hb
    have hb2 : b2 = Hp.one b' (.cells cells e (0, 0)) := hb2
    subst hb2
    refine ⟨_, hA, fun j u hu => ⟨cells, e, (0, 0), ?_, ?_, ?_⟩⟩
    · simp [Hp.un, Hp.nil, Hp.one]
    · rw [add_lit']
    · rw [add_lit']; exact hx j u hu
theorem RdW.take {k : Nat} (h : RdW w A n z xs) (hk : k ≤ n) : RdW w A k z (xs.take (k * z)) := by
  refine ⟨?_, fun h0 => ?_⟩
  · rw [List.length_take, h.1]
    exact Nat.min_eq_left (Nat.mul_le_mul_right z hk)
  · obtain ⟨ad, hA, hr⟩ := h.2 (by omega)
    refine ⟨ad, hA, fun j u hu => hr j u ?_⟩
    rw [List.getElem?_take] at hu
    split at hu
    · exact hu
    · cases hu
theorem RdW.drop {k : Nat} (h : RdW w A n z xs) (hk : k ≤ n) : RdW w (A.map (·.add (k * z))) (n - k) z (xs.drop (k * z)) := by
  refine ⟨by rw [List.length_drop, h.1, Nat.sub_mul], fun h0 => ?_⟩
  obtain ⟨ad, rfl, hr⟩ := h.2 (by omega)
  refine ⟨ad.add (k * z), rfl, fun j u hu => ?_⟩
  rw [add_of_add]
  exact hr _ u (by rw [← hu, List.getElem?_drop])
theorem RdW.at_ (h : RdW w A n z xs) {j : Nat} {u : Value} (hj : xs[j]? = some u) : ∃ ad, A = some ad ∧ w.cell? (ad.add j) = some u := by
  have hn : 0 < n := by
    rcases Nat.eq_zero_or_pos n with h0 | h0
    · have := h.1
      rw [h0, Nat.zero_mul] at this
      rw [List.eq_nil_of_length_eq_zero this] at hj
      simp at hj
    · exact h0
  obtain ⟨ad, hA, hr⟩ := h.2 hn
  exact ⟨ad, hA, hr j u hj⟩

theorem Sat.setCells {b : Nat} {t : TypeId} : ∀ (vs : List Value) (o : Nat) (cs : Array Value) (w : World), Sat E w (Asn.blk b t cs * F) → Sat E (w.setCells b o vs) (Asn.blk b t (putAt cs o vs) * F)
  | [], _, _, _, h => h
  | v :: r, o, _, _, h => Sat.setCells r (o + 1) _ _ (h.set o v)

/-- What append of the cells 'news' leaves. -/
theorem Sat.append {t ty bytes : Nat} {zv : Value} (el : Elt P t e z bytes zv) (h : Sat E w (sl e z A n c xs * F)) (hr : RdW w B m z ys) (h1 : ∀ u ∈ ys, u.oneCell' = true)
    (h63 : n + m ≤ maxLen) (hby : (n + m) * bytes ≤ 140737488355328) :
    ∃ A' c' w', (Builtin.append_ #[t, t] ty #[.slice A n c, .slice B m d]).run P w = .ok (.slice A' (n + m) c') w' ∧ Sat E w' (sl e z A' (n + m) c' (xs ++ ys) * F) := by
  obtain ⟨i, ht, hi, hz, hsz, hb, hzs, hz0⟩ := el
  have hlen := h.slLen
  have fin : ∀ {v' w'}, w'.ownsRow w.heap.size e z v' (n + m) (xs ++ ys) → w.grownBy w' none → Sat E w F →
      ∃ A' c', v' = .slice A' (n + m) c' ∧ Sat E w' (sl e z A' (n + m) c' (xs ++ ys) * F) := by
    intro v' w' ho hg hF
    have hk : ∀ (k : Nat) (o : Obj), w.heap[k]? = some o → w'.heap[k]? = some o := fun k o hk => by
      rw [hg.block k (Array.getElem?_eq_some_iff.1 hk).1 (by simp)]; exact hk
    rcases ho.2 with ⟨rfl, hnm⟩ | ⟨g, cap, cur, rfl, hge, hgg, hnc, hcm, hcs, htk⟩
    · have hnil : xs ++ ys = [] := List.eq_nil_of_length_eq_zero (by rw [ho.1, hnm]; simp)
      refine ⟨none, 0, by rw [hnm], ?_⟩
      rw [hnil, hnm]
      exact (hF.keep hg.os hg.tape hg.output hk).slNil
    · refine ⟨_, cap, rfl, Sat.slMk (hF.make hg.os hg.tape hg.output hgg hge hk) ho.1 hnc hcm (by omega) fun j u hu => ?_⟩
      rw [← htk, List.getElem?_take] at hu
      split at hu
      · simpa using hu
      · cases hu
  rcases h.slOpen with ⟨rfl, rfl, rfl, rfl, hF⟩ | ⟨b, off, cells, rfl, hcs, hx, hs⟩
  · rcases B with _ | ad
    · have hm : m = 0 := by
        rcases Nat.eq_zero_or_pos m with h0 | h0
        · exact h0
        · obtain ⟨ad, h, _⟩ := hr.2 h0
          cases h
      subst hm
      have hys : ys = [] := List.eq_nil_of_length_eq_zero (by simpa using hr.1)
      subst hys
      refine ⟨none, 0, w, ?_, by simpa using h⟩
      simp [Builtin.append_, run_underlying ht, sizeOf, typeInfo, hi, Builtin.lenOf, Builtin.firstCells]
    · have hcells : ∀ j u, ys[j]? = some u → w.cell? (ad.add j) = some u := fun j u hu => by
        obtain ⟨ad', h, hc⟩ := hr.at_ hu
        injection h with h
        subst h
        exact hc
      obtain ⟨v', w', hrun, ho, hg, _⟩ := run_append_own (P := P) w w.heap.size t ty e i zv z bytes ht hi hz hsz hb hzs hz0 (.slice none 0 0) 0 [] (World.ownsRow_nil w _ e z) ad m d ys hr.1 hcells h1 h63 hby (Nat.le_refl _)
      obtain ⟨A', c', rfl, hfin⟩ := fin ho (by simpa [Value.ownBlock] using hg) hF
      exact ⟨A', c', w', hrun, hfin⟩
  · by_cases hroom : n + m ≤ c
    · have hfit : off + n * z + ys.length ≤ cells.size := by
        rw [hr.1]
        have h2 : (n + m) * z ≤ c * z := Nat.mul_le_mul_right z hroom
        rw [Nat.add_mul] at h2
        omega
      have hcell : ∀ j, j < ys.length → (w.cell? ⟨b, off + n * z + j, none⟩).isSome = true := fun j hj => by
        rw [hs.cell, Array.getElem?_eq_getElem (by omega)]; rfl
      have hfro : ∀ j, j < ys.length → w.frozen? ⟨b, off + n * z + j, none⟩ = false := fun j hj => hs.frozen _
      have hsat : Sat E (w.setCells b (off + n * z) ys) (sl e z (some ⟨b, off, none⟩) (n + m) c (xs ++ ys) * F) := by
        refine Sat.slMk (Sat.setCells ys (off + n * z) cells w hs) (by rw [List.length_append, hlen.1, hr.1, Nat.add_mul]) hroom hlen.2.2 (by rw [size_putAt]; exact hcs) fun j u hu => ?_
        rw [List.getElem?_append] at hu
        split at hu
        · rename_i hj
          rw [putAt_out _ _ _ _ (by rw [hlen.1] at hj; omega)]
          exact hx j u hu
        · rename_i hj
          rw [hlen.1] at hj hu
          have := putAt_in ys cells (off + n * z) hfit _ u hu
          rwa [show off + n * z + (j - n * z) = off + j from by omega] at this
      rcases B with _ | ad
      · have hm : m = 0 := by
          rcases Nat.eq_zero_or_pos m with h0 | h0
          · exact h0
          · obtain ⟨ad, h, _⟩ := hr.2 h0
            cases h
        subst hm
        have hys : ys = [] := List.eq_nil_of_length_eq_zero (by simpa using hr.1)
        subst hys
        refine ⟨_, c, w, ?_, by simpa using h⟩
        simp [Builtin.append_, run_underlying ht, sizeOf, typeInfo, hi, Builtin.lenOf, Builtin.firstCells, hlen.2.1, storeCells]
      · have hcells : ∀ j u, ys[j]? = some u → w.cell? (ad.add j) = some u := fun j u hu => by
          obtain ⟨ad', h, hc⟩ := hr.at_ hu
          injection h with h
          subst h
          exact hc
        subst hsz
        exact ⟨_, c, _, run_append_room_cells (P := P) w t ty e i ht hi b off n c ad m d ys hr.1 hcells h1 hroom hcell hfro, hsat⟩
    · rcases B with _ | ad
      · have hm : m = 0 := by
          rcases Nat.eq_zero_or_pos m with h0 | h0
          · exact h0
          · obtain ⟨ad, h, _⟩ := hr.2 h0
            cases h
        omega
      · have hcells : ∀ j u, ys[j]? = some u → w.cell? (ad.add j) = some u := fun j u hu => by
          obtain ⟨ad', h, hc⟩ := hr.at_ hu
          injection h with h
          subst h
          exact hc
        obtain ⟨v', w', hrun, ho, hg⟩ := run_append_arg_grows (P := P) w t ty e i zv z bytes ht hi hz hsz hb hzs hz0 ⟨b, off, none⟩ n c xs hlen.1 (fun j u hu => by rw [add_lit', hs.cell]; exact hx j u hu) ad m d ys hr.1 hcells (by omega) h63 hby
        obtain ⟨A', c', rfl, hfin⟩ := fin ho hg hs.right
        exact ⟨A', c', w', hrun, hfin⟩

/-- append whose first is whatever reads so and has no room: the result is new; the first stays. -/
theorem Sat.appendNew {t ty bytes cap : Nat} {zv : Value} (el : Elt P t e z bytes zv) (h : Sat E w F) (hx : RdW w A n z xs) (hcap : cap < n + m) (hnc : n ≤ cap) (hA : A = none → cap = 0) (hr : RdW w B m z ys) (h1 : ∀ u ∈ ys, u.oneCell' = true)
    (h63 : n + m ≤ maxLen) (hby : (n + m) * bytes ≤ 140737488355328) :
    ∃ A' c' w', (Builtin.append_ #[t, t] ty #[.slice A n cap, .slice B m d]).run P w = .ok (.slice A' (n + m) c') w' ∧ Sat E w' (sl e z A' (n + m) c' (xs ++ ys) * F) := by
  obtain ⟨i, ht, hi, hz, hsz, hb, hzs, hz0⟩ := id el
  have fin : ∀ {v' w'}, w'.ownsRow w.heap.size e z v' (n + m) (xs ++ ys) → w.grownBy w' none → Sat E w F →
      ∃ A' c', v' = .slice A' (n + m) c' ∧ Sat E w' (sl e z A' (n + m) c' (xs ++ ys) * F) := by
    intro v' w' ho hg hF
    have hk : ∀ (k : Nat) (o : Obj), w.heap[k]? = some o → w'.heap[k]? = some o := fun k o hk => by
      rw [hg.block k (Array.getElem?_eq_some_iff.1 hk).1 (by simp)]; exact hk
    rcases ho.2 with ⟨rfl, hnm⟩ | ⟨g, cap, cur, rfl, hge, hgg, hnc, hcm, hcs, htk⟩
    · have hnil : xs ++ ys = [] := List.eq_nil_of_length_eq_zero (by rw [ho.1, hnm]; simp)
      refine ⟨none, 0, by rw [hnm], ?_⟩
      rw [hnil, hnm]
      exact (hF.keep hg.os hg.tape hg.output hk).slNil
    · refine ⟨_, cap, rfl, Sat.slMk (hF.make hg.os hg.tape hg.output hgg hge hk) ho.1 hnc hcm (by omega) fun j u hu => ?_⟩
      rw [← htk, List.getElem?_take] at hu
      split at hu
      · simpa using hu
      · cases hu
  rcases A with _ | ad0
  · have hn : n = 0 := by
      rcases Nat.eq_zero_or_pos n with h0 | h0
      · exact h0
      · obtain ⟨ad, h, _⟩ := hx.2 h0
        cases h
    subst hn
    have hxs : xs = [] := List.eq_nil_of_length_eq_zero (by simpa using hx.1)
    subst hxs
    obtain rfl := hA rfl
    exact Sat.append el h.slNil hr h1 h63 hby
  · rcases B with _ | ad
    · have hm : m = 0 := by
        rcases Nat.eq_zero_or_pos m with h0 | h0
        · exact h0
        · obtain ⟨ad, h, _⟩ := hr.2 h0
          cases h
      omega
    · have hcells : ∀ j u, ys[j]? = some u → w.cell? (ad.add j) = some u := fun j u hu => by
        obtain ⟨ad', h, hc⟩ := hr.at_ hu
        injection h with h
        subst h
        exact hc
      rcases Nat.eq_zero_or_pos n with h0 | h0
      · subst h0
        have hxs : xs = [] := List.eq_nil_of_length_eq_zero (by simpa using hx.1)
        subst hxs
        obtain ⟨v', w', hrun, ho, hg⟩ := run_append_arg_grows (P := P) w t ty e i zv z bytes ht hi hz hsz hb hzs hz0 ad0 0 cap [] (by simp) (by simp) ad m d ys hr.1 hcells (by omega) h63 hby
        obtain ⟨A', c', rfl, hfin⟩ := fin ho hg h
        exact ⟨A', c', w', hrun, hfin⟩
      · obtain ⟨ad1, h2, h3⟩ := hx.2 h0
        injection h2 with h2
        subst h2
        obtain ⟨v', w', hrun, ho, hg⟩ := run_append_arg_grows (P := P) w t ty e i zv z bytes ht hi hz hsz hb hzs hz0 ad0 n cap xs hx.1 h3 ad m d ys hr.1 hcells (by omega) h63 hby
        obtain ⟨A', c', rfl, hfin⟩ := fin ho hg h
        exact ⟨A', c', w', hrun, hfin⟩

theorem Sat.slAt (h : Sat E w (sl e z A n c xs * F)) (hn : 0 < n) : ∃ b off, A = some ⟨b, off, none⟩ ∧ b < w.heap.size ∧ (∀ j u, xs[j]? = some u → w.cell? ⟨b, off + j, none⟩ = some u) ∧ ∀ j, w.frozen? ⟨b, j, none⟩ = false := by
  rcases h.slOpen with ⟨_, h0, _⟩ | ⟨b, off, cells, hA, hsz, hx, hs⟩
  · omega
  · exact ⟨b, off, hA, hs.lt, fun j u hu => by rw [hs.cell]; exact hx j u hu, fun j => hs.frozen j⟩
/-- So many cells of a zero value. -/
def made (zv : Value) (k : Nat) : Array Value := madeCells zv.cells k
theorem size_made (zv : Value) (k : Nat) : (made zv k).size = k := size_madeCells _ _
theorem made_one {zv : Value} (h : zv.cells = #[zv]) {k j : Nat} (hj : j < k) : (made zv k)[j]? = some zv := by
  unfold made madeCells
  rw [h]
  simp [hj, Nat.mod_one]
theorem made_nil (zv : Value) : made zv 0 = #[] := Array.eq_empty_of_size_eq_zero (size_made zv 0)
theorem run_makeN {t bytes : Nat} {zv : Value} (el : Elt P t e z bytes zv) (kl kc : IntKind) (n c : Nat) (hn : n ≤ c) (hb : bytes * c ≤ 281474976710656) (hc : c ≤ 9223372036854775807) (w : World) :
    (Instr.makeSlice t (.int kl (n : Int)) (.int kc (c : Int))).run P w = .ok (.slice (some ⟨w.heap.size, 0, none⟩) n c) (w.alloc (.cells (made zv (c * z)) e)) := by
  obtain ⟨i, ht, hi, hz, hsz, hby, hzs, hz0⟩ := el
  have hb' : (i.bytes : Int) * (c : Int) ≤ 281474976710656 := by
    have h : ((i.bytes * c : Nat) : Int) ≤ 281474976710656 := by rw [hby]; omega
    rwa [Int.natCast_mul] at h
  have hr := run_make (P := P) w t e i zv ht hi hz kl kc (n : Int) (c : Int) (by omega) (by omega) hb' (by omega)
  simp only [Int.toNat_natCast, hsz] at hr
  exact hr
theorem Sat.makeSl (h : Sat E w F) (zv : Value) (hz : zv.cells = #[zv]) (e n : Nat) (hn : n ≤ maxLen) : Sat E (w.alloc (.cells (made zv n) e)) (sl e 1 (some ⟨w.heap.size, 0, none⟩) n n (List.replicate n zv) * F) := by
  refine Sat.slMk (h.alloc (made zv n) e) (by simp) (Nat.le_refl _) hn (by rw [size_made]; omega) fun j u hu => ?_
  obtain ⟨hj, rfl⟩ := List.getElem?_eq_some_iff.1 hu
  simp only [List.length_replicate] at hj
  rw [List.getElem_replicate, Nat.zero_add]
  exact made_one hz hj
/-- A new block of some cells reads as them. -/
theorem RdW.new (w : World) (cs : Array Value) (t n z : Nat) (hl : cs.size = n * z) (fr : Nat × Nat := (0, 0)) : RdW (w.alloc (.cells cs t fr)) (some ⟨w.heap.size, 0, none⟩) n z cs.toList :=
  ⟨by rw [Array.length_toList, hl], fun _ => ⟨_, rfl, fun j u hu => by
    rw [add_lit', cell_of_row _ _ _ _ _ _ (heap_alloc_new w _), Nat.zero_add]
    simpa using hu⟩⟩
/-- What copy of the cells 'ys' over a part of an owned slice leaves: dst begins at place 'off' of it. -/
theorem Sat.copy1 {dT sT ty bytes k q : Nat} {zv : Value} (el : Elt P dT e 1 bytes zv) (h : Sat E w (sl e 1 A n c xs * F)) (hr : RdW w B m 1 ys) (h1 : ∀ u ∈ ys, u.oneCell' = true) (hk : k + m ≤ n) {D : Option Addr} (hD : D = A.map (·.add k)) (hd : m ≤ q) {cap : Nat} :
    ∃ w', (Builtin.copy_ #[dT, sT] ty #[.slice D q cap, .slice B m d]).run P w = .ok (goInt m) w' ∧ Sat E w' (sl e 1 A n c (xs.take k ++ (ys ++ xs.drop (k + m))) * F) := by
  obtain ⟨i, ht, hi, hz, hsz, hb, hzs, hz0⟩ := el
  have hlen := h.slLen
  have hm : ys.length = m := by simpa using hr.1
  have hsm : (P.info? e).map (·.size) = some 1 := by rw [hi]; simp [hsz]
  rcases Nat.eq_zero_or_pos m with h0 | h0
  · subst h0
    have hys : ys = [] := List.eq_nil_of_length_eq_zero hm
    subst hys
    exact ⟨w, run_copy_none w dT sT ty e D B q cap 0 d ht hsm (Nat.zero_min q), by simpa using h⟩
  · obtain ⟨ad, rfl, hra⟩ := hr.2 h0
    rcases h.slOpen with ⟨rfl, h2, _⟩ | ⟨b, off, cells, rfl, hcs, hx, hs⟩
    · omega
    · have hDD : D = some ⟨b, off + k, none⟩ := by rw [hD]; simp [add_lit']
      subst hDD
      have hfit : off + k + ys.length ≤ cells.size := by omega
      refine ⟨_, (run_copy_cells (P := P) w dT sT ty e b (off + k) q cap ad m d ys ht hsm (by rw [hm]; exact (Nat.min_eq_left hd).symm) hra (fun j hj => ?_) (fun j _ => hs.frozen _) h1).trans (by rw [hm]), ?_⟩
      · rw [hs.cell, Array.getElem?_eq_getElem (by omega)]; rfl
      · refine Sat.slMk (Sat.setCells ys (off + k) cells w hs) ?_ hlen.2.1 hlen.2.2 (by rw [size_putAt]; exact hcs) fun j u hu => ?_
        · simp only [List.length_append, List.length_take, List.length_drop]; omega
        · rw [List.getElem?_append] at hu
          split at hu
          · rename_i hj
            simp only [List.length_take] at hj
            rw [putAt_out _ _ _ _ (by omega)]
            rw [List.getElem?_take] at hu
            split at hu
            · exact hx j u hu
            · cases hu
          · rename_i hj
            simp only [List.length_take] at hj hu
            have hjk : j - min k xs.length = j - k := by omega
            rw [hjk] at hu
            rw [List.getElem?_append] at hu
            split at hu
            · have := putAt_in ys cells (off + k) hfit _ u hu
              rwa [show off + k + (j - k) = off + j from by omega] at this
            · rename_i hj2
              rw [List.getElem?_drop] at hu
              rw [putAt_out _ _ _ _ (by omega)]
              refine hx j u ?_
              rw [← hu]
              congr 1
              omega
end

/-- A built-in append, met by what it leaves. -/
theorem wpList_appendR {P : Program} {w w' : World} {ops : Array Oper} {rest : List Oper} {o : Oper} {a : Act} {Q : Exit → Act → World → Prop} {v u u' : Value} {t s : TypeId} (hgd : o.guard = none) (x y : Operand)
    (ho : o.op = .call { callee := .builtin .append, args := #[x, y], argTypes := #[t, s] }) (hx : a.eval x = u) (hy : a.eval y = u')
    (hrun : (Builtin.append_ #[t, s] o.type #[u, u']).run P w = .ok v w') (h : wpList P ops Q rest (a.put o.dst v) w') : wpList P ops Q (o :: rest) a w := by
  refine wpList_plain hgd fun K hK => ?_
  unfold Oper.wp
  simp [execOp, ho, resolve, invoke, builtin, hx, hy, hrun, Result.andThen]
  exact hK _ _ h
theorem wpList_copyR {P : Program} {w w' : World} {ops : Array Oper} {rest : List Oper} {o : Oper} {a : Act} {Q : Exit → Act → World → Prop} {v u u' : Value} {t s : TypeId} (hgd : o.guard = none) (x y : Operand)
    (ho : o.op = .call { callee := .builtin .copy, args := #[x, y], argTypes := #[t, s] }) (hx : a.eval x = u) (hy : a.eval y = u')
    (hrun : (Builtin.copy_ #[t, s] o.type #[u, u']).run P w = .ok v w') (h : wpList P ops Q rest (a.put o.dst v) w') : wpList P ops Q (o :: rest) a w := by
  refine wpList_plain hgd fun K hK => ?_
  unfold Oper.wp
  simp [execOp, ho, resolve, invoke, builtin, hx, hy, hrun, Result.andThen]
  exact hK _ _ h

/-- Bytes as cells. -/
def bytes (l : List UInt8) : List Value := l.map fun b => .int .u8 b.toNat
theorem length_bytes (l : List UInt8) : (bytes l).length = l.length := by unfold bytes; rw [List.length_map]
theorem oneCell_bytes {l : List UInt8} : ∀ u ∈ bytes l, u.oneCell' = true := by
  intro u hu
  simp only [bytes, List.mem_map] at hu
  obtain ⟨x, _, rfl⟩ := hu
  rfl
theorem RdW.sub {w : World} {A : Option Addr} {n a q : Nat} {l : List UInt8} (h : RdW w A n 1 (bytes l)) (hq : a + q ≤ n) : RdW w (A.map (fun x => x.add a)) q 1 (bytes ((l.drop a).take q)) := by
  have h2 := (h.drop (k := a) (by omega)).take (k := q) (by omega)
  simpa [bytes, List.map_drop, List.map_take] using h2
theorem rd.bytesTake {F : Asn} {A : Option Addr} {n q : Nat} {l : List UInt8} (h : rd F 1 A n (bytes l)) (hq : q ≤ n) : rd F 1 A q (bytes (l.take q)) := by
  have := h.take (k := q) hq
  simpa [bytes, List.map_take] using this
theorem rd.bytesSub {F : Asn} {A : Option Addr} {n a q : Nat} {l : List UInt8} (h : rd F 1 A n (bytes l)) (hq : a + q ≤ n) : rd F 1 (A.map (fun x => x.add a)) q (bytes ((l.drop a).take q)) := by
  have := (h.drop (k := a) (by omega)).take (k := q) (by omega)
  simpa [bytes, List.map_drop, List.map_take] using this
/-- What reads as bytes is a string's. -/
theorem RdW.str {P : Program} {w : World} {A : Option Addr} {n : Nat} {l : List UInt8} (h : RdW w A n 1 (bytes l)) {src e dst : TypeId} (hs : P.underlying src = some (.slice e)) (he : P.underlying e = some (.int .u8)) (hd : P.underlying dst = some .string) (c : Nat) :
    (convert src dst (.slice A n c)).run P w = .ok (.string ⟨l.toArray⟩) w := by
  rw [run_convert_bytes_string w src dst e _ n c hs he hd]
  have hn : l.length = n := by have := h.1; rw [length_bytes] at this; omega
  rcases A with _ | ad
  · have h0 : n = 0 := by
      rcases Nat.eq_zero_or_pos n with h0 | h0
      · exact h0
      · obtain ⟨ad, h, _⟩ := h.2 h0
        cases h
    rw [h0] at hn
    rw [List.eq_nil_of_length_eq_zero hn]
    simp [Conv.bytesToString]
    rfl
  · have hc : ∀ j v, (bytes l)[j]? = some v → w.cell? (ad.add j) = some v := fun j v hv => by
      obtain ⟨ad', h1, h2⟩ := h.at_ hv
      injection h1 with h1
      subst h1
      exact h2
    have hl := run_loadCells_list (P := P) w ad (bytes l) hc
    rw [length_bytes, hn] at hl
    have he : bytes l = (l.map fun b => (b.toNat : Int)).map (Value.int .u8) := by unfold bytes; rw [List.map_map]; rfl
    rw [he] at hl
    rw [run_bytesToString w ad n c _ hl, foldl_push_bytes]
    congr 2
    simp [List.map_map, Function.comp_def]
theorem quiet_left {P : Program} {f : FuncId} {args : Array Value} {w : World} {v : Value}
    (h : Calls P f args w fun e w' => e = .returned v ∧ w = w') : Calls P f args w fun e w'' => e = .returned v ∧ ∃ m, w'' = w.drewN m :=
  h.mono fun _ _ ⟨he, hm⟩ => ⟨he, 0, hm.symm⟩
theorem quiet_leftN {P : Program} {f : FuncId} {args : Array Value} {w : World} {n : Nat} {v : Value}
    (h : Calls P f args (w.drewN n) fun e w' => e = .returned v ∧ w.drewN n = w') : Calls P f args (w.drewN n) fun e w'' => e = .returned v ∧ ∃ m, w'' = w.drewN m :=
  h.mono fun _ _ ⟨he, hm⟩ => ⟨he, n, hm.symm⟩
theorem quiet_add_left {P : Program} {f : FuncId} {args : Array Value} {w : World} {a n : Nat} {v : Value}
    (h : Calls P f args (w.drewN (a + n)) fun e w' => e = .returned v ∧ w.drewN (a + n) = w') :
    Calls P f args (w.drewN (a + n)) fun e w'' => e = .returned v ∧ ∃ m, w'' = w.drewN (a + m) :=
  h.mono fun _ _ ⟨he, hm⟩ => ⟨he, n, hm.symm⟩
theorem results_cell2 {P : Program} {fn : Func} {p u1 : Tmp} {ty : TypeId} (h : fn.results = #[.cell p ty, .tmp u1]) (tmps : Array Value) (w : World) (g : Nat) (t : TypeId) (cs : Array Value) (fr : Nat × Nat) (d : TypeDesc)
    (hp : tmps.getD p undef = .pointer (some ⟨g, 0, none⟩)) (hg : w.heap[g]? = some (.cells cs t fr))
    (hu : P.underlying ty = some d) (hd : (match d with | .struct _ | .array _ _ => true | _ => false) = true) (hi : (P.info? ty).map (·.size) = some cs.size) :
    (results fn tmps).run P w = .ok (.tuple #[.agg cs, tmps.getD u1 undef]) w := by
  have hp' : tmps[p]?.getD undef = .pointer (some ⟨g, 0, none⟩) := by simpa using hp
  simp [results, h, hp', asAddr, run_loadVar_row w g t ty cs fr d hg hu hd hi]
theorem results_cell3 {P : Program} {fn : Func} {p u1 u2 : Tmp} {ty : TypeId} (h : fn.results = #[.cell p ty, .tmp u1, .tmp u2]) (tmps : Array Value) (w : World) (g : Nat) (t : TypeId) (cs : Array Value) (fr : Nat × Nat) (d : TypeDesc)
    (hp : tmps.getD p undef = .pointer (some ⟨g, 0, none⟩)) (hg : w.heap[g]? = some (.cells cs t fr))
    (hu : P.underlying ty = some d) (hd : (match d with | .struct _ | .array _ _ => true | _ => false) = true) (hi : (P.info? ty).map (·.size) = some cs.size) :
    (results fn tmps).run P w = .ok (.tuple #[.agg cs, tmps.getD u1 undef, tmps.getD u2 undef]) w := by
  have hp' : tmps[p]?.getD undef = .pointer (some ⟨g, 0, none⟩) := by simpa using hp
  simp [results, h, hp', asAddr, run_loadVar_row w g t ty cs fr d hg hu hd hi]
theorem results_cell4 {P : Program} {fn : Func} {p u1 u2 u3 : Tmp} {ty : TypeId} (h : fn.results = #[.cell p ty, .tmp u1, .tmp u2, .tmp u3]) (tmps : Array Value) (w : World) (g : Nat) (t : TypeId) (cs : Array Value) (fr : Nat × Nat) (d : TypeDesc)
    (hp : tmps.getD p undef = .pointer (some ⟨g, 0, none⟩)) (hg : w.heap[g]? = some (.cells cs t fr))
    (hu : P.underlying ty = some d) (hd : (match d with | .struct _ | .array _ _ => true | _ => false) = true) (hi : (P.info? ty).map (·.size) = some cs.size) :
    (results fn tmps).run P w = .ok (.tuple #[.agg cs, tmps.getD u1 undef, tmps.getD u2 undef, tmps.getD u3 undef]) w := by
  have hp' : tmps[p]?.getD undef = .pointer (some ⟨g, 0, none⟩) := by simpa using hp
  simp [results, h, hp', asAddr, run_loadVar_row w g t ty cs fr d hg hu hd hi]
theorem hide {p : Prop} (h : p) : Hid p := h
theorem unhide {p : Prop} (h : Hid p) : p := h
end Go.Proofs.Ytdfidijlconhnaa
