/- The queue of pieces' plain law: what is held from low on, against all that ever came. -/
import Derived.Test.YtdfidijlconhnaaSqC
import Derived.Test.YtdfidijlconhnaaSqB
namespace Go.Proofs.Ytdfidijlconhnaa
open Go.RowKit Asn
def akB (ak : List Bool) (j : Nat) : Bool := ak.getD j false
/-- Does a number lack? -/
def lacksD (ak : List Bool) (next : Nat) (seq : Int) : Bool := decide (0 ≤ seq) && decide (seq < next) && !akB ak seq.toNat
def lackD (ak : List Bool) (next : Nat) : List Nat := (List.range next).filter fun j => !akB ak j
def lowD (ak : List Bool) (next : Nat) : Nat := ((lackD ak next).head?).getD next
structure QI (ak : List Bool) (low next : Nat) (H : List HR) : Prop where
  len : low + H.length = ak.length
  lo : low ≤ next
  nx : next ≤ ak.length
  ks : H.map HR.k = ak.drop low
  ack : ∀ j, j < low → akB ak j = true
  un : ∀ j, next ≤ j → akB ak j = false
  low : low = lowD ak next
theorem akB_set (ak : List Bool) (i j : Nat) (hi : i < ak.length) : akB (ak.set i true) j = if j = i then true else akB ak j := by
  unfold akB
  rw [List.getD_eq_getElem?_getD, List.getD_eq_getElem?_getD, List.getElem?_set]
  by_cases h : i = j
  · subst h; simp [hi]
  · rw [if_neg h, if_neg (fun e => h e.symm)]
section
variable {ak : List Bool} {low next : Nat} {H : List HR}
theorem QI.at_ (q : QI ak low next H) {i : Nat} {h : HR} (hi : H[i]? = some h) : h.k = akB ak (low + i) := by
  have h1 : (H.map HR.k)[i]? = some h.k := by rw [List.getElem?_map, hi]; rfl
  rw [q.ks, List.getElem?_drop] at h1
  unfold akB
  rw [List.getD_eq_getElem?_getD, h1]; rfl
theorem QI.lacks (q : QI ak low next H) (seq : Int) : lacksB low next H seq = lacksD ak next seq := by
  unfold lacksB lacksD
  by_cases h1 : (low : Int) ≤ seq
  · by_cases h2 : seq < next
    · have hl : (seq - low).toNat < H.length := by have := q.len; have := q.nx; omega
      have e : low + (seq - low).toNat = seq.toNat := by omega
      rw [decide_eq_true h1, decide_eq_true h2, decide_eq_true (show 0 ≤ seq by omega), List.getElem?_eq_getElem hl]
      have := q.at_ (List.getElem?_eq_getElem hl)
      rw [e] at this
      show (true && true && !(H[(seq - low).toNat]'hl).k) = _
      rw [this]
    · rw [decide_eq_false h2]; simp
  · rw [decide_eq_false h1]
    by_cases h0 : 0 ≤ seq
    · rw [q.ack seq.toNat (by omega)]; simp
    · rw [decide_eq_false h0]; simp
theorem lackD_eq (q : QI ak low next H) : lackN low next H = lackD ak next := by
  have e : (List.range' low (next - low)).filter (fun (n : Nat) => lacksB low next H n) = (List.range' low (next - low)).filter (fun j => !akB ak j) := by
    refine List.filter_congr fun n hn => ?_
    rw [List.mem_range'_1] at hn
    have hn2 : n < next := by omega
    rw [q.lacks]
    unfold lacksD
    rw [decide_eq_true (show (0 : Int) ≤ (n : Int) by omega), decide_eq_true (show (n : Int) < next by omega)]
    simp
  unfold lackN lackD
  rw [e]
  have hsp : List.range next = List.range' 0 low ++ List.range' low (next - low) := by
    have h := List.range'_append_1 (s := 0) (m := low) (n := next - low)
    rw [Nat.zero_add] at h
    rw [h, List.range_eq_range']
    congr 1
    have := q.lo
    omega
  have hno : (List.range' 0 low).filter (fun j => !akB ak j) = [] := List.filter_eq_nil_iff.2 fun j hj => by
    rw [List.mem_range'_1] at hj
    rw [q.ack j (by omega)]; simp
  rw [hsp, List.filter_append, hno, List.nil_append]
theorem lowD_spec (ak : List Bool) (next : Nat) : lowD ak next ≤ next ∧ (∀ j, j < lowD ak next → akB ak j = true) ∧ (lowD ak next < next → akB ak (lowD ak next) = false) := by
  unfold lowD lackD
  induction next with
  | zero => exact ⟨by simp, fun j hj => by simp at hj, fun h => by simp at h⟩
  | succ n ih =>
    rw [List.range_succ, List.filter_append]
    cases e : (List.range n).filter (fun j => !akB ak j) with
    | nil =>
      rw [e] at ih
      simp only [List.head?_nil, Option.getD_none] at ih
      have hall : ∀ j, j < n → akB ak j = true := ih.2.1
      cases h : akB ak n with
      | true =>
        simp only [List.filter_cons, h, Bool.not_true, Bool.false_eq_true, if_false, List.filter_nil, List.append_nil, List.head?_nil, Option.getD_none]
        exact ⟨Nat.le_refl _, fun j hj => by rcases Nat.lt_succ_iff_lt_or_eq.1 hj with h' | h'; exact hall j h'; rw [h']; exact h, fun h' => absurd h' (by omega)⟩
      | false =>
        simp only [List.filter_cons, h, Bool.not_false, if_true, List.filter_nil, List.nil_append, List.head?_cons, Option.getD_some]
        exact ⟨Nat.le_succ _, hall, fun _ => by first | exact h | trivial⟩
    | cons x l =>
      rw [e] at ih
      simp only [List.cons_append, List.head?_cons, Option.getD_some] at ih ⊢
      have hx : x ∈ (List.range n).filter (fun j => !akB ak j) := by rw [e]; exact List.mem_cons_self
      rw [List.mem_filter, List.mem_range] at hx
      exact ⟨by omega, ih.2.1, fun _ => by simpa using hx.2⟩
theorem lowD_of (ak : List Bool) (next x : Nat) (h1 : x ≤ next) (h2 : ∀ j, j < x → akB ak j = true) (h3 : x < next → akB ak x = false) : x = lowD ak next := by
  obtain ⟨a, b, c⟩ := lowD_spec ak next
  rcases Nat.lt_trichotomy x (lowD ak next) with h | h | h
  · have := b x h
    rw [h3 (by omega)] at this; cases this
  · exact h
  · have := h2 _ h
    rw [c (by omega)] at this; cases this
theorem QI.start : QI [] 0 0 [] := ⟨rfl, Nat.le_refl _, Nat.le_refl _, rfl, fun j h => by omega, fun j _ => rfl, rfl⟩
theorem QI.add (q : QI ak low next H) {H2 : List HR} (hk : ∀ h ∈ H2, h.k = false) : QI (ak ++ List.replicate H2.length false) low next (H ++ H2) := by
  have hks : H2.map HR.k = List.replicate H2.length false := by
    rw [List.eq_replicate_iff]
    exact ⟨by simp, fun b hb => by obtain ⟨h, hh, rfl⟩ := List.mem_map.1 hb; exact hk h hh⟩
  have hak : ∀ j, akB (ak ++ List.replicate H2.length false) j = akB ak j := fun j => by
    unfold akB
    rw [List.getD_eq_getElem?_getD, List.getD_eq_getElem?_getD]
    by_cases hj : j < ak.length
    · rw [List.getElem?_append_left hj]
    · rw [List.getElem?_append_right (by omega), List.getElem?_eq_none (l := ak) (by omega), List.getElem?_replicate]
      split <;> rfl
  have hlo := q.lo
  have hnx := q.nx
  have hle := q.len
  refine ⟨by simp; omega, hlo, by simp; omega, ?_, fun j hj => by rw [hak]; exact q.ack j hj, fun j hj => by rw [hak]; exact q.un j hj, ?_⟩
  · rw [List.map_append, q.ks, hks, List.drop_append_of_le_length (by omega)]
  · rw [q.low]
    unfold lowD lackD
    simp only [hak]
theorem QI.send (q : QI ak low next H) (h : next < ak.length) : QI ak low (next + 1) H := by
  refine ⟨q.len, by have := q.lo; omega, h, q.ks, q.ack, fun j hj => q.un j (by omega), ?_⟩
  obtain ⟨a, b, c⟩ := lowD_spec ak next
  refine lowD_of ak (next + 1) low (by have := q.lo; omega) q.ack fun hlt => ?_
  by_cases hn : low < next
  · rw [q.low]; exact c (by rw [← q.low]; exact hn)
  · exact q.un low (by omega)
theorem ackAt_ks (H : List HR) (i : Nat) (hi : i < H.length) : (ackAt H i).map HR.k = (H.map HR.k).set i true := by
  unfold ackAt
  rw [List.getElem?_eq_getElem hi]
  simp only [List.map_set]
theorem QI.ackd (q : QI ak low next H) {i : Nat} (hin : low + i < next) : QI (ak.set (low + i) true) (((lackN low next (ackAt H i)).head?).getD next) next ((ackAt H i).drop (((lackN low next (ackAt H i)).head?).getD next - low)) := by
  have hlo := q.lo
  have hnx := q.nx
  have hle := q.len
  have hil : i < H.length := by omega
  have hset := fun j => akB_set ak (low + i) j (by omega)
  -- all but low's place hold already
  have hks : (ackAt H i).map HR.k = (ak.set (low + i) true).drop low := by
    rw [ackAt_ks H i hil, q.ks, List.drop_set]
    rw [if_neg (by omega)]
    congr 1; omega
  have hat : ∀ n, low ≤ n → n < next → lacksB low next (ackAt H i) n = !akB (ak.set (low + i) true) n := fun n h1 h2 => by
    unfold lacksB
    have hl : ((n : Int) - low).toNat = n - low := by omega
    have hl2 : n - low < (ackAt H i).length := by rw [ackAt_len]; omega
    rw [decide_eq_true (show (low : Int) ≤ (n : Int) by omega), decide_eq_true (show (n : Int) < next by omega), hl, List.getElem?_eq_getElem hl2]
    have h3 : ((ackAt H i).map HR.k)[n - low]? = some ((ackAt H i)[n - low].k) := by rw [List.getElem?_map, List.getElem?_eq_getElem hl2]; rfl
    rw [hks, List.getElem?_drop, show low + (n - low) = n by omega] at h3
    unfold akB
    rw [List.getD_eq_getElem?_getD, h3]
    simp
  have hlk : lackN low next (ackAt H i) = (List.range' low (next - low)).filter (fun j => !akB (ak.set (low + i) true) j) := by
    unfold lackN
    refine List.filter_congr fun n hn => ?_
    rw [List.mem_range'_1] at hn
    exact hat n hn.1 (by omega)
  have hack : ∀ j, j < low → akB (ak.set (low + i) true) j = true := fun j hj => by rw [hset, if_neg (by omega)]; exact q.ack j hj
  have hlk2 : lackN low next (ackAt H i) = lackD (ak.set (low + i) true) next := by
    rw [hlk]
    unfold lackD
    have hsp : List.range next = List.range' 0 low ++ List.range' low (next - low) := by
      have h := List.range'_append_1 (s := 0) (m := low) (n := next - low)
      rw [Nat.zero_add] at h
      rw [h, List.range_eq_range']
      congr 1
      omega
    have hno : (List.range' 0 low).filter (fun j => !akB (ak.set (low + i) true) j) = [] := List.filter_eq_nil_iff.2 fun j hj => by
      rw [List.mem_range'_1] at hj
      rw [hack j (by omega)]; simp
    rw [hsp, List.filter_append, hno, List.nil_append]
  have hlow : ((lackN low next (ackAt H i)).head?).getD next = lowD (ak.set (low + i) true) next := by rw [hlk2]; rfl
  rw [hlow]
  obtain ⟨a, b, c⟩ := lowD_spec (ak.set (low + i) true) next
  have hge : low ≤ lowD (ak.set (low + i) true) next := by
    rcases Nat.lt_or_ge (lowD (ak.set (low + i) true) next) low with h | h
    · have := hack _ h
      rw [c (by omega)] at this; cases this
    · exact h
  refine ⟨by rw [List.length_drop, ackAt_len, List.length_set]; omega, a, by rw [List.length_set]; exact hnx, ?_, b, fun j hj => by rw [hset, if_neg (by omega)]; exact q.un j hj, rfl⟩
  rw [List.map_drop, hks, List.drop_drop]
  congr 1; omega
theorem QI.lackN_len (q : QI ak low next H) : (lackN low next H).length = (lackD ak next).length := by rw [lackD_eq q]
/-- One more acknowledged, one less lacks. -/
theorem lackD_set (ak : List Bool) (next j : Nat) (hj : j < next) (hl : j < ak.length) (h : akB ak j = false) : (lackD (ak.set j true) next).length + 1 = (lackD ak next).length := by
  have hset := fun x => akB_set ak j x hl
  unfold lackD
  have hsp : List.range next = List.range' 0 j ++ (j :: List.range' (j + 1) (next - (j + 1))) := by
    rw [List.range_eq_range', ← List.range'_succ, show next - (j + 1) + 1 = next - j by omega]
    have h := List.range'_append_1 (s := 0) (m := j) (n := next - j)
    rw [Nat.zero_add] at h
    rw [h]
    congr 1; omega
  have e1 : (List.range' 0 j).filter (fun x => !akB (ak.set j true) x) = (List.range' 0 j).filter (fun x => !akB ak x) := List.filter_congr fun x hx => by
    rw [List.mem_range'_1] at hx
    rw [hset, if_neg (by omega)]
  have e2 : (List.range' (j + 1) (next - (j + 1))).filter (fun x => !akB (ak.set j true) x) = (List.range' (j + 1) (next - (j + 1))).filter (fun x => !akB ak x) := List.filter_congr fun x hx => by
    rw [List.mem_range'_1] at hx
    rw [hset, if_neg (by omega)]
  rw [hsp, List.filter_append, List.filter_append, e1, List.filter_cons, List.filter_cons, e2, h, hset, if_pos rfl]
  simp only [Bool.not_true, Bool.false_eq_true, if_false, Bool.not_false, if_true, List.length_append, List.length_cons]
  omega
end
end Go.Proofs.Ytdfidijlconhnaa
