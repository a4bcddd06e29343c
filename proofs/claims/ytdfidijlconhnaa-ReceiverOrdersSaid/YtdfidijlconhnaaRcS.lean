/- ReceiverOrders: small things. -/
import Derived.Test.YtdfidijlconhnaaRcP
namespace Go.Proofs.Ytdfidijlconhnaa
open Go.RowKit Asn
attribute [local go_sem] Oper.semAt_some
theorem elt_boolS : Elt Try.prog 39 4 1 1 (.bool false) := elt_of Try.underlying39 (by kernel_rfl) rfl (by omega)
theorem has03 (w : World) (e f : Bool) : Calls Try.prog 40 #[.int .i64 (flOf e f), .int .i64 2] w fun x w' => x = .returned (.bool (hasF (flOf e f) 1)) ∧ w = w' := by
  cases e <;> cases f
  all_goals
    unfold flOf hasF
    go_enter Try.func40, Try.ntmps40
    go_wp2_with fail
    go_ret
    exact ⟨rfl, rfl⟩
theorem takeM_le (win : Nat) (m : RM) (p : Pkt) : (takeM win m p).1.arr ≤ m.arr + 1 ∧ (takeM win m p).1.pen ≤ m.pen + 1 := by
  unfold takeM
  split
  · exact ⟨Nat.le_succ _, Nat.le_succ _⟩
  · split
    · exact ⟨Nat.le_succ _, Nat.le_succ _⟩
    · split
      · exact ⟨Nat.le_succ _, Nat.le_succ _⟩
      · split
        · exact ⟨Nat.le_refl _, Nat.le_refl _⟩
        · refine ⟨Nat.le_refl _, ?_⟩
          dsimp only
          split <;> omega
/-- How long what is told gets. -/
theorem eatA_len (s : RJ × List (List UInt8)) (p : Pkt) : (eatA s p).2.length ≤ s.2.length + 1 := by
  unfold eatA
  dsimp only
  split <;> simp
theorem foldT_len (ql : List Pc) : ∀ k, (foldT ql k).2.length ≤ k
  | 0 => by show ([] : List (List UInt8)).length ≤ 0; simp
  | k + 1 => by
    rw [foldT_succ]
    have h1 := eatA_len (foldT ql k) (pktA ql k)
    have h2 := foldT_len ql k
    omega
theorem rowsOk.app {Y : Asn} {rs qs : List (Option Addr × Nat × Nat)} {a b : List (List UInt8)} (h : rowsOk Y rs a) (h' : rowsOk Y qs b) : rowsOk Y (rs ++ qs) (a ++ b) := by
  refine ⟨by rw [List.length_append, List.length_append, h.1, h'.1], fun i r l x y => ?_⟩
  by_cases hi : i < rs.length
  · rw [List.getElem?_append_left hi] at x
    rw [List.getElem?_append_left (by rw [← h.1]; exact hi)] at y
    exact h.2 i r l x y
  · rw [List.getElem?_append_right (by omega)] at x
    rw [List.getElem?_append_right (by rw [← h.1]; omega), ← h.1] at y
    exact h'.2 _ r l x y
/-- Owned rows, as rows that may be read. -/
def hdsOf (rs : List (Option Addr × Nat × List UInt8)) : List (Option Addr × Nat × Nat) := rs.map fun r => (r.1, r.2.2.length, r.2.1)
theorem hds_hdsOf (rs : List (Option Addr × Nat × List UInt8)) : hds (hdsOf rs) = heads rs := by unfold hds hdsOf heads; rw [List.map_map]; rfl
theorem rowsOk_tails (rs : List (Option Addr × Nat × List UInt8)) (h : ∀ r ∈ rs, r.2.2.length ≤ 9223372036854775807) : rowsOk (tails rs) (hdsOf rs) (rs.map (·.2.2)) := by
  refine ⟨by simp [hdsOf], fun i r l x y => ?_⟩
  unfold hdsOf at x
  rw [List.getElem?_map] at x y
  cases hr : rs[i]? with
  | none => rw [hr] at x; simp at x
  | some r0 =>
    rw [hr] at x y
    simp only [Option.map_some, Option.some.injEq] at x y
    subst x y
    have := rd_tails (F := 1) (List.mem_of_getElem? hr)
    rw [sep_one] at this
    exact ⟨this, h _ (List.mem_of_getElem? hr)⟩
/-- An operation whose run is known. -/
theorem wpList_val {P : Program} {ops : Array Oper} {rest : List Oper} {o : Oper} {a : Act} {w : World} {Q : Exit → Act → World → Prop} (hg : o.guard = none) (v : Value) (h : (execOp a.eval o).run P w = .ok (.value v) w) (hk : wpList P ops Q rest (a.put o.dst v) w) : wpList P ops Q (o :: rest) a w :=
  wpList_plain hg fun K hK => by
    unfold Oper.wp
    rw [h]
    exact hK _ _ hk
theorem wpList_field {P : Program} {ops : Array Oper} {rest : List Oper} {o : Oper} {a : Act} {w : World} {Q : Exit → Act → World → Prop} (hg : o.guard = none) (t : TypeId) (x : Operand) (i : Nat) (_ho : o.op = .field t x i) (v : Value) (h : (execOp a.eval o).run P w = .ok (.value v) w) (hk : wpList P ops Q rest (a.put o.dst v) w) : wpList P ops Q (o :: rest) a w := wpList_val hg v h hk
/-- The settings' cells. -/
def confC (win : Nat) : Array Value := #[.int .i64 3, .int .i64 2, .int .i64 1, .int .i64 2, .int .i64 (win : Nat), .int .i64 4, .int .i64 40, .int .i64 4, .int .i64 6, .int .i64 20, .int .i64 9, .int .i64 6, .int .i64 40, .int .i64 0]
/-- What lies beside the receiver. -/
def OFr (W0 : World) (ps : List PcR) (L : Nat) (A11 : Option Addr) (c11 z zc win : Nat) (A15 : Option Addr) (c15 : Nat) (tr : List (Option Addr × Nat × Nat)) (came : List Bool) (Y : Asn) : Asn :=
  sl 22 1 A15 tr.length c15 (hds tr) * (sl 4 1 (some ⟨zc, 0, none⟩) L L (came.map Value.bool) * (Asn.blk z 72 (confC win) * (sl 79 9 A11 L c11 (pkC (pksR 0 ps)) * (Y * Asn.exact W0))))
/-- How the law stands between two picks. -/
structure OSt (W0 w : World) (g : Nat) (k : RcK) (ql : List Pc) (ps : List PcR) (L : Nat) (A11 : Option Addr) (c11 z zc win i : Nat) (m : RM) (came : List Bool) (next : Nat) (told : List (List UInt8)) (A15 : Option Addr) (c15 : Nat) (tr : List (Option Addr × Nat × Nat)) (P Y : Asn) : Prop where
  inv : OInv win ql m came next told
  rows : rowsOk Y tr told
  pcs : ∀ p ∈ ps, PcOk Y p
  sat : RcSat W0 w g k m P (OFr W0 ps L A11 c11 z zc win A15 c15 tr came Y)
  arr : m.arr ≤ i
  pen : m.pen ≤ i
theorem rowsOk.left {Y X : Asn} {rs : List (Option Addr × Nat × Nat)} {out : List (List UInt8)} (h : rowsOk Y rs out) : rowsOk (Y * X) rs out := by rw [sep_comm]; exact h.right
/-- What becomes of a pick's packet. -/
def PickOut (tb : Bool) (kk next win : Nat) (came came' : List Bool) (fl fl' : Int) (xA : Option Addr) (xl xc : Nat) (pA : Option Addr) (pn pc : Nat) : Prop :=
  (tb = true ∧ came' = came ∧ fl' = fl + 8 ∧ pA = none ∧ pn = 0 ∧ pc = 0) ∨ (tb = false ∧ came' = (if kk < next + win then came.set kk true else came) ∧ fl' = fl ∧ pA = xA ∧ pn = xl ∧ pc = xc)
section
variable {E w : World} {P F : Asn} {g : Nat} {k : RcK} {m : RM}
theorem RcSat.append {Pr : Program} {t ty bytes e z n n' c d : Nat} {A B : Option Addr} {xs ys : List Value} {zv : Value} (el : Elt Pr t e z bytes zv) (h : RcSat E w g k m P (sl e z A n c xs * F)) (hr : RdW w B n' z ys) (h1 : ∀ u ∈ ys, u.oneCell' = true)
    (h63 : n + n' ≤ maxLen) (hby : (n + n') * bytes ≤ 140737488355328) :
    ∃ A' c' w', (Builtin.append_ #[t, t] ty #[.slice A n c, .slice B n' d]).run Pr w = .ok (.slice A' (n + n') c') w' ∧ RcSat E w' g k m P (sl e z A' (n + n') c' (xs ++ ys) * F) := by
  obtain ⟨L, V, ba, j, hI, hb, hok, hs⟩ := h
  obtain ⟨A', c', w', hrun, hs'⟩ := Sat.append (P := Pr) (t := t) (ty := ty) (d := d) el (hs.perm (show _ = sl e z A n c xs * (RcB g k m.next m.arr m.iss m.pen m.done * (MapAt k.mb (rowsP L) * (BitAt k.bb V k.win ba * (JoinAt k.jb j * (P * F))))) by ac_rfl)) hr h1 h63 hby
  exact ⟨A', c', w', hrun, L, V, ba, j, hI, hb, hok, hs'.perm (by ac_rfl)⟩
theorem RcSat.bbslOpen {A : Option Addr} {n c : Nat} {ls : List (List UInt8)} (h : RcSat E w g k m P (bbsl A n c ls * F)) :
    ∃ rs : List (Option Addr × Nat × List UInt8), rs.map (·.2.2) = ls ∧ rs.length = n ∧ (∀ r ∈ rs, r.2.2.length ≤ 9223372036854775807) ∧ RcSat E w g k m P (sl 22 1 A n c (heads rs) * (tails rs * F)) := by
  obtain ⟨L, V, ba, j, hI, hb, hok, hs⟩ := h
  obtain ⟨rs, h1, h2, _, hs'⟩ := (hs.perm (show _ = bbsl A n c ls * (RcB g k m.next m.arr m.iss m.pen m.done * (MapAt k.mb (rowsP L) * (BitAt k.bb V k.win ba * (JoinAt k.jb j * (P * F))))) by ac_rfl)).bbslOpen
  refine ⟨rs, h1, h2, fun r hr => ?_, L, V, ba, j, hI, hb, hok, hs'.perm (by ac_rfl)⟩
  obtain ⟨i, hi, rfl⟩ := List.mem_iff_getElem.1 hr
  obtain ⟨R, hR⟩ := tails_at (List.getElem?_eq_getElem hi)
  have h3 := hs'.f2
  rw [hR] at h3
  have h4 := h3.asc.slLen
  have h5 : (bytes rs[i].2.2).length = rs[i].2.2.length := by unfold bytes; rw [List.length_map]
  unfold maxLen at h4
  omega
end
end Go.Proofs.Ytdfidijlconhnaa
