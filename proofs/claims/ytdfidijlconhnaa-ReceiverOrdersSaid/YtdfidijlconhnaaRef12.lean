/- The reference's join: what its functions answer, over memory that is only read. -/
import Derived.Test.YtdfidijlconhnaaJoin
import Derived.Deep.DeepCutAuto
import Derived.Deep.CutBlock
import Derived.Test.YtdfidijlconhnaaReg
namespace Go.Proofs.Ytdfidijlconhnaa
open Go.RowKit Asn

structure RJ where
  opn : List UInt8
  parts : Int
  n : Int
  bytes : Int
/-- The reference's step: what stands behind it, the message, is it one, the error. -/
def RJ.add (j : RJ) (p : List UInt8) (e : Bool) : RJ × List UInt8 × Bool × Int :=
  if p.length = 0 then (j, [], false, 120)
  else if 65536 < j.opn.length + p.length then (j, [], false, 2)
  else if e then (⟨[], 0, wrap64 (j.n + 1), wrap64 (j.bytes + (j.opn ++ p).length)⟩, j.opn ++ p, true, 0)
  else (⟨j.opn ++ p, wrap64 (j.parts + 1), j.n, j.bytes⟩, [], false, 0)

theorem rdlen {G : Asn} {E w : World} {A : Option Addr} {n : Nat} {l : List UInt8} (hs : Sat E w G) (h : rd G 1 A n (bytes l)) : l.length = n := by
  have := (RdW.of_rd h hs).1
  rw [length_bytes] at this
  omega

set_option maxRecDepth 100000 in
theorem refAdd_same (E w : World) (F : Asn) (A B : Option Addr) (n c m d : Nat) (a b k : Int) (x : Bool) (er : Int) (hs : Sat E w F) (hc : n ≤ 65536) (hm : m ≤ 9223372036854775807)
    (h : (m = 0 ∧ er = 120) ∨ (0 < m ∧ 65536 < n + m ∧ er = 2)) :
    Calls Try.prog 80 #[.agg #[.slice A n c, .int .i64 a, .int .i64 b, .int .i64 k], .slice B m d, .bool x] w fun e w' =>
      e = .returned (.tuple #[.agg #[.slice A n c, .int .i64 a, .int .i64 b, .int .i64 k], .slice none 0 0, .bool false, .int .i64 er]) ∧ Sat E w' F := by
  rcases h with ⟨rfl, rfl⟩ | ⟨h0, h1, rfl⟩
  · go_enter Try.func80, Try.ntmps80
    go_wp2_with fail
    exact bodyPost_ret (v := .tuple #[.agg #[.slice A n c, .int .i64 a, .int .i64 b, .int .i64 k], .slice none 0 0, .bool false, .int .i64 _]) (by simp [results, Try.results80, go_sem]) rfl ⟨rfl, (hs.allocKeep _).allocKeep _⟩
  · go_enter Try.func80, Try.ntmps80
    go_wp2_with fail
    exact bodyPost_ret (v := .tuple #[.agg #[.slice A n c, .int .i64 a, .int .i64 b, .int .i64 k], .slice none 0 0, .bool false, .int .i64 _]) (by simp [results, Try.results80, go_sem]) rfl ⟨rfl, (hs.allocKeep _).allocKeep _⟩

/-- What the two appends leave. -/
theorem refAll_app (E w : World) (F : Asn) (A B : Option Addr) (n c m d : Nat) (l p : List UInt8) (hs : Sat E w F) (hl : rd F 1 A n (bytes l)) (hp : rd F 1 B m (bytes p)) (hnm : n + m ≤ 65536) :
    ∃ A1 c1 w1 A2 c2 w2, (Builtin.append_ #[22, 22] 22 #[.slice (some ⟨w.heap.size, 0, none⟩) 0 0, .slice A n c]).run Try.prog (w.alloc (.cells #[] 5)) = .ok (.slice A1 n c1) w1 ∧
      (Builtin.append_ #[22, 22] 22 #[.slice A1 n c1, .slice B m d]).run Try.prog w1 = .ok (.slice A2 (n + m) c2) w2 ∧ Sat E w1 F ∧ Sat E w2 (bsl A2 (n + m) c2 (l ++ p) * F) := by
  have h0 : Sat E (w.alloc (.cells #[] 5)) (sl 5 1 (some ⟨w.heap.size, 0, none⟩) 0 0 [] * F) :=
    Sat.slMk (hs.alloc #[] 5) (by simp) (Nat.le_refl _) (Nat.zero_le _) (by simp) (by intro j u hu; simp at hu)
  obtain ⟨A1, c1, w1, r1, h1⟩ := Sat.append (P := Try.prog) (t := 22) (ty := 22) (d := c) elt_bytes h0 (RdW.of_rd hl h0.right) oneCell_bytes (by unfold maxLen; omega) (by omega)
  rw [Nat.zero_add] at r1 h1
  rw [List.nil_append] at h1
  obtain ⟨A2, c2, w2, r2, h2⟩ := Sat.append (P := Try.prog) (t := 22) (ty := 22) (d := d) elt_bytes h1 (RdW.of_rd hp h1.right) oneCell_bytes (by unfold maxLen; omega) (by omega)
  refine ⟨A1, c1, w1, A2, c2, w2, r1, r2, h1.right, ?_⟩
  have : bytes (l ++ p) = bytes l ++ bytes p := by unfold bytes; rw [List.map_append]
  unfold bsl
  rw [this]
  exact h2

set_option maxRecDepth 100000 in
theorem refAdd_more (E w : World) (F : Asn) (A B : Option Addr) (n c m d : Nat) (a b k : Int) (l p : List UInt8) (hs : Sat E w F) (hl : rd F 1 A n (bytes l)) (hp : rd F 1 B m (bytes p)) (h0 : 0 < m) (hnm : n + m ≤ 65536) :
    Calls Try.prog 80 #[.agg #[.slice A n c, .int .i64 a, .int .i64 b, .int .i64 k], .slice B m d, .bool false] w fun e w' => ∃ A2 c2,
      e = .returned (.tuple #[.agg #[.slice A2 (n + m) c2, .int .i64 (wrap64 (a + 1)), .int .i64 b, .int .i64 k], .slice none 0 0, .bool false, .int .i64 0]) ∧ Sat E w' (bsl A2 (n + m) c2 (l ++ p) * F) := by
  have hs2 := (hs.alloc #[.slice A n c, .int .i64 a, .int .i64 b, .int .i64 k] 94).alloc #[.slice none 0 0, .int .i64 0, .int .i64 0, .int .i64 0] 94
  obtain ⟨A1, c1, w1, A2, c2, w2, r1, r2, h1, h2⟩ := refAll_app E _ _ A B n c m d l p hs2 hl.right.right hp.right.right hnm
  have e1 : w2.cell? ⟨w.heap.size, 1, none⟩ = some (.int .i64 a) := h2.f3.cell 1
  have e2 : w2.cell? ⟨w.heap.size, 2, none⟩ = some (.int .i64 b) := h2.f3.cell 2
  have e3 : w2.cell? ⟨w.heap.size, 3, none⟩ = some (.int .i64 k) := h2.f3.cell 3
  have hs3 := h2.f2
  rw [World.size_alloc] at hs3
  have q0 : w2.cell? ⟨w.heap.size + 1, 0, none⟩ = some (.slice none 0 0) := hs3.cell 0
  have q1 : w2.cell? ⟨w.heap.size + 1, 1, none⟩ = some (.int .i64 0) := hs3.cell 1
  have q2 : w2.cell? ⟨w.heap.size + 1, 2, none⟩ = some (.int .i64 0) := hs3.cell 2
  have q3 : w2.cell? ⟨w.heap.size + 1, 3, none⟩ = some (.int .i64 0) := hs3.cell 3
  have f0 : ∀ j, w2.frozen? ⟨w.heap.size + 1, j, none⟩ = false := fun j => hs3.frozen j
  simp only [World.size_alloc] at r1
  have R1 := Lib.hid r1
  have R2 := Lib.hid r2
  clear r1 r2
  go_enter Try.func80, Try.ntmps80
  go_wp2_with (first
    | (at_builtin; refine wpList_appendR rfl (.tmp 23) (.tmp 25) rfl rfl rfl R1.out ?_)
    | (at_builtin; refine wpList_appendR rfl (.tmp 26) (.tmp 27) rfl rfl rfl R2.out ?_))
  have hx := (((hs3.set 0 (.slice A2 (n + m) c2)).set 1 (.int .i64 (wrap64 (a + 1)))).set 2 (.int .i64 b)).set 3 (.int .i64 k)
  exact bodyPost_ret (results_cell4 rfl _ _ _ _ _ _ _ rfl hx.blk Try.underlying94 rfl (by kernel_rfl)) rfl ⟨A2, c2, rfl, hx.f2.perm rfl |>.f3.right.f2.right⟩

set_option maxRecDepth 100000 in
theorem refAdd_end (E w : World) (F : Asn) (A B : Option Addr) (n c m d : Nat) (a b k : Int) (l p : List UInt8) (hs : Sat E w F) (hl : rd F 1 A n (bytes l)) (hp : rd F 1 B m (bytes p)) (h0 : 0 < m) (hnm : n + m ≤ 65536) :
    Calls Try.prog 80 #[.agg #[.slice A n c, .int .i64 a, .int .i64 b, .int .i64 k], .slice B m d, .bool true] w fun e w' => ∃ A2 c2,
      e = .returned (.tuple #[.agg #[.slice none 0 0, .int .i64 0, .int .i64 (wrap64 (b + 1)), .int .i64 (wrap64 (k + (n + m : Nat)))], .slice A2 (n + m) c2, .bool true, .int .i64 0]) ∧ Sat E w' (bsl A2 (n + m) c2 (l ++ p) * F) := by
  have hs2 := (hs.alloc #[.slice A n c, .int .i64 a, .int .i64 b, .int .i64 k] 94).alloc #[.slice none 0 0, .int .i64 0, .int .i64 0, .int .i64 0] 94
  obtain ⟨A1, c1, w1, A2, c2, w2, r1, r2, h1, h2⟩ := refAll_app E _ _ A B n c m d l p hs2 hl.right.right hp.right.right hnm
  have e1 : w2.cell? ⟨w.heap.size, 1, none⟩ = some (.int .i64 a) := h2.f3.cell 1
  have e2 : w2.cell? ⟨w.heap.size, 2, none⟩ = some (.int .i64 b) := h2.f3.cell 2
  have e3 : w2.cell? ⟨w.heap.size, 3, none⟩ = some (.int .i64 k) := h2.f3.cell 3
  have hs3 := h2.f2
  rw [World.size_alloc] at hs3
  have q0 : w2.cell? ⟨w.heap.size + 1, 0, none⟩ = some (.slice none 0 0) := hs3.cell 0
  have q1 : w2.cell? ⟨w.heap.size + 1, 1, none⟩ = some (.int .i64 0) := hs3.cell 1
  have q2 : w2.cell? ⟨w.heap.size + 1, 2, none⟩ = some (.int .i64 0) := hs3.cell 2
  have q3 : w2.cell? ⟨w.heap.size + 1, 3, none⟩ = some (.int .i64 0) := hs3.cell 3
  have f0 : ∀ j, w2.frozen? ⟨w.heap.size + 1, j, none⟩ = false := fun j => hs3.frozen j
  simp only [World.size_alloc] at r1
  have R1 := Lib.hid r1
  have R2 := Lib.hid r2
  clear r1 r2
  go_enter Try.func80, Try.ntmps80
  go_wp2_with (first
    | (at_builtin; refine wpList_appendR rfl (.tmp 23) (.tmp 25) rfl rfl rfl R1.out ?_)
    | (at_builtin; refine wpList_appendR rfl (.tmp 26) (.tmp 27) rfl rfl rfl R2.out ?_))
  have hx := (((hs3.set 0 (.slice none 0 0)).set 1 (.int .i64 0)).set 2 (.int .i64 (wrap64 (b + 1)))).set 3 (.int .i64 (wrap64 (k + (n + m : Nat))))
  exact bodyPost_ret (results_cell4 rfl _ _ _ _ _ _ _ rfl hx.blk Try.underlying94 rfl (by kernel_rfl)) rfl ⟨A2, c2, rfl, hx.f2.perm rfl |>.f3.right.f2.right⟩

theorem refLast (w : World) (A : Option Addr) (n c : Nat) (l : List Bool) (i : Nat) (hr : RdW w A n 1 (l.map Value.bool)) (hn : n ≤ 9223372036854775807) :
    Calls Try.prog 81 #[.slice A n c, .int .i64 i] w fun e w' => e = .returned (.bool (l.getD i false)) ∧ w' = w := by
  have hl : l.length = n := by have := hr.1; rw [List.length_map] at this; omega
  by_cases hlt : i < n
  · have hc : l[i]? = some (l.getD i false) := by rw [List.getElem?_eq_getElem (by omega)]; simp [List.getD, List.getElem?_eq_getElem (show i < l.length by omega)]
    generalize l.getD i false = b at *
    obtain ⟨ad, rfl, hcell⟩ := hr.at_ (j := i) (u := .bool b) (by rw [List.getElem?_map, hc]; rfl)
    clear hc
    go_enter Try.func81, Try.ntmps81
    go_wp2
    go_ret
    exact ⟨rfl, rfl⟩
  · have hc : l.getD i false = false := by simp [List.getD, List.getElem?_eq_none (show l.length ≤ i by omega)]
    rw [hc]
    go_enter Try.func81, Try.ntmps81
    go_wp2
    go_ret
    exact ⟨rfl, rfl⟩

/-- Slices' values, by address, length, capacity. -/
def hds (rs : List (Option Addr × Nat × Nat)) : List Value := rs.map fun r => .slice r.1 r.2.1 r.2.2
/-- A slice of slices of bytes that may be read as long as G stays. -/
def rdRows (G : Asn) (A : Option Addr) (n : Nat) (ls : List (List UInt8)) : Prop :=
  ∃ rs : List (Option Addr × Nat × Nat), rs.length = n ∧ ls.length = n ∧ rd G 1 A n (hds rs) ∧ ∀ (i : Nat) (r : Option Addr × Nat × Nat) (l : List UInt8), rs[i]? = some r → ls[i]? = some l → rd G 1 r.1 r.2.1 (bytes l) ∧ r.2.1 ≤ 9223372036854775807
theorem rdRows.right {G X : Asn} {A : Option Addr} {n : Nat} {ls : List (List UInt8)} (h : rdRows G A n ls) : rdRows (X * G) A n ls := by
  obtain ⟨rs, h1, h2, h3, h4⟩ := h
  exact ⟨rs, h1, h2, h3.right, fun i r l a b => ⟨(h4 i r l a b).1.right, (h4 i r l a b).2⟩⟩
/-- An owned one may be read as long as it stays. -/
theorem rdRows.own {A : Option Addr} {n c : Nat} {rs : List (Option Addr × Nat × List UInt8)} (hn : rs.length = n) (hb : ∀ r ∈ rs, r.2.2.length ≤ 9223372036854775807) :
    rdRows (sl 22 1 A n c (heads rs) * tails rs) A n (rs.map (·.2.2)) := by
  refine ⟨rs.map fun r : Option Addr × Nat × List UInt8 => (r.1, r.2.2.length, r.2.1), by simp [hn], by simp [hn], ?_, fun i r l hr hl => ?_⟩
  · have : hds (rs.map fun r : Option Addr × Nat × List UInt8 => (r.1, r.2.2.length, r.2.1)) = heads rs := by simp [hds, heads]
    rw [this]
    exact rd_sl.left
  · rw [List.getElem?_map] at hr hl
    cases hq : rs[i]? with
    | none => rw [hq] at hr; cases hr
    | some q =>
      rw [hq] at hr hl
      have hr : (q.1, q.2.2.length, q.2.1) = r := by simpa using hr
      have hl : q.2.2 = l := by simpa using hl
      subst hr hl
      obtain ⟨R, hR⟩ := tails_at hq
      refine ⟨?_, hb q (List.mem_of_getElem? hq)⟩
      rw [hR, bsl, ← sep_assoc, sep_comm (sl _ _ _ _ _ _), sep_assoc]
      exact (rd_sl (e := 5) (c := q.2.1)).left
theorem rdRows.at_ {G : Asn} {E w : World} {A : Option Addr} {n i : Nat} {ls : List (List UInt8)} {l : List UInt8} (h : rdRows G A n ls) (hs : Sat E w G) (hi : ls[i]? = some l) :
    ∃ ad r m c, A = some ad ∧ w.cell? (ad.add i) = some (.slice r m c) ∧ rd G 1 r m (bytes l) ∧ m ≤ 9223372036854775807 ∧ l.length = m := by
  obtain ⟨rs, h1, h2, h3, h4⟩ := h
  have hin := (List.getElem?_eq_some_iff.1 hi).1
  have hri : rs[i]? = some rs[i] := List.getElem?_eq_getElem (by omega)
  obtain ⟨ad, hA, hc⟩ := (RdW.of_rd h3 hs).at_ (j := i) (u := .slice rs[i].1 rs[i].2.1 rs[i].2.2) (by rw [hds, List.getElem?_map, hri]; rfl)
  obtain ⟨h5, h6⟩ := h4 i _ _ hri hi
  exact ⟨ad, _, _, _, hA, hc, h5, h6, rdlen hs h5⟩

theorem rdRows.atR {G : Asn} {E w : World} {A : Option Addr} {n i : Nat} {ls : List (List UInt8)} {l : List UInt8} (h : rdRows G A n ls) (hs : Sat E w G) (hi : ls[i]? = some l) :
    ∃ ad r m c, A = some ad ∧ (∀ W, Sat E W G → W.cell? (ad.add i) = some (.slice r m c)) ∧ rd G 1 r m (bytes l) ∧ m ≤ 9223372036854775807 ∧ l.length = m := by
  obtain ⟨rs, h1, h2, h3, h4⟩ := h
  have hin := (List.getElem?_eq_some_iff.1 hi).1
  have hri : rs[i]? = some rs[i] := List.getElem?_eq_getElem (by omega)
  obtain ⟨h5, h6⟩ := h4 i _ _ hri hi
  have hat : ∀ W, Sat E W G → ∃ ad, A = some ad ∧ W.cell? (ad.add i) = some (.slice rs[i].1 rs[i].2.1 rs[i].2.2) := fun W hW => (RdW.of_rd h3 hW).at_ (j := i) (by rw [hds, List.getElem?_map, hri]; rfl)
  obtain ⟨ad, hA, _⟩ := hat w hs
  refine ⟨ad, rs[i].1, rs[i].2.1, rs[i].2.2, hA, fun W hW => ?_, h5, h6, rdlen hs h5⟩
  obtain ⟨ad', hA', hc⟩ := hat W hW
  rw [hA] at hA'
  injection hA' with hA'
  subst hA'
  exact hc
/-- The messages of parts, from the i-th on, so much open, so many told: those told, how many parts went, the error. -/
def allF (ends : List Bool) : Nat → List (List UInt8) → List UInt8 → List (List UInt8) → List (List UInt8) × Nat × Int
  | i, [], _, out => (out, i, 0)
  | i, p :: ps, o, out =>
    if p.length = 0 then (out, i, 120) else if 65536 < o.length + p.length then (out, i, 2)
    else if ends.getD i false then allF ends (i + 1) ps [] (out ++ [o ++ p]) else allF ends (i + 1) ps (o ++ p) out
theorem drop_of {α : Type} {l : List α} {k : Nat} {x : α} (h : l[k]? = some x) : l.drop k = x :: l.drop (k + 1) := by
  obtain ⟨hk, rfl⟩ := List.getElem?_eq_some_iff.1 h
  exact List.drop_eq_getElem_cons hk

/-- Headers' rows, each of which may be read. -/
def rowsOk (Y : Asn) (rs : List (Option Addr × Nat × Nat)) (out : List (List UInt8)) : Prop :=
  rs.length = out.length ∧ ∀ (i : Nat) (r : Option Addr × Nat × Nat) (l : List UInt8), rs[i]? = some r → out[i]? = some l → rd Y 1 r.1 r.2.1 (bytes l) ∧ r.2.1 ≤ 9223372036854775807
theorem rowsOk.right {Y X : Asn} {rs : List (Option Addr × Nat × Nat)} {out : List (List UInt8)} (h : rowsOk Y rs out) : rowsOk (X * Y) rs out := ⟨h.1, fun i r l a b => ⟨(h.2 i r l a b).1.right, (h.2 i r l a b).2⟩⟩
theorem rowsOk.snoc {Y : Asn} {rs : List (Option Addr × Nat × Nat)} {out : List (List UInt8)} {r : Option Addr × Nat × Nat} {l : List UInt8} (h : rowsOk Y rs out) (hr : rd Y 1 r.1 r.2.1 (bytes l)) (hl : r.2.1 ≤ 9223372036854775807) : rowsOk Y (rs ++ [r]) (out ++ [l]) := by
  refine ⟨by simp [h.1], fun i r' l' a b => ?_⟩
  by_cases hi : i < rs.length
  · rw [List.getElem?_append_left hi] at a
    rw [List.getElem?_append_left (by rw [← h.1]; exact hi)] at b
    exact h.2 i r' l' a b
  · rw [List.getElem?_append_right (by omega)] at a
    rw [List.getElem?_append_right (by rw [← h.1]; omega)] at b
    rw [← h.1] at b
    cases hj : i - rs.length with
    | zero =>
      rw [hj] at a b
      have a : r = r' := by simpa using a
      have b : l = l' := by simpa using b
      subst a b
      exact ⟨hr, hl⟩
    | succ j => rw [hj] at a; simp at a
theorem rowsOk.rows {Y X : Asn} {rs : List (Option Addr × Nat × Nat)} {out : List (List UInt8)} {A : Option Addr} {n : Nat} (h : rowsOk Y rs out) (hr : rd X 1 A n (hds rs)) (hn : rs.length = n) : rdRows (X * Y) A n out :=
  ⟨rs, hn, by rw [← h.1]; exact hn, hr.left, fun i r l a b => ⟨(h.2 i r l a b).1.right, (h.2 i r l a b).2⟩⟩
theorem elt_rows_of : Elt Try.prog 67 22 1 24 (.slice none 0 0) := elt_rows

theorem rd_bsl {A : Option Addr} {n c : Nat} {l : List UInt8} {G : Asn} : rd (bsl A n c l * G) 1 A n (bytes l) := (rd_sl (e := 5) (c := c)).left

/-- Add, whatever comes. -/
theorem refAdd_any (E w : World) (M G : Asn) (A B : Option Addr) (n c m d : Nat) (a b k : Int) (l p : List UInt8) (x : Bool) (hs : Sat E w (M * G)) (hl : rd G 1 A n (bytes l)) (hp : rd G 1 B m (bytes p)) (hn : n ≤ 65536) (hm : m ≤ 9223372036854775807) :
    Calls Try.prog 80 #[.agg #[.slice A n c, .int .i64 a, .int .i64 b, .int .i64 k], .slice B m d, .bool x] w fun e w' => ∃ X A' n' c' A2 n2 c2,
      e = .returned (.tuple #[.agg #[.slice A' n' c', .int .i64 (RJ.add ⟨l, a, b, k⟩ p x).1.parts, .int .i64 (RJ.add ⟨l, a, b, k⟩ p x).1.n, .int .i64 (RJ.add ⟨l, a, b, k⟩ p x).1.bytes], .slice A2 n2 c2, .bool (RJ.add ⟨l, a, b, k⟩ p x).2.2.1, .int .i64 (RJ.add ⟨l, a, b, k⟩ p x).2.2.2]) ∧
      Sat E w' (M * (X * G)) ∧ rd (X * G) 1 A' n' (bytes (RJ.add ⟨l, a, b, k⟩ p x).1.opn) ∧ rd (X * G) 1 A2 n2 (bytes (RJ.add ⟨l, a, b, k⟩ p x).2.1) ∧ n' ≤ 65536 ∧ n2 ≤ 65536 := by
  have hll := rdlen hs.right hl
  have hpl := rdlen hs.right hp
  by_cases h0 : m = 0
  · have hr : RJ.add ⟨l, a, b, k⟩ p x = (⟨l, a, b, k⟩, [], false, 120) := by unfold RJ.add; rw [if_pos (by omega)]
    rw [hr]
    refine (refAdd_same E w _ A B n c m d a b k x 120 hs hn hm (.inl ⟨h0, rfl⟩)).mono fun e w' ⟨he, hs'⟩ => ?_
    exact ⟨1, A, n, c, none, 0, 0, he, hs'.perm (by rw [one_sep]), hl.right, rd.nil _ _ _, hn, by omega⟩
  · by_cases h1 : 65536 < n + m
    · have hr : RJ.add ⟨l, a, b, k⟩ p x = (⟨l, a, b, k⟩, [], false, 2) := by unfold RJ.add; rw [if_neg (by omega), if_pos (by dsimp only; omega)]
      rw [hr]
      refine (refAdd_same E w _ A B n c m d a b k x 2 hs hn hm (.inr ⟨by omega, h1, rfl⟩)).mono fun e w' ⟨he, hs'⟩ => ?_
      exact ⟨1, A, n, c, none, 0, 0, he, hs'.perm (by rw [one_sep]), hl.right, rd.nil _ _ _, hn, by omega⟩
    · cases x with
      | true =>
        have hr : RJ.add ⟨l, a, b, k⟩ p true = (⟨[], 0, wrap64 (b + 1), wrap64 (k + (n + m : Nat))⟩, l ++ p, true, 0) := by
          unfold RJ.add; rw [if_neg (by omega), if_neg (by dsimp only; omega), if_pos rfl]
          simp only [List.length_append, hll, hpl]
        rw [hr]
        refine (refAdd_end E w _ A B n c m d a b k l p hs hl.right hp.right (by omega) (by omega)).mono fun e w' ⟨A2, c2, he, hs'⟩ => ?_
        exact ⟨bsl A2 (n + m) c2 (l ++ p), none, 0, 0, A2, n + m, c2, he, hs'.f2, rd.nil _ _ _, rd_bsl, by omega, by omega⟩
      | false =>
        have hr : RJ.add ⟨l, a, b, k⟩ p false = (⟨l ++ p, wrap64 (a + 1), b, k⟩, [], false, 0) := by
          unfold RJ.add; rw [if_neg (by omega), if_neg (by dsimp only; omega), if_neg (by simp)]
        rw [hr]
        refine (refAdd_more E w _ A B n c m d a b k l p hs hl.right hp.right (by omega) (by omega)).mono fun e w' ⟨A2, c2, he, hs'⟩ => ?_
        exact ⟨bsl A2 (n + m) c2 (l ++ p), A2, n + m, c2, none, 0, 0, he, hs'.f2, rd_bsl, rd.nil _ _ _, by omega, by omega⟩
theorem allF_step (es : List Bool) (i : Nat) (p : List UInt8) (ps : List (List UInt8)) (o : List UInt8) (out : List (List UInt8)) (a b k : Int) :
    allF es i (p :: ps) o out = if (RJ.add ⟨o, a, b, k⟩ p (es.getD i false)).2.2.2 = 0 then
      allF es (i + 1) ps (RJ.add ⟨o, a, b, k⟩ p (es.getD i false)).1.opn (if (RJ.add ⟨o, a, b, k⟩ p (es.getD i false)).2.2.1 then out ++ [(RJ.add ⟨o, a, b, k⟩ p (es.getD i false)).2.1] else out)
      else (out, i, (RJ.add ⟨o, a, b, k⟩ p (es.getD i false)).2.2.2) := by
  unfold RJ.add
  rw [allF]
  by_cases h0 : p.length = 0
  · rw [if_pos h0, if_pos h0, if_neg (show ¬ ((120 : Int) = 0) by decide)]
  · rw [if_neg h0, if_neg h0]
    by_cases h1 : 65536 < o.length + p.length
    · rw [if_pos h1, if_pos h1, if_neg (show ¬ ((2 : Int) = 0) by decide)]
    · rw [if_neg h1, if_neg h1]
      by_cases h2 : es.getD i false = true
      · rw [if_pos h2, if_pos h2, if_pos rfl, if_pos rfl]
      · rw [if_neg h2, if_neg h2, if_pos rfl, if_neg (by simp)]

set_option maxRecDepth 100000 in
theorem refAll (E w : World) (G : Asn) (A B : Option Addr) (n c m d : Nat) (ls : List (List UInt8)) (es : List Bool) (hs : Sat E w G) (hl : rdRows G A n ls) (he : rd G 1 B m (es.map Value.bool)) (hn : n ≤ 65536) (hm : m ≤ 9223372036854775807) :
    Calls Try.prog 41 #[.slice A n c, .slice B m d] w fun e w' => ∃ X A2 c2,
      e = .returned (.tuple #[.slice A2 (allF es 0 ls [] []).1.length c2, .int .i64 (allF es 0 ls [] []).2.1, .int .i64 (allF es 0 ls [] []).2.2]) ∧ Sat E w' (X * G) ∧ rdRows (X * G) A2 (allF es 0 ls [] []).1.length (allF es 0 ls [] []).1 := by
  have hlen : ls.length = n := by obtain ⟨rs, _, h, _⟩ := hl; exact h
  have HLEN := Lib.hid hlen
  clear hlen
  go_enter Try.func41, Try.ntmps41
  go_wp2_with fail
  go_loopw [8, 9] (fun so i wr => ∃ (X : Asn) (jA oA : Option Addr) (jn jc oc k : Nat) (jp jN jB : Int) (rs : List (Option Addr × Nat × Nat)) (out : List (List UInt8)) (op : List UInt8),
      so = .slice oA rs.length oc ∧ i = .int .i64 k ∧ k ≤ n ∧ rs.length ≤ k ∧ jn ≤ 65536 ∧ rowsOk (X * G) rs out ∧ rd (X * G) 1 jA jn (bytes op) ∧ Hid (allF es k (ls.drop k) op out = allF es 0 ls [] []) ∧
      Sat E wr (Asn.blk w.heap.size 94 #[.slice jA jn jc, .int .i64 jp, .int .i64 jN, .int .i64 jB] * (sl 22 1 oA rs.length oc (hds rs) * (X * G))))
    (fun _ i _ => n - (intOf i).toNat)
  case atStart =>
    refine ⟨1, none, none, 0, 0, 0, 0, 0, 0, 0, [], [], [], rfl, rfl, Nat.zero_le _, Nat.le_refl _, by omega, ⟨rfl, fun i r l a => by simp at a⟩, rd.nil _ _ _, rfl, ?_⟩
    refine Sat.f2 (Sat.slNil ?_)
    rw [one_sep]
    exact hs.alloc _ _
  case round =>
    obtain ⟨X, jA, oA, jn, jc, oc, k, jp, jN, jB, rs, out, op, rfl, rfl, hk, hrk, hjn, hok, hop, HF, hsr⟩ := hrel
    by_cases hlt : k < n
    · have hkl : k < ls.length := by rw [HLEN.out]; exact hlt
      have hlk : ls[k]? = some ls[k] := List.getElem?_eq_getElem hkl
      generalize ls[k] = p at hlk
      have hXG := hsr.right.right
      obtain ⟨ad, pA, pn, pc, rfl, hcell0, hpr, hpn, hpl⟩ := (hl.right (X := X)).atR hXG hlk
      have hcell : wr.cell? (ad.add k) = some (.slice pA pn pc) := hcell0 wr hXG
      have HCL : Hid (∀ W, Sat E W (Asn.blk w.heap.size 94 #[.slice jA jn jc, .int .i64 jp, .int .i64 jN, .int .i64 jB] * (sl 22 1 oA rs.length oc (hds rs) * (X * G))) → W.cell? (ad.add k) = some (.slice pA pn pc)) := fun W hW => hcell0 W hW.right.right
      clear hcell0
      have hlast := hide (fun W (h : Sat E W (X * G)) => refLast W B m d es k (RdW.of_rd he.right h) hm)
      obtain ⟨x, hx⟩ : ∃ x, x = es.getD k false := ⟨_, rfl⟩
      rw [← hx] at hlast
      have HX := Lib.hid hx
      clear hx
      have c0 : wr.cell? ⟨w.heap.size, 0, none⟩ = some (.slice jA jn jc) := hsr.cell 0
      have c1 : wr.cell? ⟨w.heap.size, 1, none⟩ = some (.int .i64 jp) := hsr.cell 1
      have c2 : wr.cell? ⟨w.heap.size, 2, none⟩ = some (.int .i64 jN) := hsr.cell 2
      have c3 : wr.cell? ⟨w.heap.size, 3, none⟩ = some (.int .i64 jB) := hsr.cell 3
      have HLK := Lib.hid hlk
      have HPL := Lib.hid hpl
      clear hlk hpl
      go_wp2_with fail
      refine wp_region_sl (Q := _) (E := E) (fun W => Sat E W (Asn.blk w.heap.size 94 #[.slice jA jn jc, .int .i64 jp, .int .i64 jN, .int .i64 jB] * (sl 22 1 oA rs.length oc (hds rs) * (X * G)))) [8, 15] [7] [14]
        (fun _ => (94, #[.slice none 0 0, .int .i64 0, .int .i64 0, .int .i64 0], fun g => .pointer (some ⟨g, 0, none⟩))) [0, 1, 2, 3, 4, 5, 6, 7, 8, 9, 10, 11, 12, 13, 14, 15, 16, 17, 18] (by kernel_rfl) (by kernel_rfl) hsr (fun W R h => h.left) ?_
      iterate 7
        refine wpS_f _ rfl rfl (v := ?_) ?_ ?_
        rotate_left
        · intro W hW
          have c0 : W.cell? ⟨w.heap.size, 0, none⟩ = some (.slice jA jn jc) := hW.cell 0
          have c1 : W.cell? ⟨w.heap.size, 1, none⟩ = some (.int .i64 jp) := hW.cell 1
          have c2 : W.cell? ⟨w.heap.size, 2, none⟩ = some (.int .i64 jN) := hW.cell 2
          have c3 : W.cell? ⟨w.heap.size, 3, none⟩ = some (.int .i64 jB) := hW.cell 3
          have c4 : W.cell? (ad.add k) = some (.slice pA pn pc) := (HCL.out) W hW
          go_simp
          rfl
        go_simp
      refine wpS_c _ rfl rfl (v := .bool x) (freeC_call rfl (fun W => by go_simp) (fun W hW => (unhide hlast W hW.right.right).mono fun e w' ⟨he, hw⟩ => ⟨he, hw ▸ Below.refl _ _⟩)) ?_
      go_simp
      refine wpS_e _ rfl rfl (fun W R hW => ?_)
      have hW2 : Sat E W ((Asn.blk w.heap.size 94 #[.slice jA jn jc, .int .i64 jp, .int .i64 jN, .int .i64 jB] * (sl 22 1 oA rs.length oc (hds rs) * R)) * (X * G)) := hW.perm (by ac_rfl)
      refine stp_call rfl (by go_simp) ((refAdd_any E W _ _ jA pA jn jc pn pc jp jN jB op p x hW2 hop hpr hjn hpn).mono ?_)
      rintro e w2 ⟨X2, A2, n2, c2, A3, n3, c3, rfl, hs3, hr2, hr3, hn2, hn3⟩
      refine ⟨_, rfl, Asn.blk w.heap.size 94 #[.slice jA jn jc, .int .i64 jp, .int .i64 jN, .int .i64 jB] * (sl 22 1 oA rs.length oc (hds rs) * (X2 * (X * G))), fun W R h => (h.left.perm (by ac_rfl) : Sat E W (X2 * _)).right, hs3.perm (by ac_rfl), ?_⟩
      obtain ⟨q, hq⟩ : ∃ q, q = RJ.add ⟨op, jp, jN, jB⟩ p x := ⟨_, rfl⟩
      rw [← hq]
      rw [← hq] at hr2 hr3
      obtain ⟨⟨q1, q2, q3, q4⟩, q5, q6, q7⟩ := q
      have HQ := Lib.hid hq
      clear hq
      dsimp only at hr2 hr3 ⊢
      go_simp
      iterate 5
        refine wpS_f _ rfl rfl (v := ?_) ?_ ?_
        rotate_left
        · intro W hW
          go_simp
          rfl
        go_simp
      refine wpS_a _ rfl rfl (fun W => by unfold stp; go_simp; exact ⟨rfl, rfl⟩) (fun g => ?_)
      go_simp
      refine wpS_e _ rfl rfl (fun W R hW => ?_)
      have g0 : W.cell? ⟨g, 0, none⟩ = some (.slice none 0 0) := hW.asc.cell 0
      have g1 : W.cell? ⟨g, 1, none⟩ = some (.int .i64 0) := hW.asc.cell 1
      have g2 : W.cell? ⟨g, 2, none⟩ = some (.int .i64 0) := hW.asc.cell 2
      have g3 : W.cell? ⟨g, 3, none⟩ = some (.int .i64 0) := hW.asc.cell 3
      have g4 : ∀ i, W.frozen? ⟨g, i, none⟩ = false := fun i => hW.asc.frozen i
      unfold stp
      go_simp
      clear g0 g1 g2 g3 g4
      have hx4 := ((((hW.asc).set 0 (.slice A2 n2 c2)).set 1 (.int .i64 q2)).set 2 (.int .i64 q3)).set 3 (.int .i64 q4)
      refine (show ∃ F', _ from ⟨Asn.blk g 94 #[.slice A2 n2 c2, .int .i64 q2, .int .i64 q3, .int .i64 q4] * (Asn.blk w.heap.size 94 #[.slice jA jn jc, .int .i64 jp, .int .i64 jN, .int .i64 jB] * (sl 22 1 oA rs.length oc (hds rs) * (X2 * (X * G)))),
        fun W R h => (h.asc.right.left.perm (by ac_rfl) : Sat E W (X2 * _)).right, hx4.csa, ?_⟩)
      clear hx4 hW
      go_simp
      iterate 3
        refine wpS_f _ rfl rfl (v := ?_) ?_ ?_
        rotate_left
        · intro W hW
          go_simp
          rfl
        go_simp
      refine wpS_n (fun w3 hs4 => ?_)
      have HF2 : Hid (allF es 0 ls [] [] = if q7 = 0 then allF es (k + 1) (ls.drop (k + 1)) q1 (if q6 then out ++ [q5] else out) else (out, k, q7)) := by
        have h1 := HF.out
        rw [drop_of HLK.out, allF_step es k p _ op out jp jN jB, ← HX.out, ← HQ.out] at h1
        exact h1.symm
      have hs5 : Sat E w3 (Asn.blk g 94 #[.slice A2 n2 c2, .int .i64 q2, .int .i64 q3, .int .i64 q4] * (Asn.blk w.heap.size 94 #[.slice jA jn jc, .int .i64 jp, .int .i64 jN, .int .i64 jB] * (sl 22 1 oA rs.length oc (hds rs) * (X2 * (X * G))))) := hs4
      clear hs4 HF HQ HLK HX
      have hok2 := hok.right (X := X2)
      have hrs65 : rs.length ≤ 65536 := by omega
      by_cases h7 : q7 = 0
      · subst h7
        have a0 : w3.cell? ⟨g, 0, none⟩ = some (.slice A2 n2 c2) := hs5.cell 0
        have a1 : w3.cell? ⟨g, 1, none⟩ = some (.int .i64 q2) := hs5.cell 1
        have a2 : w3.cell? ⟨g, 2, none⟩ = some (.int .i64 q3) := hs5.cell 2
        have a3 : w3.cell? ⟨g, 3, none⟩ = some (.int .i64 q4) := hs5.cell 3
        have b0 : w3.cell? ⟨w.heap.size, 0, none⟩ = some (.slice jA jn jc) := hs5.f2.cell 0
        have b1 : w3.cell? ⟨w.heap.size, 1, none⟩ = some (.int .i64 jp) := hs5.f2.cell 1
        have b2 : w3.cell? ⟨w.heap.size, 2, none⟩ = some (.int .i64 jN) := hs5.f2.cell 2
        have b3 : w3.cell? ⟨w.heap.size, 3, none⟩ = some (.int .i64 jB) := hs5.f2.cell 3
        have b4 : ∀ i, w3.frozen? ⟨w.heap.size, i, none⟩ = false := fun i => hs5.f2.frozen i
        have hs6 := (((((hs5.f2.set 0 (.slice A2 n2 c2)).set 1 (.int .i64 q2)).set 2 (.int .i64 q3)).set 3 (.int .i64 q4)).f2.right).f2
        cases q6 with
        | false =>
          have hs7 := hide hs6.f2
          clear hs6 hs5
          go_wp2_with fail
          go_roundw
          case rel =>
            refine ⟨X2 * X, A2, oA, n2, c2, oc, k + 1, q2, q3, q4, rs, out, q1, rfl, by go_num, by omega, by omega, hn2, by rw [sep_assoc]; exact hok2, by rw [sep_assoc]; exact hr2, ?_, (unhide hs7).perm (by rw [sep_assoc X2]; rfl)⟩
            show _ = _
            rw [HF2.out, if_pos rfl, if_neg (by simp)]
          case measure => simp [intOf]; omega
        | true =>
          have hs8 := hs6.alloc #[.slice A3 n3 c3] 22
          obtain ⟨A4, c4, w4, run4, hs9⟩ := Sat.append (P := Try.prog) (t := 67) (ty := 67) (d := 1) elt_rows hs8.right (RdW.new _ #[.slice A3 n3 c3] 22 1 1 rfl) (by intro u hu; simp at hu; subst hu; rfl) (by unfold maxLen; omega) (by omega)
          simp only [World.size_setCell] at run4
          have R4 := Lib.hid run4
          have hs10 := hide hs9.f2
          clear hs6 hs5 hs8 hs9 run4
          go_wp2_with (at_builtin; refine wpList_appendR rfl (.tmp 41) (.tmp 43) rfl rfl rfl R4.out ?_)
          go_roundw
          case rel =>
            refine ⟨X2 * X, A2, A4, n2, c2, c4, k + 1, q2, q3, q4, rs ++ [(A3, n3, c3)], out ++ [q5], q1, by simp, by go_num, by omega, by simp; omega, hn2, ?_, by rw [sep_assoc]; exact hr2, ?_, (unhide hs10).perm ?_⟩
            · rw [sep_assoc]
              exact hok2.snoc hr3 (by dsimp only; omega)
            · show _ = _
              rw [HF2.out, if_pos rfl, if_pos rfl]
            · rw [sep_assoc X2]
              simp [hds]
          case measure => simp [intOf]; omega
      · have h7a : (q7 != 0) = true := by simpa using h7
        have h7b : (q7 == 0) = false := by simpa using h7
        have HF3 : Hid (allF es 0 ls [] [] = (out, k, q7)) := by
          have := HF2.out
          rw [if_neg h7] at this
          exact this
        have hfin := hide hs5.right.right
        clear h7 HF2 hs5
        go_wp2_with fail
        go_ret3
        rw [HF3.out]
        refine ⟨sl 22 1 oA rs.length oc (hds rs) * (X2 * X), oA, oc, by rw [hok2.1]; rfl, (unhide hfin).perm (by ac_rfl), ?_⟩
        rw [← hok2.1]
        exact (show (sl 22 1 oA rs.length oc (hds rs) * (X2 * X)) * G = sl 22 1 oA rs.length oc (hds rs) * (X2 * (X * G)) by ac_rfl) ▸ hok2.rows rd_sl rfl
    · have hkn : k = n := by omega
      subst hkn
      have HF3 : Hid (allF es 0 ls [] [] = (out, k, 0)) := by
        have := HF.out
        rw [List.drop_of_length_le (by rw [HLEN.out]; exact Nat.le_refl _), allF] at this
        exact this.symm
      have hfin := hide hsr.right
      clear hsr HF
      go_wp2_with fail
      go_ret3
      rw [HF3.out]
      refine ⟨sl 22 1 oA rs.length oc (hds rs) * X, oA, oc, by rw [hok.1]; rfl, (unhide hfin).perm (by ac_rfl), ?_⟩
      rw [← hok.1]
      exact (show (sl 22 1 oA rs.length oc (hds rs) * X) * G = sl 22 1 oA rs.length oc (hds rs) * (X * G) by ac_rfl) ▸ hok.rows rd_sl rfl
end Go.Proofs.Ytdfidijlconhnaa
