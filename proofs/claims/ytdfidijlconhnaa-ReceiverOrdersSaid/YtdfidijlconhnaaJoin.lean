/- The program's join: what its functions do to a Join that is owned. -/
import Derived.Test.YtdfidijlconhnaaProg
import Derived.Test.YtdfidijlconhnaaSlOps
import Derived.Deep.QuietTactic
import Derived.BigQuiet
import Derived.Lib.Hide
namespace Go.Proofs.Ytdfidijlconhnaa
open Go.RowKit Asn

/-- An owned slice of bytes. -/
def bsl (A : Option Addr) (n c : Nat) (l : List UInt8) : Asn := sl 5 1 A n c (bytes l)
/-- Slices' values. -/
def heads (rs : List (Option Addr × Nat × List UInt8)) : List Value := rs.map fun r => .slice r.1 r.2.2.length r.2.1
/-- An owned slice of owned slices of bytes. -/
def tails (rs : List (Option Addr × Nat × List UInt8)) : Asn := Asn.all (rs.map fun r => bsl r.1 r.2.2.length r.2.1 r.2.2)
def bbsl (A : Option Addr) (n c : Nat) (ls : List (List UInt8)) : Asn :=
  Asn.ex fun rs : List (Option Addr × Nat × List UInt8) => Asn.fact (rs.map (·.2.2) = ls) * (sl 22 1 A n c (heads rs) * tails rs)
theorem Sat.bbslOpen {E w : World} {F : Asn} {A : Option Addr} {n c : Nat} {ls : List (List UInt8)} (h : Sat E w (bbsl A n c ls * F)) :
    ∃ rs : List (Option Addr × Nat × List UInt8), rs.map (·.2.2) = ls ∧ rs.length = n ∧ ls.length = n ∧ Sat E w (sl 22 1 A n c (heads rs) * (tails rs * F)) := by
  obtain ⟨rs, h⟩ := h.ex
  obtain ⟨hrs, h⟩ := h.asc.fact
  have hl : rs.length = n := by have := h.asc.slLen.1; simpa [heads] using this
  exact ⟨rs, hrs, hl, by rw [← hrs, List.length_map, hl], h.asc⟩
theorem Sat.bbslMk {E w : World} {F : Asn} {A : Option Addr} {n c : Nat} {rs : List (Option Addr × Nat × List UInt8)} (h : Sat E w (sl 22 1 A n c (heads rs) * (tails rs * F))) : Sat E w (bbsl A n c (rs.map (·.2.2)) * F) :=
  Sat.mkEx rs (Sat.csa (Sat.mkFact rfl h.csa))
theorem tails_at {rs : List (Option Addr × Nat × List UInt8)} {k : Nat} {r : Option Addr × Nat × List UInt8} (h : rs[k]? = some r) : ∃ R, tails rs = bsl r.1 r.2.2.length r.2.1 r.2.2 * R := by
  refine ⟨Asn.all ((rs.eraseIdx k).map fun r => bsl r.1 r.2.2.length r.2.1 r.2.2), ?_⟩
  induction rs generalizing k with
  | nil => simp at h
  | cons a l ih =>
    cases k with
    | zero =>
      have : a = r := by simpa using h
      subst this
      rfl
    | succ k =>
      have ih := ih (k := k) (by simpa using h)
      simp only [tails, List.map_cons, Asn.all, List.eraseIdx_cons_succ] at ih ⊢
      rw [ih, sep_left_comm]

theorem elt_bytes : Elt Try.prog 22 5 1 1 (.int .u8 0) := elt_of Try.underlying22 (by kernel_rfl) rfl (by omega)
theorem elt_rows : Elt Try.prog 67 22 1 24 (.slice none 0 0) := elt_of Try.underlying67 (by kernel_rfl) rfl (by omega)

structure JoinM where
  msgs : Int
  bytes : Int
  parts : List (List UInt8)
def JoinM.open_ (j : JoinM) : Nat := j.parts.flatten.length

/-- A Join at block g, made. -/
def JoinAt (g : Nat) (j : JoinM) : Asn :=
  Asn.ex fun x : Option Addr × Nat × Nat × List (Option Addr × Nat × List UInt8) => Asn.fact (x.2.2.2.map (·.2.2) = j.parts ∧ j.open_ ≤ 65536 ∧ ∀ r ∈ x.2.2.2, r.2.2 ≠ []) *
    (Asn.blk g 166 #[.int .i64 j.open_, .int .i64 j.msgs, .int .i64 j.bytes, .slice x.1 x.2.1 x.2.2.1, .bool true] * (sl 22 1 x.1 x.2.1 x.2.2.1 (heads x.2.2.2) * tails x.2.2.2))
theorem Sat.joinOpen {E w : World} {F : Asn} {g : Nat} {j : JoinM} (h : Sat E w (JoinAt g j * F)) :
    ∃ (A : Option Addr) (n c : Nat) (rs : List (Option Addr × Nat × List UInt8)), rs.map (·.2.2) = j.parts ∧ j.open_ ≤ 65536 ∧ (∀ r ∈ rs, r.2.2 ≠ []) ∧ rs.length = n ∧
      Sat E w (Asn.blk g 166 #[.int .i64 j.open_, .int .i64 j.msgs, .int .i64 j.bytes, .slice A n c, .bool true] * (sl 22 1 A n c (heads rs) * (tails rs * F))) := by
  obtain ⟨⟨A, n, c, rs⟩, h⟩ := h.ex
  obtain ⟨⟨h1, h2, h3⟩, h⟩ := h.asc.fact
  have h := h.asc
  have h : Sat E w (_ * (sl 22 1 A n c (heads rs) * (tails rs * F))) := h.perm (by rw [sep_assoc])
  exact ⟨A, n, c, rs, h1, h2, h3, by have := h.f2.slLen.1; simpa [heads] using this, h⟩
theorem Sat.joinMk {E w : World} {F : Asn} {g o n c : Nat} {m b : Int} {A : Option Addr} {rs : List (Option Addr × Nat × List UInt8)} (ho : (rs.map (·.2.2)).flatten.length = o) (hj : o ≤ 65536) (hne : ∀ r ∈ rs, r.2.2 ≠ [])
    (h : Sat E w (Asn.blk g 166 #[.int .i64 o, .int .i64 m, .int .i64 b, .slice A n c, .bool true] * (sl 22 1 A n c (heads rs) * (tails rs * F)))) : Sat E w (JoinAt g ⟨m, b, rs.map (·.2.2)⟩ * F) := by
  subst ho
  refine Sat.mkEx (A, n, c, rs) (Sat.csa (Sat.mkFact ⟨rfl, hj, hne⟩ (Sat.csa ?_)))
  exact h.perm (by dsimp only [JoinM.open_]; rw [sep_assoc (sl _ _ _ _ _ _)])
theorem none_nil (w : World) : Calls Try.prog 103 #[.pointer none] w fun e w' => e = .returned (.bool true) ∧ w = w' := by
  go_enter Try.func103, Try.ntmps103
  go_wp2
  go_ret
  exact ⟨rfl, rfl⟩
theorem none_blk (g : Nat) (o m b : Int) (p : Value) (d : Bool) (w : World) (h : w.heap[g]? = some (.cells #[.int .i64 o, .int .i64 m, .int .i64 b, p, .bool d] 166 (0, 0))) :
    Calls Try.prog 103 #[.pointer (some ⟨g, 0, none⟩)] w fun e w' => e = .returned (.bool (!d)) ∧ w = w' := by
  have h4 : w.cell? ⟨g, 4, none⟩ = some (.bool d) := cell_of_row w g 4 _ _ _ h
  clear h
  go_enter Try.func103, Try.ntmps103
  go_wp2
  go_ret
  exact ⟨rfl, rfl⟩

theorem flat_take_succ (l : List (List UInt8)) (k : Nat) (p : List UInt8) (h : l[k]? = some p) : (l.take (k + 1)).flatten = (l.take k).flatten ++ p := by
  rw [List.take_add_one, h]; simp
theorem flat_take_le (l : List (List UInt8)) (k : Nat) : (l.take k).flatten.length ≤ l.flatten.length := by
  rw [← List.take_append_drop k l, List.flatten_append, List.length_append, List.take_append_drop k l]
  omega
theorem flat_take_lt (l : List (List UInt8)) (k : Nat) (p : List UInt8) (h : l[k]? = some p) : (l.take k).flatten.length + p.length ≤ l.flatten.length := by
  have := flat_take_le l (k + 1)
  rw [flat_take_succ l k p h, List.length_append] at this
  exact this

theorem fill_step (l : List (List UInt8)) (k q : Nat) (p : List UInt8) (zs : List Value) (h : l[k]? = some p) (hq : q = (l.take k).flatten.length) :
    (bytes (l.take k).flatten ++ zs).take q ++ (bytes p ++ (bytes (l.take k).flatten ++ zs).drop (q + p.length)) = bytes (l.take (k + 1)).flatten ++ zs.drop p.length := by
  have hl : (bytes (l.take k).flatten).length = q := by rw [hq]; unfold bytes; rw [List.length_map]
  rw [List.take_left' hl, List.drop_append, hl, flat_take_succ l k p h, List.drop_of_length_le (by omega)]
  unfold bytes
  simp [Nat.add_sub_cancel_left]

set_option maxRecDepth 100000 in
theorem whole_open (E w : World) (F : Asn) (g o n c : Nat) (m b : Int) (A : Option Addr) (rs : List (Option Addr × Nat × List UInt8)) (ho : (rs.map (·.2.2)).flatten.length = o) (hj : o ≤ 65536) (hne : ∀ r ∈ rs, r.2.2 ≠ [])
    (hs : Sat E w (Asn.blk g 166 #[.int .i64 o, .int .i64 m, .int .i64 b, .slice A n c, .bool true] * (sl 22 1 A n c (heads rs) * (tails rs * F)))) :
    Calls Try.prog 111 #[.pointer (some ⟨g, 0, none⟩)] w fun e w' => ∃ A' c', e = .returned (.slice A' o c') ∧
      Sat E w' (bsl A' o c' (rs.map (·.2.2)).flatten * (Asn.blk g 166 #[.int .i64 0, .int .i64 m, .int .i64 b, .slice none 0 0, .bool true] * F)) := by
  have h0 : w.cell? ⟨g, 0, none⟩ = some (.int .i64 o) := hs.cell 0
  have h3 : w.cell? ⟨g, 3, none⟩ = some (.slice A n c) := hs.cell 3
  have hg : g < w.heap.size := hs.lt
  have hmk := fun W : World => run_makeN elt_bytes .i64 .i64 o o (Nat.le_refl _) (by omega) (by omega) W
  have hn63 : n ≤ 9223372036854775807 := by have := hs.f2.slLen; unfold maxLen at this; omega
  have hrl : rs.length = n := by have := hs.f2.slLen.1; simpa [heads] using this
  have HJ := Lib.hid hj
  have HL := Lib.hid hrl
  have HO := Lib.hid ho
  have HE := Lib.hid hne
  clear hj hne ho hrl
  go_enter Try.func111, Try.ntmps111
  go_wp2_with fail
  go_loopw [4, 18] (fun at_ i wr => ∃ k q : Nat, k ≤ n ∧ i = .int .i64 k ∧ at_ = .int .i64 q ∧ Hid (q = ((rs.map (·.2.2)).take k).flatten.length) ∧
      ∃ zs, Sat E wr (sl 5 1 (some ⟨w.heap.size, 0, none⟩) o o (bytes ((rs.map (·.2.2)).take k).flatten ++ zs) *
        (Asn.blk g 166 #[.int .i64 o, .int .i64 m, .int .i64 b, .slice A n c, .bool true] * (sl 22 1 A n c (heads rs) * (tails rs * F)))))
    (fun _ i _ => n - (intOf i).toNat)
  case atStart =>
    refine ⟨0, 0, Nat.zero_le _, rfl, rfl, rfl, (made (.int .u8 0) o).toList, ?_⟩
    refine Sat.slMk (hs.alloc (made (.int .u8 0) o) 5) ?_ (Nat.le_refl _) (by have := HJ.out; unfold maxLen; omega) (by rw [size_made]; omega) fun i u hu => ?_
    · simp [bytes, size_made]
    · simpa [bytes] using hu
  case round =>
    obtain ⟨k, q, hk, rfl, rfl, HQ, zs, hsr⟩ := hrel
    by_cases hlt : k < n
    · have hrl := HL.out
      have hrk : rs[k]? = some rs[k] := List.getElem?_eq_getElem (by omega)
      generalize rs[k] = r at hrk
      obtain ⟨rA, rc, p⟩ := r
      have hpk : (rs.map (·.2.2))[k]? = some p := by rw [List.getElem?_map, hrk]; rfl
      have hle := flat_take_lt _ k p hpk
      rw [HO.out, ← HQ.out] at hle
      have hpos : 0 < p.length := List.length_pos_iff.2 (HE.out _ (List.mem_of_getElem? hrk))
      obtain ⟨R, hR⟩ := tails_at hrk
      obtain ⟨ab, ao, rfl, hab, hac, haf⟩ := hsr.f3.slAt (by omega)
      have hck : wr.cell? ⟨ab, ao + k, none⟩ = some (.slice rA p.length rc) := hac k _ (by simp [heads, hrk])
      have hrd : RdW wr rA p.length 1 (bytes p) := by
        have h4 := hsr.f4
        rw [hR] at h4
        exact Sat.slRd (e := 5) (c := rc) h4.asc
      have HRK := Lib.hid hrk
      have HPK := Lib.hid hpk
      have HOO := Lib.hid HO.out
      clear hrk hpk hR
      have ho64 : o ≤ 65536 := HJ.out
      obtain ⟨w1, hrun, hs1⟩ := Sat.copy1 (P := Try.prog) (dT := 22) (sT := 22) (ty := 3) (k := q) (q := o - q) (D := some ⟨w.heap.size, q, none⟩) (cap := o - q) (d := rc) elt_bytes hsr hrd oneCell_bytes hle (by simp [add_lit']) (by omega)
      go_wp2_with fail
      go_roundw
      case rel =>
        refine ⟨k + 1, q + p.length, by omega, by go_num, by go_num, ?_, zs.drop p.length, ?_⟩
        · show q + p.length = _
          rw [flat_take_succ _ k p HPK.out, List.length_append, ← HQ.out]
        · rw [fill_step _ k q p zs HPK.out HQ.out] at hs1
          exact hs1
      case measure => simp [intOf]; omega
    · obtain rfl : k = n := by omega
      have e0 : wr.cell? ⟨g, 0, none⟩ = some (.int .i64 o) := hsr.f2.cell 0
      have e3 : wr.cell? ⟨g, 3, none⟩ = some (.slice A k c) := hsr.f2.cell 3
      have f0 : wr.frozen? ⟨g, 0, none⟩ = false := hsr.f2.frozen 0
      have f3 : wr.frozen? ⟨g, 3, none⟩ = false := hsr.f2.frozen 3
      go_wp2_with fail
      go_ret
      refine ⟨_, _, rfl, ?_⟩
      have hq : q = o := by rw [HQ.out, ← HO.out, List.take_of_length_le (by rw [List.length_map, HL.out]; exact Nat.le_refl _)]
      have hfin := ((hsr.f2.set 3 (.slice none 0 0)).set 0 (.int .i64 0)).f2
      rw [List.take_of_length_le (by rw [List.length_map, HL.out]; exact Nat.le_refl _)] at hfin
      have hz : zs = [] := by
        have := hfin.slLen.1
        rw [List.length_append] at this
        have hb : (bytes (List.map (fun x => x.2.2) rs).flatten).length = o := by unfold bytes; rw [List.length_map, HO.out]
        rw [hb] at this
        exact List.eq_nil_of_length_eq_zero (by omega)
      rw [hz, List.append_nil] at hfin
      exact ((hfin.f3.right).f3.right)

theorem fits_blk (g o : Nat) (n m b : Int) (p : Value) (w : World) (h : w.heap[g]? = some (.cells #[.int .i64 o, .int .i64 m, .int .i64 b, p, .bool true] 166 (0, 0))) (ho : o ≤ 65536) :
    Calls Try.prog 110 #[.pointer (some ⟨g, 0, none⟩), .int .i64 n] w fun e w' => e = .returned (.bool (decide (1 ≤ n) && decide (n ≤ 65536 - (o : Int)))) ∧ w = w' := by
  have h0 : w.cell? ⟨g, 0, none⟩ = some (.int .i64 o) := cell_of_row w g 0 _ _ _ h
  have HB := Lib.hid h
  clear h
  by_cases hn : 1 ≤ n
  · have hd : decide (1 ≤ n) = true := by simpa using hn
    rw [hd, Bool.true_and]
    go_enter Try.func110, Try.ntmps110
    go_wp2_with (go_at_call 103; refine (none_blk _ _ _ _ _ _ _ HB.out).mono ?_; rintro e w' ⟨rfl, rfl⟩)
    go_ret
    exact ⟨rfl, rfl⟩
  · have hd : decide (1 ≤ n) = false := by simpa using hn
    rw [hd, Bool.false_and]
    go_enter Try.func110, Try.ntmps110
    go_wp2_with (go_at_call 103; refine (none_blk _ _ _ _ _ _ _ HB.out).mono ?_; rintro e w' ⟨rfl, rfl⟩)
    go_ret
    exact ⟨rfl, rfl⟩
theorem fits_yes (g o n : Nat) (m b : Int) (p : Value) (w : World) (h : w.heap[g]? = some (.cells #[.int .i64 o, .int .i64 m, .int .i64 b, p, .bool true] 166 (0, 0))) (hn : 1 ≤ n) (ho : o + n ≤ 65536) :
    Calls Try.prog 110 #[.pointer (some ⟨g, 0, none⟩), .int .i64 n] w fun e w' => e = .returned (.bool true) ∧ w = w' :=
  (fits_blk g o n m b p w h (by omega)).mono fun e w' he => by
    have h1 : decide (1 ≤ (n : Int)) = true := by simpa using (by omega : 1 ≤ (n : Int))
    have h2 : decide ((n : Int) ≤ 65536 - (o : Int)) = true := by simpa using (by omega : (n : Int) ≤ 65536 - (o : Int))
    rw [h1, h2] at he
    exact he
theorem rows_le {l : List (Option Addr × Nat × List UInt8)} (h : ∀ r ∈ l, r.2.2 ≠ []) : l.length ≤ (l.map (·.2.2)).flatten.length := by
  induction l with
  | nil => exact Nat.le_refl _
  | cons a l ih =>
    have := ih (fun r hr => h r (List.mem_cons_of_mem _ hr))
    have ha := List.length_pos_iff.2 (h a List.mem_cons_self)
    simp only [List.map_cons, List.flatten_cons, List.length_append, List.length_cons]
    omega

/-- What Add's own steps leave, ahead of the end: the part's copy, the rows with it, the two stores. -/
theorem push_facts (E w : World) (F : Asn) (g n d k c o : Nat) (m b : Int) (A B : Option Addr) (rs : List (Option Addr × Nat × List UInt8)) (p : List UInt8) (hr : RdW w B n 1 (bytes p)) (h1 : o + n ≤ 65536) (hk : rs.length = k) (hrn : k ≤ 65536)
    (hs : Sat E w (Asn.blk g 166 #[.int .i64 o, .int .i64 m, .int .i64 b, .slice A k c, .bool true] * (sl 22 1 A k c (heads rs) * (tails rs * F)))) :
    ∃ w1 A2 c2 w2,
      (Builtin.copy_ #[22, 22] 3 #[.slice (some ⟨w.heap.size, 0, none⟩) n n, .slice B n d]).run Try.prog (w.alloc (.cells (made (.int .u8 0) n) 5)) = .ok (goInt n) w1 ∧
      w1.cell? ⟨g, 3, none⟩ = some (.slice A k c) ∧
      (Builtin.append_ #[67, 67] 67 #[.slice A k c, .slice (some ⟨w1.heap.size, 0, none⟩) 1 1]).run Try.prog (w1.alloc (.cells #[.slice (some ⟨w.heap.size, 0, none⟩) n n] 22)) = .ok (.slice A2 (k + 1) c2) w2 ∧
      (w2.cell? ⟨g, 3, none⟩ = some (.slice A k c) ∧ w2.cell? ⟨g, 0, none⟩ = some (.int .i64 o) ∧ w2.frozen? ⟨g, 3, none⟩ = false ∧ w2.frozen? ⟨g, 0, none⟩ = false) ∧
      Sat E ((w2.setCell ⟨g, 3, none⟩ (.slice A2 (k + 1) c2)).setCell ⟨g, 0, none⟩ (.int .i64 (o + n)))
        (Asn.blk g 166 #[.int .i64 (o + n : Nat), .int .i64 m, .int .i64 b, .slice A2 (k + 1) c2, .bool true] * (sl 22 1 A2 (k + 1) c2 (heads (rs ++ [(some ⟨w.heap.size, 0, none⟩, n, p)])) * (tails (rs ++ [(some ⟨w.heap.size, 0, none⟩, n, p)]) * F))) := by
  have hp : p.length = n := by have := hr.1; simpa [bytes] using this
  have hk3 := hs.f2.slLen
  have hs1 := hs.makeSl (.int .u8 0) rfl 5 n (by unfold maxLen; omega)
  have hr1 : RdW (w.alloc (.cells (made (.int .u8 0) n) 5)) B n 1 (bytes p) := hr.below ((Below.refl _ _).alloc (Nat.le_refl _) _)
  obtain ⟨w1, hrun1, hs2⟩ := Sat.copy1 (P := Try.prog) (dT := 22) (sT := 22) (ty := 3) (k := 0) (q := n) (D := some ⟨w.heap.size, 0, none⟩) (cap := n) (d := d) elt_bytes hs1 hr1 oneCell_bytes (by omega) rfl (Nat.le_refl _)
  rw [List.take_zero, List.nil_append, Nat.zero_add, List.drop_of_length_le (by simp), List.append_nil] at hs2
  have hs3 := (hs2.f3).alloc #[.slice (some ⟨w.heap.size, 0, none⟩) n n] 22
  have hrd := RdW.new w1 #[.slice (some ⟨w.heap.size, 0, none⟩) n n] 22 1 1 rfl
  obtain ⟨A2, c2, w2, hrun2, hs4⟩ := Sat.append (P := Try.prog) (t := 67) (ty := 67) (d := 1) elt_rows (hs3.right) hrd (by intro u hu; simp at hu; subst hu; rfl) (by unfold maxLen; omega) (by omega)
  have hb4 := hs4.f3
  refine ⟨w1, A2, c2, w2, hrun1, hs2.f2.cell 3, hrun2, ⟨hb4.cell 3, hb4.cell 0, hb4.frozen 3, hb4.frozen 0⟩, ?_⟩
  have hx := (hb4.set 3 (.slice A2 (k + 1) c2)).set 0 (.int .i64 (o + n))
  have h2 : heads (rs ++ [(some ⟨w.heap.size, 0, none⟩, n, p)]) = heads rs ++ [.slice (some ⟨w.heap.size, 0, none⟩) n n] := by simp [heads, hp]
  have h3 : tails (rs ++ [(some ⟨w.heap.size, 0, none⟩, n, p)]) = tails rs * sl 5 1 (some ⟨w.heap.size, 0, none⟩) n n (bytes p) := by
    unfold tails
    rw [List.map_append, Asn.all_append]
    simp only [List.map_cons, List.map_nil, Asn.all, sep_one, bsl, hp]
  rw [h2, h3]
  refine hx.perm ?_
  show Asn.blk g _ _ * _ = Asn.blk g _ _ * _
  ac_rfl

set_option maxRecDepth 100000 in
theorem add_part (E w : World) (F : Asn) (g n d : Nat) (j : JoinM) (B : Option Addr) (p : List UInt8) (hs : Sat E w (JoinAt g j * F)) (hr : RdW w B n 1 (bytes p)) (h0 : 0 < n) (h1 : j.open_ + n ≤ 65536) :
    Calls Try.prog 101 #[.pointer (some ⟨g, 0, none⟩), .slice B n d, .bool false] w fun e w' =>
      e = .returned (.tuple #[.slice none 0 0, .bool false, .int .i64 0]) ∧ Sat E w' (JoinAt g { j with parts := j.parts ++ [p] } * F) := by
  obtain ⟨A, k, c, rs, hrs, _, hne, hk, hs⟩ := hs.joinOpen
  obtain ⟨o, ho⟩ : ∃ o, o = j.open_ := ⟨_, rfl⟩
  rw [← ho] at hs h1
  have HB := Lib.hid hs.blk
  have hp : p.length = n := by have := hr.1; simpa [bytes] using this
  have hrn : k ≤ 65536 := by
    have := rows_le hne
    rw [hrs, hk] at this
    have : k ≤ j.open_ := this
    omega
  have hmk := fun W : World => run_makeN elt_bytes .i64 .i64 n n (Nat.le_refl _) (by omega) (by omega) W
  obtain ⟨w1, A2, c2, w2, hrun1, c3, hrun2, ⟨d3, d0, e3, e0⟩, hx⟩ := push_facts E w F g n d k c o j.msgs j.bytes A B rs p hr h1 hk hrn hs
  have hfin : Sat E ((w2.setCell ⟨g, 3, none⟩ (.slice A2 (k + 1) c2)).setCell ⟨g, 0, none⟩ (.int .i64 (o + n))) (JoinAt g { j with parts := j.parts ++ [p] } * F) := by
    have he : (rs ++ [((some ⟨w.heap.size, 0, none⟩, n, p) : Option Addr × Nat × List UInt8)]).map (fun r => r.2.2) = j.parts ++ [p] := by rw [List.map_append, hrs]; rfl
    rw [← he]
    refine Sat.joinMk (o := o + n) ?_ h1 ?_ (n := k + 1) (c := c2) (A := A2) hx
    · rw [he, List.flatten_append, List.length_append, ho]; simp [JoinM.open_, hp]
    · intro r hr
      rcases List.mem_append.1 hr with h | h
      · exact hne r h
      · obtain rfl := List.mem_singleton.1 h
        exact List.length_pos_iff.1 (by show 0 < p.length; rw [hp]; exact h0)
  clear hx hs hr hrs hne hk ho
  have HF := Lib.hid hfin
  have HA := Lib.hid hrun2
  clear hfin hrun2
  go_enter Try.func101, Try.ntmps101
  go_wp2_with (first
    | (at_builtin; refine wpList_appendR rfl (.tmp 34) (.tmp 36) rfl rfl rfl HA.out ?_)
    | (go_at_call 103; refine (none_blk _ _ _ _ _ _ _ HB.out).mono ?_; rintro e w' ⟨rfl, rfl⟩)
    | (go_at_call 110; refine (fits_yes _ _ _ _ _ _ _ HB.out (by omega) (by omega)).mono ?_; rintro e w' ⟨rfl, rfl⟩))
  go_ret3
  exact ⟨rfl, HF.out⟩

set_option maxRecDepth 100000 in
theorem add_end (E w : World) (F : Asn) (g n d : Nat) (j : JoinM) (B : Option Addr) (p : List UInt8) (hs : Sat E w (JoinAt g j * F)) (hr : RdW w B n 1 (bytes p)) (h0 : 0 < n) (h1 : j.open_ + n ≤ 65536) :
    Calls Try.prog 101 #[.pointer (some ⟨g, 0, none⟩), .slice B n d, .bool true] w fun e w' => ∃ A' c',
      e = .returned (.tuple #[.slice A' (j.open_ + n) c', .bool true, .int .i64 0]) ∧
      Sat E w' (bsl A' (j.open_ + n) c' (j.parts.flatten ++ p) * (JoinAt g ⟨wrap64 (j.msgs + 1), wrap64 (j.bytes + (j.open_ + n : Nat)), []⟩ * F)) := by
  obtain ⟨A, k, c, rs, hrs, _, hne, hk, hs⟩ := hs.joinOpen
  obtain ⟨o, ho⟩ : ∃ o, o = j.open_ := ⟨_, rfl⟩
  rw [← ho] at hs h1 ⊢
  have HB := Lib.hid hs.blk
  have hp : p.length = n := by have := hr.1; simpa [bytes] using this
  have hrn : k ≤ 65536 := by
    have := rows_le hne
    rw [hrs, hk] at this
    have : k ≤ j.open_ := this
    omega
  have hmk := fun W : World => run_makeN elt_bytes .i64 .i64 n n (Nat.le_refl _) (by omega) (by omega) W
  obtain ⟨w1, A2, c2, w2, hrun1, c3, hrun2, ⟨d3, d0, e3, e0⟩, hx⟩ := push_facts E w F g n d k c o j.msgs j.bytes A B rs p hr h1 hk hrn hs
  have he : (rs ++ [((some ⟨w.heap.size, 0, none⟩, n, p) : Option Addr × Nat × List UInt8)]).map (fun r => r.2.2) = j.parts ++ [p] := by rw [List.map_append, hrs]; rfl
  have hfl : ((rs ++ [((some ⟨w.heap.size, 0, none⟩, n, p) : Option Addr × Nat × List UInt8)]).map (fun r => r.2.2)).flatten = j.parts.flatten ++ p := by rw [he, List.flatten_append]; simp
  have hwh := whole_open E _ F g (o + n) (k + 1) c2 j.msgs j.bytes A2 _ (by rw [hfl, List.length_append, ho, hp]; rfl) h1 (by
    intro r hr
    rcases List.mem_append.1 hr with h | h
    · exact hne r h
    · obtain rfl := List.mem_singleton.1 h
      exact List.length_pos_iff.1 (by show 0 < p.length; rw [hp]; exact h0)) hx
  rw [hfl] at hwh
  obtain ⟨jm, hjm⟩ : ∃ x, x = j.msgs := ⟨_, rfl⟩
  obtain ⟨jb, hjb⟩ : ∃ x, x = j.bytes := ⟨_, rfl⟩
  rw [← hjm, ← hjb] at hwh ⊢
  clear hx hs hr hrs hne hk ho he hfl hjm hjb
  have HW := hide hwh
  have HA := Lib.hid hrun2
  clear hwh hrun2
  go_enter Try.func101, Try.ntmps101
  go_wp2_with (first
    | (at_builtin; refine wpList_appendR rfl (.tmp 34) (.tmp 36) rfl rfl rfl HA.out ?_)
    | (go_at_call 103; refine (none_blk _ _ _ _ _ _ _ HB.out).mono ?_; rintro e w' ⟨rfl, rfl⟩)
    | (go_at_call 110; refine (fits_yes _ _ _ _ _ _ _ HB.out (by omega) (by omega)).mono ?_; rintro e w' ⟨rfl, rfl⟩))
  refine (unhide HW).mono ?_
  rintro e w3 ⟨A3, c3', rfl, hs3⟩
  have g1 : w3.cell? ⟨g, 1, none⟩ = some (.int .i64 jm) := hs3.f2.cell 1
  have g2 : w3.cell? ⟨g, 2, none⟩ = some (.int .i64 jb) := hs3.f2.cell 2
  have i1 : w3.frozen? ⟨g, 1, none⟩ = false := hs3.f2.frozen 1
  have i2 : w3.frozen? ⟨g, 2, none⟩ = false := hs3.f2.frozen 2
  go_wp2_with fail
  go_ret3
  refine ⟨_, _, rfl, ?_⟩
  have hy := (hs3.f2.set 1 (.int .i64 (wrap64 (jm + 1)))).set 2 (.int .i64 (wrap64 (jb + (o + n : Nat))))
  refine Sat.f2 (Sat.joinMk (rs := []) (o := 0) (m := wrap64 (jm + 1)) (b := wrap64 (jb + (o + n : Nat))) rfl (by omega) (by simp) (n := 0) (c := 0) (A := none) ?_)
  refine (Sat.f2 (Sat.slNil (e := 22) (z := 1) hy)).perm ?_
  rw [show tails [] = 1 from rfl, one_sep]
  rfl

/-- The refusals: nothing turns. -/
theorem add_empty (w : World) (g o d : Nat) (m b : Int) (q : Value) (B : Option Addr) (x : Bool) (h : w.heap[g]? = some (.cells #[.int .i64 o, .int .i64 m, .int .i64 b, q, .bool true] 166 (0, 0))) :
    Calls Try.prog 101 #[.pointer (some ⟨g, 0, none⟩), .slice B 0 d, .bool x] w fun e w' => e = .returned (.tuple #[.slice none 0 0, .bool false, .int .i64 120]) ∧ w = w' := by
  have HB := Lib.hid h
  clear h
  go_enter Try.func101, Try.ntmps101
  go_wp2_with (first
    | (go_at_call 103; refine (none_blk _ _ _ _ _ _ _ HB.out).mono ?_; rintro e w' ⟨rfl, rfl⟩))
  go_ret3
  exact ⟨rfl, rfl⟩
set_option maxRecDepth 100000 in
theorem add_long (w : World) (g o d n : Nat) (m b : Int) (q : Value) (B : Option Addr) (x : Bool) (h : w.heap[g]? = some (.cells #[.int .i64 o, .int .i64 m, .int .i64 b, q, .bool true] 166 (0, 0))) (ho : o ≤ 65536) (h0 : 0 < n) (h1 : 65536 < o + n) (hn : n ≤ 9223372036854775807) :
    Calls Try.prog 101 #[.pointer (some ⟨g, 0, none⟩), .slice B n d, .bool x] w fun e w' => e = .returned (.tuple #[.slice none 0 0, .bool false, .int .i64 2]) ∧ w = w' := by
  have HB := Lib.hid h
  clear h
  have hf : Hid (Calls Try.prog 110 #[.pointer (some ⟨g, 0, none⟩), .int .i64 n] w fun e w' => e = .returned (.bool false) ∧ w = w') :=
    (fits_blk g o n m b q w HB.out ho).mono fun e w' he => by
      have h2 : decide ((n : Int) ≤ 65536 - (o : Int)) = false := by simpa using (by omega : 65536 - (o : Int) < (n : Int))
      rw [h2, Bool.and_false] at he
      exact he
  go_enter Try.func101, Try.ntmps101
  go_wp2_with (first
    | (go_at_call 103; refine (none_blk _ _ _ _ _ _ _ HB.out).mono ?_; rintro e w' ⟨rfl, rfl⟩)
    | (go_at_call 110; refine (unhide hf).mono ?_; rintro e w' ⟨rfl, rfl⟩))
  go_ret3
  exact ⟨rfl, rfl⟩
theorem add_nil (w : World) (n d : Nat) (B : Option Addr) (x : Bool) :
    Calls Try.prog 101 #[.pointer none, .slice B n d, .bool x] w fun e w' => e = .returned (.tuple #[.slice none 0 0, .bool false, .int .i64 4]) ∧ w = w' := by
  go_enter Try.func101, Try.ntmps101
  go_wp2_with (first
    | (go_at_call 103; refine (none_nil _).mono ?_; rintro e w' ⟨rfl, rfl⟩))
  go_ret3
  exact ⟨rfl, rfl⟩
theorem add_unmade (w : World) (g n d : Nat) (o m b : Int) (q : Value) (B : Option Addr) (x : Bool) (h : w.heap[g]? = some (.cells #[.int .i64 o, .int .i64 m, .int .i64 b, q, .bool false] 166 (0, 0))) :
    Calls Try.prog 101 #[.pointer (some ⟨g, 0, none⟩), .slice B n d, .bool x] w fun e w' => e = .returned (.tuple #[.slice none 0 0, .bool false, .int .i64 4]) ∧ w = w' := by
  have HB := Lib.hid h
  clear h
  go_enter Try.func101, Try.ntmps101
  go_wp2_with (first
    | (go_at_call 103; refine (none_blk _ _ _ _ _ _ _ HB.out).mono ?_; rintro e w' ⟨rfl, rfl⟩))
  go_ret3
  exact ⟨rfl, rfl⟩

theorem new_join (E w : World) (F : Asn) (hs : Sat E w F) : Calls Try.prog 72 #[] w fun e w' => ∃ g, e = .returned (.pointer (some ⟨g, 0, none⟩)) ∧ Sat E w' (JoinAt g ⟨0, 0, []⟩ * F) := by
  go_enter Try.func72, Try.ntmps72
  go_wp2
  go_ret
  refine ⟨_, rfl, Sat.joinMk (rs := []) (o := 0) (m := 0) (b := 0) rfl (by omega) (by simp) (n := 0) (c := 0) (A := none) ?_⟩
  have hy := hs.alloc #[.int .i64 0, .int .i64 0, .int .i64 0, .slice none 0 0, .bool true] 166
  refine (Sat.f2 (Sat.slNil (e := 22) (z := 1) hy)).perm ?_
  rw [show tails [] = 1 from rfl, one_sep]
  rfl

end Go.Proofs.Ytdfidijlconhnaa
