/- The law's row of packets. -/
import Derived.Test.YtdfidijlconhnaaR11B
namespace Go.Proofs.Ytdfidijlconhnaa
open Go.RowKit Asn

def flOf (e f : Bool) : Int := if f then 4 else if e then 2 else 0
def pkOf (i : Nat) (x : PcR) : Pk := ⟨1, flOf x.e x.f, 0, 0, 1, 1, i, 0, x.A, x.b.length, x.c, x.b⟩
def pksR : Nat → List PcR → List Pk
  | _, [] => []
  | i, x :: l => pkOf i x :: pksR (i + 1) l
theorem pksR_snoc (x : PcR) : ∀ (l : List PcR) (i : Nat), pksR i (l ++ [x]) = pksR i l ++ [pkOf (i + l.length) x]
  | [], i => rfl
  | y :: l, i => by
    show pkOf i y :: pksR (i + 1) (l ++ [x]) = pkOf i y :: (pksR (i + 1) l ++ _)
    rw [pksR_snoc x l (i + 1)]
    simp only [List.length_cons]
    rw [show i + 1 + l.length = i + (l.length + 1) by omega]
theorem pksR_len : ∀ (l : List PcR) (i : Nat), (pksR i l).length = l.length
  | [], _ => rfl
  | _ :: l, i => by show (pksR (i + 1) l).length + 1 = _; rw [pksR_len l (i + 1)]; rfl
theorem pksR_at : ∀ (l : List PcR) (i j : Nat) (x : PcR), l[j]? = some x → (pksR i l)[j]? = some (pkOf (i + j) x)
  | [], _, _, _, h => by simp at h
  | y :: l, i, 0, x, h => by
    obtain rfl : y = x := by simpa using h
    rfl
  | y :: l, i, j + 1, x, h => by
    have := pksR_at l (i + 1) j x (by simpa using h)
    show (pksR (i + 1) l)[j]? = _
    rw [this, show i + 1 + j = i + (j + 1) by omega]
def pkC (l : List Pk) : List Value := l.flatMap fun p => p.cells.toList
theorem pkC_app (l m : List Pk) : pkC (l ++ m) = pkC l ++ pkC m := by unfold pkC; rw [List.flatMap_append]
theorem pkC_len (l : List Pk) : (pkC l).length = l.length * 9 := by
  induction l with
  | nil => rfl
  | cons p l ih =>
    have : pkC (p :: l) = p.cells.toList ++ pkC l := rfl
    rw [this, List.length_append, ih]
    simp [Pk.cells]
    omega
theorem pkC_at {l : List Pk} {i j : Nat} {p : Pk} (hi : l[i]? = some p) (hj : j < 9) : (pkC l)[i * 9 + j]? = p.cells[j]? := by
  induction l generalizing i with
  | nil => simp at hi
  | cons a l ih =>
    have h : pkC (a :: l) = a.cells.toList ++ pkC l := rfl
    have hl : a.cells.toList.length = 9 := rfl
    rw [h]
    cases i with
    | zero =>
      obtain rfl : a = p := by simpa using hi
      rw [List.getElem?_append_left (by omega), Nat.zero_mul, Nat.zero_add, Array.getElem?_toList]
    | succ i =>
      rw [List.getElem?_append_right (by omega), hl, show (i + 1) * 9 + j - 9 = i * 9 + j by omega]
      exact ih (by simpa using hi)
theorem pcC_at {l : List PcR} {i j : Nat} {p : PcR} (hi : l[i]? = some p) (hj : j < 3) : (pcC l)[i * 3 + j]? = p.cells[j]? := by
  induction l generalizing i with
  | nil => simp at hi
  | cons a l ih =>
    have h : pcC (a :: l) = a.cells ++ pcC l := rfl
    have hl : a.cells.length = 3 := rfl
    rw [h]
    cases i with
    | zero =>
      obtain rfl : a = p := by simpa using hi
      rw [List.getElem?_append_left (by omega), Nat.zero_mul, Nat.zero_add]
    | succ i =>
      rw [List.getElem?_append_right (by omega), hl, show (i + 1) * 3 + j - 3 = i * 3 + j by omega]
      exact ih (by simpa using hi)
theorem elt_packets : Elt Try.prog 69 79 9 88 (.agg #[.int .i64 0, .int .i64 0, .int .i64 0, .int .i64 0, .int .i64 0, .int .i64 0, .int .i64 0, .int .i64 0, .slice none 0 0]) := elt_of Try.underlying69 (by kernel_rfl) rfl (by omega)
set_option maxHeartbeats 4000000 in
set_option maxRecDepth 100000 in
theorem row19 {E w : World} {F : Asn} (A : Option Addr) (n c mtu : Nat) (ls : List (List UInt8)) (hs : Sat E w F) (hm : MsgOk F A n ls) (hn : n ≤ 6) (h3 : 1 ≤ mtu) (h4 : mtu ≤ 20) :
    Calls Try.prog 34 #[.slice A n c, .int .i64 mtu] w fun e w' => ∃ X A2 c2 ps, e = .returned (.slice A2 (ps : List PcR).length c2) ∧ Sat E w' (sl 79 9 A2 ps.length c2 (pkC (pksR 0 ps)) * (X * F)) ∧ (∀ p ∈ ps, PcOk X p) ∧ ps.map PcR.abs = piecesL ls mtu ++ [([], false, true)] ∧ ps.length ≤ 481 := by
  have HP := hide (pieces11 A n c mtu ls hs hm hn h3 h4)
  clear hs hm
  go_enter Try.func34, Try.ntmps34
  go_wp2_with fail
  refine (unhide HP).mono ?_
  rintro e w1 ⟨X, A1, c1, ps, rfl, hs1, hok, hmap, hpl⟩
  obtain ⟨A2, c2, w2, run2, hs2⟩ := Sat.append (P := Try.prog) (t := 28) (ty := 28) (d := 1) elt_pieces ((hs1.alloc #[.slice none 0 0, .bool false, .bool true] 52).right) (RdW.new w1 #[.slice none 0 0, .bool false, .bool true] 52 1 3 rfl) (by intro u hu; simp at hu; rcases hu with rfl | rfl | rfl <;> rfl) (by unfold maxLen; omega) (by omega)
  obtain ⟨qs, hqs⟩ : ∃ qs, qs = ps ++ [(⟨none, 0, [], false, true⟩ : PcR)] := ⟨_, rfl⟩
  have hql : qs.length = ps.length + 1 := by rw [hqs, List.length_append]; rfl
  have hs3 := hs2.perm (show _ = sl 52 3 A2 qs.length c2 (pcC qs) * (X * F) by rw [hql, hqs, pcC_app]; rfl)
  have hok2 : ∀ p ∈ qs, PcOk X p := by
    intro p hp
    rw [hqs] at hp
    rcases List.mem_append.1 hp with hp | hp
    · exact hok p hp
    · obtain rfl := List.mem_singleton.1 hp
      exact rd.nil _ _ _
  have hmap2 : qs.map PcR.abs = piecesL ls mtu ++ [([], false, true)] := by rw [hqs, List.map_append, hmap]; rfl
  obtain ⟨N, hN⟩ : ∃ N, N = ps.length := ⟨_, rfl⟩
  obtain ⟨Q, hQ⟩ : ∃ Q, Q = qs.length := ⟨_, rfl⟩
  rw [← hN] at run2 hpl hql ⊢
  rw [← hQ] at hs3 hql
  have R2 := Lib.hid run2
  have HOK := hide hok2
  have HMAP := hide hmap2
  have HQ := hide hQ
  have HS3 := hide hs3
  have hQ481 : Q ≤ 481 := by omega
  have hNQ : (N : Int) + 1 = Q := by omega
  clear hs1 hs2 hs3 hok hok2 hmap hmap2 run2 hqs hN hQ hql HP
  go_wp2_with (at_builtin; refine wpList_appendR rfl (.tmp 12) (.tmp 14) rfl rfl rfl R2.out ?_)
  go_loopw [6, 7, 8] (fun s6 s7 _ wr => ∃ (i : Nat) (A6 : Option Addr) (c6 : Nat), s6 = .slice A6 i c6 ∧ s7 = .int .i64 i ∧ i ≤ Q ∧ Sat E wr (sl 79 9 A6 i c6 (pkC (pksR 0 (qs.take i))) * (sl 52 3 A2 Q c2 (pcC qs) * (X * F))))
    (fun _ s7 _ _ => Q - (intOf s7).toNat)
  case atStart => exact ⟨0, none, 0, rfl, rfl, Nat.zero_le _, (Sat.slNil (e := 79) (z := 9) (unhide HS3)).perm (by rw [List.take_zero]; rfl)⟩
  case round =>
    obtain ⟨i, A6, c6, rfl, rfl, hiQ, hsr⟩ := hrel
    clear HS3 R2
    by_cases hlt : i < Q
    · obtain ⟨x, hx⟩ : ∃ x, qs[i]? = some x := ⟨_, List.getElem?_eq_getElem (by rw [← unhide HQ]; exact hlt)⟩
      obtain ⟨b, off, rfl, hbl, hcell, hfro⟩ := hsr.f2.slAt (by omega)
      have htk : qs.take (i + 1) = qs.take i ++ [x] := by rw [List.take_add_one, hx]; rfl
      have hpk : pksR 0 (qs.take (i + 1)) = pksR 0 (qs.take i) ++ [pkOf i x] := by
        rw [htk, pksR_snoc, List.length_take, Nat.min_eq_left (by rw [← unhide HQ]; omega), Nat.zero_add]
      obtain ⟨xA, xc, xb, xe, xf⟩ := x
      have e0 : wr.cell? ⟨b, off + i * 3, none⟩ = some (.slice xA xb.length xc) := by
        have := hcell (i * 3) _ (show (pcC qs)[i * 3]? = some (.slice xA xb.length xc) from pcC_at (j := 0) hx (by omega))
        exact this
      have e1 : wr.cell? ⟨b, off + i * 3 + 1, none⟩ = some (.bool xe) := by
        have := hcell (i * 3 + 1) _ (show (pcC qs)[i * 3 + 1]? = some (.bool xe) from pcC_at (j := 1) hx (by omega))
        rwa [← Nat.add_assoc] at this
      have e2 : wr.cell? ⟨b, off + i * 3 + 2, none⟩ = some (.bool xf) := by
        have := hcell (i * 3 + 2) _ (show (pcC qs)[i * 3 + 2]? = some (.bool xf) from pcC_at (j := 2) hx (by omega))
        rwa [← Nat.add_assoc] at this
      obtain ⟨m, hm⟩ : ∃ m, m = xb.length := ⟨_, rfl⟩
      rw [← hm] at e0
      have hap := fun (fl : Int) => Sat.append (P := Try.prog) (E := E) (t := 69) (ty := 69) (d := 1) elt_packets (((hsr.alloc #[.int .i64 1, .int .i64 fl, .int .i64 0, .int .i64 0, .int .i64 1, .int .i64 1, .int .i64 i, .int .i64 0, .slice xA m xc] 79).alloc #[.int .i64 1, .int .i64 fl, .int .i64 0, .int .i64 0, .int .i64 1, .int .i64 1, .int .i64 i, .int .i64 0, .slice xA m xc] 79).right.right)
        (RdW.new _ #[.int .i64 1, .int .i64 fl, .int .i64 0, .int .i64 0, .int .i64 1, .int .i64 1, .int .i64 i, .int .i64 0, .slice xA m xc] 79 1 9 rfl) (by intro u hu; simp at hu; rcases hu with rfl | rfl | rfl | rfl | rfl | rfl | rfl | rfl | rfl <;> rfl) (by unfold maxLen; omega) (by omega)
      have hblk := fun (fl : Int) => (hsr.alloc #[.int .i64 1, .int .i64 fl, .int .i64 0, .int .i64 0, .int .i64 1, .int .i64 1, .int .i64 i, .int .i64 0, .slice xA m xc] 79).blk
      obtain ⟨A7, c7, w7, run7, hs7⟩ := hap (flOf xe xf)
      have HS7 := hide (hs7.perm (show _ = sl 79 9 A7 (i + 1) c7 (pkC (pksR 0 (qs.take (i + 1)))) * (sl 52 3 (some ⟨b, off, none⟩) Q c2 (pcC qs) * (X * F)) by
        rw [hpk, pkC_app]
        show sl _ _ _ _ _ (_ ++ [Value.int .i64 1, _, _, _, _, _, _, _, Value.slice xA m xc]) * _ = sl _ _ _ _ _ (_ ++ [Value.int .i64 1, _, _, _, _, _, _, _, Value.slice xA xb.length xc]) * _
        rw [hm]
        rfl))
      rw [World.size_alloc] at run7
      have R7 := Lib.hid run7
      clear hap hblk run7 hs7 hsr hcell hfro hx htk hpk hm
      have hpos : i ≤ 481 := by omega
      cases xf <;> cases xe
      all_goals
        simp only [flOf, Bool.false_eq_true, if_false, if_true] at R7
        go_upto_region 12 with (fail)
        go_wp2_with (at_builtin; refine wpList_appendR rfl (.tmp 41) (.tmp 43) rfl rfl rfl R7.out ?_)
        go_roundw
        case rel => exact ⟨i + 1, A7, c7, rfl, by go_num, by omega, unhide HS7⟩
        case measure => simp [intOf]; omega
    · obtain rfl : i = Q := by omega
      have HF := hide (hsr.perm (show _ = sl 79 9 A6 i c6 (pkC (pksR 0 qs)) * ((sl 52 3 A2 i c2 (pcC qs) * X) * F) by rw [List.take_of_length_le (by rw [← unhide HQ]; exact Nat.le_refl _)]; ac_rfl))
      clear hsr
      go_wp2_with fail
      go_ret
      exact ⟨_, A6, c6, qs, by rw [← unhide HQ]; rfl, by rw [← unhide HQ]; exact unhide HF, fun p hp => rd.right ((unhide HOK) p hp), unhide HMAP, by rw [← unhide HQ]; exact hQ481⟩
end Go.Proofs.Ytdfidijlconhnaa
