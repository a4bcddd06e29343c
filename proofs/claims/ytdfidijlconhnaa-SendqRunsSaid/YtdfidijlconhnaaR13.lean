/- The document's queue of pieces: Low, Lacks, Lacking, New. -/
import Derived.Test.YtdfidijlconhnaaSqR
import Derived.Test.YtdfidijlconhnaaAppZ
namespace Go.Proofs.Ytdfidijlconhnaa
open Go.RowKit Asn
def bools (l : List Bool) : List Value := l.map Value.bool
theorem bools_len (l : List Bool) : (bools l).length = l.length := by unfold bools; rw [List.length_map]
theorem RdW.bool_at {w : World} {A : Option Addr} {n i : Nat} {l : List Bool} (h : RdW w A n 1 (bools l)) (hi : i < n) : ∃ ad, A = some ad ∧ w.cell? (ad.add i) = some (.bool (akB l i)) := by
  have hl : l.length = n := by have := h.1; rw [bools_len] at this; omega
  refine h.at_ (j := i) ?_
  have hx : l[i]? = some (l[i]'(by omega)) := List.getElem?_eq_getElem _
  unfold akB
  rw [bools, List.getElem?_map, hx, List.getD, hx]
  rfl
/-- A queue of the document's, as a value. -/
def q13 (most : Nat) (la : Option Addr) (ln lc : Nat) (aa : Option Addr) (an ac next : Nat) (ra : Option Addr) (rn rc : Nat) : Array Value := #[.int .i64 most, .slice la ln lc, .slice aa an ac, .int .i64 next, .slice ra rn rc]
section
variable {w : World} {most : Nat} {la : Option Addr} {ln lc : Nat} {aa : Option Addr} {an ac next : Nat} {ra : Option Addr} {rn rc : Nat} {ak : List Bool}
set_option maxRecDepth 100000 in
theorem low13 (hr : RdW w aa an 1 (bools ak)) (hn : next ≤ an) (ha : an ≤ 60000) :
    Calls Try.prog 61 #[.agg (q13 most la ln lc aa an ac next ra rn rc)] w fun e w' => e = .returned (.int .i64 (lowD ak next)) ∧ Below w.heap.size w w' := by
  obtain ⟨lo, hlo⟩ : ∃ lo, lo = lowD ak next := ⟨_, rfl⟩
  obtain ⟨s1, s2, s3⟩ := lowD_spec ak next
  rw [← hlo] at s1 s2 s3 ⊢
  have hb : Below w.heap.size w (w.alloc (.cells (q13 most la ln lc aa an ac next ra rn rc) 41)) := (Below.refl _ _).alloc (Nat.le_refl _) _
  have HR := hide (hr.below hb)
  have HB := hide hb
  have S2 := hide s2
  have S3 := hide s3
  clear hr hb hlo s2 s3
  unfold q13 at HR HB ⊢
  go_enter Try.func61, Try.ntmps61
  go_wp2_with fail
  go_loopw [3] (fun i wr => ∃ k : Nat, i = .int .i64 k ∧ k ≤ lo ∧ wr = w.alloc (.cells #[.int .i64 most, .slice la ln lc, .slice aa an ac, .int .i64 next, .slice ra rn rc] 41)) (fun i _ => lo + 1 - (intOf i).toNat)
  case atStart => exact ⟨0, rfl, Nat.zero_le _, rfl⟩
  case round =>
    obtain ⟨k, rfl, hk, rfl⟩ := hrel
    by_cases hlt : k < next
    · have h1 : (k : Int) < an := by omega
      have h2 : (k : Int) < next := by omega
      obtain ⟨ad, rfl, hc⟩ := (unhide HR).bool_at (i := k) (by omega)
      by_cases hkl : k < lo
      · rw [unhide S2 k hkl] at hc
        go_wp2_with fail
        go_roundw
        case rel => exact ⟨k + 1, by go_num, by omega, (by first | rfl | trivial)⟩
        case measure => simp [intOf]; omega
      · obtain rfl : k = lo := by omega
        rw [unhide S3 hlt] at hc
        go_wp2_with fail
        go_ret
        exact ⟨rfl, unhide HB⟩
    · obtain rfl : k = lo := by omega
      obtain rfl : k = next := by omega
      have hk0 : ¬ (k : Int) < k := by omega
      go_wp2_with fail
      go_ret
      exact ⟨rfl, unhide HB⟩
set_option maxRecDepth 100000 in
theorem lacks13 {seq : Int} (hr : RdW w aa an 1 (bools ak)) (hn : next ≤ an) (ha : an ≤ 60000) (hx : -9223372036854775808 ≤ seq ∧ seq ≤ 9223372036854775807) :
    Calls Try.prog 62 #[.agg (q13 most la ln lc aa an ac next ra rn rc), .int .i64 seq] w fun e w' => e = .returned (.bool (lacksD ak next seq)) ∧ Below w.heap.size w w' := by
  have hs0 := Sat.start w
  have hs1 := hide (((Sat.start w).alloc (q13 most la ln lc aa an ac next ra rn rc) 41))
  have hb : Below w.heap.size w (w.alloc (.cells (q13 most la ln lc aa an ac next ra rn rc) 41)) := (Below.refl _ _).alloc (Nat.le_refl _) _
  have hlw := hide (low13 (most := most) (la := la) (ln := ln) (lc := lc) (ac := ac) (ra := ra) (rn := rn) (rc := rc) (hr.below hb) hn ha)
  obtain ⟨r, hrr⟩ : ∃ r, r = lacksD ak next seq := ⟨_, rfl⟩
  rw [← hrr]
  obtain ⟨lo, hlo⟩ : ∃ lo, lo = lowD ak next := ⟨_, rfl⟩
  obtain ⟨s1, s2, s3⟩ := lowD_spec ak next
  rw [← hlo] at s1 s2 s3 hlw
  have HR := hide (hr.below hb)
  clear hr hb hlo hs0
  have fin : ∀ w', Below (w.alloc (.cells (q13 most la ln lc aa an ac next ra rn rc) 41)).heap.size (w.alloc (.cells (q13 most la ln lc aa an ac next ra rn rc) 41)) w' → Sat w w' (Asn.blk w.heap.size 41 (q13 most la ln lc aa an ac next ra rn rc) * Asn.exact w) := fun w' hb => (unhide hs1).under hb
  have FIN := hide fin
  clear fin
  unfold q13 at HR FIN hlw ⊢
  by_cases c1 : (lo : Int) ≤ seq
  · by_cases c2 : seq < next
    · obtain ⟨i, rfl⟩ : ∃ i : Nat, seq = i := ⟨seq.toNat, by omega⟩
      have hr2 : r = !akB ak i := by
        rw [hrr]
        unfold lacksD
        rw [decide_eq_true (show (0 : Int) ≤ (i : Int) by omega), decide_eq_true c2]
        simp
      have hi2 : (i : Int) < an := by omega
      have HX : Hid (∀ w', Below (w.alloc (.cells #[.int .i64 most, .slice la ln lc, .slice aa an ac, .int .i64 next, .slice ra rn rc] 41)).heap.size (w.alloc (.cells #[.int .i64 most, .slice la ln lc, .slice aa an ac, .int .i64 next, .slice ra rn rc] 41)) w' → ∃ ad, aa = some ad ∧ w'.cell? (ad.add i) = some (.bool (akB ak i))) := fun w' hb => ((unhide HR).below hb).bool_at (by omega)
      obtain ⟨b, hbb⟩ : ∃ b, b = akB ak i := ⟨_, rfl⟩
      rw [← hbb] at HX hr2
      subst hr2
      clear hrr s2 s3 hbb
      go_enter Try.func62, Try.ntmps62
      go_wp2_with fail
      refine (unhide hlw).mono ?_
      rintro e w2 ⟨rfl, hb2⟩
      obtain ⟨ad, rfl, hc⟩ := unhide HX w2 hb2
      have hs2 := unhide FIN w2 hb2
      have f3 : w2.cell? ⟨w.heap.size, 3, none⟩ = some (.int .i64 next) := hs2.cell 3
      have f2 : w2.cell? ⟨w.heap.size, 2, none⟩ = some (.slice (some ad) an ac) := hs2.cell 2
      have HB := hide (hs2.comm).below
      clear hs2 hb2 hlw HX
      go_wp2_with fail
      go_ret
      exact ⟨rfl, unhide HB⟩
    · have hr2 : r = false := by
        rw [hrr]; unfold lacksD; rw [decide_eq_false c2]; simp
      subst hr2
      clear hrr s2 s3
      go_enter Try.func62, Try.ntmps62
      go_wp2_with fail
      refine (unhide hlw).mono ?_
      rintro e w2 ⟨rfl, hb2⟩
      have hs2 := unhide FIN w2 hb2
      have f3 : w2.cell? ⟨w.heap.size, 3, none⟩ = some (.int .i64 next) := hs2.cell 3
      have HB := hide (hs2.comm).below
      clear hs2 hb2 hlw
      go_wp2_with fail
      go_ret
      exact ⟨rfl, unhide HB⟩
  · have hr2 : r = false := by
      rw [hrr]; unfold lacksD
      by_cases h0 : 0 ≤ seq
      · rw [s2 seq.toNat (by omega)]; simp
      · rw [decide_eq_false h0]; simp
    subst hr2
    clear hrr s2 s3
    go_enter Try.func62, Try.ntmps62
    go_wp2_with fail
    refine (unhide hlw).mono ?_
    rintro e w2 ⟨rfl, hb2⟩
    have hs2 := unhide FIN w2 hb2
    have HB := hide (hs2.comm).below
    clear hs2 hb2 hlw
    go_wp2_with fail
    go_ret
    exact ⟨rfl, unhide HB⟩
end
theorem lackD_step (ak : List Bool) (k : Nat) : lackD ak (k + 1) = lackD ak k ++ (if akB ak k then [] else [k]) := by
  unfold lackD
  rw [List.range_succ, List.filter_append]
  cases h : akB ak k <;> simp [h]
theorem lackD_len (ak : List Bool) (k : Nat) : (lackD ak k).length ≤ k := by unfold lackD; exact Nat.le_trans (List.length_filter_le _ _) (by simp)
set_option maxHeartbeats 1000000 in
set_option maxRecDepth 100000 in
theorem lackingR13 (E w : World) (F : Asn) {most : Nat} {la : Option Addr} {ln lc : Nat} {aa : Option Addr} {an ac next : Nat} {ra : Option Addr} {rn rc : Nat} {ak : List Bool} (hs : Sat E w F) (hr : rd F 1 aa an (bools ak)) (hn : next ≤ an) (ha : an ≤ 60000) :
    Calls Try.prog 68 #[.agg (q13 most la ln lc aa an ac next ra rn rc)] w (LackP E F (natI (lackD ak next))) := by
  have hs1 := hide ((hs.alloc (q13 most la ln lc aa an ac next ra rn rc) 41).slNil (e := 3) (z := 1))
  have HR := hide hr
  clear hs hr
  go_enter Try.func68, Try.ntmps68
  go_wp2_with fail
  go_loopw [3, 4] (fun s3 s4 wr => ∃ (k q c : Nat) (A : Option Addr), s3 = .slice A q c ∧ s4 = .int .i64 k ∧ k ≤ next ∧ q ≤ k ∧ Hid (q = (natI (lackD ak k)).length) ∧ Sat E wr (sl 3 1 A q c (ints (natI (lackD ak k))) * (Asn.blk w.heap.size 41 (q13 most la ln lc aa an ac next ra rn rc) * F))) (fun _ s4 _ => next - (intOf s4).toNat)
  case atStart => exact ⟨0, 0, 0, none, rfl, rfl, Nat.zero_le _, Nat.le_refl _, rfl, unhide hs1⟩
  case round =>
    obtain ⟨k, q, c, A, rfl, rfl, hk, hqk, HQ, hsr⟩ := hrel
    clear hs1
    have f0 : wr.cell? ⟨w.heap.size, 0, none⟩ = some (.int .i64 most) := hsr.f2.cell 0
    have f1 : wr.cell? ⟨w.heap.size, 1, none⟩ = some (.slice la ln lc) := hsr.f2.cell 1
    have f2 : wr.cell? ⟨w.heap.size, 2, none⟩ = some (.slice aa an ac) := hsr.f2.cell 2
    have f3 : wr.cell? ⟨w.heap.size, 3, none⟩ = some (.int .i64 next) := hsr.f2.cell 3
    have f4 : wr.cell? ⟨w.heap.size, 4, none⟩ = some (.slice ra rn rc) := hsr.f2.cell 4
    by_cases hlt : k < next
    · have h2 : (k : Int) < next := by omega
      have hlk := lacks13 (most := most) (la := la) (ln := ln) (lc := lc) (ac := ac) (ra := ra) (rn := rn) (rc := rc) (seq := (k : Int)) (RdW.of_rd (unhide HR).right.right hsr) hn ha (by omega)
      have hv : lacksD ak next (k : Int) = !akB ak k := by
        unfold lacksD
        rw [decide_eq_true (show (0 : Int) ≤ (k : Int) by omega), decide_eq_true h2]; simp
      rw [hv] at hlk
      have hst := lackD_step ak k
      have hq2 := HQ.out
      obtain ⟨D, hD⟩ : ∃ D, D = lackD ak k := ⟨_, rfl⟩
      obtain ⟨D2, hD2⟩ : ∃ D2, D2 = lackD ak (k + 1) := ⟨_, rfl⟩
      rw [← hD] at hsr hst hq2
      rw [← hD2] at hst
      have HD2 := hide hD2
      have HSR := hide hsr
      cases hb : akB ak k with
      | false =>
        rw [hb] at hlk hst
        have HLK := hide hlk
        have HST := hide hst
        have HQ2 := hide hq2
        clear hlk hst hsr hb hv hD hD2 HQ hq2
        unfold q13 at HLK HSR
        go_wp2_with fail
        refine (unhide HLK).mono ?_
        rintro e w2 ⟨rfl, hb2⟩
        obtain ⟨A4, c4, w5, run4, hs5⟩ := Sat.app1 (t := 34) (ty := 34) ((unhide HSR).under hb2) elt_ints (.int .i64 k) rfl (by unfold maxLen; omega) (by omega)
        have R4 := Lib.hid run4
        have HS5 := hide hs5
        clear hb2 run4 hs5 HLK HSR f0 f1 f2 f3 f4
        go_wp2_with (at_builtin; refine wpList_appendR rfl (.tmp 14) (.tmp 16) rfl rfl rfl R4.out ?_)
        go_roundw
        case rel => exact ⟨k + 1, q + 1, c4, A4, rfl, by go_num, by omega, by omega, (show _ = _ by rw [← unhide HD2, unhide HST, unhide HQ2]; simp [natI]), by rw [← unhide HD2, unhide HST]; simpa [natI, ints, q13] using unhide HS5⟩
        case measure => simp [intOf]; omega
      | true =>
        rw [hb] at hlk hst
        have HLK := hide hlk
        have HST := hide hst
        have HQ2 := hide hq2
        clear hlk hst hsr hb hv hD hD2 HQ hq2
        unfold q13 at HLK HSR
        go_wp2_with fail
        refine (unhide HLK).mono ?_
        rintro e w2 ⟨rfl, hb2⟩
        have HS5 := hide ((unhide HSR).under hb2)
        clear hb2 HLK HSR f0 f1 f2 f3 f4
        go_wp2_with fail
        go_roundw
        case rel => exact ⟨k + 1, q, c, A, rfl, by go_num, by omega, by omega, (show _ = _ by rw [← unhide HD2, unhide HST, unhide HQ2]; simp [natI]), by rw [← unhide HD2, unhide HST]; simpa [natI, ints, q13] using unhide HS5⟩
        case measure => simp [intOf]; omega
    · obtain rfl : k = next := by omega
      have hk0 : ¬ (k : Int) < k := by omega
      have HFIN : Hid (LackP E F (natI (lackD ak k)) (.returned (.slice A q c)) wr) := by
        rw [HQ.out] at hsr ⊢
        exact ⟨A, c, rfl, hsr.f2.right⟩
      clear hsr HQ hlt
      go_wp2_with fail
      go_ret
      exact unhide HFIN
theorem newR13 (w : World) (most : Nat) (h1 : 1 ≤ most) (h2 : most ≤ 4096) :
    Calls Try.prog 18 #[.int .i64 most] w fun e w' => e = .returned (.tuple #[.agg (q13 most none 0 0 none 0 0 0 none 0 0), .int .i64 0]) ∧ Below w.heap.size w w' := by
  go_enter Try.func18, Try.ntmps18
  go_wp2_with fail
  exact bodyPost_ret (v := .tuple #[.agg (q13 most none 0 0 none 0 0 0 none 0 0), .int .i64 0]) (by simp [results, Try.results18, go_sem, q13]) rfl ⟨rfl, (Below.refl _ _).alloc (Nat.le_refl _) _⟩
theorem newR13_no (w : World) (most : Int) (h : ¬ (1 ≤ most ∧ most ≤ 4096)) :
    Calls Try.prog 18 #[.int .i64 most] w fun e w' => e = .returned (.tuple #[.agg (q13 0 none 0 0 none 0 0 0 none 0 0), .int .i64 130]) ∧ Below w.heap.size w w' := by
  go_enter Try.func18, Try.ntmps18
  go_wp2_with fail
  all_goals first
    | (exfalso; omega)
    | exact bodyPost_ret (v := .tuple #[.agg (q13 0 none 0 0 none 0 0 0 none 0 0), .int .i64 130]) (by simp [results, Try.results18, go_sem, q13]) rfl ⟨rfl, (Below.refl _ _).alloc (Nat.le_refl _) _⟩
end Go.Proofs.Ytdfidijlconhnaa
