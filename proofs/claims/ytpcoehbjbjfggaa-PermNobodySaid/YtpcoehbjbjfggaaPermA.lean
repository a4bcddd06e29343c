/- The program's perm: sets of paths. -/
import Derived.Test.YtpcoehbjbjfggaaShuf
import Derived.Test.YtpcoehbjbjfggaaSlApp
namespace Go.Proofs.Ytpcoehbjbjfggaa
open Go.RowKit Asn

/-- Eight bools, as cells. -/
def set8 (pb : Nat → Bool) : Array Value := #[.bool (pb 0), .bool (pb 1), .bool (pb 2), .bool (pb 3), .bool (pb 4), .bool (pb 5), .bool (pb 6), .bool (pb 7)]
theorem set8_get (pb : Nat → Bool) {k : Nat} (hk : k < 8) : (set8 pb)[k]? = some (.bool (pb k)) := by
  rcases (by omega : k = 0 ∨ k = 1 ∨ k = 2 ∨ k = 3 ∨ k = 4 ∨ k = 5 ∨ k = 6 ∨ k = 7) with rfl | rfl | rfl | rfl | rfl | rfl | rfl | rfl <;> rfl
theorem set8_put (pb : Nat → Bool) {k : Nat} (hk : k < 8) : (set8 pb).setIfInBounds k (.bool true) = set8 (fun q => pb q || decide (q = k)) := by
  rcases (by omega : k = 0 ∨ k = 1 ∨ k = 2 ∨ k = 3 ∨ k = 4 ∨ k = 5 ∨ k = 6 ∨ k = 7) with rfl | rfl | rfl | rfl | rfl | rfl | rfl | rfl <;> simp [set8]
theorem set8_size (pb : Nat → Bool) : (set8 pb).size = 8 := rfl
/-- Which paths a row holds. -/
def memb (l : List Int) : Nat → Bool := fun p => decide ((p : Int) ∈ l)
/-- Paths in range, each once. -/
def Good (l : List Int) : Prop := (∀ x ∈ l, 0 ≤ x ∧ x < 8) ∧ l.Nodup
theorem memb_snoc (l : List Int) (k : Nat) : memb (l ++ [(k : Int)]) = fun q => memb l q || decide (q = k) := by
  funext q
  unfold memb
  by_cases h1 : (q : Int) ∈ l <;> by_cases h2 : q = k <;> simp [h1, h2]
  omega
theorem Good.snoc {l : List Int} {x : Int} (h : Good l) (h0 : 0 ≤ x) (h8 : x < 8) (hm : x ∉ l) : Good (l ++ [x]) := by
  refine ⟨fun y hy => ?_, ?_⟩
  · rcases List.mem_append.1 hy with hy | hy
    · exact h.1 y hy
    · simp at hy; omega
  · rw [List.nodup_append]
    refine ⟨h.2, by simp, fun a ha b hb => ?_⟩
    simp at hb
    subst hb
    intro e; subst e; exact hm ha
theorem Good.pre {l m : List Int} (h : Good (l ++ m)) : Good l := ⟨fun x hx => h.1 x (List.mem_append_left _ hx), (List.nodup_append.1 h.2).1⟩
theorem sat_set8 {E w : World} {F : Asn} {g t : Nat} {pb : Nat → Bool} (h : Sat E w (Asn.blk g t (set8 pb) * F)) (qb : Nat → Bool) :
    Sat E ((((((((w.setCell ⟨g, 0, none⟩ (.bool (qb 0))).setCell ⟨g, 1, none⟩ (.bool (qb 1))).setCell ⟨g, 2, none⟩ (.bool (qb 2))).setCell ⟨g, 3, none⟩ (.bool (qb 3))).setCell ⟨g, 4, none⟩ (.bool (qb 4))).setCell ⟨g, 5, none⟩ (.bool (qb 5))).setCell ⟨g, 6, none⟩ (.bool (qb 6))).setCell ⟨g, 7, none⟩ (.bool (qb 7))) (Asn.blk g t (set8 qb) * F) := by
  have h2 := (((((((h.set 0 (.bool (qb 0))).set 1 (.bool (qb 1))).set 2 (.bool (qb 2))).set 3 (.bool (qb 3))).set 4 (.bool (qb 4))).set 5 (.bool (qb 5))).set 6 (.bool (qb 6))).set 7 (.bool (qb 7))
  have e : ((((((((set8 pb).setIfInBounds 0 (.bool (qb 0))).setIfInBounds 1 (.bool (qb 1))).setIfInBounds 2 (.bool (qb 2))).setIfInBounds 3 (.bool (qb 3))).setIfInBounds 4 (.bool (qb 4))).setIfInBounds 5 (.bool (qb 5))).setIfInBounds 6 (.bool (qb 6))).setIfInBounds 7 (.bool (qb 7)) = set8 qb := by simp [set8]
  rw [e] at h2
  exact h2
/-- What of tells. -/
def OfP (E : World) (F : Asn) (L : List Int) (e : Ending) (w' : World) : Prop :=
  (Good L → e = .returned (.tuple #[.agg (set8 (memb L)), .bool (decide (0 < L.length))])) ∧ (¬ Good L → e = .returned (.tuple #[.agg (set8 fun _ => false), .bool false])) ∧ Sat E w' F
theorem take_snoc' (L : List Int) {k : Nat} (h : k < L.length) : L.take (k + 1) = L.take k ++ [L.getD k 0] := by
  rw [List.take_succ_eq_append_getElem h]
  simp [List.getD, h]

set_option maxHeartbeats 2000000 in
set_option maxRecDepth 100000 in
theorem of_call (E w : World) (F : Asn) (A : Option Addr) (n c : Nat) (L : List Int) (hs : Sat E w F) (hr : rd F 1 A n (ints L)) (hn : n ≤ 60000) :
    Calls Try.prog 95 #[.slice A n c] w (OfP E F L) := by
  have hl := hr.ints_len hs
  have hs2 := (hs.alloc (set8 fun _ => false) 135).alloc (set8 fun _ => false) 135
  rw [World.size_alloc] at hs2
  have HL := hide hl
  go_enter Try.func95, Try.ntmps95
  go_wp2_with fail
  go_loopw [6, 9] (fun _ s9 wr => ∃ (k : Nat) , s9 = .int .i64 k ∧ k ≤ n ∧ Hid (Good (L.take k)) ∧ Sat E wr (Asn.blk (w.heap.size + 1) 135 (set8 (memb (L.take k))) * (Asn.blk w.heap.size 135 (set8 fun _ => false) * F))) (fun _ s9 _ => n - (intOf s9).toNat)
  case atStart => exact ⟨0, rfl, Nat.zero_le _, ⟨fun x hx => by simp at hx, List.nodup_nil⟩, hs2⟩
  case round =>
    obtain ⟨k, rfl, hk, HG, hsr⟩ := hrel
    clear hs2
    by_cases hlt : k < n
    · obtain ⟨ad, rfl, hc⟩ := (RdW.of_rd hr hsr.right.right).int_at hlt
      have hll := unhide HL
      have hts := take_snoc' L (k := k) (by omega)
      obtain ⟨x, hx⟩ : ∃ x, x = L.getD k 0 := ⟨_, rfl⟩
      rw [← hx] at hc hts
      have hbad : ¬ Good (L.take (k + 1)) → ¬ Good L := fun h hg => h (by rw [← List.take_append_drop (k + 1) L] at hg; exact hg.pre)
      have HTS := hide hts
      have HBAD := hide hbad
      have z : ∀ j, j < 8 → wr.cell? ⟨w.heap.size, j, none⟩ = some (.bool false) := fun j hj => by rw [hsr.f2.cell]; exact set8_get _ hj
      have z0 := z 0 (by omega)
      have z1 := z 1 (by omega)
      have z2 := z 2 (by omega)
      have z3 := z 3 (by omega)
      have z4 := z 4 (by omega)
      have z5 := z 5 (by omega)
      have z6 := z 6 (by omega)
      have z7 := z 7 (by omega)
      have zf : ∀ j, wr.frozen? ⟨w.heap.size, j, none⟩ = false := fun j => hsr.f2.frozen j
      clear hts hbad hx z hll
      have fin : ∀ W, ¬ Good (L.take (k + 1)) → Sat E W F → OfP E F L (.returned (.tuple #[.agg (set8 fun _ => false), .bool false])) W := fun W h hW => ⟨fun hg => absurd hg (unhide HBAD h), fun _ => rfl, hW⟩
      have FIN := hide fin
      clear fin HBAD
      have hz := hide (sat_set8 hsr.f2 fun _ => false)
      by_cases h0 : x < 0
      · have hng : Hid (¬ Good (L.take (k + 1))) := fun hg => by
          have := hg.1 x (by rw [unhide HTS]; simp)
          omega
        clear hsr
        go_wp2_with fail
        exact bodyPost_ret (results_cell2 (p := 2) (u1 := 3) rfl _ _ _ _ _ _ _ rfl (unhide hz).blk Try.underlying135 rfl (by kernel_rfl)) rfl (unhide FIN _ (unhide hng) (unhide hz).right.right)
      · by_cases h8 : 8 ≤ x
        · have hng : Hid (¬ Good (L.take (k + 1))) := fun hg => by
            have := hg.1 x (by rw [unhide HTS]; simp)
            omega
          clear hsr
          go_wp2_with fail
          exact bodyPost_ret (results_cell2 (p := 2) (u1 := 3) rfl _ _ _ _ _ _ _ rfl (unhide hz).blk Try.underlying135 rfl (by kernel_rfl)) rfl (unhide FIN _ (unhide hng) (unhide hz).right.right)
        · obtain ⟨p, rfl⟩ := Int.eq_ofNat_of_zero_le (show 0 ≤ x by omega)
          have hp8 : p < 8 := by omega
          obtain ⟨q, hq⟩ : ∃ q, q = memb (L.take k) p := ⟨_, rfl⟩
          have hcp : wr.cell? ⟨w.heap.size + 1, p, none⟩ = some (.bool q) := by rw [hsr.cell, set8_get _ hp8, hq]
          have hfp : wr.frozen? ⟨w.heap.size + 1, p, none⟩ = false := hsr.frozen p
          cases q
          · have hnm : (p : Int) ∉ L.take k := by unfold memb at hq; simpa using hq
            have HG2 : Hid (Good (L.take (k + 1))) := by rw [unhide HTS]; exact HG.out.snoc (by omega) (by omega) hnm
            have hs5 := hsr.set p (.bool true)
            rw [set8_put _ hp8, ← memb_snoc, ← unhide HTS] at hs5
            have HS5 := hide hs5
            clear hs5 hsr hq hnm hz
            go_wp2_with fail
            go_roundw
            case rel => exact ⟨k + 1, by go_num, by omega, HG2, unhide HS5⟩
            case measure => simp [intOf]; omega
          · have hng : Hid (¬ Good (L.take (k + 1))) := fun hg => by
              have hm : (p : Int) ∈ L.take k := by unfold memb at hq; simpa using hq
              rw [unhide HTS] at hg
              exact (List.nodup_append.1 hg.2).2.2 _ hm _ (by simp) rfl
            clear hsr hq
            go_wp2_with fail
            exact bodyPost_ret (results_cell2 (p := 2) (u1 := 3) rfl _ _ _ _ _ _ _ rfl (unhide hz).blk Try.underlying135 rfl (by kernel_rfl)) rfl (unhide FIN _ (unhide hng) (unhide hz).right.right)
    · obtain rfl : k = n := by omega
      have hll := unhide HL
      rw [List.take_of_length_le (by omega)] at HG hsr
      have fin : ∀ W b, b = decide (0 < k) → Sat E W F → OfP E F L (.returned (.tuple #[.agg (set8 (memb L)), .bool b])) W := fun W b hb hW => ⟨fun _ => by rw [hll, hb], fun h => absurd HG.out h, hW⟩
      have FIN := hide fin
      have z : ∀ j, j < 8 → wr.cell? ⟨w.heap.size, j, none⟩ = some (.bool false) := fun j hj => by rw [hsr.f2.cell]; exact set8_get _ hj
      have z0 := z 0 (by omega)
      have z1 := z 1 (by omega)
      have z2 := z 2 (by omega)
      have z3 := z 3 (by omega)
      have z4 := z 4 (by omega)
      have z5 := z 5 (by omega)
      have z6 := z 6 (by omega)
      have z7 := z 7 (by omega)
      have zf : ∀ j, wr.frozen? ⟨w.heap.size, j, none⟩ = false := fun j => hsr.f2.frozen j
      have y : ∀ j, j < 8 → wr.cell? ⟨w.heap.size + 1, j, none⟩ = some (.bool (memb L j)) := fun j hj => by rw [hsr.cell]; exact set8_get _ hj
      have y0 := y 0 (by omega)
      have y1 := y 1 (by omega)
      have y2 := y 2 (by omega)
      have y3 := y 3 (by omega)
      have y4 := y 4 (by omega)
      have y5 := y 5 (by omega)
      have y6 := y 6 (by omega)
      have y7 := y 7 (by omega)
      have hz := hide (sat_set8 hsr.f2 (memb L))
      clear hsr z y hll fin
      go_wp2_with fail
      exact bodyPost_ret (results_cell2 (p := 2) (u1 := 3) rfl _ _ _ _ _ _ _ rfl (unhide hz).blk Try.underlying135 rfl (by kernel_rfl)) rfl (unhide FIN _ _ (by simp) (unhide hz).right.right)

/-- The paths of a set, rising. -/
def riseL (pb : Nat → Bool) : List Int := ((List.range 8).filter pb).map fun (p : Nat) => (p : Int)
theorem idx8 (pb : Nat → Bool) (w : World) {k : Nat} (hk : k < 8) : (Instr.index 135 (.agg (set8 pb)) (.int .i64 k)).run Try.prog w = .ok (.bool (pb k)) w := by
  rcases (by omega : k = 0 ∨ k = 1 ∨ k = 2 ∨ k = 3 ∨ k = 4 ∨ k = 5 ∨ k = 6 ∨ k = 7) with rfl | rfl | rfl | rfl | rfl | rfl | rfl | rfl <;> kernel_rfl
theorem riseL_step (pb : Nat → Bool) (k : Nat) : ((List.range (k + 1)).filter pb).map (fun (p : Nat) => (p : Int)) = ((List.range k).filter pb).map (fun (p : Nat) => (p : Int)) ++ (if pb k then [(k : Int)] else []) := by
  rw [List.range_succ, List.filter_append, List.map_append]
  cases h : pb k <;> simp [h]
set_option maxHeartbeats 1000000 in
set_option maxRecDepth 100000 in
theorem rising_call (E w : World) (F : Asn) (pb : Nat → Bool) (hs : Sat E w F) :
    Calls Try.prog 99 #[.agg (set8 pb)] w fun e w' => ∃ A c, e = .returned (.slice A (riseL pb).length c) ∧ Sat E w' (sl 3 1 A (riseL pb).length c (ints (riseL pb)) * F) := by
  have h0 : Sat E _ F := hs.allocKeep (.cells (set8 pb) 135 (0, 0))
  unfold set8 at h0 ⊢
  go_enter Try.func99, Try.ntmps99
  go_wp2_with fail
  go_loopw [3, 4, 5, 7] (fun s3 _ _ s7 wr => ∃ (k lc : Nat) (lA : Option Addr) (L : List Int), s7 = .int .i64 k ∧ s3 = .slice lA L.length lc ∧ k ≤ 8 ∧ Hid (L = ((List.range k).filter pb).map fun (p : Nat) => (p : Int)) ∧ L.length ≤ k ∧ Sat E wr (sl 3 1 lA L.length lc (ints L) * F)) (fun _ _ _ s7 _ => 8 - (intOf s7).toNat)
  case atStart => exact ⟨0, 0, none, [], rfl, rfl, Nat.zero_le _, rfl, Nat.le_refl _, h0.slNil⟩
  case round =>
    obtain ⟨k, lc, lA, L, rfl, rfl, hk, HL, hlk, hsr⟩ := hrel
    clear h0
    obtain ⟨q, hq⟩ : ∃ q, q = L.length := ⟨_, rfl⟩
    rw [← hq] at hsr hlk ⊢
    by_cases hlt : k < 8
    · have hix := fun w => idx8 pb w hlt
      have hnx := riseL_step pb k
      rw [← HL.out] at hnx
      have hk8 : (k : Int) < 8 := by omega
      have HQ := hide hq
      obtain ⟨b, hb⟩ : ∃ b, b = pb k := ⟨_, rfl⟩
      rw [← hb] at hnx
      simp only [← hb] at hix
      unfold set8 at hix
      clear hb hq
      cases b
      · have HN := hide hnx
        have HS := hide hsr
        clear hnx hsr
        go_wp2_with fail
        go_roundw
        case rel => exact ⟨k + 1, lc, lA, L, by go_num, by rw [unhide HQ], by omega, hide (by rw [unhide HN]; simp), by have := unhide HQ; omega, by rw [← unhide HQ]; exact unhide HS⟩
        case measure => simp [intOf]; omega
      · obtain ⟨A4, c4, w4, run4, hs5⟩ := Sat.app1 (t := 52) (ty := 52) hsr elt_ints (.int .i64 k) rfl (by unfold maxLen; omega) (by omega)
        have R4 := Lib.hid run4
        have HS := hide hs5
        have HN := hide hnx
        clear run4 hs5 hsr hnx
        go_wp2_with (at_builtin; refine wpList_appendR rfl (.tmp 12) (.tmp 14) rfl rfl rfl R4.out ?_)
        go_roundw
        case rel => exact ⟨k + 1, c4, A4, L ++ [(k : Int)], by go_num, by rw [unhide HQ]; simp, by omega, hide (by rw [unhide HN]; simp), by have := unhide HQ; simp; omega, by have := unhide HS; rw [unhide HQ] at this; simpa [ints_append, ints] using this⟩
        case measure => simp [intOf]; omega
    · obtain rfl : k = 8 := by omega
      have HS := hide hsr
      have HE := hide (show L = riseL pb from HL.out)
      have HQ := hide hq
      clear hsr hq HL
      go_wp2_with fail
      go_ret
      refine ⟨lA, lc, by rw [← unhide HE, ← unhide HQ]; rfl, ?_⟩
      rw [← unhide HE, ← unhide HQ]
      exact unhide HS
end Go.Proofs.Ytpcoehbjbjfggaa
