/- TombNobody: tombs that nobody made. -/
import Derived.Test.YtcagfcflffhadaaTombA
namespace Go.Proofs.Ytcagfcflffhadaa
open Go.RowKit Asn

/-- No tomb: nil, or one without a bitmap. -/
def NoTomb (p : Option Addr) (w : World) : Prop := p = none ∨ ∃ g, p = some ⟨g, 0, none⟩ ∧ w.cell? ⟨g, 0, none⟩ = some (.pointer none)
theorem NoTomb.none_ {p : Option Addr} {w : World} (h : NoTomb p w) : Calls Try.prog 82 #[.pointer p] w fun e w' => e = .returned (.bool true) ∧ w = w' := by
  rcases h with rfl | ⟨g, rfl, hc⟩
  · exact tomb_nil w
  · exact tomb_none w g none hc
theorem NoTomb.below {p : Option Addr} {w w' : World} (h : NoTomb p w) (hb : Below w.heap.size w w') : NoTomb p w' := by
  rcases h with rfl | ⟨g, rfl, hc⟩
  · exact .inl rfl
  · exact .inr ⟨g, rfl, by rw [hb.cell (World.block_lt_of_cell? w _ hc)]; exact hc⟩
section
variable {p : Option Addr} {w : World}
theorem tombn_close (h : NoTomb p w) (n : Int) : Calls Try.prog 25 #[.pointer p, .int .i64 n] w fun e w' => e = .returned (.tuple #[.bool false, .int .i64 4]) ∧ Below w.heap.size w w' := by
  have hn := hide h.none_
  go_enter Try.func25, Try.ntmps25
  go_wp2_with (go_at_call 82; refine (unhide hn).mono ?_; rintro e w' ⟨rfl, rfl⟩)
  go_ret2
  exact ⟨rfl, Below.refl _ _⟩
theorem tombn_closed (h : NoTomb p w) (n : Int) : Calls Try.prog 26 #[.pointer p, .int .i64 n] w fun e w' => e = .returned (.bool false) ∧ Below w.heap.size w w' := by
  have hn := hide h.none_
  go_enter Try.func26, Try.ntmps26
  go_wp2_with (go_at_call 82; refine (unhide hn).mono ?_; rintro e w' ⟨rfl, rfl⟩)
  go_ret
  exact ⟨rfl, Below.refl _ _⟩
theorem tombn_floor (h : NoTomb p w) : Calls Try.prog 24 #[.pointer p] w fun e w' => e = .returned (.int .i64 0) ∧ Below w.heap.size w w' := by
  have hn := hide h.none_
  go_enter Try.func24, Try.ntmps24
  go_wp2_with (go_at_call 82; refine (unhide hn).mono ?_; rintro e w' ⟨rfl, rfl⟩)
  go_ret
  exact ⟨rfl, Below.refl _ _⟩
theorem tombn_count (h : NoTomb p w) : Calls Try.prog 28 #[.pointer p] w fun e w' => e = .returned (.int .i64 0) ∧ Below w.heap.size w w' := by
  have hn := hide h.none_
  go_enter Try.func28, Try.ntmps28
  go_wp2_with (go_at_call 82; refine (unhide hn).mono ?_; rintro e w' ⟨rfl, rfl⟩)
  go_ret
  exact ⟨rfl, Below.refl _ _⟩
theorem tombn_open (h : NoTomb p w) (n : Int) : Calls Try.prog 49 #[.pointer p, .int .i64 n] w fun e w' => e = .returned (.slice none 0 0) ∧ Below w.heap.size w w' := by
  have hn := hide h.none_
  go_enter Try.func49, Try.ntmps49
  go_wp2_with (go_at_call 82; refine (unhide hn).mono ?_; rintro e w' ⟨rfl, rfl⟩)
  go_ret
  exact ⟨rfl, Below.refl _ _⟩
theorem tombn_fork (h : NoTomb p w) : Calls Try.prog 30 #[.pointer p] w fun e w' => e = .returned (.pointer none) ∧ Below w.heap.size w w' := by
  have hn := hide h.none_
  go_enter Try.func30, Try.ntmps30
  go_wp2_with (go_at_call 82; refine (unhide hn).mono ?_; rintro e w' ⟨rfl, rfl⟩)
  go_ret
  exact ⟨rfl, Below.refl _ _⟩
set_option maxRecDepth 100000 in
theorem tombn_may (h : NoTomb p w) (n : Int) : Calls Try.prog 27 #[.pointer p, .int .i64 n] w fun e w' => e = .returned (.bool false) ∧ Below w.heap.size w w' := by
  have HH := hide h
  have HS : Hid (Sat w w (Asn.exact w * 1)) := (Sat.start w).perm (sep_one _).symm
  clear h
  go_enter Try.func27, Try.ntmps27
  go_wp2_with fail
  refine wp_region_slr (Q := _) (E := w) (fun W => ∃ R, Sat w W ((Asn.exact w) * R)) [] [1] [] [] (fun _ => (0, #[], fun _ => undef)) [0, 1, 2, 3, 4, 5, 6, 7, 8, 9, 10, 11, 12, 13, 14, 15, 16, 17, 18, 19, 20, 21, 22, 23, 24, 25, 26, 27, 28, 29, 30, 31, 32, 33, 34, 35, 36, 37, 38, 39, 40] (by kernel_rfl) (by kernel_rfl) (unhide HS) (fun W R h => ⟨_, h.asc⟩) ?_
  iterate 1
    refine wpS_f _ rfl rfl (v := ?_) ?_ ?_
    rotate_left
    · rintro W ⟨R, hW⟩
      go_simp
      first | rfl | (rw [IntKind.wrap_i64]; omega)
    go_simp
  refine wpS_c _ rfl rfl (v := .bool true) (freeC_call rfl (fun W => by go_simp; try rfl) (fun W ⟨R, hW⟩ => ((unhide HH).below hW.below).none_.mono fun e w' ⟨he, hw⟩ => ⟨he, hw ▸ Below.refl _ _⟩)) ?_
  go_simp
  iterate 39
    refine wpS_f _ rfl rfl (v := ?_) ?_ ?_
    rotate_left
    · rintro W ⟨R, hW⟩
      go_simp
      first | rfl | (rw [IntKind.wrap_i64]; omega)
    go_simp
  refine wpS_n (fun w3 hs3 => ?_)
  have HS3 := hide hs3.below
  clear hs3
  go_wp2_with fail
  go_ret
  exact ⟨rfl, unhide HS3⟩
end
/-- A host's place: its tomb, if it has one. -/
structure TSt where
  t : Nat
  g : Nat
  V : Nat → Nat
  ba : Nat
  L : List Int
def TSt.cell (s : Option TSt) : Value := .pointer (s.map fun s => ⟨s.t, 0, none⟩)
def TSt.asn (sz : Nat) (s : Option TSt) : Asn := match s with | none => 1 | some s => TombAt s.t s.g sz s.V s.ba
def TSt.cnt (s : Option TSt) : Nat := match s with | none => 0 | some s => s.L.length
def TSt.ok (sz : Nat) (s : Option TSt) : Prop := ∀ x, s = some x → TInv sz x.ba x.V x.L
/-- The cells of the tombs of eight hosts. -/
def tombsC (f : Nat → Option TSt) (h : Nat) : Array Value := #[TSt.cell (f 0), TSt.cell (f 1), TSt.cell (f 2), TSt.cell (f 3), TSt.cell (f 4), TSt.cell (f 5), TSt.cell (f 6), TSt.cell (f 7), .int .i64 h]
/-- All that is owned of the first k. -/
def upto (sz : Nat) (f : Nat → Option TSt) : Nat → Asn
  | 0 => 1
  | k + 1 => TSt.asn sz (f k) * upto sz f k
def cnts (f : Nat → Option TSt) : Nat → Nat
  | 0 => 0
  | k + 1 => cnts f k + TSt.cnt (f k)
/-- All but one. -/
def but (sz : Nat) (f : Nat → Option TSt) (i : Nat) : Nat → Asn
  | 0 => 1
  | k + 1 => (if k = i then 1 else TSt.asn sz (f k)) * but sz f i k
theorem upto_but (sz : Nat) (f : Nat → Option TSt) (i : Nat) : ∀ k, i < k → upto sz f k = TSt.asn sz (f i) * but sz f i k := by
  have hno : ∀ k, k ≤ i → upto sz f k = but sz f i k := by
    intro k
    induction k with
    | zero => intro _; rfl
    | succ k ih => intro h; unfold upto but; rw [if_neg (by omega), ih (by omega)]
  intro k
  induction k with
  | zero => intro h; omega
  | succ k ih =>
    intro h
    unfold upto but
    by_cases hk : k = i
    · subst hk
      rw [if_pos rfl, one_sep, hno k (Nat.le_refl _)]
    · rw [if_neg hk, ih (by omega)]
      ac_rfl
theorem but_congr (sz : Nat) (f f' : Nat → Option TSt) (i : Nat) (h : ∀ j, j ≠ i → f' j = f j) : ∀ k, but sz f' i k = but sz f i k := by
  intro k
  induction k with
  | zero => rfl
  | succ k ih =>
    unfold but
    rw [ih]
    by_cases hk : k = i
    · rw [if_pos hk, if_pos hk]
    · rw [if_neg hk, if_neg hk, h k hk]
theorem tidx8 (f : Nat → Option TSt) (w : World) {k : Nat} (hk : k < 8) : (Instr.index 91 (.agg #[TSt.cell (f 0), TSt.cell (f 1), TSt.cell (f 2), TSt.cell (f 3), TSt.cell (f 4), TSt.cell (f 5), TSt.cell (f 6), TSt.cell (f 7)]) (.int .i64 k)).run Try.prog w = .ok (TSt.cell (f k)) w := by
  rcases (by omega : k = 0 ∨ k = 1 ∨ k = 2 ∨ k = 3 ∨ k = 4 ∨ k = 5 ∨ k = 6 ∨ k = 7) with rfl | rfl | rfl | rfl | rfl | rfl | rfl | rfl <;> kernel_rfl
theorem tidxc {E w : World} {F : Asn} {f : Nat → Option TSt} {q h k : Nat} (hs : Sat E w (Asn.blk q 93 (tombsC f h) * F)) (hk : k < 8) : w.cell? ⟨q, k, none⟩ = some (TSt.cell (f k)) := by
  rcases (by omega : k = 0 ∨ k = 1 ∨ k = 2 ∨ k = 3 ∨ k = 4 ∨ k = 5 ∨ k = 6 ∨ k = 7) with rfl | rfl | rfl | rfl | rfl | rfl | rfl | rfl <;> exact hs.cell _
/-- The count of what may be no tomb. -/
theorem count_any {E w : World} {F : Asn} {sz : Nat} {s : Option TSt} (hs : Sat E w (TSt.asn sz s * F)) (hi : TSt.ok sz s) : Calls Try.prog 28 #[TSt.cell s] w fun e w' => e = .returned (.int .i64 (TSt.cnt s)) ∧ Sat E w' (TSt.asn sz s * F) := by
  rcases s with _ | s
  · exact (tombn_count (.inl rfl)).mono fun e w' ⟨he, hb⟩ => ⟨he, hs.under hb⟩
  · exact tomb_count hs (hi s rfl)
set_option maxHeartbeats 2000000 in
set_option maxRecDepth 100000 in
theorem tombs_count (E w : World) (F : Asn) (f : Nat → Option TSt) (q h sz : Nat) (hs : Sat E w (Asn.blk q 93 (tombsC f h) * (upto sz f 8 * F))) (hi : ∀ k, TSt.ok sz (f k)) (hc : ∀ k, TSt.cnt (f k) ≤ 256) :
    Calls Try.prog 51 #[.pointer (some ⟨q, 0, none⟩)] w fun e w' => e = .returned (.int .i64 (cnts f 8)) ∧ Sat E w' (Asn.blk q 93 (tombsC f h) * (upto sz f 8 * F)) := by
  have h0 : w.cell? ⟨q, 0, none⟩ = some (TSt.cell (f 0)) := hs.cell 0
  have h1 : w.cell? ⟨q, 1, none⟩ = some (TSt.cell (f 1)) := hs.cell 1
  have h2 : w.cell? ⟨q, 2, none⟩ = some (TSt.cell (f 2)) := hs.cell 2
  have h3 : w.cell? ⟨q, 3, none⟩ = some (TSt.cell (f 3)) := hs.cell 3
  have h4 : w.cell? ⟨q, 4, none⟩ = some (TSt.cell (f 4)) := hs.cell 4
  have h5 : w.cell? ⟨q, 5, none⟩ = some (TSt.cell (f 5)) := hs.cell 5
  have h6 : w.cell? ⟨q, 6, none⟩ = some (TSt.cell (f 6)) := hs.cell 6
  have h7 : w.cell? ⟨q, 7, none⟩ = some (TSt.cell (f 7)) := hs.cell 7
  have HS := hide hs
  have HI := hide hi
  have hcs : ∀ k, cnts f k ≤ 256 * k := fun k => by
    induction k with
    | zero => exact Nat.le_refl _
    | succ k ih => have := hc k; unfold cnts; omega
  have HCS := hide hcs
  clear hs hi hcs
  go_enter Try.func51, Try.ntmps51
  go_wp2_with fail
  clear h0 h1 h2 h3 h4 h5 h6 h7
  go_loopw [3, 5, 12] (fun s3 _ s12 wr => ∃ k : Nat, s12 = .int .i64 k ∧ k ≤ 8 ∧ s3 = .int .i64 (cnts f k) ∧ Sat E wr (Asn.blk q 93 (tombsC f h) * (upto sz f 8 * F))) (fun _ _ s12 _ => 8 - (intOf s12).toNat)
  case atStart => exact ⟨0, rfl, Nat.zero_le _, rfl, unhide HS⟩
  case round =>
    obtain ⟨k, rfl, hk, rfl, hsr⟩ := hrel
    clear HS
    have hck := unhide HCS k
    obtain ⟨q0, hq0⟩ : ∃ q0, q0 = cnts f k := ⟨_, rfl⟩
    rw [← hq0] at hck ⊢
    by_cases hlt : k < 8
    · have hix := fun w => tidx8 f w hlt
      have hct := hide (count_any (hsr.perm (show _ = TSt.asn sz (f k) * (but sz f k 8 * (Asn.blk q 93 (tombsC f h) * F)) by rw [upto_but sz f k 8 hlt]; ac_rfl)) (unhide HI k))
      have hcc := hc k
      have hnx : Hid (cnts f (k + 1) = q0 + TSt.cnt (f k)) := by rw [hq0]; rfl
      obtain ⟨q1, hq1⟩ : ∃ q1, q1 = TSt.cnt (f k) := ⟨_, rfl⟩
      rw [← hq1] at hct hcc hnx
      clear hsr hq0 hq1
      go_wp2_with fail
      refine (unhide hct).mono ?_
      rintro e w2 ⟨rfl, hs2⟩
      have HS2 := hide (hs2.perm (show _ = Asn.blk q 93 (tombsC f h) * (upto sz f 8 * F) by rw [upto_but sz f k 8 hlt]; ac_rfl))
      clear hs2 hct hix
      go_wp2_with fail
      go_roundw
      case rel => exact ⟨k + 1, by go_num, by omega, by rw [unhide hnx]; go_num, unhide HS2⟩
      case measure => simp [intOf]; omega
    · obtain rfl : k = 8 := by omega
      have HQ := hide hq0
      have HS := hide hsr
      clear hq0 hsr
      go_wp2_with fail
      go_ret
      exact ⟨by rw [unhide HQ]; rfl, unhide HS⟩
theorem tombs_of (E w : World) (F : Asn) (f : Nat → Option TSt) (q h i : Nat) (hs : Sat E w (Asn.blk q 93 (tombsC f h) * F)) (hi : i < h) (h8 : h ≤ 8) :
    Calls Try.prog 50 #[.pointer (some ⟨q, 0, none⟩), .int .i64 i] w fun e w' => e = .returned (TSt.cell (f i)) ∧ w = w' := by
  have h1 : w.cell? ⟨q, 8, none⟩ = some (.int .i64 h) := hs.cell 8
  have h2 : w.cell? ⟨q, i, none⟩ = some (TSt.cell (f i)) := tidxc hs (by omega)
  have h3 : i < 8 := by omega
  clear hs
  go_enter Try.func50, Try.ntmps50
  go_wp2_with fail
  go_ret
  exact ⟨rfl, rfl⟩
theorem tombs_of_no (E w : World) (F : Asn) (f : Nat → Option TSt) (q h : Nat) (i : Int) (hs : Sat E w (Asn.blk q 93 (tombsC f h) * F)) (hi : ¬ (0 ≤ i ∧ i < h)) :
    Calls Try.prog 50 #[.pointer (some ⟨q, 0, none⟩), .int .i64 i] w fun e w' => e = .returned (.pointer none) ∧ w = w' := by
  have h1 : w.cell? ⟨q, 8, none⟩ = some (.int .i64 h) := hs.cell 8
  clear hs
  by_cases c : 0 ≤ i
  · have c2 : (h : Int) ≤ i := by omega
    clear hi
    go_enter Try.func50, Try.ntmps50
    go_wp2_with fail
    go_ret
    exact ⟨rfl, rfl⟩
  · clear hi
    go_enter Try.func50, Try.ntmps50
    go_wp2_with fail
    go_ret
    exact ⟨rfl, rfl⟩
theorem tombs_of_nil (w : World) (i : Int) : Calls Try.prog 50 #[.pointer none, .int .i64 i] w fun e w' => e = .returned (.pointer none) ∧ w = w' := by
  go_enter Try.func50, Try.ntmps50
  go_wp2_with fail
  go_ret
  exact ⟨rfl, rfl⟩
theorem tombs_count_nil (w : World) : Calls Try.prog 51 #[.pointer none] w fun e w' => e = .returned (.int .i64 0) ∧ w = w' := by
  go_enter Try.func51, Try.ntmps51
  go_wp2_with fail
  go_ret
  exact ⟨rfl, rfl⟩
end Go.Proofs.Ytcagfcflffhadaa
