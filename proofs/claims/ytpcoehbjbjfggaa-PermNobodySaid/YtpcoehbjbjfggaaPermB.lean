/- The program's perm: its list; begin, New, Next. -/
import Derived.Test.YtpcoehbjbjfggaaPermA
import Derived.Test.YtpcoehbjbjfggaaRef10B
namespace Go.Proofs.Ytpcoehbjbjfggaa
open Go.RowKit Asn

theorem swp_perm8 (l : List Value) (a b : Nat) (ha : a < l.length) (hb : b < l.length) : (swp l a b).Perm l := by
  have h := @List.set_set_perm Value l a b ha hb
  unfold swp
  simpa [List.getD, List.getElem?_eq_getElem ha, List.getElem?_eq_getElem hb] using h
theorem shufL_perm8 (s : Int) : ∀ (k : Nat) (i : Int) (l : List Value), k ≤ l.length - 1 → k ≤ 1000000 → (shufL s k i l).Perm l
  | 0, _, l, _, _ => .refl l
  | k + 1, i, l, hk, hm => by
    have hb := bw_lt s i (k + 2) (by omega) (by omega)
    rw [shufL]
    exact (shufL_perm8 s k (i + 1) _ (by rw [swp_len]; omega) (by omega)).trans (swp_perm8 l _ _ (by omega) (by omega))
theorem ints_perm {l : List Value} : ∀ {L : List Int}, l.Perm (ints L) → ∃ M, l = ints M ∧ M.Perm L := by
  intro L h
  have e : l = ints (l.map fun v => match v with | .int _ x => x | _ => 0) := by
    unfold ints
    rw [List.map_map]
    conv => lhs; rw [← List.map_id l]
    refine List.map_congr_left fun u hu => ?_
    have := h.mem_iff.1 hu
    obtain ⟨x, _, rfl⟩ := List.mem_map.1 this
    rfl
  refine ⟨_, e, ?_⟩
  have h2 := h.map fun v => match v with | .int _ x => x | _ => 0
  refine h2.trans ?_
  unfold ints
  rw [List.map_map]
  have : (List.map ((fun v => match v with | Value.int _ x => x | _ => 0) ∘ Value.int .i64) L) = L := by
    conv => rhs; rw [← List.map_id L]
    exact List.map_congr_left fun _ _ => rfl
  rw [this]
/-- The paths, shuffled with the source's next draws. -/
theorem shufI (s : Int) (i : Int) (L : List Int) (hL : L.length ≤ 1000) : ∃ M, shufL s (L.length - 1) i (ints L) = ints M ∧ M.Perm L :=
  ints_perm (shufL_perm8 s _ i _ (by rw [length_ints]; exact Nat.le_refl _) (by omega))
theorem riseL_mem (pb : Nat → Bool) (x : Int) : x ∈ riseL pb ↔ ∃ p : Nat, p < 8 ∧ pb p = true ∧ x = p := by
  unfold riseL
  simp only [List.mem_map, List.mem_filter, List.mem_range]
  constructor
  · rintro ⟨p, ⟨h1, h2⟩, rfl⟩; exact ⟨p, h1, h2, rfl⟩
  · rintro ⟨p, h1, h2, rfl⟩; exact ⟨p, ⟨h1, h2⟩, rfl⟩
theorem riseL_len (pb : Nat → Bool) : (riseL pb).length ≤ 8 := by
  unfold riseL
  rw [List.length_map]
  have := List.length_filter_le pb (List.range 8)
  simpa using this

/-- The list's cells. -/
def permC (gs : Nat) (pb : Nat → Bool) (lv : Value) (rd : Int) (td : Nat → Int) : Array Value :=
  #[.pointer (some ⟨gs, 0, none⟩), .bool (pb 0), .bool (pb 1), .bool (pb 2), .bool (pb 3), .bool (pb 4), .bool (pb 5), .bool (pb 6), .bool (pb 7), lv, .int .i64 rd,
    .int .i64 (td 0), .int .i64 (td 1), .int .i64 (td 2), .int .i64 (td 3), .int .i64 (td 4), .int .i64 (td 5), .int .i64 (td 6), .int .i64 (td 7)]
theorem permC_set (gs : Nat) (pb : Nat → Bool) (lv v : Value) (rd : Int) (td : Nat → Int) : (permC gs pb lv rd td).setIfInBounds 9 v = permC gs pb v rd td := by simp [permC]
theorem permC_rd (gs : Nat) (pb : Nat → Bool) (lv : Value) (rd q : Int) (td : Nat → Int) : (permC gs pb lv rd td).setIfInBounds 10 (.int .i64 q) = permC gs pb lv q td := by simp [permC]
/-- One told once more. -/
def addT (td : Nat → Int) (p : Nat) (x : Int) : Nat → Int := fun q => if q = p then x else td q
theorem permC_td (gs : Nat) (pb : Nat → Bool) (lv : Value) (rd : Int) (td : Nat → Int) {p : Nat} (hp : p < 8) (x : Int) : (permC gs pb lv rd td).setIfInBounds (11 + p) (.int .i64 x) = permC gs pb lv rd (addT td p x) := by
  rcases (by omega : p = 0 ∨ p = 1 ∨ p = 2 ∨ p = 3 ∨ p = 4 ∨ p = 5 ∨ p = 6 ∨ p = 7) with rfl | rfl | rfl | rfl | rfl | rfl | rfl | rfl <;> simp [permC, addT]
theorem permC_get (gs : Nat) (pb : Nat → Bool) (lv : Value) (rd : Int) (td : Nat → Int) {p : Nat} (hp : p < 8) : (permC gs pb lv rd td)[11 + p]? = some (.int .i64 (td p)) := by
  rcases (by omega : p = 0 ∨ p = 1 ∨ p = 2 ∨ p = 3 ∨ p = 4 ∨ p = 5 ∨ p = 6 ∨ p = 7) with rfl | rfl | rfl | rfl | rfl | rfl | rfl | rfl <;> rfl
def PermAt (g gs : Nat) (s i : Int) (pb : Nat → Bool) (lv : Value) (rd : Int) (td : Nat → Int) : Asn := Asn.blk g 137 (permC gs pb lv rd td) * SrcAt gs s i

theorem perm_none (w : World) (g : Nat) (p : Option Addr) (h : w.cell? ⟨g, 0, none⟩ = some (.pointer p)) : Calls Try.prog 97 #[.pointer (some ⟨g, 0, none⟩)] w fun e w' => e = .returned (.bool p.isNone) ∧ w = w' := by
  rcases p with _ | p
  all_goals
    go_enter Try.func97, Try.ntmps97
    go_wp2_with fail
    go_ret
    exact ⟨rfl, rfl⟩
theorem perm_nil (w : World) : Calls Try.prog 97 #[.pointer none] w fun e w' => e = .returned (.bool true) ∧ w = w' := by
  go_enter Try.func97, Try.ntmps97
  go_wp2_with fail
  go_ret
  exact ⟨rfl, rfl⟩

section
variable {E w : World} {F : Asn} {g gs : Nat} {pb : Nat → Bool} {lv : Value} {rd : Int} {td : Nat → Int} {t : TypeId}
theorem permLeft (h : Sat E w (Asn.blk g t (permC gs pb lv rd td) * F)) (v : Value) : Sat E (w.setCell ⟨g, 9, none⟩ v) (Asn.blk g t (permC gs pb v rd td) * F) := by
  have := h.set 9 v
  rwa [permC_set] at this
theorem permRd (h : Sat E w (Asn.blk g t (permC gs pb lv rd td) * F)) (q : Int) : Sat E (w.setCell ⟨g, 10, none⟩ (.int .i64 q)) (Asn.blk g t (permC gs pb lv q td) * F) := by
  have := h.set 10 (.int .i64 q)
  rwa [permC_rd] at this
theorem permTd (h : Sat E w (Asn.blk g t (permC gs pb lv rd td) * F)) {p : Nat} (hp : p < 8) (x : Int) : Sat E (w.setCell ⟨g, 11 + p, none⟩ (.int .i64 x)) (Asn.blk g t (permC gs pb lv rd (addT td p x)) * F) := by
  have := h.set (11 + p) (.int .i64 x)
  rwa [permC_td _ _ _ _ _ hp] at this
end
/-- What begin leaves. -/
def BeginP (E : World) (F : Asn) (g gs : Nat) (s i : Int) (pb : Nat → Bool) (rd : Int) (td : Nat → Int) (e : Ending) (w' : World) : Prop :=
  (∃ v, e = .returned v) ∧ ∃ A c L, ints L = shufL s ((riseL pb).length - 1) i (ints (riseL pb)) ∧ L.Perm (riseL pb) ∧
    Sat E w' (PermAt g gs s (i + ((riseL pb).length - 1 : Nat)) pb (.slice A L.length c) (wrap64 (rd + 1)) td * (sl 3 1 A L.length c (ints L) * F))
set_option maxHeartbeats 2000000 in
set_option maxRecDepth 100000 in
theorem begin_call (E w : World) (F : Asn) (g gs : Nat) (s i : Int) (pb : Nat → Bool) (lv : Value) (rd : Int) (td : Nat → Int) (hs : Sat E w (PermAt g gs s i pb lv rd td * F)) (h0 : 0 ≤ i) (hi : i ≤ 900000) :
    Calls Try.prog 96 #[.pointer (some ⟨g, 0, none⟩)] w (BeginP E F g gs s i pb rd td) := by
  obtain ⟨L, hL, hLp⟩ := shufI s i (riseL pb) (by have := riseL_len pb; omega)
  have hll : L.length = (riseL pb).length := hLp.length_eq
  obtain ⟨m, hm⟩ : ∃ m, m = (riseL pb).length := ⟨_, rfl⟩
  have hrise := hide (fun W R h => rising_call E W R pb h)
  have hshuf := hide (fun W R (A : Option Addr) (c : Nat) (h : Sat E W (SrcAt gs s i * R)) (hr : RS R A (riseL pb).length c (riseL pb)) => shuf_ints E W R gs (riseL pb).length c s i A _ h hr.rd ints_int hr.nil (by have := riseL_len pb; omega) h0 hi)
  rw [hL, ← hm] at hshuf
  rw [← hm] at hrise
  have HS := hide (show Sat E w ((Asn.blk g 137 (permC gs pb lv rd td) * F) * SrcAt gs s i) from hs.perm (by unfold PermAt; ac_rfl))
  have HLP := hide hLp
  have HLL := hide (show L.length = m by rw [hll, hm])
  have hfin : Hid (∀ (W : World) (A : Option Addr) (c : Nat) (v : Value), Sat E W (PermAt g gs s (i + (m - 1 : Nat)) pb (.slice A m c) (wrap64 (rd + 1)) td * (sl 3 1 A m c (ints L) * F)) → BeginP E F g gs s i pb rd td (.returned v) W) := by
    intro W A c v h
    refine ⟨⟨v, rfl⟩, A, c, L, by rw [hL], hLp, ?_⟩
    rw [hll, ← hm]
    exact h
  have hm8 : m ≤ 8 := by rw [hm]; exact riseL_len pb
  have HM := hide hm
  clear hm hll hL hLp hs
  go_enter Try.func96, Try.ntmps96
  go_wp2_with fail
  refine wp_region_sl (Q := _) (E := E) (fun W => ∃ R, ∃ v_ : Value, Sat E W ((Asn.blk g 137 (permC gs pb (v_) rd td) * F) * R)) [9, 10, 13] [] [] (fun _ => (0, #[], fun _ => undef)) [0, 1, 2, 3, 4, 5, 6, 7, 8, 9, 10, 11, 12, 13] (by kernel_rfl) (by kernel_rfl) (unhide HS) (fun W R h => ⟨_, _, h.asc⟩) ?_
  iterate 9
    refine wpS_f _ rfl rfl (v := ?_) ?_ ?_
    rotate_left
    · rintro W ⟨R, v_, hW⟩
      have f0 : W.cell? ⟨g, 0, none⟩ = some (.pointer (some ⟨gs, 0, none⟩)) := hW.asc.cell 0
      have f1 : W.cell? ⟨g, 1, none⟩ = some (.bool (pb 0)) := hW.asc.cell 1
      have f2 : W.cell? ⟨g, 2, none⟩ = some (.bool (pb 1)) := hW.asc.cell 2
      have f3 : W.cell? ⟨g, 3, none⟩ = some (.bool (pb 2)) := hW.asc.cell 3
      have f4 : W.cell? ⟨g, 4, none⟩ = some (.bool (pb 3)) := hW.asc.cell 4
      have f5 : W.cell? ⟨g, 5, none⟩ = some (.bool (pb 4)) := hW.asc.cell 5
      have f6 : W.cell? ⟨g, 6, none⟩ = some (.bool (pb 5)) := hW.asc.cell 6
      have f7 : W.cell? ⟨g, 7, none⟩ = some (.bool (pb 6)) := hW.asc.cell 7
      have f8 : W.cell? ⟨g, 8, none⟩ = some (.bool (pb 7)) := hW.asc.cell 8
      go_simp
      first | rfl | (rw [IntKind.wrap_i64]; omega)
    go_simp
  refine wpS_e _ rfl rfl (fun W R hW => ?_)
  refine stp_call rfl (by go_simp; try rfl) ((unhide hrise W _ hW).mono ?_)
  rintro e w' ⟨A1, c1, rfl, hs3⟩
  refine ⟨_, rfl, (Asn.blk g 137 (permC gs pb (lv) rd td) * F) * (sl 3 1 A1 m c1 (ints (riseL pb)) * SrcAt gs s i), fun W R h => ⟨_, _, h.asc⟩, hs3.perm (by first | ac_rfl | (simp only [Asn.one_sep, Asn.sep_one]; ac_rfl)), ?_⟩
  clear hs3 hW
  go_simp
  refine wpS_e _ rfl rfl (fun W R hW => ?_)
  refine stp_call rfl (by go_simp; try rfl) ((unhide hshuf W ((sl 3 1 A1 m c1 (ints (riseL pb))) * ((Asn.blk g 137 (permC gs pb lv rd td) * F) * R)) A1 c1 (hW.perm (by ac_rfl)) ((Sat.slRS (hW.perm (show _ = sl 3 1 A1 m c1 (ints (riseL pb)) * (SrcAt gs s i * ((Asn.blk g 137 (permC gs pb lv rd td) * F) * R)) by ac_rfl))).left)).mono ?_)
  rintro e w' ⟨A2, c2, rfl, hs3⟩
  refine ⟨_, rfl, (Asn.blk g 137 (permC gs pb (lv) rd td) * F) * (sl 3 1 A2 m c2 (ints L) * (SrcAt gs s (i + (m - 1 : Nat)) * sl 3 1 A1 m c1 (ints (riseL pb)))), fun W R h => ⟨_, _, h.asc⟩, hs3.perm (by first | ac_rfl | (simp only [Asn.one_sep, Asn.sep_one]; ac_rfl)), ?_⟩
  clear hs3 hW
  go_simp
  iterate 2
    refine wpS_f _ rfl rfl (v := ?_) ?_ ?_
    rotate_left
    · rintro W ⟨R, v_, hW⟩
      have f0 : W.cell? ⟨g, 0, none⟩ = some (.pointer (some ⟨gs, 0, none⟩)) := hW.asc.cell 0
      have f1 : W.cell? ⟨g, 1, none⟩ = some (.bool (pb 0)) := hW.asc.cell 1
      have f2 : W.cell? ⟨g, 2, none⟩ = some (.bool (pb 1)) := hW.asc.cell 2
      have f3 : W.cell? ⟨g, 3, none⟩ = some (.bool (pb 2)) := hW.asc.cell 3
      have f4 : W.cell? ⟨g, 4, none⟩ = some (.bool (pb 3)) := hW.asc.cell 4
      have f5 : W.cell? ⟨g, 5, none⟩ = some (.bool (pb 4)) := hW.asc.cell 5
      have f6 : W.cell? ⟨g, 6, none⟩ = some (.bool (pb 5)) := hW.asc.cell 6
      have f7 : W.cell? ⟨g, 7, none⟩ = some (.bool (pb 6)) := hW.asc.cell 7
      have f8 : W.cell? ⟨g, 8, none⟩ = some (.bool (pb 7)) := hW.asc.cell 8
      go_simp
      first | rfl | (rw [IntKind.wrap_i64]; omega)
    go_simp
  refine wpS_e _ rfl rfl (fun W R hW => ?_)
  have f9 : W.cell? ⟨g, 9, none⟩ = some lv := hW.asc.asc.cell 9
  have f10 : W.frozen? ⟨g, 9, none⟩ = false := hW.asc.asc.frozen 9
  have hst := hide (show Sat E _ ((Asn.blk g 137 (permC gs pb (.slice A2 m c2) rd td) * F) * (sl 3 1 A2 m c2 (ints L) * (SrcAt gs s (i + (m - 1 : Nat)) * sl 3 1 A1 m c1 (ints (riseL pb)))) * R) from (permLeft hW.asc.asc (.slice A2 m c2)).perm (by first | ac_rfl | (simp only [Asn.one_sep, Asn.sep_one]; ac_rfl)))
  unfold stp
  go_simp
  refine (show ∃ F', _ from ⟨(Asn.blk g 137 (permC gs pb (.slice A2 m c2) rd td) * F) * (sl 3 1 A2 m c2 (ints L) * (SrcAt gs s (i + (m - 1 : Nat)) * sl 3 1 A1 m c1 (ints (riseL pb)))), fun W R h => ⟨_, _, h.asc⟩, unhide hst, ?_⟩)
  clear hst hW f9 f10
  go_simp
  refine wpS_n (fun w3 hs3 => ?_)
  have g1 : w3.cell? ⟨g, 10, none⟩ = some (.int .i64 rd) := hs3.asc.cell 10
  have g2 : w3.frozen? ⟨g, 10, none⟩ = false := hs3.asc.frozen 10
  have hs4 := permRd hs3.asc (wrap64 (rd + 1))
  have hs5 : Sat E _ (PermAt g gs s (i + (m - 1 : Nat)) pb (.slice A2 m c2) (wrap64 (rd + 1)) td * (sl 3 1 A2 m c2 (ints L) * F)) := (hs4.perm (show _ = (PermAt g gs s (i + (m - 1 : Nat)) pb (.slice A2 m c2) (wrap64 (rd + 1)) td * (sl 3 1 A2 m c2 (ints L) * F)) * (sl 3 1 A1 m c1 (ints (riseL pb))) by unfold PermAt; ac_rfl)).left
  have HS5 := hide hs5
  clear hs3 hs4 hs5
  go_wp2_with fail
  go_end0
  exact unhide hfin _ _ _ _ (unhide HS5)
end Go.Proofs.Ytpcoehbjbjfggaa
