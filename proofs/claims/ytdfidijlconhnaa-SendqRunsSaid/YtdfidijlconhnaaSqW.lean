/- The queue of pieces: what the law shows of one beside the document's. -/
import Derived.Test.YtdfidijlconhnaaR13F
import Derived.Test.YtdfidijlconhnaaSqQ
import Derived.Test.YtdfidijlconhnaaSqM
import Derived.Test.YtdfidijlconhnaaSameI
namespace Go.Proofs.Ytdfidijlconhnaa
open Go.RowKit Asn
theorem sameI_same {E w : World} {F : Asn} {A B : Option Addr} {n c d : Nat} {L : List Int} (hs : Sat E w F) (ha : rd F 1 A n (ints L)) (hb : rd F 1 B n (ints L)) (hn : n ≤ 65536) :
    Calls Try.prog 54 #[.slice A n c, .slice B n d] w fun e w' => e = .returned (.bool true) ∧ Sat E w' F := by
  have := sameI05 E w F A B n c n d L L hs ha hb hn hn
  rwa [decide_eq_true (rfl : L = L)] at this
set_option maxHeartbeats 4000000 in
set_option maxRecDepth 100000 in
theorem shows13 (E w : World) (X F : Asn) (g most low next : Nat) (H : List HR) (row : List Int) (A B : Option Addr) (c d : Nat) (ak : List Bool) (la : Option Addr) (lc : Nat) (aa : Option Addr) (ac : Nat) (ra : Option Addr) (rc : Nat) (seq : Int)
    (hs : Sat E w (QAt g most low next H row A c B d * (X * F))) (q : QI ak low next H) (ha : rd X 1 aa ak.length (bools ak)) (hr : RS X ra row.length rc row) (h1 : 1 ≤ most) (hal : ak.length ≤ 20000) (hrl : row.length ≤ 20000) (hx : -9223372036854775808 ≤ seq ∧ seq ≤ 9223372036854775807) :
    Calls Try.prog 30 #[.pointer (some ⟨g, 0, none⟩), .agg (q13 most la ak.length lc aa ak.length ac next ra row.length rc), .int .i64 seq] w fun e w' => e = .returned (.bool true) ∧ Sat E w' (QAt g most low next H row A c B d * (X * F)) := by
  have hlen := q.len; have hnx := q.nx; have hlo := q.lo
  obtain ⟨b0, hb0⟩ : ∃ b0, b0 = w.heap.size := ⟨_, rfl⟩
  have hs1 := hs.alloc (q13 most la ak.length lc aa ak.length ac next ra row.length rc) 41
  rw [← hb0] at hs1
  have hwant := hide (lackingR13 E _ _ (most := most) (la := la) (ln := ak.length) (lc := lc) (ac := ac) (ra := ra) (rn := row.length) (rc := rc) hs1 ha.left.right.right hnx (by omega))
  -- what each call tells
  have hLow := hide (fun W R (h : Sat E W (QAt g most low next H row A c B d * R)) => sq_low h h1)
  have hLowR := hide (fun W (h : Sat E W X) => low13 (most := most) (la := la) (ln := ak.length) (lc := lc) (ac := ac) (ra := ra) (rn := row.length) (rc := rc) (RdW.of_rd ha h) hnx (by omega))
  rw [← q.low] at hLowR
  have hNext := hide (fun W R (h : Sat E W (QAt g most low next H row A c B d * R)) => sq_next h h1)
  have hTot := hide (fun W R (h : Sat E W (QAt g most low next H row A c B d * R)) => sq_total h h1 (by omega) (by omega))
  rw [hlen] at hTot
  have hRow := hide (fun W R (h : Sat E W (QAt g most low next H row A c B d * R)) => sq_row h h1 (by omega))
  obtain ⟨WL, hWL⟩ : ∃ WL, WL = natI (lackD ak next) := ⟨_, rfl⟩
  rw [← hWL] at hwant
  obtain ⟨wl, hwl⟩ : ∃ wl, wl = WL.length := ⟨_, rfl⟩
  have hwln : wl = (lackD ak next).length := by rw [hwl, hWL, natI]; simp
  have hwlb : wl ≤ 20000 := by have := lackD_len ak next; omega
  obtain ⟨ml, hml⟩ : ∃ ml, ml = min 1 wl := ⟨_, rfl⟩
  obtain ⟨ML, hML⟩ : ∃ ML, ML = WL.take ml := ⟨_, rfl⟩
  have hMl : ML.length = ml := by rw [hML, List.length_take, ← hwl, hml]; omega
  have hLk1 : Hid (∀ W R, Sat E W (QAt g most low next H row A c B d * R) → Calls Try.prog 15 #[.pointer (some ⟨g, 0, none⟩), .int .i64 ((wl : Int) + 1)] W fun e w' => ∃ A' c', e = .returned (.slice A' wl c') ∧ Sat E w' (sl 3 1 A' wl c' (ints WL) * (QAt g most low next H row A c B d * R))) := fun W R h => by
    have := lacking13 E W R g most low next H row A B c d (wl + 1) h h1 (by omega) (by omega) (by omega) hlo (by omega)
    rw [lackD_eq q, List.take_of_length_le (by omega), ← hWL] at this
    unfold LackP at this
    rw [← hwl] at this
    exact this
  have hLk2 : Hid (∀ W R, Sat E W (QAt g most low next H row A c B d * R) → Calls Try.prog 15 #[.pointer (some ⟨g, 0, none⟩), .int .i64 1] W fun e w' => ∃ A' c', e = .returned (.slice A' ml c') ∧ Sat E w' (sl 3 1 A' ml c' (ints ML) * (QAt g most low next H row A c B d * R))) := fun W R h => by
    have := lacking13 E W R g most low next H row A B c d 1 h h1 (by omega) (by omega) (by omega) hlo (by omega)
    have e : natI ((lackN low next H).take 1) = ML := by
      rw [lackD_eq q, hML, hWL]
      unfold natI
      rw [List.map_take]
      by_cases h0 : wl = 0
      · rw [hml, h0]
        have : (lackD ak next) = [] := List.eq_nil_of_length_eq_zero (by omega)
        rw [this]; simp
      · rw [hml]; congr 1; omega
    rw [e] at this
    unfold LackP at this
    rw [hMl] at this
    exact this
  obtain ⟨bl, hbl⟩ : ∃ bl, bl = lacksD ak next seq := ⟨_, rfl⟩
  have hLks := hide (fun W R (h : Sat E W (QAt g most low next H row A c B d * R)) => sq_lacks (seq := seq) h h1 (by omega) (by omega) (by omega) hx)
  rw [q.lacks, ← hbl] at hLks
  have hLksR := hide (fun W (h : Sat E W X) => lacks13 (most := most) (la := la) (ln := ak.length) (lc := lc) (ac := ac) (ra := ra) (rn := row.length) (rc := rc) (seq := seq) (RdW.of_rd ha h) hnx (by omega) hx)
  rw [← hbl] at hLksR
  obtain ⟨al, hal'⟩ : ∃ al, al = ak.length := ⟨_, rfl⟩
  obtain ⟨rl, hrl'⟩ : ∃ rl, rl = row.length := ⟨_, rfl⟩
  rw [← hal'] at hwant hLowR hTot hLksR
  rw [← hrl'] at hwant hLowR hRow hLksR hrl
  rw [← hal', ← hrl']
  have HR := hide hr
  rw [← hrl'] at HR
  have HML := hide hML
  have HMIN : Hid ((if (wl : Int) < 1 then (wl : Int) else 1) = (ml : Int)) := by show _ = _; rw [hml]; split <;> omega
  have hmw : ml ≤ wl := by omega
  have HWL := hide hwl
  unfold LackP at hwant
  rw [← hwl] at hwant
  clear hs hs1 q ha hr hal' hrl' hlen hnx hlo hbl hWL hwl hwln hML hMl hml
  unfold q13 at hwant hLowR hLksR ⊢
  go_enter Try.func30, Try.ntmps30
  go_wp2_with fail
  rw [← hb0]
  clear hb0
  refine (unhide hwant).mono ?_
  rintro e w2 ⟨Aw, cw, rfl, hs2⟩
  have hcw := hs2.slLen.2
  have hcwm := hcw.2
  unfold maxLen at hcwm
  have hmc : (ml : Int) ≤ cw := by omega
  have HS2 := hide (hs2.perm (show _ = sl 3 1 Aw wl cw (ints WL) * (Asn.blk b0 41 #[.int .i64 most, .slice la al lc, .slice aa al ac, .int .i64 next, .slice ra rl rc] * (QAt g most low next H row A c B d * (X * F))) * 1 by rw [sep_one]))
  clear hs2 hwant
  go_wp2_with fail
  refine wp_region_slr (Q := _) (E := E) (fun W => ∃ R, Sat E W ((sl 3 1 Aw wl cw (ints WL) * (Asn.blk b0 41 #[.int .i64 most, .slice la al lc, .slice aa al ac, .int .i64 next, .slice ra rl rc] * (QAt g most low next H row A c B d * (X * F)))) * R)) [22, 25, 32, 34, 38, 44, 49] [1, 3, 7, 14, 52] [] [] (fun _ => (0, #[], fun _ => undef)) [0, 1, 2, 3, 4, 5, 6, 7, 8, 9, 10, 11, 12, 13, 14, 15, 16, 17, 18, 19, 20, 21, 22, 23, 24, 25, 26, 27, 28, 29, 30, 31, 32, 33, 34, 35, 36, 37, 38, 39, 40, 41, 42, 43, 44, 45, 46, 47, 48, 49, 50, 51, 52, 53, 54, 55] (by kernel_rfl) (by kernel_rfl) (unhide HS2) (fun W R h => ⟨_, h.asc⟩) ?_
  iterate 1
    refine wpS_f _ rfl rfl (v := ?_) ?_ ?_
    rotate_left
    · rintro W ⟨R, hW⟩
      have f0 : W.cell? ⟨b0, 0, none⟩ = some (.int .i64 most) := hW.left.f2.cell 0
      have f1 : W.cell? ⟨b0, 1, none⟩ = some (.slice la al lc) := hW.left.f2.cell 1
      have f2 : W.cell? ⟨b0, 2, none⟩ = some (.slice aa al ac) := hW.left.f2.cell 2
      have f3 : W.cell? ⟨b0, 3, none⟩ = some (.int .i64 next) := hW.left.f2.cell 3
      have f4 : W.cell? ⟨b0, 4, none⟩ = some (.slice ra rl rc) := hW.left.f2.cell 4
      have f5 : (if (wl : Int) < 1 then (wl : Int) else 1) = (ml : Int) := HMIN.out
      have f7 : (ml : Int) ≤ cw := hmc
      have f6 : IntKind.i64.wrap ((wl : Int) + 1) = (wl : Int) + 1 := by rw [IntKind.wrap_i64]; omega
      go_simp
      first | rfl | (rw [IntKind.wrap_i64]; omega)
    go_simp
  refine wpS_c _ rfl rfl (v := .int .i64 low) (freeC_call rfl (fun W => by go_simp; try rfl) (fun W ⟨R, hW⟩ => (unhide hLow W _ hW.left.right.right).mono fun e w' ⟨he, hw⟩ => ⟨he, hw ▸ Below.refl _ _⟩)) ?_
  go_simp
  iterate 1
    refine wpS_f _ rfl rfl (v := ?_) ?_ ?_
    rotate_left
    · rintro W ⟨R, hW⟩
      have f0 : W.cell? ⟨b0, 0, none⟩ = some (.int .i64 most) := hW.left.f2.cell 0
      have f1 : W.cell? ⟨b0, 1, none⟩ = some (.slice la al lc) := hW.left.f2.cell 1
      have f2 : W.cell? ⟨b0, 2, none⟩ = some (.slice aa al ac) := hW.left.f2.cell 2
      have f3 : W.cell? ⟨b0, 3, none⟩ = some (.int .i64 next) := hW.left.f2.cell 3
      have f4 : W.cell? ⟨b0, 4, none⟩ = some (.slice ra rl rc) := hW.left.f2.cell 4
      have f5 : (if (wl : Int) < 1 then (wl : Int) else 1) = (ml : Int) := HMIN.out
      have f7 : (ml : Int) ≤ cw := hmc
      have f6 : IntKind.i64.wrap ((wl : Int) + 1) = (wl : Int) + 1 := by rw [IntKind.wrap_i64]; omega
      go_simp
      first | rfl | (rw [IntKind.wrap_i64]; omega)
    go_simp
  refine wpS_c _ rfl rfl (v := .int .i64 low) (freeC_call rfl (fun W => by go_simp; try rfl) (fun W ⟨R, hW⟩ => unhide hLowR W hW.left.right.right.right.left)) ?_
  go_simp
  iterate 3
    refine wpS_f _ rfl rfl (v := ?_) ?_ ?_
    rotate_left
    · rintro W ⟨R, hW⟩
      have f0 : W.cell? ⟨b0, 0, none⟩ = some (.int .i64 most) := hW.left.f2.cell 0
      have f1 : W.cell? ⟨b0, 1, none⟩ = some (.slice la al lc) := hW.left.f2.cell 1
      have f2 : W.cell? ⟨b0, 2, none⟩ = some (.slice aa al ac) := hW.left.f2.cell 2
      have f3 : W.cell? ⟨b0, 3, none⟩ = some (.int .i64 next) := hW.left.f2.cell 3
      have f4 : W.cell? ⟨b0, 4, none⟩ = some (.slice ra rl rc) := hW.left.f2.cell 4
      have f5 : (if (wl : Int) < 1 then (wl : Int) else 1) = (ml : Int) := HMIN.out
      have f7 : (ml : Int) ≤ cw := hmc
      have f6 : IntKind.i64.wrap ((wl : Int) + 1) = (wl : Int) + 1 := by rw [IntKind.wrap_i64]; omega
      go_simp
      first | rfl | (rw [IntKind.wrap_i64]; omega)
    go_simp
  refine wpS_c _ rfl rfl (v := .int .i64 next) (freeC_call rfl (fun W => by go_simp; try rfl) (fun W ⟨R, hW⟩ => (unhide hNext W _ hW.left.right.right).mono fun e w' ⟨he, hw⟩ => ⟨he, hw ▸ Below.refl _ _⟩)) ?_
  go_simp
  iterate 6
    refine wpS_f _ rfl rfl (v := ?_) ?_ ?_
    rotate_left
    · rintro W ⟨R, hW⟩
      have f0 : W.cell? ⟨b0, 0, none⟩ = some (.int .i64 most) := hW.left.f2.cell 0
      have f1 : W.cell? ⟨b0, 1, none⟩ = some (.slice la al lc) := hW.left.f2.cell 1
      have f2 : W.cell? ⟨b0, 2, none⟩ = some (.slice aa al ac) := hW.left.f2.cell 2
      have f3 : W.cell? ⟨b0, 3, none⟩ = some (.int .i64 next) := hW.left.f2.cell 3
      have f4 : W.cell? ⟨b0, 4, none⟩ = some (.slice ra rl rc) := hW.left.f2.cell 4
      have f5 : (if (wl : Int) < 1 then (wl : Int) else 1) = (ml : Int) := HMIN.out
      have f7 : (ml : Int) ≤ cw := hmc
      have f6 : IntKind.i64.wrap ((wl : Int) + 1) = (wl : Int) + 1 := by rw [IntKind.wrap_i64]; omega
      go_simp
      first | rfl | (rw [IntKind.wrap_i64]; omega)
    go_simp
  refine wpS_c _ rfl rfl (v := .int .i64 al) (freeC_call rfl (fun W => by go_simp; try rfl) (fun W ⟨R, hW⟩ => unhide hTot W _ hW.left.right.right)) ?_
  go_simp
  iterate 7
    refine wpS_f _ rfl rfl (v := ?_) ?_ ?_
    rotate_left
    · rintro W ⟨R, hW⟩
      have f0 : W.cell? ⟨b0, 0, none⟩ = some (.int .i64 most) := hW.left.f2.cell 0
      have f1 : W.cell? ⟨b0, 1, none⟩ = some (.slice la al lc) := hW.left.f2.cell 1
      have f2 : W.cell? ⟨b0, 2, none⟩ = some (.slice aa al ac) := hW.left.f2.cell 2
      have f3 : W.cell? ⟨b0, 3, none⟩ = some (.int .i64 next) := hW.left.f2.cell 3
      have f4 : W.cell? ⟨b0, 4, none⟩ = some (.slice ra rl rc) := hW.left.f2.cell 4
      have f5 : (if (wl : Int) < 1 then (wl : Int) else 1) = (ml : Int) := HMIN.out
      have f7 : (ml : Int) ≤ cw := hmc
      have f6 : IntKind.i64.wrap ((wl : Int) + 1) = (wl : Int) + 1 := by rw [IntKind.wrap_i64]; omega
      go_simp
      first | rfl | (rw [IntKind.wrap_i64]; omega)
    go_simp
  refine wpS_e _ rfl rfl (fun W R hW => ?_)
  refine stp_call rfl (by go_simp; try rfl) ((unhide hRow W _ (hW.perm (show _ = QAt g most low next H row A c B d * ((sl 3 1 Aw wl cw (ints WL) * (Asn.blk b0 41 #[.int .i64 most, .slice la al lc, .slice aa al ac, .int .i64 next, .slice ra rl rc] * (X * F))) * (1) * R) by first | ac_rfl | (simp only [Asn.one_sep, Asn.sep_one]; ac_rfl)))).mono ?_)
  rintro e w' ⟨A1, c1, rfl, hs3⟩
  refine ⟨_, rfl, (sl 3 1 Aw wl cw (ints WL) * (Asn.blk b0 41 #[.int .i64 most, .slice la al lc, .slice aa al ac, .int .i64 next, .slice ra rl rc] * (QAt g most low next H row A c B d * (X * F)))) * (sl 3 1 A1 rl c1 (ints row)), fun W R h => ⟨_, h.asc⟩, hs3.perm (by first | ac_rfl | (simp only [Asn.one_sep, Asn.sep_one]; ac_rfl)), ?_⟩
  clear hs3 hW
  go_simp
  iterate 2
    refine wpS_f _ rfl rfl (v := ?_) ?_ ?_
    rotate_left
    · rintro W ⟨R, hW⟩
      have f0 : W.cell? ⟨b0, 0, none⟩ = some (.int .i64 most) := hW.left.f2.cell 0
      have f1 : W.cell? ⟨b0, 1, none⟩ = some (.slice la al lc) := hW.left.f2.cell 1
      have f2 : W.cell? ⟨b0, 2, none⟩ = some (.slice aa al ac) := hW.left.f2.cell 2
      have f3 : W.cell? ⟨b0, 3, none⟩ = some (.int .i64 next) := hW.left.f2.cell 3
      have f4 : W.cell? ⟨b0, 4, none⟩ = some (.slice ra rl rc) := hW.left.f2.cell 4
      have f5 : (if (wl : Int) < 1 then (wl : Int) else 1) = (ml : Int) := HMIN.out
      have f7 : (ml : Int) ≤ cw := hmc
      have f6 : IntKind.i64.wrap ((wl : Int) + 1) = (wl : Int) + 1 := by rw [IntKind.wrap_i64]; omega
      go_simp
      first | rfl | (rw [IntKind.wrap_i64]; omega)
    go_simp
  refine wpS_e _ rfl rfl (fun W R hW => ?_)
  refine stp_call rfl (by go_simp; try rfl) ((sameI_same (c := c1) (d := rc) hW (rd_sl.right.left) ((unhide HR).left.right.right.right.left.left.rd) (by omega)).mono ?_)
  rintro e w' ⟨rfl, hs3⟩
  refine ⟨_, rfl, (sl 3 1 Aw wl cw (ints WL) * (Asn.blk b0 41 #[.int .i64 most, .slice la al lc, .slice aa al ac, .int .i64 next, .slice ra rl rc] * (QAt g most low next H row A c B d * (X * F)))) * (sl 3 1 A1 rl c1 (ints row)), fun W R h => ⟨_, h.asc⟩, hs3.perm (by first | ac_rfl | (simp only [Asn.one_sep, Asn.sep_one]; ac_rfl)), ?_⟩
  clear hs3 hW
  go_simp
  iterate 6
    refine wpS_f _ rfl rfl (v := ?_) ?_ ?_
    rotate_left
    · rintro W ⟨R, hW⟩
      have f0 : W.cell? ⟨b0, 0, none⟩ = some (.int .i64 most) := hW.left.f2.cell 0
      have f1 : W.cell? ⟨b0, 1, none⟩ = some (.slice la al lc) := hW.left.f2.cell 1
      have f2 : W.cell? ⟨b0, 2, none⟩ = some (.slice aa al ac) := hW.left.f2.cell 2
      have f3 : W.cell? ⟨b0, 3, none⟩ = some (.int .i64 next) := hW.left.f2.cell 3
      have f4 : W.cell? ⟨b0, 4, none⟩ = some (.slice ra rl rc) := hW.left.f2.cell 4
      have f5 : (if (wl : Int) < 1 then (wl : Int) else 1) = (ml : Int) := HMIN.out
      have f7 : (ml : Int) ≤ cw := hmc
      have f6 : IntKind.i64.wrap ((wl : Int) + 1) = (wl : Int) + 1 := by rw [IntKind.wrap_i64]; omega
      go_simp
      first | rfl | (rw [IntKind.wrap_i64]; omega)
    go_simp
  refine wpS_e _ rfl rfl (fun W R hW => ?_)
  refine stp_call rfl (by go_simp; try rfl) ((unhide hLk1 W _ (hW.perm (show _ = QAt g most low next H row A c B d * ((sl 3 1 Aw wl cw (ints WL) * (Asn.blk b0 41 #[.int .i64 most, .slice la al lc, .slice aa al ac, .int .i64 next, .slice ra rl rc] * (X * F))) * (sl 3 1 A1 rl c1 (ints row)) * R) by first | ac_rfl | (simp only [Asn.one_sep, Asn.sep_one]; ac_rfl)))).mono ?_)
  rintro e w' ⟨A2, c2, rfl, hs3⟩
  refine ⟨_, rfl, (sl 3 1 Aw wl cw (ints WL) * (Asn.blk b0 41 #[.int .i64 most, .slice la al lc, .slice aa al ac, .int .i64 next, .slice ra rl rc] * (QAt g most low next H row A c B d * (X * F)))) * (sl 3 1 A2 wl c2 (ints WL) * sl 3 1 A1 rl c1 (ints row)), fun W R h => ⟨_, h.asc⟩, hs3.perm (by first | ac_rfl | (simp only [Asn.one_sep, Asn.sep_one]; ac_rfl)), ?_⟩
  clear hs3 hW
  go_simp
  iterate 1
    refine wpS_f _ rfl rfl (v := ?_) ?_ ?_
    rotate_left
    · rintro W ⟨R, hW⟩
      have f0 : W.cell? ⟨b0, 0, none⟩ = some (.int .i64 most) := hW.left.f2.cell 0
      have f1 : W.cell? ⟨b0, 1, none⟩ = some (.slice la al lc) := hW.left.f2.cell 1
      have f2 : W.cell? ⟨b0, 2, none⟩ = some (.slice aa al ac) := hW.left.f2.cell 2
      have f3 : W.cell? ⟨b0, 3, none⟩ = some (.int .i64 next) := hW.left.f2.cell 3
      have f4 : W.cell? ⟨b0, 4, none⟩ = some (.slice ra rl rc) := hW.left.f2.cell 4
      have f5 : (if (wl : Int) < 1 then (wl : Int) else 1) = (ml : Int) := HMIN.out
      have f7 : (ml : Int) ≤ cw := hmc
      have f6 : IntKind.i64.wrap ((wl : Int) + 1) = (wl : Int) + 1 := by rw [IntKind.wrap_i64]; omega
      go_simp
      first | rfl | (rw [IntKind.wrap_i64]; omega)
    go_simp
  refine wpS_e _ rfl rfl (fun W R hW => ?_)
  refine stp_call rfl (by go_simp; try rfl) ((sameI_same (c := c2) (d := cw) hW (rd_sl.left.right.left) (rd_sl.left.left.left) (by omega)).mono ?_)
  rintro e w' ⟨rfl, hs3⟩
  refine ⟨_, rfl, (sl 3 1 Aw wl cw (ints WL) * (Asn.blk b0 41 #[.int .i64 most, .slice la al lc, .slice aa al ac, .int .i64 next, .slice ra rl rc] * (QAt g most low next H row A c B d * (X * F)))) * (sl 3 1 A2 wl c2 (ints WL) * sl 3 1 A1 rl c1 (ints row)), fun W R h => ⟨_, h.asc⟩, hs3.perm (by first | ac_rfl | (simp only [Asn.one_sep, Asn.sep_one]; ac_rfl)), ?_⟩
  clear hs3 hW
  go_simp
  iterate 3
    refine wpS_f _ rfl rfl (v := ?_) ?_ ?_
    rotate_left
    · rintro W ⟨R, hW⟩
      have f0 : W.cell? ⟨b0, 0, none⟩ = some (.int .i64 most) := hW.left.f2.cell 0
      have f1 : W.cell? ⟨b0, 1, none⟩ = some (.slice la al lc) := hW.left.f2.cell 1
      have f2 : W.cell? ⟨b0, 2, none⟩ = some (.slice aa al ac) := hW.left.f2.cell 2
      have f3 : W.cell? ⟨b0, 3, none⟩ = some (.int .i64 next) := hW.left.f2.cell 3
      have f4 : W.cell? ⟨b0, 4, none⟩ = some (.slice ra rl rc) := hW.left.f2.cell 4
      have f5 : (if (wl : Int) < 1 then (wl : Int) else 1) = (ml : Int) := HMIN.out
      have f7 : (ml : Int) ≤ cw := hmc
      have f6 : IntKind.i64.wrap ((wl : Int) + 1) = (wl : Int) + 1 := by rw [IntKind.wrap_i64]; omega
      go_simp
      first | rfl | (rw [IntKind.wrap_i64]; omega)
    go_simp
  refine wpS_e _ rfl rfl (fun W R hW => ?_)
  refine stp_call rfl (by go_simp; try rfl) ((unhide hLk2 W _ (hW.perm (show _ = QAt g most low next H row A c B d * ((sl 3 1 Aw wl cw (ints WL) * (Asn.blk b0 41 #[.int .i64 most, .slice la al lc, .slice aa al ac, .int .i64 next, .slice ra rl rc] * (X * F))) * (sl 3 1 A2 wl c2 (ints WL) * sl 3 1 A1 rl c1 (ints row)) * R) by first | ac_rfl | (simp only [Asn.one_sep, Asn.sep_one]; ac_rfl)))).mono ?_)
  rintro e w' ⟨A3, c3, rfl, hs3⟩
  refine ⟨_, rfl, (sl 3 1 Aw wl cw (ints WL) * (Asn.blk b0 41 #[.int .i64 most, .slice la al lc, .slice aa al ac, .int .i64 next, .slice ra rl rc] * (QAt g most low next H row A c B d * (X * F)))) * (sl 3 1 A3 ml c3 (ints ML) * (sl 3 1 A2 wl c2 (ints WL) * sl 3 1 A1 rl c1 (ints row))), fun W R h => ⟨_, h.asc⟩, hs3.perm (by first | ac_rfl | (simp only [Asn.one_sep, Asn.sep_one]; ac_rfl)), ?_⟩
  clear hs3 hW
  go_simp
  iterate 5
    refine wpS_f _ rfl rfl (v := ?_) ?_ ?_
    rotate_left
    · rintro W ⟨R, hW⟩
      have f0 : W.cell? ⟨b0, 0, none⟩ = some (.int .i64 most) := hW.left.f2.cell 0
      have f1 : W.cell? ⟨b0, 1, none⟩ = some (.slice la al lc) := hW.left.f2.cell 1
      have f2 : W.cell? ⟨b0, 2, none⟩ = some (.slice aa al ac) := hW.left.f2.cell 2
      have f3 : W.cell? ⟨b0, 3, none⟩ = some (.int .i64 next) := hW.left.f2.cell 3
      have f4 : W.cell? ⟨b0, 4, none⟩ = some (.slice ra rl rc) := hW.left.f2.cell 4
      have f5 : (if (wl : Int) < 1 then (wl : Int) else 1) = (ml : Int) := HMIN.out
      have f7 : (ml : Int) ≤ cw := hmc
      have f6 : IntKind.i64.wrap ((wl : Int) + 1) = (wl : Int) + 1 := by rw [IntKind.wrap_i64]; omega
      go_simp
      first | rfl | (rw [IntKind.wrap_i64]; omega)
    go_simp
  refine wpS_e _ rfl rfl (fun W R hW => ?_)
  refine stp_call rfl (by go_simp; try rfl) ((sameI_same (c := c3) (d := cw) hW (rd_sl.left.right.left) (by have h := (rd_sl (e := 3) (z := 1) (A := Aw) (n := wl) (c := cw) (xs := ints WL)).take (k := ml) hmw; rw [Nat.mul_one, ints_take, ← unhide HML] at h; exact h.left.left.left) (by omega)).mono ?_)
  rintro e w' ⟨rfl, hs3⟩
  refine ⟨_, rfl, (sl 3 1 Aw wl cw (ints WL) * (Asn.blk b0 41 #[.int .i64 most, .slice la al lc, .slice aa al ac, .int .i64 next, .slice ra rl rc] * (QAt g most low next H row A c B d * (X * F)))) * (sl 3 1 A3 ml c3 (ints ML) * (sl 3 1 A2 wl c2 (ints WL) * sl 3 1 A1 rl c1 (ints row))), fun W R h => ⟨_, h.asc⟩, hs3.perm (by first | ac_rfl | (simp only [Asn.one_sep, Asn.sep_one]; ac_rfl)), ?_⟩
  clear hs3 hW
  go_simp
  iterate 4
    refine wpS_f _ rfl rfl (v := ?_) ?_ ?_
    rotate_left
    · rintro W ⟨R, hW⟩
      have f0 : W.cell? ⟨b0, 0, none⟩ = some (.int .i64 most) := hW.left.f2.cell 0
      have f1 : W.cell? ⟨b0, 1, none⟩ = some (.slice la al lc) := hW.left.f2.cell 1
      have f2 : W.cell? ⟨b0, 2, none⟩ = some (.slice aa al ac) := hW.left.f2.cell 2
      have f3 : W.cell? ⟨b0, 3, none⟩ = some (.int .i64 next) := hW.left.f2.cell 3
      have f4 : W.cell? ⟨b0, 4, none⟩ = some (.slice ra rl rc) := hW.left.f2.cell 4
      have f5 : (if (wl : Int) < 1 then (wl : Int) else 1) = (ml : Int) := HMIN.out
      have f7 : (ml : Int) ≤ cw := hmc
      have f6 : IntKind.i64.wrap ((wl : Int) + 1) = (wl : Int) + 1 := by rw [IntKind.wrap_i64]; omega
      go_simp
      first | rfl | (rw [IntKind.wrap_i64]; omega)
    go_simp
  refine wpS_e _ rfl rfl (fun W R hW => ?_)
  refine stp_call rfl (by go_simp; try rfl) ((unhide hLks W _ (hW.perm (show _ = QAt g most low next H row A c B d * ((sl 3 1 Aw wl cw (ints WL) * (Asn.blk b0 41 #[.int .i64 most, .slice la al lc, .slice aa al ac, .int .i64 next, .slice ra rl rc] * (X * F))) * (sl 3 1 A3 ml c3 (ints ML) * (sl 3 1 A2 wl c2 (ints WL) * sl 3 1 A1 rl c1 (ints row))) * R) by first | ac_rfl | (simp only [Asn.one_sep, Asn.sep_one]; ac_rfl)))).mono ?_)
  rintro e w' ⟨rfl, hs3⟩
  refine ⟨_, rfl, (sl 3 1 Aw wl cw (ints WL) * (Asn.blk b0 41 #[.int .i64 most, .slice la al lc, .slice aa al ac, .int .i64 next, .slice ra rl rc] * (QAt g most low next H row A c B d * (X * F)))) * (sl 3 1 A3 ml c3 (ints ML) * (sl 3 1 A2 wl c2 (ints WL) * sl 3 1 A1 rl c1 (ints row))), fun W R h => ⟨_, h.asc⟩, hs3.perm (by first | ac_rfl | (simp only [Asn.one_sep, Asn.sep_one]; ac_rfl)), ?_⟩
  clear hs3 hW
  go_simp
  iterate 2
    refine wpS_f _ rfl rfl (v := ?_) ?_ ?_
    rotate_left
    · rintro W ⟨R, hW⟩
      have f0 : W.cell? ⟨b0, 0, none⟩ = some (.int .i64 most) := hW.left.f2.cell 0
      have f1 : W.cell? ⟨b0, 1, none⟩ = some (.slice la al lc) := hW.left.f2.cell 1
      have f2 : W.cell? ⟨b0, 2, none⟩ = some (.slice aa al ac) := hW.left.f2.cell 2
      have f3 : W.cell? ⟨b0, 3, none⟩ = some (.int .i64 next) := hW.left.f2.cell 3
      have f4 : W.cell? ⟨b0, 4, none⟩ = some (.slice ra rl rc) := hW.left.f2.cell 4
      have f5 : (if (wl : Int) < 1 then (wl : Int) else 1) = (ml : Int) := HMIN.out
      have f7 : (ml : Int) ≤ cw := hmc
      have f6 : IntKind.i64.wrap ((wl : Int) + 1) = (wl : Int) + 1 := by rw [IntKind.wrap_i64]; omega
      go_simp
      first | rfl | (rw [IntKind.wrap_i64]; omega)
    go_simp
  refine wpS_c _ rfl rfl (v := .bool bl) (freeC_call rfl (fun W => by go_simp; try rfl) (fun W ⟨R, hW⟩ => unhide hLksR W hW.left.right.right.right.left)) ?_
  go_simp
  iterate 3
    refine wpS_f _ rfl rfl (v := ?_) ?_ ?_
    rotate_left
    · rintro W ⟨R, hW⟩
      have f0 : W.cell? ⟨b0, 0, none⟩ = some (.int .i64 most) := hW.left.f2.cell 0
      have f1 : W.cell? ⟨b0, 1, none⟩ = some (.slice la al lc) := hW.left.f2.cell 1
      have f2 : W.cell? ⟨b0, 2, none⟩ = some (.slice aa al ac) := hW.left.f2.cell 2
      have f3 : W.cell? ⟨b0, 3, none⟩ = some (.int .i64 next) := hW.left.f2.cell 3
      have f4 : W.cell? ⟨b0, 4, none⟩ = some (.slice ra rl rc) := hW.left.f2.cell 4
      have f5 : (if (wl : Int) < 1 then (wl : Int) else 1) = (ml : Int) := HMIN.out
      have f7 : (ml : Int) ≤ cw := hmc
      have f6 : IntKind.i64.wrap ((wl : Int) + 1) = (wl : Int) + 1 := by rw [IntKind.wrap_i64]; omega
      go_simp
      first | rfl | (rw [IntKind.wrap_i64]; omega)
    go_simp
  refine wpS_n (fun w3 hs3 => ?_)
  have HS3 := hide hs3.left.right.right
  clear hs3 HS2
  go_wp2_with fail
  go_ret
  exact ⟨rfl, unhide HS3⟩
end Go.Proofs.Ytdfidijlconhnaa
