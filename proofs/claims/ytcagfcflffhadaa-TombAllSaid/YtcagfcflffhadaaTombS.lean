/- The tomb laws: both show the same. -/
import Derived.Test.YtcagfcflffhadaaRef20D
import Derived.Test.YtcagfcflffhadaaSame04
namespace Go.Proofs.Ytcagfcflffhadaa
open Go.RowKit Asn
set_option maxHeartbeats 4000000 in
set_option maxRecDepth 100000 in
theorem same20 (E w : World) (X F : Asn) (t g sz : Nat) (V : Nat → Nat) (ba : Nat) (L : List Int) (A : Option Addr) (n c : Nat) (x : Int) (hi : TInv sz ba V L) (hs : Sat E w (TombAt t g sz V ba * (X * F))) (hr : RS X A n c L) (hx : -9223372036854775808 ≤ x ∧ x ≤ 9223372036854775807) :
    Calls Try.prog 32 #[.pointer (some ⟨t, 0, none⟩), .agg #[.int .i64 sz, .int .i64 ba, .slice A n c], .int .i64 x] w fun e w' => e = .returned (.bool true) ∧ Sat E w' (TombAt t g sz V ba * (X * F)) := by
  have hln := hr.len hs.right.left
  have hn : n ≤ 256 := by rw [← hln]; exact hi.r.len
  have h2 := hi.sz
  have h3 := hi.top
  have hcount := hide (fun W R (h : Sat E W (TombAt t g sz V ba * R)) => tomb_count h hi)
  rw [hln] at hcount
  have hopen := hide (fun W R (m : Int) (h : Sat E W (TombAt t g sz V ba * R)) => tomb_open (most := m) h hi)
  have hopR := hide (fun W R (m : Int) (h : Sat E W R) (hr : RS R A n c L) => open20 E W R A n c L sz ba m h hr (by omega) h2 h3)
  obtain ⟨b1, hb1⟩ : ∃ b, b = closedR ba L x := ⟨_, rfl⟩
  obtain ⟨b2, hb2⟩ : ∃ b, b = mayR sz ba L x := ⟨_, rfl⟩
  have hcl := hide (fun W R (h : Sat E W (TombAt t g sz V ba * R)) => tomb_closed (n := x) h hi hx)
  have hclR := hide (fun W (h : RdW W A n 1 (ints L)) => closed20 W A n c L sz ba x h (by omega))
  have hmay := hide (fun W R (h : Sat E W (TombAt t g sz V ba * R)) => tomb_may (n := x) h hi hx)
  have hmayR := hide (fun W (h : RdW W A n 1 (ints L)) => may20 W A n c L sz ba x h (by omega) h2 h3)
  rw [← hb1] at hcl hclR
  rw [← hb2] at hmay hmayR
  have hol : ∀ m : Int, ((openA sz ba L).take m.toNat).length ≤ 64 := fun m => by
    rw [List.length_take]
    have : (openA sz ba L).length ≤ sz := by unfold openA; exact Nat.le_trans (List.length_filter_le _ _) (by simp)
    omega
  obtain ⟨M1, hM1⟩ : ∃ M, M = (openA sz ba L).take (100 : Int).toNat := ⟨_, rfl⟩
  obtain ⟨M2, hM2⟩ : ∃ M, M = (openA sz ba L).take x.toNat := ⟨_, rfl⟩
  have hm1 : M1.length ≤ 64 := by rw [hM1]; exact hol 100
  have hm2 : M2.length ≤ 64 := by rw [hM2]; exact hol x
  have ho1 := hide (fun W R h => unhide hopen W R 100 h)
  have ho2 := hide (fun W R h => unhide hopen W R x h)
  have hr1 := hide (fun W R h hr => unhide hopR W R 100 h hr)
  have hr2 := hide (fun W R h hr => unhide hopR W R x h hr)
  rw [← hM1] at ho1 hr1
  rw [← hM2] at ho2 hr2
  have HI := hide hi
  have HRD := hide hr
  have HS2 := hide ((hs.alloc #[.int .i64 sz, .int .i64 ba, .slice A n c] 45).perm (sep_one _).symm)
  clear hs hi hr hx hln hb1 hb2 hM1 hM2 hopen hopR hol
  go_enter Try.func32, Try.ntmps32
  go_wp2_with fail
  refine wp_region_slr (Q := _) (E := E) (fun W => ∃ R, Sat E W ((Asn.blk w.heap.size 45 #[.int .i64 sz, .int .i64 ba, .slice A n c] * (TombAt t g sz V ba * (X * F))) * R)) [7, 25, 33, 35, 36, 41, 44, 45] [1, 16, 19, 28] [] [] (fun _ => (0, #[], fun _ => undef)) [0, 1, 2, 3, 4, 5, 6, 7, 8, 9, 10, 11, 12, 13, 14, 15, 16, 17, 18, 19, 20, 21, 22, 23, 24, 25, 26, 27, 28, 29, 30, 31, 32, 33, 34, 35, 36, 37, 38, 39, 40, 41, 42, 43, 44, 45, 46, 47] (by kernel_rfl) (by kernel_rfl) (unhide HS2) (fun W R h => ⟨_, h.asc⟩) ?_
  iterate 1
    refine wpS_f _ rfl rfl (v := ?_) ?_ ?_
    rotate_left
    · rintro W ⟨R, hW⟩
      have c0 : W.cell? ⟨w.heap.size, 0, none⟩ = some (.int .i64 sz) := hW.asc.cell 0
      have c1 : W.cell? ⟨w.heap.size, 1, none⟩ = some (.int .i64 ba) := hW.asc.cell 1
      have c2 : W.cell? ⟨w.heap.size, 2, none⟩ = some (.slice A n c) := hW.asc.cell 2
      go_simp
      first | rfl | (rw [IntKind.wrap_i64]; omega)
    go_simp
  refine wpS_c _ rfl rfl (v := .int .i64 ba) (freeC_call rfl (fun W => by go_simp; try rfl) (fun W ⟨R, hW⟩ => (tomb_floor hW.asc.f2.asc (unhide HI)).mono fun e w' ⟨he, hw⟩ => ⟨he, hw ▸ Below.refl _ _⟩)) ?_
  go_simp
  iterate 5
    refine wpS_f _ rfl rfl (v := ?_) ?_ ?_
    rotate_left
    · rintro W ⟨R, hW⟩
      have c0 : W.cell? ⟨w.heap.size, 0, none⟩ = some (.int .i64 sz) := hW.asc.cell 0
      have c1 : W.cell? ⟨w.heap.size, 1, none⟩ = some (.int .i64 ba) := hW.asc.cell 1
      have c2 : W.cell? ⟨w.heap.size, 2, none⟩ = some (.slice A n c) := hW.asc.cell 2
      go_simp
      first | rfl | (rw [IntKind.wrap_i64]; omega)
    go_simp
  refine wpS_e _ rfl rfl (fun W R hW => ?_)
  refine stp_call rfl (by go_simp; try rfl) ((unhide hcount W _ (hW.asc.asc.f2.asc)).mono ?_)
  rintro e w' ⟨rfl, hs3⟩
  refine ⟨_, rfl, (Asn.blk w.heap.size 45 #[.int .i64 sz, .int .i64 ba, .slice A n c] * (TombAt t g sz V ba * (X * F))) * (1), fun W R h => ⟨_, h.asc⟩, hs3.perm (by first | ac_rfl | (simp only [Asn.one_sep, Asn.sep_one]; ac_rfl)), ?_⟩
  clear hs3 hW
  go_simp
  iterate 8
    refine wpS_f _ rfl rfl (v := ?_) ?_ ?_
    rotate_left
    · rintro W ⟨R, hW⟩
      have c0 : W.cell? ⟨w.heap.size, 0, none⟩ = some (.int .i64 sz) := hW.asc.cell 0
      have c1 : W.cell? ⟨w.heap.size, 1, none⟩ = some (.int .i64 ba) := hW.asc.cell 1
      have c2 : W.cell? ⟨w.heap.size, 2, none⟩ = some (.slice A n c) := hW.asc.cell 2
      go_simp
      first | rfl | (rw [IntKind.wrap_i64]; omega)
    go_simp
  refine wpS_c _ rfl rfl (v := .bool b1) (freeC_call rfl (fun W => by go_simp; try rfl) (fun W ⟨R, hW⟩ => (unhide hcl W _ hW.asc.f2.asc).mono fun e w' ⟨he, m, hw⟩ => ⟨he, hw ▸ below_drewN' W m⟩)) ?_
  go_simp
  iterate 2
    refine wpS_f _ rfl rfl (v := ?_) ?_ ?_
    rotate_left
    · rintro W ⟨R, hW⟩
      have c0 : W.cell? ⟨w.heap.size, 0, none⟩ = some (.int .i64 sz) := hW.asc.cell 0
      have c1 : W.cell? ⟨w.heap.size, 1, none⟩ = some (.int .i64 ba) := hW.asc.cell 1
      have c2 : W.cell? ⟨w.heap.size, 2, none⟩ = some (.slice A n c) := hW.asc.cell 2
      go_simp
      first | rfl | (rw [IntKind.wrap_i64]; omega)
    go_simp
  refine wpS_c _ rfl rfl (v := .bool b1) (freeC_call rfl (fun W => by go_simp; try rfl) (fun W ⟨R, hW⟩ => unhide hclR W (RdW.of_rd (unhide HRD).rd hW.left.right.right.left))) ?_
  go_simp
  iterate 5
    refine wpS_f _ rfl rfl (v := ?_) ?_ ?_
    rotate_left
    · rintro W ⟨R, hW⟩
      have c0 : W.cell? ⟨w.heap.size, 0, none⟩ = some (.int .i64 sz) := hW.asc.cell 0
      have c1 : W.cell? ⟨w.heap.size, 1, none⟩ = some (.int .i64 ba) := hW.asc.cell 1
      have c2 : W.cell? ⟨w.heap.size, 2, none⟩ = some (.slice A n c) := hW.asc.cell 2
      go_simp
      first | rfl | (rw [IntKind.wrap_i64]; omega)
    go_simp
  refine wpS_e _ rfl rfl (fun W R hW => ?_)
  refine stp_call rfl (by go_simp; try rfl) ((unhide hmay W _ (hW.asc.asc.f2.asc)).mono ?_)
  rintro e w' ⟨rfl, hs3⟩
  refine ⟨_, rfl, (Asn.blk w.heap.size 45 #[.int .i64 sz, .int .i64 ba, .slice A n c] * (TombAt t g sz V ba * (X * F))) * (1), fun W R h => ⟨_, h.asc⟩, hs3.perm (by first | ac_rfl | (simp only [Asn.one_sep, Asn.sep_one]; ac_rfl)), ?_⟩
  clear hs3 hW
  go_simp
  iterate 2
    refine wpS_f _ rfl rfl (v := ?_) ?_ ?_
    rotate_left
    · rintro W ⟨R, hW⟩
      have c0 : W.cell? ⟨w.heap.size, 0, none⟩ = some (.int .i64 sz) := hW.asc.cell 0
      have c1 : W.cell? ⟨w.heap.size, 1, none⟩ = some (.int .i64 ba) := hW.asc.cell 1
      have c2 : W.cell? ⟨w.heap.size, 2, none⟩ = some (.slice A n c) := hW.asc.cell 2
      go_simp
      first | rfl | (rw [IntKind.wrap_i64]; omega)
    go_simp
  refine wpS_c _ rfl rfl (v := .bool b2) (freeC_call rfl (fun W => by go_simp; try rfl) (fun W ⟨R, hW⟩ => unhide hmayR W (RdW.of_rd (unhide HRD).rd hW.left.right.right.left))) ?_
  go_simp
  iterate 4
    refine wpS_f _ rfl rfl (v := ?_) ?_ ?_
    rotate_left
    · rintro W ⟨R, hW⟩
      have c0 : W.cell? ⟨w.heap.size, 0, none⟩ = some (.int .i64 sz) := hW.asc.cell 0
      have c1 : W.cell? ⟨w.heap.size, 1, none⟩ = some (.int .i64 ba) := hW.asc.cell 1
      have c2 : W.cell? ⟨w.heap.size, 2, none⟩ = some (.slice A n c) := hW.asc.cell 2
      go_simp
      first | rfl | (rw [IntKind.wrap_i64]; omega)
    go_simp
  refine wpS_e _ rfl rfl (fun W R hW => ?_)
  refine stp_call rfl (by go_simp; try rfl) ((unhide ho1 W _ (hW.asc.asc.f2.asc)).mono ?_)
  rintro e w' ⟨A1, c1, rfl, hs3⟩
  refine ⟨_, rfl, (Asn.blk w.heap.size 45 #[.int .i64 sz, .int .i64 ba, .slice A n c] * (TombAt t g sz V ba * (X * F))) * (sl 3 1 A1 M1.length c1 (ints M1)), fun W R h => ⟨_, h.asc⟩, hs3.perm (by first | ac_rfl | (simp only [Asn.one_sep, Asn.sep_one]; ac_rfl)), ?_⟩
  clear hs3 hW
  go_simp
  iterate 1
    refine wpS_f _ rfl rfl (v := ?_) ?_ ?_
    rotate_left
    · rintro W ⟨R, hW⟩
      have c0 : W.cell? ⟨w.heap.size, 0, none⟩ = some (.int .i64 sz) := hW.asc.cell 0
      have c1 : W.cell? ⟨w.heap.size, 1, none⟩ = some (.int .i64 ba) := hW.asc.cell 1
      have c2 : W.cell? ⟨w.heap.size, 2, none⟩ = some (.slice A n c) := hW.asc.cell 2
      go_simp
      first | rfl | (rw [IntKind.wrap_i64]; omega)
    go_simp
  refine wpS_e _ rfl rfl (fun W R hW => ?_)
  refine stp_call rfl (by go_simp; try rfl) ((unhide hr1 W _ hW ((unhide HRD).left.right.right.left.left)).mono ?_)
  rintro e w' ⟨A2, c2, rfl, hs3⟩
  refine ⟨_, rfl, (Asn.blk w.heap.size 45 #[.int .i64 sz, .int .i64 ba, .slice A n c] * (TombAt t g sz V ba * (X * F))) * (sl 3 1 A2 M1.length c2 (ints M1) * sl 3 1 A1 M1.length c1 (ints M1)), fun W R h => ⟨_, h.asc⟩, hs3.perm (by first | ac_rfl | (simp only [Asn.one_sep, Asn.sep_one]; ac_rfl)), ?_⟩
  clear hs3 hW
  go_simp
  refine wpS_e _ rfl rfl (fun W R hW => ?_)
  refine stp_call rfl (by go_simp; try rfl) ((sameInts04 E W _ A1 A2 M1.length c1 c2 (ints M1) hW (rd_sl.right.right.left) (rd_sl.left.right.left) ints_int (by omega)).mono ?_)
  rintro e w' ⟨rfl, hs3⟩
  refine ⟨_, rfl, (Asn.blk w.heap.size 45 #[.int .i64 sz, .int .i64 ba, .slice A n c] * (TombAt t g sz V ba * (X * F))) * (sl 3 1 A2 M1.length c2 (ints M1) * sl 3 1 A1 M1.length c1 (ints M1)), fun W R h => ⟨_, h.asc⟩, hs3.perm (by first | ac_rfl | (simp only [Asn.one_sep, Asn.sep_one]; ac_rfl)), ?_⟩
  clear hs3 hW
  go_simp
  iterate 4
    refine wpS_f _ rfl rfl (v := ?_) ?_ ?_
    rotate_left
    · rintro W ⟨R, hW⟩
      have c0 : W.cell? ⟨w.heap.size, 0, none⟩ = some (.int .i64 sz) := hW.asc.cell 0
      have c1 : W.cell? ⟨w.heap.size, 1, none⟩ = some (.int .i64 ba) := hW.asc.cell 1
      have c2 : W.cell? ⟨w.heap.size, 2, none⟩ = some (.slice A n c) := hW.asc.cell 2
      go_simp
      first | rfl | (rw [IntKind.wrap_i64]; omega)
    go_simp
  refine wpS_e _ rfl rfl (fun W R hW => ?_)
  refine stp_call rfl (by go_simp; try rfl) ((unhide ho2 W _ (hW.asc.asc.f2.asc)).mono ?_)
  rintro e w' ⟨A3, c3, rfl, hs3⟩
  refine ⟨_, rfl, (Asn.blk w.heap.size 45 #[.int .i64 sz, .int .i64 ba, .slice A n c] * (TombAt t g sz V ba * (X * F))) * (sl 3 1 A3 M2.length c3 (ints M2) * (sl 3 1 A2 M1.length c2 (ints M1) * sl 3 1 A1 M1.length c1 (ints M1))), fun W R h => ⟨_, h.asc⟩, hs3.perm (by first | ac_rfl | (simp only [Asn.one_sep, Asn.sep_one]; ac_rfl)), ?_⟩
  clear hs3 hW
  go_simp
  iterate 2
    refine wpS_f _ rfl rfl (v := ?_) ?_ ?_
    rotate_left
    · rintro W ⟨R, hW⟩
      have c0 : W.cell? ⟨w.heap.size, 0, none⟩ = some (.int .i64 sz) := hW.asc.cell 0
      have c1 : W.cell? ⟨w.heap.size, 1, none⟩ = some (.int .i64 ba) := hW.asc.cell 1
      have c2 : W.cell? ⟨w.heap.size, 2, none⟩ = some (.slice A n c) := hW.asc.cell 2
      go_simp
      first | rfl | (rw [IntKind.wrap_i64]; omega)
    go_simp
  refine wpS_e _ rfl rfl (fun W R hW => ?_)
  refine stp_call rfl (by go_simp; try rfl) ((unhide hr2 W _ hW ((unhide HRD).left.right.right.left.left)).mono ?_)
  rintro e w' ⟨A4, c4, rfl, hs3⟩
  refine ⟨_, rfl, (Asn.blk w.heap.size 45 #[.int .i64 sz, .int .i64 ba, .slice A n c] * (TombAt t g sz V ba * (X * F))) * (sl 3 1 A4 M2.length c4 (ints M2) * (sl 3 1 A3 M2.length c3 (ints M2) * (sl 3 1 A2 M1.length c2 (ints M1) * sl 3 1 A1 M1.length c1 (ints M1)))), fun W R h => ⟨_, h.asc⟩, hs3.perm (by first | ac_rfl | (simp only [Asn.one_sep, Asn.sep_one]; ac_rfl)), ?_⟩
  clear hs3 hW
  go_simp
  refine wpS_e _ rfl rfl (fun W R hW => ?_)
  refine stp_call rfl (by go_simp; try rfl) ((sameInts04 E W _ A3 A4 M2.length c3 c4 (ints M2) hW (rd_sl.left.right.right.left) (rd_sl.left.right.left) ints_int (by omega)).mono ?_)
  rintro e w' ⟨rfl, hs3⟩
  refine ⟨_, rfl, (Asn.blk w.heap.size 45 #[.int .i64 sz, .int .i64 ba, .slice A n c] * (TombAt t g sz V ba * (X * F))) * (sl 3 1 A4 M2.length c4 (ints M2) * (sl 3 1 A3 M2.length c3 (ints M2) * (sl 3 1 A2 M1.length c2 (ints M1) * sl 3 1 A1 M1.length c1 (ints M1)))), fun W R h => ⟨_, h.asc⟩, hs3.perm (by first | ac_rfl | (simp only [Asn.one_sep, Asn.sep_one]; ac_rfl)), ?_⟩
  clear hs3 hW
  go_simp
  iterate 2
    refine wpS_f _ rfl rfl (v := ?_) ?_ ?_
    rotate_left
    · rintro W ⟨R, hW⟩
      have c0 : W.cell? ⟨w.heap.size, 0, none⟩ = some (.int .i64 sz) := hW.asc.cell 0
      have c1 : W.cell? ⟨w.heap.size, 1, none⟩ = some (.int .i64 ba) := hW.asc.cell 1
      have c2 : W.cell? ⟨w.heap.size, 2, none⟩ = some (.slice A n c) := hW.asc.cell 2
      go_simp
      first | rfl | (rw [IntKind.wrap_i64]; omega)
    go_simp
  refine wpS_n (fun w3 hs3 => ?_)
  have HS3 := hide (hs3.asc.right.left)
  clear hs3
  go_wp2_with fail
  go_ret
  exact ⟨rfl, unhide HS3⟩
end Go.Proofs.Ytcagfcflffhadaa
