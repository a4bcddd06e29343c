/- BitmapRuns: both show the same. -/
import Derived.Test.YtpcoehbjbjfggaaRef10C
namespace Go.Proofs.Ytpcoehbjbjfggaa
open Go.RowKit Asn

theorem setB_small {V : Nat → Nat} {n : Int} (h : Small V) (sz ba : Nat) : Small (setB V sz ba n).1 := by
  unfold setB
  split
  · exact h
  · split
    · exact h.on _
    · exact h
theorem below_drewN (w : World) (m : Nat) : Below w.heap.size w (w.drewN m) := ((Sat.start w).perm (sep_one _).symm |>.drewN m).below
set_option maxHeartbeats 2000000 in
set_option maxRecDepth 100000 in
theorem same10 (E w : World) (F : Asn) (g : Nat) (V : Nat → Nat) (sz ba : Nat) (L : List Int) (A : Option Addr) (n c : Nat) (x most : Int) (hi : RInv sz ba V L) (hs : Sat E w (BitAt g V sz ba * F)) (hr : RS F A n c L)
    (hx : -9223372036854775808 ≤ x ∧ x ≤ 9223372036854775807) :
    Calls Try.prog 58 #[.pointer (some ⟨g, 0, none⟩), .agg #[.int .i64 sz, .int .i64 ba, .slice A n c], .int .i64 x, .int .i64 most] w fun e w' => e = .returned (.bool true) ∧ Sat E w' (BitAt g V sz ba * F) := by
  have hln := hr.len hs.right
  have hn : n ≤ 256 := by rw [← hln]; exact hi.len
  have h1 := hi.one
  have h2 := hi.le
  have h3 := hi.top
  have hsm := hi.small
  have hlen : (lst (winL V sz ba)).length = n := by rw [hi.list, length_ints, hln]
  obtain ⟨ys, hys⟩ : ∃ ys, ys = (lk (winR L sz ba)).take most.toNat := ⟨_, rfl⟩
  have hyl : ys.length ≤ 256 := by
    rw [hys, List.length_take]
    have := lk_len (winR L sz ba)
    rw [winR_len] at this
    unfold winN at this
    omega
  have hyi : Hid (∀ u ∈ ys, ∃ x, u = Value.int .i64 x) := by
    intro u hu
    rw [hys] at hu
    have := List.mem_of_mem_take hu
    unfold lk at this
    obtain ⟨z, _, rfl⟩ := List.mem_map.1 this
    exact ⟨_, rfl⟩
  have hcount := hide (fun W R (h : Sat E W (BitAt g V sz ba * R)) => count_call E W R g V sz ba h hsm h1 h2 h3)
  rw [hlen] at hcount
  have hlist := hide (fun W R (h : Sat E W (BitAt g V sz ba * R)) => list_call E W R g V sz ba h hsm h1 h2 h3)
  rw [hi.list, length_ints, hln] at hlist
  have hlack := hide (fun W R (h : Sat E W (BitAt g V sz ba * R)) => lacking_call E W R g V sz ba most h hsm h1 h2 h3)
  rw [hi.winEq, ← hys] at hlack
  have hlackR := hide (fun W R (h : Sat E W R) (hr : RS R A n c L) => lack10 E W R A n c L sz ba most h hr (by omega) h2 h3)
  rw [← hys] at hlackR
  have hhas : Hid (∀ (W : World) (R : Asn) (y : Int), (-9223372036854775808 ≤ y ∧ y ≤ 9223372036854775807) → Sat E W (BitAt g V sz ba * R) → Calls Try.prog 59 #[.pointer (some ⟨g, 0, none⟩), .int .i64 y] W fun e w' => e = .returned (.bool (hasR ba L y)) ∧ Below W.heap.size W w') := fun W R y hy h => (has_call E W R g V sz ba y h hsm h1 h2 h3 hy).mono fun e w' ⟨he, m, hw⟩ => ⟨by rw [he, hi.has], hw ▸ below_drewN W m⟩
  have hhasR := hide (fun (W : World) (y : Int) (h : RdW W A n 1 (ints L)) => has10 W A n c L sz ba y h (by omega))
  have HS2 := hide ((hs.alloc #[.int .i64 sz, .int .i64 ba, .slice A n c] 93).perm (sep_one _).symm)
  have hz : ((sz : Int) == 0) = false := by simp; omega
  have HRD := hide hr
  have HIN := hide hx
  obtain ⟨hbx, hhb⟩ : ∃ b, b = hasR ba L x := ⟨_, rfl⟩
  obtain ⟨hbb, hhc⟩ : ∃ b, b = hasR ba L ba := ⟨_, rfl⟩
  have HBX := hide hhb
  have HBB := hide hhc
  clear hs hi hr hx hln hlen hys hhb hhc hsm
  go_enter Try.func58, Try.ntmps58
  go_wp2_with fail
  refine wp_region_sl (Q := _) (E := E) (fun W => ∃ R, Sat E W ((Asn.blk w.heap.size 93 #[.int .i64 sz, .int .i64 ba, .slice A n c] * (BitAt g V sz ba * F)) * R)) [14, 22, 25, 50, 53, 54] [1, 7, 30, 33, 40, 44] [] (fun _ => (0, #[], fun _ => undef)) [0, 1, 2, 3, 4, 5, 6, 7, 8, 9, 10, 11, 12, 13, 14, 15, 16, 17, 18, 19, 20, 21, 22, 23, 24, 25, 26, 27, 28, 29, 30, 31, 32, 33, 34, 35, 36, 37, 38, 39, 40, 41, 42, 43, 44, 45, 46, 47, 48, 49, 50, 51, 52, 53, 54, 55, 56] (by kernel_rfl) (by kernel_rfl) (unhide HS2) (fun W R h => ⟨_, h.asc⟩) ?_
  iterate 1
    refine wpS_f _ rfl rfl (v := ?_) ?_ ?_
    rotate_left
    · rintro W ⟨R, hW⟩
      have c0 : W.cell? ⟨w.heap.size, 0, none⟩ = some (.int .i64 sz) := hW.asc.cell 0
      have c1 : W.cell? ⟨w.heap.size, 1, none⟩ = some (.int .i64 ba) := hW.asc.cell 1
      have c2 : W.cell? ⟨w.heap.size, 2, none⟩ = some (.slice A n c) := hW.asc.cell 2
      go_simp
      first | rfl | (rw [IntKind.wrap_i64]; omega)
    go_simp
  refine wpS_c _ rfl rfl (v := .int .i64 ba) (freeC_call rfl (fun W => by go_simp) (fun W ⟨R, hW⟩ => (base_call W g sz ba (hW.asc.f2.asc.cell 4) (hW.asc.f2.asc.cell 5) hz).mono fun e w' ⟨he, hw⟩ => ⟨he, hw ▸ Below.refl _ _⟩)) ?_
  go_simp
  iterate 5
    refine wpS_f _ rfl rfl (v := ?_) ?_ ?_
    rotate_left
    · rintro W ⟨R, hW⟩
      have c0 : W.cell? ⟨w.heap.size, 0, none⟩ = some (.int .i64 sz) := hW.asc.cell 0
      have c1 : W.cell? ⟨w.heap.size, 1, none⟩ = some (.int .i64 ba) := hW.asc.cell 1
      have c2 : W.cell? ⟨w.heap.size, 2, none⟩ = some (.slice A n c) := hW.asc.cell 2
      go_simp
      first | rfl | (rw [IntKind.wrap_i64]; omega)
    go_simp
  refine wpS_c _ rfl rfl (v := .int .i64 sz) (freeC_call rfl (fun W => by go_simp) (fun W ⟨R, hW⟩ => (size_call W g sz (hW.asc.f2.asc.cell 4) hz).mono fun e w' ⟨he, hw⟩ => ⟨he, hw ▸ Below.refl _ _⟩)) ?_
  go_simp
  iterate 6
    refine wpS_f _ rfl rfl (v := ?_) ?_ ?_
    rotate_left
    · rintro W ⟨R, hW⟩
      have c0 : W.cell? ⟨w.heap.size, 0, none⟩ = some (.int .i64 sz) := hW.asc.cell 0
      have c1 : W.cell? ⟨w.heap.size, 1, none⟩ = some (.int .i64 ba) := hW.asc.cell 1
      have c2 : W.cell? ⟨w.heap.size, 2, none⟩ = some (.slice A n c) := hW.asc.cell 2
      go_simp
      first | rfl | (rw [IntKind.wrap_i64]; omega)
    go_simp
  refine wpS_e _ rfl rfl (fun W R hW => ?_)
  refine stp_call rfl (by go_simp) ((unhide hcount W _ (hW.asc.asc.f2.asc)).mono ?_)
  rintro e w' ⟨rfl, hs3⟩
  refine ⟨_, rfl, (Asn.blk w.heap.size 93 #[.int .i64 sz, .int .i64 ba, .slice A n c] * (BitAt g V sz ba * F)) * (1), fun W R h => ⟨_, h.asc⟩, hs3.perm (by first | ac_rfl | (simp only [Asn.one_sep, Asn.sep_one]; ac_rfl)), ?_⟩
  clear hs3 hW
  go_simp
  iterate 7
    refine wpS_f _ rfl rfl (v := ?_) ?_ ?_
    rotate_left
    · rintro W ⟨R, hW⟩
      have c0 : W.cell? ⟨w.heap.size, 0, none⟩ = some (.int .i64 sz) := hW.asc.cell 0
      have c1 : W.cell? ⟨w.heap.size, 1, none⟩ = some (.int .i64 ba) := hW.asc.cell 1
      have c2 : W.cell? ⟨w.heap.size, 2, none⟩ = some (.slice A n c) := hW.asc.cell 2
      go_simp
      first | rfl | (rw [IntKind.wrap_i64]; omega)
    go_simp
  refine wpS_e _ rfl rfl (fun W R hW => ?_)
  refine stp_call rfl (by go_simp) ((unhide hlist W _ (hW.asc.asc.f2.asc)).mono ?_)
  rintro e w' ⟨A1, c1, rfl, hs3⟩
  refine ⟨_, rfl, (Asn.blk w.heap.size 93 #[.int .i64 sz, .int .i64 ba, .slice A n c] * (BitAt g V sz ba * F)) * (sl 3 1 A1 n c1 (ints L)), fun W R h => ⟨_, h.asc⟩, hs3.perm (by first | ac_rfl | (simp only [Asn.one_sep, Asn.sep_one]; ac_rfl)), ?_⟩
  clear hs3 hW
  go_simp
  iterate 2
    refine wpS_f _ rfl rfl (v := ?_) ?_ ?_
    rotate_left
    · rintro W ⟨R, hW⟩
      have c0 : W.cell? ⟨w.heap.size, 0, none⟩ = some (.int .i64 sz) := hW.asc.cell 0
      have c1 : W.cell? ⟨w.heap.size, 1, none⟩ = some (.int .i64 ba) := hW.asc.cell 1
      have c2 : W.cell? ⟨w.heap.size, 2, none⟩ = some (.slice A n c) := hW.asc.cell 2
      go_simp
      first | rfl | (rw [IntKind.wrap_i64]; omega)
    go_simp
  refine wpS_e _ rfl rfl (fun W R hW => ?_)
  refine stp_call rfl (by go_simp) ((sameInts04 E W _ A1 A n c1 c (ints L) hW (rd_sl.right.left) ((unhide HRD).rd.right.right.left.left) ints_int (by omega)).mono ?_)
  rintro e w' ⟨rfl, hs3⟩
  refine ⟨_, rfl, (Asn.blk w.heap.size 93 #[.int .i64 sz, .int .i64 ba, .slice A n c] * (BitAt g V sz ba * F)) * (sl 3 1 A1 n c1 (ints L)), fun W R h => ⟨_, h.asc⟩, hs3.perm (by first | ac_rfl | (simp only [Asn.one_sep, Asn.sep_one]; ac_rfl)), ?_⟩
  clear hs3 hW
  go_simp
  iterate 4
    refine wpS_f _ rfl rfl (v := ?_) ?_ ?_
    rotate_left
    · rintro W ⟨R, hW⟩
      have c0 : W.cell? ⟨w.heap.size, 0, none⟩ = some (.int .i64 sz) := hW.asc.cell 0
      have c1 : W.cell? ⟨w.heap.size, 1, none⟩ = some (.int .i64 ba) := hW.asc.cell 1
      have c2 : W.cell? ⟨w.heap.size, 2, none⟩ = some (.slice A n c) := hW.asc.cell 2
      go_simp
      first | rfl | (rw [IntKind.wrap_i64]; omega)
    go_simp
  refine wpS_c _ rfl rfl (v := .bool hbx) (freeC_call rfl (fun W => by go_simp) (fun W ⟨R, hW⟩ => (unhide hhas W _ x (unhide HIN) hW.asc.f2.asc).mono fun e w' ⟨he, hw⟩ => ⟨by rw [he, unhide HBX], hw⟩)) ?_
  go_simp
  iterate 2
    refine wpS_f _ rfl rfl (v := ?_) ?_ ?_
    rotate_left
    · rintro W ⟨R, hW⟩
      have c0 : W.cell? ⟨w.heap.size, 0, none⟩ = some (.int .i64 sz) := hW.asc.cell 0
      have c1 : W.cell? ⟨w.heap.size, 1, none⟩ = some (.int .i64 ba) := hW.asc.cell 1
      have c2 : W.cell? ⟨w.heap.size, 2, none⟩ = some (.slice A n c) := hW.asc.cell 2
      go_simp
      first | rfl | (rw [IntKind.wrap_i64]; omega)
    go_simp
  refine wpS_c _ rfl rfl (v := .bool hbx) (freeC_call rfl (fun W => by go_simp) (fun W ⟨R, hW⟩ => (unhide hhasR W x (RdW.of_rd (unhide HRD).rd hW.left.right.right)).mono fun e w' ⟨he, hw⟩ => ⟨by rw [he, unhide HBX], hw⟩)) ?_
  go_simp
  iterate 6
    refine wpS_f _ rfl rfl (v := ?_) ?_ ?_
    rotate_left
    · rintro W ⟨R, hW⟩
      have c0 : W.cell? ⟨w.heap.size, 0, none⟩ = some (.int .i64 sz) := hW.asc.cell 0
      have c1 : W.cell? ⟨w.heap.size, 1, none⟩ = some (.int .i64 ba) := hW.asc.cell 1
      have c2 : W.cell? ⟨w.heap.size, 2, none⟩ = some (.slice A n c) := hW.asc.cell 2
      go_simp
      first | rfl | (rw [IntKind.wrap_i64]; omega)
    go_simp
  refine wpS_c _ rfl rfl (v := .bool hbb) (freeC_call rfl (fun W => by go_simp) (fun W ⟨R, hW⟩ => (unhide hhas W _ ba (by omega) hW.asc.f2.asc).mono fun e w' ⟨he, hw⟩ => ⟨by rw [he, unhide HBB], hw⟩)) ?_
  go_simp
  iterate 3
    refine wpS_f _ rfl rfl (v := ?_) ?_ ?_
    rotate_left
    · rintro W ⟨R, hW⟩
      have c0 : W.cell? ⟨w.heap.size, 0, none⟩ = some (.int .i64 sz) := hW.asc.cell 0
      have c1 : W.cell? ⟨w.heap.size, 1, none⟩ = some (.int .i64 ba) := hW.asc.cell 1
      have c2 : W.cell? ⟨w.heap.size, 2, none⟩ = some (.slice A n c) := hW.asc.cell 2
      go_simp
      first | rfl | (rw [IntKind.wrap_i64]; omega)
    go_simp
  refine wpS_c _ rfl rfl (v := .bool hbb) (freeC_call rfl (fun W => by go_simp) (fun W ⟨R, hW⟩ => (unhide hhasR W ba (RdW.of_rd (unhide HRD).rd hW.left.right.right)).mono fun e w' ⟨he, hw⟩ => ⟨by rw [he, unhide HBB], hw⟩)) ?_
  go_simp
  iterate 5
    refine wpS_f _ rfl rfl (v := ?_) ?_ ?_
    rotate_left
    · rintro W ⟨R, hW⟩
      have c0 : W.cell? ⟨w.heap.size, 0, none⟩ = some (.int .i64 sz) := hW.asc.cell 0
      have c1 : W.cell? ⟨w.heap.size, 1, none⟩ = some (.int .i64 ba) := hW.asc.cell 1
      have c2 : W.cell? ⟨w.heap.size, 2, none⟩ = some (.slice A n c) := hW.asc.cell 2
      go_simp
      first | rfl | (rw [IntKind.wrap_i64]; omega)
    go_simp
  refine wpS_e _ rfl rfl (fun W R hW => ?_)
  refine stp_call rfl (by go_simp) ((unhide hlack W _ (hW.asc.asc.f2.asc)).mono ?_)
  rintro e w' ⟨A2, c2, rfl, hs3⟩
  refine ⟨_, rfl, (Asn.blk w.heap.size 93 #[.int .i64 sz, .int .i64 ba, .slice A n c] * (BitAt g V sz ba * F)) * (sl 3 1 A2 ys.length c2 ys * sl 3 1 A1 n c1 (ints L)), fun W R h => ⟨_, h.asc⟩, hs3.perm (by first | ac_rfl | (simp only [Asn.one_sep, Asn.sep_one]; ac_rfl)), ?_⟩
  clear hs3 hW
  go_simp
  iterate 2
    refine wpS_f _ rfl rfl (v := ?_) ?_ ?_
    rotate_left
    · rintro W ⟨R, hW⟩
      have c0 : W.cell? ⟨w.heap.size, 0, none⟩ = some (.int .i64 sz) := hW.asc.cell 0
      have c1 : W.cell? ⟨w.heap.size, 1, none⟩ = some (.int .i64 ba) := hW.asc.cell 1
      have c2 : W.cell? ⟨w.heap.size, 2, none⟩ = some (.slice A n c) := hW.asc.cell 2
      go_simp
      first | rfl | (rw [IntKind.wrap_i64]; omega)
    go_simp
  refine wpS_e _ rfl rfl (fun W R hW => ?_)
  refine stp_call rfl (by go_simp) ((unhide hlackR W _ hW ((unhide HRD).right.right.left.left)).mono ?_)
  rintro e w' ⟨A3, c3, rfl, hs3⟩
  refine ⟨_, rfl, (Asn.blk w.heap.size 93 #[.int .i64 sz, .int .i64 ba, .slice A n c] * (BitAt g V sz ba * F)) * (sl 3 1 A3 ys.length c3 ys * (sl 3 1 A2 ys.length c2 ys * sl 3 1 A1 n c1 (ints L))), fun W R h => ⟨_, h.asc⟩, hs3.perm (by first | ac_rfl | (simp only [Asn.one_sep, Asn.sep_one]; ac_rfl)), ?_⟩
  clear hs3 hW
  go_simp
  refine wpS_e _ rfl rfl (fun W R hW => ?_)
  refine stp_call rfl (by go_simp) ((sameInts04 E W _ A2 A3 ys.length c2 c3 ys hW (rd_sl.left.right.right.left) (rd_sl.left.right.left) (unhide hyi) (by omega)).mono ?_)
  rintro e w' ⟨rfl, hs3⟩
  refine ⟨_, rfl, (Asn.blk w.heap.size 93 #[.int .i64 sz, .int .i64 ba, .slice A n c] * (BitAt g V sz ba * F)) * (sl 3 1 A3 ys.length c3 ys * (sl 3 1 A2 ys.length c2 ys * sl 3 1 A1 n c1 (ints L))), fun W R h => ⟨_, h.asc⟩, hs3.perm (by first | ac_rfl | (simp only [Asn.one_sep, Asn.sep_one]; ac_rfl)), ?_⟩
  clear hs3 hW
  go_simp
  iterate 2
    refine wpS_f _ rfl rfl (v := ?_) ?_ ?_
    rotate_left
    · rintro W ⟨R, hW⟩
      have c0 : W.cell? ⟨w.heap.size, 0, none⟩ = some (.int .i64 sz) := hW.asc.cell 0
      have c1 : W.cell? ⟨w.heap.size, 1, none⟩ = some (.int .i64 ba) := hW.asc.cell 1
      have c2 : W.cell? ⟨w.heap.size, 2, none⟩ = some (.slice A n c) := hW.asc.cell 2
      go_simp
      first | rfl | (rw [IntKind.wrap_i64]; omega)
    go_simp
  refine wpS_n (fun w3 hs3 => ?_)
  have HS3 := hide (hs3.asc.right.left)
  clear hs3
  go_wp2_with fail
  go_ret
  exact ⟨rfl, unhide HS3⟩
end Go.Proofs.Ytpcoehbjbjfggaa
