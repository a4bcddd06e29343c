/- The perm laws' awake, same, short. -/
import Derived.Test.YtpcoehbjbjfggaaRef06D
namespace Go.Proofs.Ytpcoehbjbjfggaa
open Go.RowKit Asn
theorem rise3 : riseL (memb [3]) = [3] := by decide
theorem rise10 : riseL (memb [1, 0]) = [0, 1] := by decide
theorem perm01 {M : List Int} (h : M.Perm [0, 1]) : ∃ a b : Nat, M = [(a : Int), (b : Int)] ∧ a < 8 ∧ b < 8 ∧ (a : Int) + b = 1 := by
  have hl := h.length_eq
  match M, hl with
  | [x, y], _ =>
    have hx := h.mem_iff.1 (List.mem_cons_self (a := x) (l := [y]))
    have hy := h.mem_iff.1 (List.mem_cons_of_mem x (List.mem_cons_self (a := y) (l := [])))
    have hnd : [x, y].Nodup := h.symm.nodup (by decide)
    simp at hx hy hnd
    refine ⟨x.toNat, y.toNat, ?_, by omega, by omega, by omega⟩
    rw [Int.toNat_of_nonneg (by omega), Int.toNat_of_nonneg (by omega)]
theorem good3 : Good [3] := ⟨by intro x hx; simp at hx; omega, by decide⟩
theorem good10 : Good [1, 0] := ⟨by intro x hx; simp at hx; omega, by decide⟩
set_option maxHeartbeats 4000000 in
set_option maxRecDepth 100000 in
theorem awake06 (E w : World) (F : Asn) (hs : Sat E w F) : Calls Try.prog 65 #[] w fun e w' => e = .returned (.bool true) ∧ Sat E w' F := by
  have hs1 := hs.alloc #[.int .i64 3] 3
  have hn1 := hide (new_perm E _ _ _ 1 1 7 [3] hs1 (rd_blk (cs := #[.int .i64 3])) (by omega) good3 (by simp))
  clear hs hs1
  go_enter Try.func65, Try.ntmps65
  go_wp2_with fail
  refine (unhide hn1).mono ?_
  rintro e w1 ⟨g, gs, A1, c1, M1, rfl, -, hp1, hs1⟩
  rw [rise3] at hp1 hs1
  obtain rfl : M1 = [3] := List.perm_singleton.1 hp1
  have hs2 := hs1.alloc #[.int .i64 1, .int .i64 0] 3
  have hn2 := hide (new_perm E _ _ _ 2 2 9 [1, 0] hs2 (rd_blk (cs := #[.int .i64 1, .int .i64 0])) (by omega) good10 (by simp))
  clear hs1 hs2 hp1 hn1
  go_wp2_with fail
  refine (unhide hn2).mono ?_
  rintro e w2 ⟨k, ks, A2, c2, M2, rfl, -, hp2, hs2⟩
  rw [rise10] at hp2 hs2
  obtain ⟨a, b, rfl, ha, hb, hab⟩ := perm01 hp2
  clear hp2 hn2
  simp only [List.length_cons, List.length_nil, Nat.zero_add, Nat.reduceAdd, Nat.reduceSub] at hs2 ⊢
  have hsA := hs2.perm (show _ = PermAt g gs 7 (0 : Nat) (memb [3]) (.slice A1 1 c1) 1 (fun _ => 0) * (sl 3 1 A1 1 c1 (ints [3]) * (PermAt k ks 9 (1 : Nat) (memb [1, 0]) (.slice A2 2 c2) 1 (fun _ => 0) * (sl 3 1 A2 2 c2 (ints [(a : Int), (b : Int)]) * F))) * (Asn.blk w1.heap.size 3 #[.int .i64 1, .int .i64 0] * Asn.blk w.heap.size 3 #[.int .i64 3]) by ac_rfl) |>.left
  have hx1 := hide (next_call (p := 3) (l := []) hsA (Sat.slRS hsA.f2) (by omega) (by simp) (by omega) (by omega))
  clear hs2 hsA
  go_wp2_with fail
  refine (unhide hx1).mono ?_
  rintro e w3 ⟨-, hl⟩
  obtain ⟨A3, c3, M3, rfl, -, hp3, hs3⟩ := hl trivial
  rw [rise3] at hp3 hs3
  obtain rfl : M3 = [3] := List.perm_singleton.1 hp3
  clear hx1 hl hp3
  simp only [List.length_cons, List.length_nil, Nat.zero_add, Nat.reduceAdd, Nat.reduceSub] at hs3 ⊢
  obtain ⟨i3, hi3⟩ : ∃ i3 : Int, i3 = ((0 : Nat) : Int) + ((0 : Nat) : Int) := ⟨_, rfl⟩
  obtain ⟨t3, ht3⟩ : ∃ t3, t3 = addT (fun _ => 0) 3 ((fun _ => (0 : Int)) 3 + 1) := ⟨_, rfl⟩
  rw [← hi3, ← ht3] at hs3
  have hx2 := hide (next_call (p := 3) (l := []) (hs3 : Sat E w3 (PermAt g gs 7 i3 (memb [3]) (.slice A3 1 c3) _ t3 * (sl 3 1 A3 1 c3 (ints [3]) * _))) (Sat.slRS hs3.f2) (by omega) (by rw [ht3]; simp [addT]) (by omega) (by omega))
  clear hs3
  go_wp2_with fail
  refine (unhide hx2).mono ?_
  rintro e w4 ⟨-, hl⟩
  obtain ⟨A4, c4, M4, rfl, -, hp4, hs4⟩ := hl trivial
  have hs5 := hs4.right.right.right.right
  clear hx2 hl hp4 hs4 hi3 ht3
  have hx3 := hide (next_call (p := a) (l := [(b : Int)]) (hs5 : Sat E w4 (PermAt k ks 9 _ (memb [1, 0]) (.slice A2 2 c2) 1 (fun _ => 0) * (sl 3 1 A2 2 c2 (ints [(a : Int), (b : Int)]) * F))) (Sat.slRS hs5.f2) ha (by simp) (by omega) (by omega))
  clear hs5
  go_wp2_with fail
  refine (unhide hx3).mono ?_
  rintro e w5 ⟨hm, -⟩
  obtain ⟨A5, n5, c5, rfl, hr5, hs6⟩ := hm (by simp)
  clear hx3 hm
  have hn5 : n5 = 1 := by have := hr5.len hs6.right.left; simpa using this.symm
  have hab2 : a ≠ b := by omega
  have hx4 := hide (next_call (p := b) (l := []) hs6 hr5 hb (by simp [addT, hab2.symm]) (by omega) (by omega))
  have k10 : w5.cell? ⟨k, 0, none⟩ = some (.pointer (some ⟨ks, 0, none⟩)) := hs6.asc.cell 0
  clear hs6 hr5
  go_wp2_with fail
  refine (unhide hx4).mono ?_
  rintro e w6 ⟨-, hl⟩
  obtain ⟨A6, c6, M6, rfl, -, -, hs7⟩ := hl trivial
  have hrn := hide (rounds_call hs7)
  have HF := hide hs7.right.right.right
  have hw2 : wrap64 (1 + 1) = 2 := by unfold wrap64; omega
  rw [hw2] at hrn
  clear hl hx4 hs7 k10
  go_wp2_with (go_at_call 77; refine (unhide hrn).mono ?_; rintro e w' ⟨rfl, rfl⟩)
  go_ret
  exact ⟨rfl, unhide HF⟩

set_option maxHeartbeats 4000000 in
set_option maxRecDepth 100000 in
theorem same06 (E w : World) (X F : Asn) (g gs : Nat) (s i : Int) (pb : Nat → Bool) (A Ap Ar : Option Addr) (n c np cp nr cr : Nat) (rn : Int) (td : Nat → Int) (x : Int) (l : List Int) (hs : Sat E w (PermAt g gs s i pb (.slice A n c) rn td * (X * F))) (hl : RS X A n c (x :: l)) (hr : RS X Ar nr cr (x :: l)) (hp : RS X Ap np cp (riseL pb)) (hn : n ≤ 60000) :
    Calls Try.prog 69 #[.pointer (some ⟨g, 0, none⟩), .agg (refC s i (.slice Ap np cp) (.slice Ar nr cr) rn td)] w fun e w' => e = .returned (.bool true) ∧ Sat E w' (PermAt g gs s i pb (.slice A n c) rn td * (X * F)) := by
  have hln := hl.len hs.right.left
  have hrn := hr.len hs.right.left
  have hpn := hp.len hs.right.left
  have hnn : n = nr := by omega
  have hp8 := riseL_len pb
  have hr0 : 0 < nr := by simp at hrn; omega
  obtain ⟨ad, rfl, _⟩ := (RdW.of_rd hr.rd hs.right.left).int_at hr0
  have hrd : Hid (∀ W, Sat E W X → W.cell? ad = some (.int .i64 x)) := fun W hW => by
    obtain ⟨ad', h1, h2⟩ := (RdW.of_rd hr.rd hW).int_at hr0
    obtain rfl : ad = ad' := by simpa using h1
    have e0 : ad.add 0 = ad := by unfold Addr.add; simp
    rwa [e0] at h2
  have hleft := hide (fun W R (h : Sat E W (PermAt g gs s i pb (.slice A n c) rn td * (X * R))) => left_call h hl hn)
  have hpath := hide (fun W R (h : Sat E W (PermAt g gs s i pb (.slice A n c) rn td * R)) => paths_call h)
  rw [hpn] at hpath
  have heq := eqT td
  unfold told8 at heq
  have HL := hide hl
  have HR := hide hr
  have HP := hide hp
  have HS2 := hide ((hs.alloc (refC s i (.slice Ap np cp) (.slice (some ad) nr cr) rn td) 122).perm (sep_one _).symm)
  have hpn8 : np ≤ 8 := by omega
  subst hnn
  clear hs hl hr hp hln hrn hpn
  go_enter Try.func69, Try.ntmps69
  unfold refC
  go_wp2_with fail
  refine wp_region_slr (Q := _) (E := E) (fun W => ∃ R, Sat E W ((Asn.blk w.heap.size 122 (refC s i (.slice Ap np cp) (.slice (some ad) n cr) rn td) * (PermAt g gs s i pb (.slice A n c) rn td * (X * F))) * R)) [1, 4, 7, 10] [14, 21, 28] [] [] (fun _ => (0, #[], fun _ => undef)) [0, 1, 2, 3, 4, 5, 6, 7, 8, 9, 10, 11, 12, 13, 14, 15, 16, 17, 18, 19, 20, 21, 22, 23, 24, 25, 26, 27, 28, 29, 30, 31, 32, 33, 34, 35] (by kernel_rfl) (by kernel_rfl) (unhide HS2) (fun W R h => ⟨_, h.asc⟩) ?_
  iterate 1
    refine wpS_f _ rfl rfl (v := ?_) ?_ ?_
    rotate_left
    · rintro W ⟨R, hW⟩
      have r2 : W.cell? ⟨w.heap.size, 2, none⟩ = some (.slice Ap np cp) := hW.asc.cell 2
      have r3 : W.cell? ⟨w.heap.size, 3, none⟩ = some (.slice (some ad) n cr) := hW.asc.cell 3
      have r4 : W.cell? ⟨w.heap.size, 4, none⟩ = some (.int .i64 rn) := hW.asc.cell 4
      have r5 : W.cell? ⟨w.heap.size, 5, none⟩ = some (.int .i64 (td 0)) := hW.asc.cell 5
      have r6 : W.cell? ⟨w.heap.size, 6, none⟩ = some (.int .i64 (td 1)) := hW.asc.cell 6
      have r7 : W.cell? ⟨w.heap.size, 7, none⟩ = some (.int .i64 (td 2)) := hW.asc.cell 7
      have r8 : W.cell? ⟨w.heap.size, 8, none⟩ = some (.int .i64 (td 3)) := hW.asc.cell 8
      have r9 : W.cell? ⟨w.heap.size, 9, none⟩ = some (.int .i64 (td 4)) := hW.asc.cell 9
      have r10 : W.cell? ⟨w.heap.size, 10, none⟩ = some (.int .i64 (td 5)) := hW.asc.cell 10
      have r11 : W.cell? ⟨w.heap.size, 11, none⟩ = some (.int .i64 (td 6)) := hW.asc.cell 11
      have r12 : W.cell? ⟨w.heap.size, 12, none⟩ = some (.int .i64 (td 7)) := hW.asc.cell 12
      have r13 : W.cell? ad = some (.int .i64 x) := unhide hrd W hW.left.right.right.left
      go_simp
      first | rfl | (rw [IntKind.wrap_i64]; omega)
    go_simp
  refine wpS_e _ rfl rfl (fun W R hW => ?_)
  refine stp_call rfl (by go_simp; try rfl) ((unhide hleft W (F * (Asn.blk w.heap.size 122 (refC s i (.slice Ap np cp) (.slice (some ad) n cr) rn td) * R)) (hW.perm (by simp only [Asn.sep_one]; ac_rfl))).mono ?_)
  rintro e w' ⟨A1, c1, rfl, hs3⟩
  refine ⟨_, rfl, (Asn.blk w.heap.size 122 (refC s i (.slice Ap np cp) (.slice (some ad) n cr) rn td) * (PermAt g gs s i pb (.slice A n c) rn td * (X * F))) * (sl 3 1 A1 n c1 (ints (x :: l))), fun W R h => ⟨_, h.asc⟩, hs3.perm (by first | ac_rfl | (simp only [Asn.one_sep, Asn.sep_one]; ac_rfl)), ?_⟩
  clear hs3 hW
  go_simp
  iterate 2
    refine wpS_f _ rfl rfl (v := ?_) ?_ ?_
    rotate_left
    · rintro W ⟨R, hW⟩
      have r2 : W.cell? ⟨w.heap.size, 2, none⟩ = some (.slice Ap np cp) := hW.asc.cell 2
      have r3 : W.cell? ⟨w.heap.size, 3, none⟩ = some (.slice (some ad) n cr) := hW.asc.cell 3
      have r4 : W.cell? ⟨w.heap.size, 4, none⟩ = some (.int .i64 rn) := hW.asc.cell 4
      have r5 : W.cell? ⟨w.heap.size, 5, none⟩ = some (.int .i64 (td 0)) := hW.asc.cell 5
      have r6 : W.cell? ⟨w.heap.size, 6, none⟩ = some (.int .i64 (td 1)) := hW.asc.cell 6
      have r7 : W.cell? ⟨w.heap.size, 7, none⟩ = some (.int .i64 (td 2)) := hW.asc.cell 7
      have r8 : W.cell? ⟨w.heap.size, 8, none⟩ = some (.int .i64 (td 3)) := hW.asc.cell 8
      have r9 : W.cell? ⟨w.heap.size, 9, none⟩ = some (.int .i64 (td 4)) := hW.asc.cell 9
      have r10 : W.cell? ⟨w.heap.size, 10, none⟩ = some (.int .i64 (td 5)) := hW.asc.cell 10
      have r11 : W.cell? ⟨w.heap.size, 11, none⟩ = some (.int .i64 (td 6)) := hW.asc.cell 11
      have r12 : W.cell? ⟨w.heap.size, 12, none⟩ = some (.int .i64 (td 7)) := hW.asc.cell 12
      have r13 : W.cell? ad = some (.int .i64 x) := unhide hrd W hW.left.right.right.left
      go_simp
      first | rfl | (rw [IntKind.wrap_i64]; omega)
    go_simp
  refine wpS_e _ rfl rfl (fun W R hW => ?_)
  refine stp_call rfl (by go_simp; try rfl) ((sameI05 E W _ A1 (some ad) n c1 n cr (x :: l) (x :: l) hW rd_sl.right.left ((unhide HR).rd.left.right.right.left.left) (by omega) (by omega)).mono ?_)
  rintro e w' ⟨rfl, hs3⟩
  refine ⟨_, rfl, (Asn.blk w.heap.size 122 (refC s i (.slice Ap np cp) (.slice (some ad) n cr) rn td) * (PermAt g gs s i pb (.slice A n c) rn td * (X * F))) * (sl 3 1 A1 n c1 (ints (x :: l))), fun W R h => ⟨_, h.asc⟩, hs3.perm (by first | ac_rfl | (simp only [Asn.one_sep, Asn.sep_one]; ac_rfl)), ?_⟩
  clear hs3 hW
  go_simp
  iterate 2
    refine wpS_f _ rfl rfl (v := ?_) ?_ ?_
    rotate_left
    · rintro W ⟨R, hW⟩
      have r2 : W.cell? ⟨w.heap.size, 2, none⟩ = some (.slice Ap np cp) := hW.asc.cell 2
      have r3 : W.cell? ⟨w.heap.size, 3, none⟩ = some (.slice (some ad) n cr) := hW.asc.cell 3
      have r4 : W.cell? ⟨w.heap.size, 4, none⟩ = some (.int .i64 rn) := hW.asc.cell 4
      have r5 : W.cell? ⟨w.heap.size, 5, none⟩ = some (.int .i64 (td 0)) := hW.asc.cell 5
      have r6 : W.cell? ⟨w.heap.size, 6, none⟩ = some (.int .i64 (td 1)) := hW.asc.cell 6
      have r7 : W.cell? ⟨w.heap.size, 7, none⟩ = some (.int .i64 (td 2)) := hW.asc.cell 7
      have r8 : W.cell? ⟨w.heap.size, 8, none⟩ = some (.int .i64 (td 3)) := hW.asc.cell 8
      have r9 : W.cell? ⟨w.heap.size, 9, none⟩ = some (.int .i64 (td 4)) := hW.asc.cell 9
      have r10 : W.cell? ⟨w.heap.size, 10, none⟩ = some (.int .i64 (td 5)) := hW.asc.cell 10
      have r11 : W.cell? ⟨w.heap.size, 11, none⟩ = some (.int .i64 (td 6)) := hW.asc.cell 11
      have r12 : W.cell? ⟨w.heap.size, 12, none⟩ = some (.int .i64 (td 7)) := hW.asc.cell 12
      have r13 : W.cell? ad = some (.int .i64 x) := unhide hrd W hW.left.right.right.left
      go_simp
      first | rfl | (rw [IntKind.wrap_i64]; omega)
    go_simp
  refine wpS_e _ rfl rfl (fun W R hW => ?_)
  refine stp_call rfl (by go_simp; try rfl) ((unhide hpath W ((X * F) * (Asn.blk w.heap.size 122 (refC s i (.slice Ap np cp) (.slice (some ad) n cr) rn td) * (sl 3 1 A1 n c1 (ints (x :: l)) * R))) (hW.perm (by ac_rfl))).mono ?_)
  rintro e w' ⟨A2, c2, rfl, hs3⟩
  refine ⟨_, rfl, (Asn.blk w.heap.size 122 (refC s i (.slice Ap np cp) (.slice (some ad) n cr) rn td) * (PermAt g gs s i pb (.slice A n c) rn td * (X * F))) * (sl 3 1 A2 np c2 (ints (riseL pb)) * sl 3 1 A1 n c1 (ints (x :: l))), fun W R h => ⟨_, h.asc⟩, hs3.perm (by first | ac_rfl | (simp only [Asn.one_sep, Asn.sep_one]; ac_rfl)), ?_⟩
  clear hs3 hW
  go_simp
  iterate 2
    refine wpS_f _ rfl rfl (v := ?_) ?_ ?_
    rotate_left
    · rintro W ⟨R, hW⟩
      have r2 : W.cell? ⟨w.heap.size, 2, none⟩ = some (.slice Ap np cp) := hW.asc.cell 2
      have r3 : W.cell? ⟨w.heap.size, 3, none⟩ = some (.slice (some ad) n cr) := hW.asc.cell 3
      have r4 : W.cell? ⟨w.heap.size, 4, none⟩ = some (.int .i64 rn) := hW.asc.cell 4
      have r5 : W.cell? ⟨w.heap.size, 5, none⟩ = some (.int .i64 (td 0)) := hW.asc.cell 5
      have r6 : W.cell? ⟨w.heap.size, 6, none⟩ = some (.int .i64 (td 1)) := hW.asc.cell 6
      have r7 : W.cell? ⟨w.heap.size, 7, none⟩ = some (.int .i64 (td 2)) := hW.asc.cell 7
      have r8 : W.cell? ⟨w.heap.size, 8, none⟩ = some (.int .i64 (td 3)) := hW.asc.cell 8
      have r9 : W.cell? ⟨w.heap.size, 9, none⟩ = some (.int .i64 (td 4)) := hW.asc.cell 9
      have r10 : W.cell? ⟨w.heap.size, 10, none⟩ = some (.int .i64 (td 5)) := hW.asc.cell 10
      have r11 : W.cell? ⟨w.heap.size, 11, none⟩ = some (.int .i64 (td 6)) := hW.asc.cell 11
      have r12 : W.cell? ⟨w.heap.size, 12, none⟩ = some (.int .i64 (td 7)) := hW.asc.cell 12
      have r13 : W.cell? ad = some (.int .i64 x) := unhide hrd W hW.left.right.right.left
      go_simp
      first | rfl | (rw [IntKind.wrap_i64]; omega)
    go_simp
  refine wpS_e _ rfl rfl (fun W R hW => ?_)
  refine stp_call rfl (by go_simp; try rfl) ((sameI05 E W _ A2 Ap np c2 np cp (riseL pb) (riseL pb) hW rd_sl.left.right.left ((unhide HP).rd.left.right.right.left.left) (by omega) (by omega)).mono ?_)
  rintro e w' ⟨rfl, hs3⟩
  refine ⟨_, rfl, (Asn.blk w.heap.size 122 (refC s i (.slice Ap np cp) (.slice (some ad) n cr) rn td) * (PermAt g gs s i pb (.slice A n c) rn td * (X * F))) * (sl 3 1 A2 np c2 (ints (riseL pb)) * sl 3 1 A1 n c1 (ints (x :: l))), fun W R h => ⟨_, h.asc⟩, hs3.perm (by first | ac_rfl | (simp only [Asn.one_sep, Asn.sep_one]; ac_rfl)), ?_⟩
  clear hs3 hW
  go_simp
  iterate 3
    refine wpS_f _ rfl rfl (v := ?_) ?_ ?_
    rotate_left
    · rintro W ⟨R, hW⟩
      have r2 : W.cell? ⟨w.heap.size, 2, none⟩ = some (.slice Ap np cp) := hW.asc.cell 2
      have r3 : W.cell? ⟨w.heap.size, 3, none⟩ = some (.slice (some ad) n cr) := hW.asc.cell 3
      have r4 : W.cell? ⟨w.heap.size, 4, none⟩ = some (.int .i64 rn) := hW.asc.cell 4
      have r5 : W.cell? ⟨w.heap.size, 5, none⟩ = some (.int .i64 (td 0)) := hW.asc.cell 5
      have r6 : W.cell? ⟨w.heap.size, 6, none⟩ = some (.int .i64 (td 1)) := hW.asc.cell 6
      have r7 : W.cell? ⟨w.heap.size, 7, none⟩ = some (.int .i64 (td 2)) := hW.asc.cell 7
      have r8 : W.cell? ⟨w.heap.size, 8, none⟩ = some (.int .i64 (td 3)) := hW.asc.cell 8
      have r9 : W.cell? ⟨w.heap.size, 9, none⟩ = some (.int .i64 (td 4)) := hW.asc.cell 9
      have r10 : W.cell? ⟨w.heap.size, 10, none⟩ = some (.int .i64 (td 5)) := hW.asc.cell 10
      have r11 : W.cell? ⟨w.heap.size, 11, none⟩ = some (.int .i64 (td 6)) := hW.asc.cell 11
      have r12 : W.cell? ⟨w.heap.size, 12, none⟩ = some (.int .i64 (td 7)) := hW.asc.cell 12
      have r13 : W.cell? ad = some (.int .i64 x) := unhide hrd W hW.left.right.right.left
      go_simp
      first | rfl | (rw [IntKind.wrap_i64]; omega)
    go_simp
  refine wpS_c _ rfl rfl (v := .int .i64 rn) (freeC_call rfl (fun W => by go_simp; try rfl) (fun W ⟨R, hW⟩ => (rounds_call (hW.asc.f2.asc)).mono fun e w' ⟨he, hw⟩ => ⟨he, hw ▸ Below.refl _ _⟩)) ?_
  go_simp
  iterate 6
    refine wpS_f _ rfl rfl (v := ?_) ?_ ?_
    rotate_left
    · rintro W ⟨R, hW⟩
      have r2 : W.cell? ⟨w.heap.size, 2, none⟩ = some (.slice Ap np cp) := hW.asc.cell 2
      have r3 : W.cell? ⟨w.heap.size, 3, none⟩ = some (.slice (some ad) n cr) := hW.asc.cell 3
      have r4 : W.cell? ⟨w.heap.size, 4, none⟩ = some (.int .i64 rn) := hW.asc.cell 4
      have r5 : W.cell? ⟨w.heap.size, 5, none⟩ = some (.int .i64 (td 0)) := hW.asc.cell 5
      have r6 : W.cell? ⟨w.heap.size, 6, none⟩ = some (.int .i64 (td 1)) := hW.asc.cell 6
      have r7 : W.cell? ⟨w.heap.size, 7, none⟩ = some (.int .i64 (td 2)) := hW.asc.cell 7
      have r8 : W.cell? ⟨w.heap.size, 8, none⟩ = some (.int .i64 (td 3)) := hW.asc.cell 8
      have r9 : W.cell? ⟨w.heap.size, 9, none⟩ = some (.int .i64 (td 4)) := hW.asc.cell 9
      have r10 : W.cell? ⟨w.heap.size, 10, none⟩ = some (.int .i64 (td 5)) := hW.asc.cell 10
      have r11 : W.cell? ⟨w.heap.size, 11, none⟩ = some (.int .i64 (td 6)) := hW.asc.cell 11
      have r12 : W.cell? ⟨w.heap.size, 12, none⟩ = some (.int .i64 (td 7)) := hW.asc.cell 12
      have r13 : W.cell? ad = some (.int .i64 x) := unhide hrd W hW.left.right.right.left
      go_simp
      first | rfl | (rw [IntKind.wrap_i64]; omega)
    go_simp
  refine wpS_c _ rfl rfl (v := .agg #[.int .i64 (td 0), .int .i64 (td 1), .int .i64 (td 2), .int .i64 (td 3), .int .i64 (td 4), .int .i64 (td 5), .int .i64 (td 6), .int .i64 (td 7)]) (freeC_call rfl (fun W => by go_simp; try rfl) (fun W ⟨R, hW⟩ => sprayed_call (hW.asc.f2.asc))) ?_
  go_simp
  iterate 6
    refine wpS_f _ rfl rfl (v := ?_) ?_ ?_
    rotate_left
    · rintro W ⟨R, hW⟩
      have r2 : W.cell? ⟨w.heap.size, 2, none⟩ = some (.slice Ap np cp) := hW.asc.cell 2
      have r3 : W.cell? ⟨w.heap.size, 3, none⟩ = some (.slice (some ad) n cr) := hW.asc.cell 3
      have r4 : W.cell? ⟨w.heap.size, 4, none⟩ = some (.int .i64 rn) := hW.asc.cell 4
      have r5 : W.cell? ⟨w.heap.size, 5, none⟩ = some (.int .i64 (td 0)) := hW.asc.cell 5
      have r6 : W.cell? ⟨w.heap.size, 6, none⟩ = some (.int .i64 (td 1)) := hW.asc.cell 6
      have r7 : W.cell? ⟨w.heap.size, 7, none⟩ = some (.int .i64 (td 2)) := hW.asc.cell 7
      have r8 : W.cell? ⟨w.heap.size, 8, none⟩ = some (.int .i64 (td 3)) := hW.asc.cell 8
      have r9 : W.cell? ⟨w.heap.size, 9, none⟩ = some (.int .i64 (td 4)) := hW.asc.cell 9
      have r10 : W.cell? ⟨w.heap.size, 10, none⟩ = some (.int .i64 (td 5)) := hW.asc.cell 10
      have r11 : W.cell? ⟨w.heap.size, 11, none⟩ = some (.int .i64 (td 6)) := hW.asc.cell 11
      have r12 : W.cell? ⟨w.heap.size, 12, none⟩ = some (.int .i64 (td 7)) := hW.asc.cell 12
      have r13 : W.cell? ad = some (.int .i64 x) := unhide hrd W hW.left.right.right.left
      go_simp
      first | rfl | (rw [IntKind.wrap_i64]; omega)
    go_simp
  refine wpS_c _ rfl rfl (v := .int .i64 x) (freeC_call rfl (fun W => by go_simp; try rfl) (fun W ⟨R, hW⟩ => (peek_call (X := X) (F := F * (Asn.blk w.heap.size 122 (refC s i (.slice Ap np cp) (.slice (some ad) n cr) rn td) * R)) (hW.perm (by ac_rfl)) (unhide HL)).mono fun e w' ⟨he, hw⟩ => ⟨he, hw ▸ Below.refl _ _⟩)) ?_
  go_simp
  iterate 7
    refine wpS_f _ rfl rfl (v := ?_) ?_ ?_
    rotate_left
    · rintro W ⟨R, hW⟩
      have r2 : W.cell? ⟨w.heap.size, 2, none⟩ = some (.slice Ap np cp) := hW.asc.cell 2
      have r3 : W.cell? ⟨w.heap.size, 3, none⟩ = some (.slice (some ad) n cr) := hW.asc.cell 3
      have r4 : W.cell? ⟨w.heap.size, 4, none⟩ = some (.int .i64 rn) := hW.asc.cell 4
      have r5 : W.cell? ⟨w.heap.size, 5, none⟩ = some (.int .i64 (td 0)) := hW.asc.cell 5
      have r6 : W.cell? ⟨w.heap.size, 6, none⟩ = some (.int .i64 (td 1)) := hW.asc.cell 6
      have r7 : W.cell? ⟨w.heap.size, 7, none⟩ = some (.int .i64 (td 2)) := hW.asc.cell 7
      have r8 : W.cell? ⟨w.heap.size, 8, none⟩ = some (.int .i64 (td 3)) := hW.asc.cell 8
      have r9 : W.cell? ⟨w.heap.size, 9, none⟩ = some (.int .i64 (td 4)) := hW.asc.cell 9
      have r10 : W.cell? ⟨w.heap.size, 10, none⟩ = some (.int .i64 (td 5)) := hW.asc.cell 10
      have r11 : W.cell? ⟨w.heap.size, 11, none⟩ = some (.int .i64 (td 6)) := hW.asc.cell 11
      have r12 : W.cell? ⟨w.heap.size, 12, none⟩ = some (.int .i64 (td 7)) := hW.asc.cell 12
      have r13 : W.cell? ad = some (.int .i64 x) := unhide hrd W hW.left.right.right.left
      go_simp
      first | rfl | (rw [IntKind.wrap_i64]; omega)
    go_simp
  refine wpS_n (fun w3 hs3 => ?_)
  have HS3 := hide (hs3.asc.right.left)
  clear hs3
  go_wp2_with fail
  go_ret
  exact ⟨rfl, unhide HS3⟩
end Go.Proofs.Ytpcoehbjbjfggaa
