/- The document's draws; the law's row and awake. -/
import Derived.Test.YtpcoehbjbjfggaaShuf
namespace Go.Proofs.Ytpcoehbjbjfggaa
open Go.RowKit Asn

set_option maxRecDepth 100000 in
theorem refNext (E w : World) (F : Asn) (s i : Int) (hs : Sat E w F) (h0 : 0 ≤ i) (hi : i ≤ 1000000) :
    Calls Try.prog 25 #[.agg #[.int .u64 s, .int .i64 i]] w fun e w' => e = .returned (.tuple #[.agg #[.int .u64 s, .int .i64 (i + 1)], .int .u64 (at05 s i)]) ∧ Sat E w' F := by
  go_enter Try.func25, Try.ntmps25
  go_wp2_with (go_at_call 34; refine (refat_call _ _ _).mono ?_; rintro e w' ⟨rfl, rfl⟩)
  exact bodyPost_ret (v := .tuple #[.agg #[.int .u64 s, .int .i64 (i + 1)], .int .u64 (at05 s i)]) (by simp [results, Try.results25, go_sem]) rfl ⟨rfl, (hs.allocKeep _).allocKeep _⟩

set_option maxRecDepth 100000 in
theorem refBelow0 (E w : World) (F : Asn) (s i n : Int) (hs : Sat E w F) (hn : n < 1) :
    Calls Try.prog 27 #[.agg #[.int .u64 s, .int .i64 i], .int .i64 n] w fun e w' => e = .returned (.tuple #[.agg #[.int .u64 s, .int .i64 i], .int .i64 0]) ∧ Sat E w' F := by
  go_enter Try.func27, Try.ntmps27
  go_wp2_with fail
  exact bodyPost_ret (v := .tuple #[.agg #[.int .u64 s, .int .i64 i], .int .i64 0]) (by simp [results, Try.results27, go_sem]) rfl ⟨rfl, (hs.allocKeep _).allocKeep _⟩

set_option maxRecDepth 100000 in
theorem refBelow (E w : World) (F : Asn) (s i n : Int) (hs : Sat E w F) (h0 : 0 ≤ i) (hi : i ≤ 1000000) (hn : 1 ≤ n) (hn2 : n ≤ 9223372036854775807) :
    Calls Try.prog 27 #[.agg #[.int .u64 s, .int .i64 i], .int .i64 n] w fun e w' => e = .returned (.tuple #[.agg #[.int .u64 s, .int .i64 (i + 1)], .int .i64 (bw s i n)]) ∧ Sat E w' F := by
  have hs1 := (hs.alloc #[.int .u64 s, .int .i64 i] 43).alloc #[.int .u64 0, .int .i64 0] 43
  rw [World.size_alloc] at hs1
  go_enter Try.func27, Try.ntmps27
  go_wp2_with fail
  refine (refNext E _ _ s i hs1 h0 hi).mono ?_
  rintro e w2 ⟨rfl, hs2⟩
  have e0 : w2.cell? ⟨w.heap.size, 0, none⟩ = some (.int .u64 s) := hs2.f2.cell 0
  have e1 : w2.cell? ⟨w.heap.size, 1, none⟩ = some (.int .i64 i) := hs2.f2.cell 1
  have e2 : ∀ j, w2.frozen? ⟨w.heap.size, j, none⟩ = false := fun j => hs2.f2.frozen j
  have hs3 := (hs2.f2.set 0 (.int .u64 s)).set 1 (.int .i64 (i + 1))
  clear hs2 hs1
  go_wp2_with fail
  have hwn : IntKind.u64.wrap n = n := by rw [IntKind.wrap_u64]; omega
  have hn0 : ¬ n = 0 := by omega
  have hbw : IntKind.i64.wrap ((at05 s i).tmod n) = bw s i n := by rw [IntKind.wrap_i64]; unfold bw wrap64; rfl
  refine wp_region_slr (Q := _) (E := E) (fun _ => True) [6] [] [] [0] (fun _ => (0, #[], fun _ => undef)) [0, 1, 2, 3, 4, 5, 6, 7] (by kernel_rfl) (by kernel_rfl) hs3 (fun _ _ _ => trivial) ?_
  refine wpS_r _ rfl rfl (v := .agg #[.int .u64 s, .int .i64 (i + 1)]) ?_ ?_
  · rintro W ⟨R, hW⟩
    have d0 : W.cell? ⟨w.heap.size, 0, none⟩ = some (.int .u64 s) := hW.asc.cell 0
    have d1 : W.cell? ⟨w.heap.size, 1, none⟩ = some (.int .i64 (i + 1)) := hW.asc.cell 1
    go_simp
  go_simp
  iterate 5
    refine wpS_f _ rfl rfl (v := ?_) ?_ ?_
    rotate_left
    · intro W hW
      go_simp
      rfl
    go_simp
  refine wpS_e _ rfl rfl (fun W R hW => ?_)
  have hW2 : Sat E W (Asn.blk (w.heap.size + 1) 43 #[.int .u64 0, .int .i64 0] * (Asn.blk w.heap.size 43 #[.int .u64 s, .int .i64 (i + 1)] * (F * R))) := (show Sat E W ((Asn.blk w.heap.size 43 #[.int .u64 s, .int .i64 (i + 1)] * (Asn.blk (w.heap.size + 1) 43 #[.int .u64 0, .int .i64 0] * F)) * R) from hW).perm (by ac_rfl)
  have f0 : W.cell? ⟨w.heap.size + 1, 0, none⟩ = some (.int .u64 0) := hW2.cell 0
  have f1 : W.cell? ⟨w.heap.size + 1, 1, none⟩ = some (.int .i64 0) := hW2.cell 1
  have f2 : ∀ j, W.frozen? ⟨w.heap.size + 1, j, none⟩ = false := fun j => hW2.frozen j
  have hW3 := hide (show Sat E _ (Asn.blk (w.heap.size + 1) 43 #[.int .u64 s, .int .i64 (i + 1)] * (Asn.blk w.heap.size 43 #[.int .u64 s, .int .i64 (i + 1)] * (F * R))) from (hW2.set 0 (.int .u64 s)).set 1 (.int .i64 (i + 1)))
  unfold stp
  go_simp
  clear f0 f1 f2 hW hW2
  refine (show ∃ F', _ from ⟨Asn.blk (w.heap.size + 1) 43 #[.int .u64 s, .int .i64 (i + 1)] * (Asn.blk w.heap.size 43 #[.int .u64 s, .int .i64 (i + 1)] * F), (unhide hW3).perm (by ac_rfl), ?_⟩)
  clear hW3
  go_simp
  refine wpS_f _ rfl rfl (v := ?_) ?_ ?_
  rotate_left
  · intro W hW
    go_simp
    rfl
  go_simp
  refine wpS_n (fun w3 hs4 => ?_)
  have HB := Lib.hid hs4.blk
  have HF := hide hs4.right.right
  clear hs4 hs3
  go_wp2_with fail
  exact bodyPost_ret (results_cell2 rfl _ _ _ _ _ _ _ rfl HB.out Try.underlying43 rfl (by kernel_rfl)) rfl ⟨rfl, unhide HF⟩

set_option maxRecDepth 100000 in
theorem row05 (E w : World) (F : Asn) (n : Nat) (hs : Sat E w F) (hn : n ≤ 1000) :
    Calls Try.prog 29 #[.int .i64 n] w fun e w' => ∃ A c, e = .returned (.slice A n c) ∧ Sat E w' (sl 3 1 A n c ((List.range n).map fun j : Nat => Value.int .i64 j) * F) := by
  go_enter Try.func29, Try.ntmps29
  go_wp2_with fail
  go_loopw [3, 4] (fun so i wr => ∃ (k oc : Nat) (oA : Option Addr), so = .slice oA k oc ∧ i = .int .i64 k ∧ k ≤ n ∧ Sat E wr (sl 3 1 oA k oc ((List.range k).map fun j : Nat => Value.int .i64 j) * F)) (fun _ i _ => n - (intOf i).toNat)
  case atStart => exact ⟨0, 0, none, rfl, rfl, Nat.zero_le _, hs.slNil⟩
  case round =>
    obtain ⟨k, oc, oA, rfl, rfl, hk, hsr⟩ := hrel
    by_cases hlt : k < n
    · have hs8 := hsr.alloc #[.int .i64 k] 3
      obtain ⟨A4, c4, w4, run4, hs9⟩ := Sat.append (P := Try.prog) (t := 52) (ty := 52) (d := 1) elt_ints hs8.right (RdW.new _ #[.int .i64 k] 3 1 1 rfl) (by intro u hu; simp at hu; subst hu; rfl) (by unfold maxLen; omega) (by omega)
      have R4 := Lib.hid run4
      have HS := hide hs9
      clear hs8 hs9 run4 hsr hs
      go_wp2_with (at_builtin; refine wpList_appendR rfl (.tmp 10) (.tmp 12) rfl rfl rfl R4.out ?_)
      go_roundw
      case rel =>
        refine ⟨k + 1, c4, A4, by simp, by go_num, by omega, (unhide HS).perm ?_⟩
        rw [List.range_succ, List.map_append]
        rfl
      case measure => simp [intOf]; omega
    · obtain rfl : k = n := by omega
      have HS := hide hsr
      clear hsr hs
      go_wp2_with fail
      go_ret
      exact ⟨oA, oc, rfl, unhide HS⟩

set_option maxRecDepth 100000 in
theorem sameInts (E w : World) (F : Asn) (A B : Option Addr) (n c d : Nat) (xs : List Value) (hs : Sat E w F) (ha : rd F 1 A n xs) (hb : rd F 1 B n xs) (hi : ∀ u ∈ xs, ∃ x, u = Value.int .i64 x) (hn : n ≤ 65536) :
    Calls Try.prog 31 #[.slice A n c, .slice B n d] w fun e w' => e = .returned (.bool true) ∧ Sat E w' F := by
  have hnn : ((n : Int) != n) = false := by simp
  have HI := Lib.hid hi
  clear hi
  go_enter Try.func31, Try.ntmps31
  go_wp2_with fail
  go_loopw [5] (fun i wr => ∃ k : Nat, i = .int .i64 k ∧ k ≤ n ∧ Sat E wr F) (fun i _ => n - (intOf i).toNat)
  case atStart => exact ⟨0, rfl, Nat.zero_le _, hs⟩
  case round =>
    obtain ⟨k, rfl, hk, hsr⟩ := hrel
    by_cases hlt : k < n
    · have hxl : xs.length = n := by have := (RdW.of_rd ha hs).1; omega
      have hkx : k < xs.length := by omega
      have hu : xs[k]? = some xs[k] := List.getElem?_eq_getElem hkx
      generalize xs[k] = u at hu
      obtain ⟨u, rfl⟩ := HI.out u (List.mem_of_getElem? hu)
      have e1 : ∀ j, ∃ ad, A = some ad ∧ (wr.drewN j).cell? (ad.add k) = some (.int .i64 u) := fun j => (RdW.of_rd ha (hsr.drewN j)).at_ hu
      have e2 : ∀ j, ∃ ad, B = some ad ∧ (wr.drewN j).cell? (ad.add k) = some (.int .i64 u) := fun j => (RdW.of_rd hb (hsr.drewN j)).at_ hu
      obtain ⟨ad, rfl, _⟩ := e1 0
      obtain ⟨bd, rfl, _⟩ := e2 0
      have e3 : ∀ j, (wr.drewN j).cell? (ad.add k) = some (.int .i64 u) := by
        intro j
        obtain ⟨ad', h, h2⟩ := e1 j
        obtain rfl : ad = ad' := by simpa using h
        exact h2
      have e4 : ∀ j, (wr.drewN j).cell? (bd.add k) = some (.int .i64 u) := by
        intro j
        obtain ⟨ad', h, h2⟩ := e2 j
        obtain rfl : bd = ad' := by simpa using h
        exact h2
      have e30 := e3 0
      have e40 := e4 0
      clear e1 e2 hu
      go_wp2_with fail
      go_quiet (fail)
      go_wp2_with fail
      go_roundw
      case rel => exact ⟨k + 1, by go_num, by omega, hsr.drewN _⟩
      case measure => simp [intOf]; omega
    · have HS := hide hsr
      clear hsr hs
      go_wp2_with fail
      go_ret
      exact ⟨rfl, unhide HS⟩

set_option maxHeartbeats 1000000 in
set_option maxRecDepth 100000 in
theorem refShuf (E w : World) (F : Asn) (n c : Nat) (s i : Int) (A : Option Addr) (xs : List Value) (hs : Sat E w F) (hr : rd F 1 A n xs) (h1 : ∀ u ∈ xs, ∃ x, u = Value.int .i64 x) (hn : n ≤ 1000) (h0 : 0 ≤ i) (hi : i ≤ 900000) :
    Calls Try.prog 30 #[.agg #[.int .u64 s, .int .i64 i], .slice A n c] w fun e w' => ∃ A' c', e = .returned (.tuple #[.agg #[.int .u64 s, .int .i64 (i + (n - 1 : Nat))], .slice A' n c']) ∧
      Sat E w' (sl 3 1 A' n c' (shufL s (n - 1) i xs) * F) := by
  have hs1 := (hs.alloc #[.int .u64 s, .int .i64 i] 43).alloc #[.int .u64 0, .int .i64 0] 43
  rw [World.size_alloc] at hs1
  have h0' := Sat.slMk (n := 0) (c := 0) (z := 1) (xs := []) (off := 0) (hs1.alloc #[] 3) (by simp) (Nat.le_refl _) (Nat.zero_le _) (by simp) (by intro j u hu; simp at hu)
  obtain ⟨A', c', w1, r1, hs2⟩ := Sat.append (P := Try.prog) (t := 52) (ty := 52) (d := c) elt_ints h0' (RdW.of_rd hr h0'.right.right.right) (fun u hu => by obtain ⟨x, rfl⟩ := h1 u hu; rfl) (by unfold maxLen; omega) (by omega)
  rw [Nat.zero_add] at r1 hs2
  rw [List.nil_append] at hs2
  simp only [World.size_alloc] at r1
  have R1 := Lib.hid r1
  clear r1 h0' hs1 hs
  go_enter Try.func30, Try.ntmps30
  go_wp2_with (at_builtin; refine wpList_appendR rfl (.tmp 11) (.tmp 12) rfl rfl rfl R1.out ?_)
  go_loopw [7] (fun s7 wr => ∃ (m q : Nat) (ys : List Value), (s7 = .int .i64 m ∨ (n = 0 ∧ s7 = .int .i64 (-1))) ∧ m + q = n - 1 ∧ Hid (shufL s m (i + q) ys = shufL s (n - 1) i xs) ∧ Hid (∀ u ∈ ys, ∃ x, u = Value.int .i64 x) ∧
      Sat E wr (sl 3 1 A' n c' ys * (Asn.blk (w.heap.size + 1) 43 #[.int .u64 0, .int .i64 0] * (Asn.blk w.heap.size 43 #[.int .u64 s, .int .i64 (i + q)] * F)))) (fun s7 _ => (intOf s7).toNat)
  case atStart =>
    refine ⟨n - 1, 0, xs, ?_, by omega, hide (by simp), hide h1, by simpa using hs2⟩
    by_cases h : n = 0
    · right; subst h; exact ⟨rfl, rfl⟩
    · left; congr 1; omega
  case round =>
    obtain ⟨m, q, ys, h6, hmq, HY, HK, hsr⟩ := hrel
    rcases h6 with rfl | ⟨rfl, rfl⟩
    · by_cases hm : 0 < m
      · have hr1 := bw_lt s (i + q) (m + 1) (by omega) (by omega)
        obtain ⟨p, hp⟩ : ∃ p : Nat, bw s (i + q) (m + 1) = p := ⟨(bw s (i + q) (m + 1)).toNat, by omega⟩
        have HSTEP : Hid (shufL s (m - 1) (i + q + 1) (swp ys m p) = shufL s (n - 1) i xs) := by
          have := HY.out
          rw [shufL_step _ _ _ _ hm, hp] at this
          exact this
        have hpm : p ≤ m := by omega
        have hpn : p < n := by omega
        have hmn : m < n := by omega
        have hcall := hide (refBelow E wr _ s (i + q) (m + 1) hsr (by omega) (by omega) (by omega) (by omega))
        rw [hp] at hcall
        have d0 : wr.cell? ⟨w.heap.size, 0, none⟩ = some (.int .u64 s) := hsr.f3.cell 0
        have d1 : wr.cell? ⟨w.heap.size, 1, none⟩ = some (.int .i64 (i + q)) := hsr.f3.cell 1
        clear hp hr1 HY
        go_wp2_with fail
        refine (unhide hcall).mono ?_
        rintro e w2 ⟨rfl, hs3⟩
        have hyl : ys.length = n := by have := hs3.slLen.1; omega
        obtain ⟨b, off, rfl, _, _, _⟩ := hs3.slAt (by omega)
        have hu : ys[m]? = some (ys.getD m undef) := by simp [List.getD, List.getElem?_eq_getElem (show m < ys.length by omega)]
        have hv : ys[p]? = some (ys.getD p undef) := by simp [List.getD, List.getElem?_eq_getElem (show p < ys.length by omega)]
        have HSW : Hid (swp ys m p = (ys.set m (ys.getD p undef)).set p (ys.getD m undef)) := rfl
        generalize ys.getD m undef = u at hu HSW
        generalize ys.getD p undef = v at hv HSW
        obtain ⟨u, rfl⟩ := HK.out u (List.mem_of_getElem? hu)
        obtain ⟨v, rfl⟩ := HK.out v (List.mem_of_getElem? hv)
        have HK2 : Hid (∀ u ∈ swp ys m p, ∃ x, u = Value.int .i64 x) := swp_mem HK.out (by omega) (by omega)
        have k0 : w2.cell? ⟨w.heap.size, 0, none⟩ = some (.int .u64 s) := hs3.f3.cell 0
        have k1 : w2.cell? ⟨w.heap.size, 1, none⟩ = some (.int .i64 (i + q)) := hs3.f3.cell 1
        have k2 : ∀ j, w2.frozen? ⟨w.heap.size, j, none⟩ = false := fun j => hs3.f3.frozen j
        have k3 : w.heap.size < w2.heap.size := hs3.f3.lt
        have hs4 := (((hs3.f3.set 0 (.int .u64 s)).set 1 (.int .i64 (i + q + 1))).alloc #[.int .u64 s, .int .i64 (i + q + 1)] 43).right
        have HS4 : Hid (Sat E (((w2.setCell ⟨w.heap.size, 0, none⟩ (.int .u64 s)).setCell ⟨w.heap.size, 1, none⟩ (.int .i64 (i + q + 1))).alloc (.cells #[.int .u64 s, .int .i64 (i + q + 1)] 43))
          (sl 3 1 (some ⟨b, off, none⟩) n c' ys * (Asn.blk w.heap.size 43 #[.int .u64 s, .int .i64 (i + q + 1)] * (Asn.blk (w.heap.size + 1) 43 #[.int .u64 0, .int .i64 0] * F)))) := hs4.f2
        clear hs4 hs3 hsr hcall hs2 d0 d1
        go_upto_region 7 with (fail)
        obtain ⟨W4, hW4⟩ : ∃ W4, W4 = (((w2.setCell ⟨w.heap.size, 0, none⟩ (.int .u64 s)).setCell ⟨w.heap.size, 1, none⟩ (.int .i64 (i + q + 1))).alloc (.cells #[.int .u64 s, .int .i64 (i + q + 1)] 43)) := ⟨_, rfl⟩
        rw [← hW4] at HS4 ⊢
        clear hW4 k0 k1 k2 k3
        obtain ⟨b', off', hbb, _, hc1, hf1⟩ := HS4.out.slAt (by omega)
        simp only [Option.some.injEq, Addr.mk.injEq, and_true] at hbb
        obtain ⟨rfl, rfl⟩ := hbb
        have g0 := hc1 m _ hu
        have g1 := hc1 p _ hv
        have g2 := hf1 (off + m)
        have HS5 := hide (HS4.out.slSet (i := m) (v := .int .i64 v) (by omega))
        clear hc1 hf1 HS4
        go_upto_region 9 with (fail)
        obtain ⟨W5, hW5⟩ : ∃ W5, W5 = W4.setCell ⟨b, off + m, none⟩ (.int .i64 v) := ⟨_, rfl⟩
        rw [← hW5] at HS5 ⊢
        clear hW5 g0 g1 g2
        obtain ⟨b', off', hbb, _, hc1, hf1⟩ := HS5.out.slAt (by omega)
        simp only [Option.some.injEq, Addr.mk.injEq, and_true] at hbb
        obtain ⟨rfl, rfl⟩ := hbb
        obtain ⟨v2, hv2⟩ : ∃ v2, (ys.set m (.int .i64 v))[p]? = some v2 := ⟨(ys.set m (.int .i64 v))[p]'(by simp; omega), List.getElem?_eq_getElem _⟩
        have g1 := hc1 p _ hv2
        have g2 := hf1 (off + p)
        have HS6 := hide (HS5.out.slSet (i := p) (v := .int .i64 u) (by omega))
        clear hc1 hf1 HS5
        go_wp2_with fail
        go_roundw
        case rel =>
          refine ⟨m - 1, q + 1, (ys.set m (.int .i64 v)).set p (.int .i64 u), .inl (by go_num), by omega, ?_, ?_, ?_⟩
          · show _ = _
            rw [← HSTEP.out, HSW.out, show i + ((q + 1 : Nat) : Int) = i + q + 1 by omega]
          · rw [← HSW.out]
            exact HK2
          · rw [show i + ((q + 1 : Nat) : Int) = i + q + 1 by omega]
            exact (unhide HS6).perm (by ac_rfl)
        case measure => simp [intOf]; omega
      · obtain rfl : m = 0 := by omega
        have hq : q = n - 1 := by omega
        rw [hq] at hsr HY
        have hsf : Sat E wr (sl 3 1 A' n c' (shufL s (n - 1) i xs) * (Asn.blk (w.heap.size + 1) 43 #[.int .u64 0, .int .i64 0] * (Asn.blk w.heap.size 43 #[.int .u64 s, .int .i64 (i + (n - 1 : Nat))] * F))) := by
          rw [← HY.out]
          exact hsr
        have k0 : wr.cell? ⟨w.heap.size, 0, none⟩ = some (.int .u64 s) := hsf.f3.cell 0
        have k1 : wr.cell? ⟨w.heap.size, 1, none⟩ = some (.int .i64 (i + (n - 1 : Nat))) := hsf.f3.cell 1
        have f0 : wr.cell? ⟨w.heap.size + 1, 0, none⟩ = some (.int .u64 0) := hsf.f2.cell 0
        have f1 : wr.cell? ⟨w.heap.size + 1, 1, none⟩ = some (.int .i64 0) := hsf.f2.cell 1
        have f2 : ∀ j, wr.frozen? ⟨w.heap.size + 1, j, none⟩ = false := fun j => hsf.f2.frozen j
        have hs6 := (hsf.f2.set 0 (.int .u64 s)).set 1 (.int .i64 (i + (n - 1 : Nat)))
        have HB := Lib.hid hs6.blk
        have HF := hide hs6.right
        clear hsf hs6 hsr hs2
        go_wp2_with fail
        exact bodyPost_ret (results_cell2 rfl _ _ _ _ _ _ _ rfl HB.out Try.underlying43 rfl (by kernel_rfl)) rfl ⟨A', c', rfl, (unhide HF).f2.right⟩
    · obtain ⟨rfl, rfl⟩ : m = 0 ∧ q = 0 := by omega
      have hsf : Sat E wr (sl 3 1 A' 0 c' (shufL s 0 i xs) * (Asn.blk (w.heap.size + 1) 43 #[.int .u64 0, .int .i64 0] * (Asn.blk w.heap.size 43 #[.int .u64 s, .int .i64 i] * F))) := by
        have h2 := HY.out
        simp only [Nat.zero_sub, Int.natCast_zero, Int.add_zero] at h2
        rw [← h2]
        simpa [shufL] using hsr
      have k0 : wr.cell? ⟨w.heap.size, 0, none⟩ = some (.int .u64 s) := hsf.f3.cell 0
      have k1 : wr.cell? ⟨w.heap.size, 1, none⟩ = some (.int .i64 i) := hsf.f3.cell 1
      have f0 : wr.cell? ⟨w.heap.size + 1, 0, none⟩ = some (.int .u64 0) := hsf.f2.cell 0
      have f1 : wr.cell? ⟨w.heap.size + 1, 1, none⟩ = some (.int .i64 0) := hsf.f2.cell 1
      have f2 : ∀ j, wr.frozen? ⟨w.heap.size + 1, j, none⟩ = false := fun j => hsf.f2.frozen j
      have hs6 := (hsf.f2.set 0 (.int .u64 s)).set 1 (.int .i64 i)
      have HB := Lib.hid hs6.blk
      have HF := hide hs6.right
      clear hsf hs6 hsr hs2
      go_wp2_with fail
      exact bodyPost_ret (results_cell2 rfl _ _ _ _ _ _ _ rfl HB.out Try.underlying43 rfl (by kernel_rfl)) rfl ⟨A', c', rfl, (unhide HF).f2.right⟩
end Go.Proofs.Ytpcoehbjbjfggaa
