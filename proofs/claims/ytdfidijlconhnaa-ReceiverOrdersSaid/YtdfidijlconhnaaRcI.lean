/- The receiver: Issue, Line, Kept. -/
import Derived.Test.YtdfidijlconhnaaRcN
namespace Go.Proofs.Ytdfidijlconhnaa
open Go.RowKit Asn
attribute [local go_sem] Oper.semAt_some

/-- A pull's cells. -/
def pullC (k : RcK) (pp iss : Nat) : Array Value := #[.int .i64 4, .int .i64 0, .int .i64 ((iss % pp : Nat) : Int), .int .i64 k.dst, .int .i64 k.src, .int .i64 k.co, .int .i64 0, .int .i64 ((iss + 1 : Nat) : Int), .slice none 0 0]
def lineC (k : RcK) (next arr iss pen : Nat) (done : Bool) : Array Value := #[.int .i64 k.src, .int .i64 k.dst, .int .i64 k.co, .int .i64 k.cls, .int .i64 next, .int .i64 0, .int .i64 0, .int .i64 iss, .int .i64 0, .int .i64 0, .int .i64 arr, .int .i64 pen, .bool false, .bool done]
section
variable {E w : World} {F : Asn} {g : Nat} {k : RcK} {next arr iss pen : Nat} {done : Bool}
set_option maxRecDepth 100000 in
theorem rc_issue_no (hs : Sat E w (RcB g k next arr iss 0 done * F)) :
    Calls Try.prog 48 #[.pointer (some ⟨g, 0, none⟩)] w fun e w' => e = .returned (.tuple #[.agg #[.int .i64 0, .int .i64 0, .int .i64 0, .int .i64 0, .int .i64 0, .int .i64 0, .int .i64 0, .int .i64 0, .slice none 0 0], .bool false]) ∧ Sat E w' (RcB g k next arr iss 0 done * F) := by
  have hg : g < w.heap.size := Sat.lt (o := .cells _ _ (0, 0)) hs
  have hs1 := hs.alloc #[.int .i64 0, .int .i64 0, .int .i64 0, .int .i64 0, .int .i64 0, .int .i64 0, .int .i64 0, .int .i64 0, .slice none 0 0] 79
  have d0 : (w.alloc (.cells #[.int .i64 0, .int .i64 0, .int .i64 0, .int .i64 0, .int .i64 0, .int .i64 0, .int .i64 0, .int .i64 0, .slice none 0 0] 79)).cell? ⟨g, 0, none⟩ = some (.pointer (some ⟨k.bb, 0, none⟩)) := hs1.f2.cell 0
  have d2 : w.cell? ⟨g, 12, none⟩ = some (.int .i64 0) := hs.cell 12
  have HB := Lib.hid hs1.blk
  have HS := hide hs1.right
  clear hs hs1
  go_enter Try.func48, Try.ntmps48
  go_wp2_with (go_at_call 73; refine (rc_none _ _ _ d0).mono ?_; rintro e w' ⟨rfl, rfl⟩)
  exact bodyPost_ret (results_cell2 (p := 2) (u1 := 3) rfl _ _ _ _ _ _ _ rfl HB.out Try.underlying79 rfl (by kernel_rfl)) rfl ⟨rfl, unhide HS⟩
set_option maxHeartbeats 2000000 in
set_option maxRecDepth 100000 in
theorem rc_issue {pp : Nat} (hs : Sat E w (RcB g k next arr iss (pen + 1) done * F)) (hpp : k.paths = (pp : Nat)) (h1 : 1 ≤ pp) (h8 : pp ≤ 8) (hi : iss ≤ 4611686018427387904) (hp : pen ≤ 4611686018427387904) :
    Calls Try.prog 48 #[.pointer (some ⟨g, 0, none⟩)] w fun e w' => e = .returned (.tuple #[.agg (pullC k pp iss), .bool true]) ∧ Sat E w' (RcB g k next arr (iss + 1) pen done * F) := by
  have hg : g < w.heap.size := Sat.lt (o := .cells _ _ (0, 0)) hs
  have hs1 := hs.alloc #[.int .i64 0, .int .i64 0, .int .i64 0, .int .i64 0, .int .i64 0, .int .i64 0, .int .i64 0, .int .i64 0, .slice none 0 0] 79
  have d0 : (w.alloc (.cells #[.int .i64 0, .int .i64 0, .int .i64 0, .int .i64 0, .int .i64 0, .int .i64 0, .int .i64 0, .int .i64 0, .slice none 0 0] 79)).cell? ⟨g, 0, none⟩ = some (.pointer (some ⟨k.bb, 0, none⟩)) := hs1.f2.cell 0
  have d2 : w.cell? ⟨g, 12, none⟩ = some (.int .i64 ((pen + 1 : Nat) : Int)) := hs.cell 12
  obtain ⟨z, hz⟩ : ∃ z, z = w.heap.size := ⟨_, rfl⟩
  rw [← hz] at hs1
  have HZ := hide hz
  have HS1 := hide (hs1.perm (show _ = (RcB g k next arr iss (pen + 1) done * (Asn.blk z 79 #[.int .i64 0, .int .i64 0, .int .i64 0, .int .i64 0, .int .i64 0, .int .i64 0, .int .i64 0, .int .i64 0, .slice none 0 0] * F)) * (1 : Asn) by rw [sep_one]; ac_rfl))
  have HPP := hide hpp
  clear hs hs1 hz hpp
  go_enter Try.func48, Try.ntmps48
  go_upto_region 3 with (go_at_call 73; refine (rc_none _ _ _ d0).mono ?_; rintro e w' ⟨rfl, rfl⟩)
  rw [← unhide HZ]
  obtain ⟨w1, hw1⟩ : ∃ w1, w1 = w.alloc (.cells #[.int .i64 0, .int .i64 0, .int .i64 0, .int .i64 0, .int .i64 0, .int .i64 0, .int .i64 0, .int .i64 0, .slice none 0 0] 79) := ⟨_, rfl⟩
  rw [← hw1] at HS1 ⊢
  clear d0 d2 hg HZ hw1
  have hpz : ((pp : Int) == 0) = false := by simp; omega
  have hpn : ¬ (pp : Int) = 0 := by omega
  refine wp_region_slr (Q := _) (E := E) (fun W => ∃ R, Sat E W ((RcB g k next arr iss (pen + 1) done * (Asn.blk z 79 #[.int .i64 0, .int .i64 0, .int .i64 0, .int .i64 0, .int .i64 0, .int .i64 0, .int .i64 0, .int .i64 0, .slice none 0 0] * F)) * R)) [] [] [] [] (fun _ => (0, #[], fun _ => undef)) [0, 1, 2, 3, 4, 5, 6, 7, 8, 9] (by kernel_rfl) (by kernel_rfl) (unhide HS1) (fun W R h => ⟨_, h.asc⟩) ?_
  iterate 10
    refine wpS_f _ rfl rfl (v := ?_) ?_ ?_
    rotate_left
    · rintro W ⟨R, hW⟩
      have f1 : W.cell? ⟨g, 11, none⟩ = some (.int .i64 iss) := hW.asc.cell 11
      have f2 : W.cell? ⟨g, 7, none⟩ = some (.int .i64 (pp : Nat)) := by rw [← unhide HPP]; exact hW.asc.cell 7
      have f3 : (pp = 0) = False := by simp; omega
      go_simp
      first | rfl | (rw [IntKind.wrap_i64]; omega)
    go_simp
  refine wpS_n (fun w2 hs2 => ?_)
  have d1 : w2.cell? ⟨g, 12, none⟩ = some (.int .i64 ((pen + 1 : Nat) : Int)) := hs2.asc.cell 12
  have d2 : w2.cell? ⟨g, 11, none⟩ = some (.int .i64 iss) := hs2.asc.cell 11
  have d3 : w2.frozen? ⟨g, 12, none⟩ = false := hs2.asc.frozen 12
  have d4 : w2.frozen? ⟨g, 11, none⟩ = false := hs2.asc.frozen 11
  have HS2 := hide ((((hs2.asc).set 12 (.int .i64 (pen : Nat))).set 11 (.int .i64 ((iss : Int) + 1))).perm (show _ = (RcB g k next arr (iss + 1) pen done * F) * Asn.blk z 79 #[.int .i64 0, .int .i64 0, .int .i64 0, .int .i64 0, .int .i64 0, .int .i64 0, .int .i64 0, .int .i64 0, .slice none 0 0] by unfold RcB; rw [sep_one]; show Asn.blk _ _ #[_, _, _, _, _, _, _, _, _, _, _, _, _, _] * _ = _; unfold rcC; push_cast; ac_rfl))
  clear hs2 hpz hpn
  go_upto_region 6 with (fail)
  obtain ⟨w3, hw3⟩ : ∃ w3, w3 = (w2.setCell ⟨g, 12, none⟩ (.int .i64 (pen : Nat))).setCell ⟨g, 11, none⟩ (.int .i64 ((iss : Int) + 1)) := ⟨_, rfl⟩
  rw [← hw3] at HS2 ⊢
  clear hw3 d1 d2 d3 d4
  refine wp_region_slr (Q := _) (E := E) (fun W => ∃ R, Sat E W ((RcB g k next arr (iss + 1) pen done * F) * R)) [18] [] [] [] (fun _ => (0, #[], fun _ => undef)) [0, 1, 2, 3, 4, 5, 6, 7, 8, 9, 10, 11, 12, 13, 14, 15, 16, 17, 18, 19] (by kernel_rfl) (by kernel_rfl) (unhide HS2) (fun W R h => ⟨_, h.asc⟩) ?_
  iterate 18
    refine wpS_f _ rfl rfl (v := ?_) ?_ ?_
    rotate_left
    · rintro W ⟨R, hW⟩
      have f1 : W.cell? ⟨g, 4, none⟩ = some (.int .i64 k.dst) := hW.asc.cell 4
      have f2 : W.cell? ⟨g, 3, none⟩ = some (.int .i64 k.src) := hW.asc.cell 3
      have f3 : W.cell? ⟨g, 5, none⟩ = some (.int .i64 k.co) := hW.asc.cell 5
      have f4 : W.cell? ⟨g, 11, none⟩ = some (.int .i64 ((iss : Int) + 1)) := hW.asc.cell 11
      go_simp
      first | rfl | (rw [IntKind.wrap_i64]; omega)
    go_simp
  refine wpS_e _ rfl rfl (fun W R hW => ?_)
  have hr_ := hW.asc.f2
  refine stp_store_row rfl 79 _ _ rfl (z) (#[.int .i64 4, .int .i64 0, .int .i64 ((iss : Int) % (pp : Int)), .int .i64 k.dst, .int .i64 k.src, .int .i64 k.co, .int .i64 0, .int .i64 ((iss : Int) + 1), .slice none 0 0]) rfl rfl 79 _ hr_.blk (by kernel_rfl) rfl (by first | rfl | simp [Value.oneCell']) ?_
  refine ⟨(RcB g k next arr (iss + 1) pen done * F) * (Asn.blk z 79 #[.int .i64 4, .int .i64 0, .int .i64 ((iss : Int) % (pp : Int)), .int .i64 k.dst, .int .i64 k.src, .int .i64 k.co, .int .i64 0, .int .i64 ((iss : Int) + 1), .slice none 0 0]), fun W R h => ⟨_, h.asc⟩, (hr_.row _).perm (by first | ac_rfl | (simp only [Asn.one_sep, Asn.sep_one]; ac_rfl)), ?_⟩
  clear hW hr_
  go_simp
  iterate 1
    refine wpS_f _ rfl rfl (v := ?_) ?_ ?_
    rotate_left
    · rintro W ⟨R, hW⟩
      have f1 : W.cell? ⟨g, 4, none⟩ = some (.int .i64 k.dst) := hW.asc.cell 4
      have f2 : W.cell? ⟨g, 3, none⟩ = some (.int .i64 k.src) := hW.asc.cell 3
      have f3 : W.cell? ⟨g, 5, none⟩ = some (.int .i64 k.co) := hW.asc.cell 5
      have f4 : W.cell? ⟨g, 11, none⟩ = some (.int .i64 ((iss : Int) + 1)) := hW.asc.cell 11
      go_simp
      first | rfl | (rw [IntKind.wrap_i64]; omega)
    go_simp
  refine wpS_n (fun w4 hs4 => ?_)
  have hs5 := hs4.comm
  have HB := Lib.hid hs5.blk
  have HS5 := hide hs5.right
  clear hs4 hs5 HS2
  go_wp2_with fail
  exact bodyPost_ret (results_cell2 (p := 2) (u1 := 3) rfl _ _ _ _ _ _ _ rfl HB.out Try.underlying79 rfl (by kernel_rfl)) rfl ⟨rfl, unhide HS5⟩
set_option maxHeartbeats 2000000 in
set_option maxRecDepth 100000 in
theorem rc_line (hs : Sat E w (RcB g k next arr iss pen done * F)) :
    Calls Try.prog 39 #[.pointer (some ⟨g, 0, none⟩)] w fun e w' => e = .returned (.agg (lineC k next arr iss pen done)) ∧ Sat E w' (RcB g k next arr iss pen done * F) := by
  have hg : g < w.heap.size := Sat.lt (o := .cells _ _ (0, 0)) hs
  have hs1 := hs.alloc #[.int .i64 0, .int .i64 0, .int .i64 0, .int .i64 0, .int .i64 0, .int .i64 0, .int .i64 0, .int .i64 0, .int .i64 0, .int .i64 0, .int .i64 0, .int .i64 0, .bool false, .bool false] 85
  have d0 : (w.alloc (.cells #[.int .i64 0, .int .i64 0, .int .i64 0, .int .i64 0, .int .i64 0, .int .i64 0, .int .i64 0, .int .i64 0, .int .i64 0, .int .i64 0, .int .i64 0, .int .i64 0, .bool false, .bool false] 85)).cell? ⟨g, 0, none⟩ = some (.pointer (some ⟨k.bb, 0, none⟩)) := hs1.f2.cell 0
  obtain ⟨z, hz⟩ : ∃ z, z = w.heap.size := ⟨_, rfl⟩
  rw [← hz] at hs1
  have HZ := hide hz
  have HS1 := hide (hs1.perm (show _ = (RcB g k next arr iss pen done * F) * Asn.blk z 85 #[.int .i64 0, .int .i64 0, .int .i64 0, .int .i64 0, .int .i64 0, .int .i64 0, .int .i64 0, .int .i64 0, .int .i64 0, .int .i64 0, .int .i64 0, .int .i64 0, .bool false, .bool false] by ac_rfl))
  clear hs hs1 hz
  go_enter Try.func39, Try.ntmps39
  go_upto_region 3 with (go_at_call 73; refine (rc_none _ _ _ d0).mono ?_; rintro e w' ⟨rfl, rfl⟩)
  rw [← unhide HZ]
  obtain ⟨w1, hw1⟩ : ∃ w1, w1 = w.alloc (.cells #[.int .i64 0, .int .i64 0, .int .i64 0, .int .i64 0, .int .i64 0, .int .i64 0, .int .i64 0, .int .i64 0, .int .i64 0, .int .i64 0, .int .i64 0, .int .i64 0, .bool false, .bool false] 85) := ⟨_, rfl⟩
  rw [← hw1] at HS1 ⊢
  clear d0 hg HZ hw1
  refine wp_region_slr (Q := _) (E := E) (fun W => ∃ R, Sat E W ((RcB g k next arr iss pen done * F) * R)) [37] [] [] [] (fun _ => (0, #[], fun _ => undef)) [0, 1, 2, 3, 4, 5, 6, 7, 8, 9, 10, 11, 12, 13, 14, 15, 16, 17, 18, 19, 20, 21, 22, 23, 24, 25, 26, 27, 28, 29, 30, 31, 32, 33, 34, 35, 36, 37] (by kernel_rfl) (by kernel_rfl) (unhide HS1) (fun W R h => ⟨_, h.asc⟩) ?_
  iterate 37
    refine wpS_f _ rfl rfl (v := ?_) ?_ ?_
    rotate_left
    · rintro W ⟨R, hW⟩
      have f1 : W.cell? ⟨g, 3, none⟩ = some (.int .i64 k.src) := hW.asc.cell 3
      have f2 : W.cell? ⟨g, 4, none⟩ = some (.int .i64 k.dst) := hW.asc.cell 4
      have f3 : W.cell? ⟨g, 5, none⟩ = some (.int .i64 k.co) := hW.asc.cell 5
      have f4 : W.cell? ⟨g, 6, none⟩ = some (.int .i64 k.cls) := hW.asc.cell 6
      have f5 : W.cell? ⟨g, 9, none⟩ = some (.int .i64 next) := hW.asc.cell 9
      have f6 : W.cell? ⟨g, 11, none⟩ = some (.int .i64 iss) := hW.asc.cell 11
      have f7 : W.cell? ⟨g, 10, none⟩ = some (.int .i64 arr) := hW.asc.cell 10
      have f8 : W.cell? ⟨g, 12, none⟩ = some (.int .i64 pen) := hW.asc.cell 12
      have f9 : W.cell? ⟨g, 13, none⟩ = some (.bool done) := hW.asc.cell 13
      go_simp
      first | rfl | (rw [IntKind.wrap_i64]; omega)
    go_simp
  refine wpS_e _ rfl rfl (fun W R hW => ?_)
  have hr_ := hW.asc.f2
  refine stp_store_row rfl 85 _ _ rfl (z) (#[.int .i64 k.src, .int .i64 k.dst, .int .i64 k.co, .int .i64 k.cls, .int .i64 next, .int .i64 0, .int .i64 0, .int .i64 iss, .int .i64 0, .int .i64 0, .int .i64 arr, .int .i64 pen, .bool false, .bool done]) rfl rfl 85 _ hr_.blk (by kernel_rfl) rfl (by first | rfl | simp [Value.oneCell']) ?_
  refine ⟨(RcB g k next arr iss pen done * F) * (Asn.blk z 85 #[.int .i64 k.src, .int .i64 k.dst, .int .i64 k.co, .int .i64 k.cls, .int .i64 next, .int .i64 0, .int .i64 0, .int .i64 iss, .int .i64 0, .int .i64 0, .int .i64 arr, .int .i64 pen, .bool false, .bool done]), fun W R h => ⟨_, h.asc⟩, (hr_.row _).perm (by first | ac_rfl | (simp only [Asn.one_sep, Asn.sep_one]; ac_rfl)), ?_⟩
  clear hW hr_
  go_simp
  refine wpS_n (fun w2 hs2 => ?_)
  have hs3 := hs2.comm
  have HB := Lib.hid hs3.blk
  have HS3 := hide hs3.right
  clear hs2 hs3 HS1
  go_wp2_with fail
  exact bodyPost_ret (results_cell_row (p := 2) rfl _ _ _ _ _ _ _ rfl HB.out Try.underlying85 rfl (by kernel_rfl)) rfl ⟨rfl, unhide HS3⟩
theorem rc_kept_done (hs : Sat E w (RcB g k next arr iss pen true * F)) :
    Calls Try.prog 55 #[.pointer (some ⟨g, 0, none⟩)] w fun e w' => e = .returned (.slice none 0 0) ∧ w = w' := by
  have d0 : w.cell? ⟨g, 0, none⟩ = some (.pointer (some ⟨k.bb, 0, none⟩)) := hs.cell 0
  have d1 : w.cell? ⟨g, 13, none⟩ = some (.bool true) := hs.cell 13
  clear hs
  go_enter Try.func55, Try.ntmps55
  go_wp2_with (go_at_call 73; refine (rc_none _ _ _ d0).mono ?_; rintro e w' ⟨rfl, rfl⟩)
  go_ret
  exact ⟨rfl, rfl⟩
theorem rc_kept {V : Nat → Nat} {ba : Nat} (hs : Sat E w (RcB g k next arr iss pen false * (BitAt k.bb V k.win ba * F))) (hV : Small V) (h0 : 1 ≤ k.win) (h256 : k.win ≤ 256) (hba : ba ≤ 1152921504606846977) :
    Calls Try.prog 55 #[.pointer (some ⟨g, 0, none⟩)] w fun e w' => ∃ A c, e = .returned (.slice A (lst (winL V k.win ba)).length c) ∧ Sat E w' (sl 3 1 A (lst (winL V k.win ba)).length c (lst (winL V k.win ba)) * (RcB g k next arr iss pen false * (BitAt k.bb V k.win ba * F))) := by
  have d0 : w.cell? ⟨g, 0, none⟩ = some (.pointer (some ⟨k.bb, 0, none⟩)) := hs.cell 0
  have d1 : w.cell? ⟨g, 13, none⟩ = some (.bool false) := hs.cell 13
  have HL := hide (list_call E w _ k.bb V k.win ba hs.f2 hV h0 h256 hba)
  clear hs
  go_enter Try.func55, Try.ntmps55
  go_wp2_with (go_at_call 73; refine (rc_none _ _ _ d0).mono ?_; rintro e w' ⟨rfl, rfl⟩)
  refine (unhide HL).mono ?_
  rintro e w2 ⟨A, c, rfl, hs2⟩
  have HS2 := hide (hs2.perm (show _ = sl 3 1 A (lst (winL V k.win ba)).length c (lst (winL V k.win ba)) * (RcB g k next arr iss pen false * (BitAt k.bb V k.win ba * F)) by ac_rfl))
  obtain ⟨n, hn⟩ : ∃ n, n = (lst (winL V k.win ba)).length := ⟨_, rfl⟩
  rw [← hn]
  have HN := hide hn
  clear hs2 HL hn
  go_wp2_with fail
  go_ret
  exact ⟨A, c, by first | rfl | (rw [unhide HN]; rfl), unhide HS2⟩
end
end Go.Proofs.Ytdfidijlconhnaa
