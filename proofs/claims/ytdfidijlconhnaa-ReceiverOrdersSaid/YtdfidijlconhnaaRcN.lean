/- The receiver: New. -/
import Derived.Test.YtdfidijlconhnaaRcV
namespace Go.Proofs.Ytdfidijlconhnaa
open Go.RowKit Asn
attribute [local go_sem] Oper.semAt_some

/-- Settings. -/
structure Cf where
  a0 : Int
  paths : Int
  a2 : Int
  a3 : Int
  win : Int
  a5 : Int
  a6 : Int
  a7 : Int
  a8 : Int
  a9 : Int
  a10 : Int
  a11 : Int
  a12 : Int
  a13 : Int
def Cf.cells (c : Cf) : Array Value := #[.int .i64 c.a0, .int .i64 c.paths, .int .i64 c.a2, .int .i64 c.a3, .int .i64 c.win, .int .i64 c.a5, .int .i64 c.a6, .int .i64 c.a7, .int .i64 c.a8, .int .i64 c.a9, .int .i64 c.a10, .int .i64 c.a11, .int .i64 c.a12, .int .i64 c.a13]
/-- May a receiver be? 0: yes. -/
def newE (c : Cf) (src dst conn cls : Int) : Int :=
  if ¬ (1 ≤ c.paths ∧ c.paths ≤ 8) ∨ ¬ (1 ≤ c.win ∧ c.win ≤ 256) then 190
  else if ¬ (0 ≤ src ∧ src ≤ 7) ∨ ¬ (0 ≤ dst ∧ dst ≤ 7) ∨ src = dst ∨ ¬ (1 ≤ conn ∧ conn ≤ 1073741824) ∨ ¬ (0 ≤ cls ∧ cls ≤ 1) then 5 else 0
def NewP (E : World) (F : Asn) (c : Cf) (src dst conn cls : Int) (e : Ending) (w' : World) : Prop :=
  ∃ g bb jb mb win, c.win = (win : Nat) ∧ e = .returned (.tuple #[.pointer (some ⟨g, 0, none⟩), .int .i64 0]) ∧
    Sat E w' (RcB g ⟨bb, jb, mb, src, dst, conn, cls, c.paths, win⟩ 0 0 0 0 false * (MapAt mb (rowsP []) * (BitAt bb (fun _ => 0) win 0 * (JoinAt jb ⟨0, 0, []⟩ * F))))
theorem join_new_alloc (w : World) : Calls Try.prog 72 #[] w fun e w' => e = .returned (.pointer (some ⟨w.heap.size, 0, none⟩)) ∧ w' = w.alloc (.cells #[.int .i64 0, .int .i64 0, .int .i64 0, .slice none 0 0, .bool true] 166) := by
  go_enter Try.func72, Try.ntmps72
  go_wp2_with fail
  go_ret
  exact ⟨rfl, rfl⟩
section
variable {E w : World} {F : Asn}
set_option maxHeartbeats 2000000 in
set_option maxRecDepth 100000 in
theorem rc_new (c : Cf) (src dst conn cls : Int) (hs : Sat E w F) (h : newE c src dst conn cls = 0) :
    Calls Try.prog 36 #[.agg c.cells, .int .i64 src, .int .i64 dst, .int .i64 conn, .int .i64 cls] w (NewP E F c src dst conn cls) := by
  obtain ⟨a0, paths, a2, a3, win, a5, a6, a7, a8, a9, a10, a11, a12, a13⟩ := c
  unfold newE at h
  dsimp only at h
  have h12 : (1 ≤ paths ∧ paths ≤ 8) ∧ (1 ≤ win ∧ win ≤ 256) := by
    by_cases hh : ¬ (1 ≤ paths ∧ paths ≤ 8) ∨ ¬ (1 ≤ win ∧ win ≤ 256)
    · rw [if_pos hh] at h; cases h
    · simpa using hh
  rw [if_neg (by simp [h12])] at h
  have h3 : (0 ≤ src ∧ src ≤ 7) ∧ (0 ≤ dst ∧ dst ≤ 7) ∧ ¬ src = dst ∧ (1 ≤ conn ∧ conn ≤ 1073741824) ∧ (0 ≤ cls ∧ cls ≤ 1) := by
    by_cases hh : ¬ (0 ≤ src ∧ src ≤ 7) ∨ ¬ (0 ≤ dst ∧ dst ≤ 7) ∨ src = dst ∨ ¬ (1 ≤ conn ∧ conn ≤ 1073741824) ∨ ¬ (0 ≤ cls ∧ cls ≤ 1)
    · rw [if_pos hh] at h; cases h
    · simpa using hh
  clear h
  obtain ⟨c1, c2⟩ := h12
  obtain ⟨c3, c4, c5, c6, c7⟩ := h3
  obtain ⟨win, rfl⟩ := Int.eq_ofNat_of_zero_le (show 0 ≤ win by omega)
  have hbn := bit_new E (w.alloc (.cells #[.int .i64 a0, .int .i64 paths, .int .i64 a2, .int .i64 a3, .int .i64 (win : Nat), .int .i64 a5, .int .i64 a6, .int .i64 a7, .int .i64 a8, .int .i64 a9, .int .i64 a10, .int .i64 a11, .int .i64 a12, .int .i64 a13] 72)) _ win 0 (hs.alloc #[.int .i64 a0, .int .i64 paths, .int .i64 a2, .int .i64 a3, .int .i64 (win : Nat), .int .i64 a5, .int .i64 a6, .int .i64 a7, .int .i64 a8, .int .i64 a9, .int .i64 a10, .int .i64 a11, .int .i64 a12, .int .i64 a13] 72) (by omega) (by omega) (by omega)
  have HBN := hide hbn
  have C1 := hide (decide_eq_true c1)
  have C2 := hide (decide_eq_true c2)
  have C3 := hide (decide_eq_true c3)
  have C4 := hide (decide_eq_true c4)
  have C6 := hide (decide_eq_true c6)
  have C7 := hide (decide_eq_true c7)
  have c5' : (src == dst) = false := by simp [c5]
  clear hbn hs c1 c2 c3 c4 c5 c6 c7
  show Calls _ _ #[.agg #[.int .i64 a0, .int .i64 paths, .int .i64 a2, .int .i64 a3, .int .i64 (win : Nat), .int .i64 a5, .int .i64 a6, .int .i64 a7, .int .i64 a8, .int .i64 a9, .int .i64 a10, .int .i64 a11, .int .i64 a12, .int .i64 a13], _, _, _, _] _ _
  go_enter Try.func36, Try.ntmps36
  go_wp2_with (go_at_call 70; refine (in_call _ _ _ _).mono ?_; rintro e w' ⟨rfl, rfl⟩; first | rw [unhide C1] | rw [unhide C2] | rw [unhide C3] | rw [unhide C4] | rw [unhide C6] | rw [unhide C7])
  refine (unhide HBN).mono ?_
  rintro e w2 ⟨bb, rfl, hs2⟩
  have d1 : w2.cell? ⟨w.heap.size, 1, none⟩ = some (.int .i64 paths) := hs2.f2.cell 1
  have d4 : w2.cell? ⟨w.heap.size, 4, none⟩ = some (.int .i64 (win : Nat)) := hs2.f2.cell 4
  obtain ⟨z, hz⟩ : ∃ z, z = w.heap.size := ⟨_, rfl⟩
  have HS2 := hide (hs2.perm (show _ = (Asn.blk z 72 #[.int .i64 a0, .int .i64 paths, .int .i64 a2, .int .i64 a3, .int .i64 (win : Nat), .int .i64 a5, .int .i64 a6, .int .i64 a7, .int .i64 a8, .int .i64 a9, .int .i64 a10, .int .i64 a11, .int .i64 a12, .int .i64 a13] * (BitAt bb (fun _ => 0) win 0 * F)) * (1 : Asn) by rw [sep_one, hz]; ac_rfl))
  have HZ := hide hz
  have hlt : w.heap.size < w2.heap.size := Sat.lt (o := .cells _ _ (0, 0)) hs2.f2
  clear hs2 HBN hz
  go_wp2_with fail
  rw [← unhide HZ]
  clear d1 d4 hlt HZ
  refine wp_region_slr (Q := _) (E := E) (fun W => ∃ R, Sat E W ((Asn.blk z 72 #[.int .i64 a0, .int .i64 paths, .int .i64 a2, .int .i64 a3, .int .i64 (win : Nat), .int .i64 a5, .int .i64 a6, .int .i64 a7, .int .i64 a8, .int .i64 a9, .int .i64 a10, .int .i64 a11, .int .i64 a12, .int .i64 a13] * (BitAt bb (fun _ => 0) win 0 * F)) * R)) [2, 12] [] [1] [] (fun i_ => (166, #[.int .i64 0, .int .i64 0, .int .i64 0, .slice none 0 0, .bool true], fun g_ => .pointer (some ⟨g_, 0, none⟩))) [2, 0, 1, 3, 4, 5, 6, 7, 8, 9, 10, 11, 12, 13, 14] (by kernel_rfl) (by kernel_rfl) (unhide HS2) (fun W R h => ⟨_, h.asc⟩) ?_
  refine wpS_e _ rfl rfl (fun W R hW => ?_)
  have s_ := hide hW.makeMapI
  refine stp_makeMap rfl _ rfl ?_
  obtain ⟨m_58, hm_⟩ : ∃ m_, m_ = W.heap.size := ⟨_, rfl⟩
  obtain ⟨w_, hw_⟩ : ∃ w_, w_ = W.alloc (.map #[] 0) := ⟨_, rfl⟩
  rw [← hm_, ← hw_] at s_ ⊢
  clear hm_ hw_
  refine ⟨(Asn.blk z 72 #[.int .i64 a0, .int .i64 paths, .int .i64 a2, .int .i64 a3, .int .i64 (win : Nat), .int .i64 a5, .int .i64 a6, .int .i64 a7, .int .i64 a8, .int .i64 a9, .int .i64 a10, .int .i64 a11, .int .i64 a12, .int .i64 a13] * (BitAt bb (fun _ => 0) win 0 * F)) * (MapAt m_58 []), fun W R h => ⟨_, h.asc⟩, (unhide s_).perm (by first | ac_rfl | (simp only [Asn.one_sep, Asn.sep_one]; ac_rfl)), ?_⟩
  clear hW s_
  go_simp
  iterate 1
    refine wpS_f _ rfl rfl (v := ?_) ?_ ?_
    rotate_left
    · rintro W ⟨R, hW⟩
      have f1 : W.cell? ⟨z, 1, none⟩ = some (.int .i64 paths) := hW.asc.cell 1
      have f4 : W.cell? ⟨z, 4, none⟩ = some (.int .i64 (win : Nat)) := hW.asc.cell 4
      go_simp
      first | rfl | (rw [IntKind.wrap_i64]; omega)
    go_simp
  refine wpS_a _ rfl rfl (fun W => stp_call rfl (by go_simp; try rfl) ((join_new_alloc W).mono fun e w' h => ⟨_, h.1, rfl, h.2⟩)) (fun g_57 => ?_)
  go_simp
  iterate 9
    refine wpS_f _ rfl rfl (v := ?_) ?_ ?_
    rotate_left
    · rintro W ⟨R, hW⟩
      have f1 : W.cell? ⟨z, 1, none⟩ = some (.int .i64 paths) := hW.asc.cell 1
      have f4 : W.cell? ⟨z, 4, none⟩ = some (.int .i64 (win : Nat)) := hW.asc.cell 4
      go_simp
      first | rfl | (rw [IntKind.wrap_i64]; omega)
    go_simp
  refine wpS_e _ rfl rfl (fun W R hW => ?_)
  have s_ := hide (hW.alloc (#[.pointer (some ⟨bb, 0, none⟩), .pointer (some ⟨g_57, 0, none⟩), .map (some m_58), .int .i64 src, .int .i64 dst, .int .i64 conn, .int .i64 cls, .int .i64 paths, .int .i64 (win : Nat), .int .i64 0, .int .i64 0, .int .i64 0, .int .i64 0, .bool false]) 119)
  unfold stp
  go_simp
  obtain ⟨b_68, hm_⟩ : ∃ m_, m_ = W.heap.size := ⟨_, rfl⟩
  rw [← hm_] at s_ ⊢
  clear hm_
  refine (show ∃ F', _ from ⟨(Asn.blk z 72 #[.int .i64 a0, .int .i64 paths, .int .i64 a2, .int .i64 a3, .int .i64 (win : Nat), .int .i64 a5, .int .i64 a6, .int .i64 a7, .int .i64 a8, .int .i64 a9, .int .i64 a10, .int .i64 a11, .int .i64 a12, .int .i64 a13] * (BitAt bb (fun _ => 0) win 0 * F)) * (Asn.blk b_68 119 #[.pointer (some ⟨bb, 0, none⟩), .pointer (some ⟨g_57, 0, none⟩), .map (some m_58), .int .i64 src, .int .i64 dst, .int .i64 conn, .int .i64 cls, .int .i64 paths, .int .i64 (win : Nat), .int .i64 0, .int .i64 0, .int .i64 0, .int .i64 0, .bool false] * (Asn.blk g_57 166 #[.int .i64 0, .int .i64 0, .int .i64 0, .slice none 0 0, .bool true] * MapAt m_58 [])), fun W R h => ⟨_, h.asc⟩, (unhide s_).perm (by first | ac_rfl | (simp only [Asn.one_sep, Asn.sep_one]; ac_rfl)), ?_⟩)
  clear hW s_
  go_simp
  iterate 2
    refine wpS_f _ rfl rfl (v := ?_) ?_ ?_
    rotate_left
    · rintro W ⟨R, hW⟩
      have f1 : W.cell? ⟨z, 1, none⟩ = some (.int .i64 paths) := hW.asc.cell 1
      have f4 : W.cell? ⟨z, 4, none⟩ = some (.int .i64 (win : Nat)) := hW.asc.cell 4
      go_simp
      first | rfl | (rw [IntKind.wrap_i64]; omega)
    go_simp
  refine wpS_n (fun w3 hs3 => ?_)
  have hj : Sat E w3 (JoinAt g_57 ⟨0, 0, []⟩ * (Asn.blk z 72 #[.int .i64 a0, .int .i64 paths, .int .i64 a2, .int .i64 a3, .int .i64 (win : Nat), .int .i64 a5, .int .i64 a6, .int .i64 a7, .int .i64 a8, .int .i64 a9, .int .i64 a10, .int .i64 a11, .int .i64 a12, .int .i64 a13] * (RcB b_68 ⟨bb, g_57, m_58, src, dst, conn, cls, paths, win⟩ 0 0 0 0 false * (MapAt m_58 (rowsP []) * (BitAt bb (fun _ => 0) win 0 * F))))) := by
    refine Sat.joinMk (rs := []) (o := 0) rfl (by omega) (by simp) (n := 0) (c := 0) (A := none) ?_
    have h1 := hs3.perm (show _ = Asn.blk g_57 166 #[.int .i64 0, .int .i64 0, .int .i64 0, .slice none 0 0, .bool true] * (Asn.blk z 72 #[.int .i64 a0, .int .i64 paths, .int .i64 a2, .int .i64 a3, .int .i64 (win : Nat), .int .i64 a5, .int .i64 a6, .int .i64 a7, .int .i64 a8, .int .i64 a9, .int .i64 a10, .int .i64 a11, .int .i64 a12, .int .i64 a13] * (RcB b_68 ⟨bb, g_57, m_58, src, dst, conn, cls, paths, win⟩ 0 0 0 0 false * (MapAt m_58 (rowsP []) * (BitAt bb (fun _ => 0) win 0 * F)))) by unfold RcB; show _ = _ * (_ * (Asn.blk _ _ #[_, _, _, _, _, _, _, _, _, _, _, _, _, _] * (MapAt m_58 [] * _))); ac_rfl)
    refine (Sat.f2 (Sat.slNil (e := 22) (z := 1) h1)).perm ?_
    rw [show tails [] = 1 from rfl, one_sep]
    rfl
  have HS3 := hide (hj.perm (show _ = Asn.blk z 72 #[.int .i64 a0, .int .i64 paths, .int .i64 a2, .int .i64 a3, .int .i64 (win : Nat), .int .i64 a5, .int .i64 a6, .int .i64 a7, .int .i64 a8, .int .i64 a9, .int .i64 a10, .int .i64 a11, .int .i64 a12, .int .i64 a13] * (RcB b_68 ⟨bb, g_57, m_58, src, dst, conn, cls, paths, win⟩ 0 0 0 0 false * (MapAt m_58 (rowsP []) * (BitAt bb (fun _ => 0) win 0 * (JoinAt g_57 ⟨0, 0, []⟩ * F)))) by ac_rfl)).right
  clear hs3 hj HS2
  go_wp2_with fail
  go_ret2
  exact ⟨b_68, bb, g_57, m_58, win, rfl, rfl, unhide HS3⟩
end
end Go.Proofs.Ytdfidijlconhnaa
