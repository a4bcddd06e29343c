/- The receiver: Take, where a bit is asked. -/
import Derived.Test.YtdfidijlconhnaaRcT
namespace Go.Proofs.Ytdfidijlconhnaa
open Go.RowKit Asn
attribute [local go_sem] Oper.semAt_some

section
variable {E w : World} {F : Asn} {g : Nat} {k : RcK} {next arr iss pen : Nat} {V : Nat → Nat} {ba : Nat}
set_option maxHeartbeats 1000000 in
set_option maxRecDepth 100000 in
/-- One that came. -/
theorem rc_take_had (p : Pk) (hs : Sat E w (RcB g k next arr iss pen false * (BitAt k.bb V k.win ba * F))) (hfl : p.fl ≤ 9223372036854775807) (h1 : p.kind = 1) (h2 : hasF p.fl 4 = false) (h3 : 0 ≤ p.q ∧ p.q ≤ 1152921504606846976) (hV : Small V) (h0 : 1 ≤ k.win) (h256 : k.win ≤ 256) (hba : ba ≤ 1152921504606846977) (hh : hasB V k.win ba p.q = true) :
    Calls Try.prog 38 #[.pointer (some ⟨g, 0, none⟩), p.val] w fun e w' => ∃ z, e = .returned (.tuple #[.slice (some ⟨z, 0, none⟩) 1 1, .slice none 0 0]) ∧ Sat E w' (Asn.blk z 79 (ansC k 2 p) * (RcB g k next arr iss pen false * (BitAt k.bb V k.win ba * F))) := by
  obtain ⟨pk, fl, pa, sr, ds, co, q, pu, A, n, c, b⟩ := p
  dsimp only at h1 h2 h3 hfl hh
  subst h1
  have hg : g < w.heap.size := Sat.lt (o := .cells _ _ (0, 0)) hs
  have hs1 := hs.alloc #[.int .i64 1, .int .i64 fl, .int .i64 pa, .int .i64 sr, .int .i64 ds, .int .i64 co, .int .i64 q, .int .i64 pu, .slice A n c] 79
  have d1 : (w.alloc (.cells #[.int .i64 1, .int .i64 fl, .int .i64 pa, .int .i64 sr, .int .i64 ds, .int .i64 co, .int .i64 q, .int .i64 pu, .slice A n c] 79)).cell? ⟨g, 0, none⟩ = some (.pointer (some ⟨k.bb, 0, none⟩)) := hs1.f2.cell 0
  have d3 : w.cell? ⟨g, 13, none⟩ = some (.bool false) := hs.cell 13
  have HF := hide h2
  have H3 := hide (decide_eq_true h3)
  obtain ⟨q0, q1⟩ := h3
  have HH := hide hh
  obtain ⟨z, hz⟩ : ∃ z, z = w.heap.size := ⟨_, rfl⟩
  have HS1 := hide (hs1.perm (show _ = (Asn.blk z 79 #[.int .i64 1, .int .i64 fl, .int .i64 pa, .int .i64 sr, .int .i64 ds, .int .i64 co, .int .i64 q, .int .i64 pu, .slice A n c] * (RcB g k next arr iss pen false * (BitAt k.bb V k.win ba * F))) * (1 : Asn) by rw [sep_one, hz]))
  have HZ := hide hz
  clear hs hs1 h2 hh hz
  show Calls _ _ #[_, .agg #[.int .i64 1, .int .i64 fl, .int .i64 pa, .int .i64 sr, .int .i64 ds, .int .i64 co, .int .i64 q, .int .i64 pu, .slice A n c]] _ _
  go_enter Try.func38, Try.ntmps38
  go_upto_region 7 with (first
    | (go_at_call 73; refine (rc_none _ _ _ d1).mono ?_; rintro e w' ⟨rfl, rfl⟩)
    | (go_at_call 70; refine (in_call _ _ _ _).mono ?_; rintro e w' ⟨rfl, rfl⟩; rw [unhide H3])
    | (go_at_call 74; refine (has_bounced _ _ hfl).mono ?_; rintro e w' ⟨rfl, rfl⟩; rw [unhide HF]))
  rw [← unhide HZ]
  obtain ⟨w1, hw1⟩ : ∃ w1, w1 = w.alloc (.cells #[.int .i64 1, .int .i64 fl, .int .i64 pa, .int .i64 sr, .int .i64 ds, .int .i64 co, .int .i64 q, .int .i64 pu, .slice A n c] 79) := ⟨_, rfl⟩
  rw [← hw1] at HS1 ⊢
  clear d1 d3 hg HZ hw1
  refine wp_region_slr (Q := _) (E := E) (fun W => ∃ R, Sat E W ((Asn.blk z 79 #[.int .i64 1, .int .i64 fl, .int .i64 pa, .int .i64 sr, .int .i64 ds, .int .i64 co, .int .i64 q, .int .i64 pu, .slice A n c] * (RcB g k next arr iss pen false * (BitAt k.bb V k.win ba * F))) * R)) [] [6] [] [] (fun _ => (0, #[], fun _ => undef)) [0, 1, 2, 3, 4, 5, 6, 7] (by kernel_rfl) (by kernel_rfl) (unhide HS1) (fun W R h => ⟨_, h.asc⟩) ?_
  iterate 6
    refine wpS_f _ rfl rfl (v := ?_) ?_ ?_
    rotate_left
    · rintro W ⟨R, hW⟩
      have f1 : W.cell? ⟨g, 0, none⟩ = some (.pointer (some ⟨k.bb, 0, none⟩)) := hW.asc.f2.asc.cell 0
      have f2 : W.cell? ⟨z, 6, none⟩ = some (.int .i64 q) := hW.asc.cell 6
      go_simp
      first | rfl | (rw [IntKind.wrap_i64]; omega)
    go_simp
  refine wpS_c _ rfl rfl (v := .bool true) (freeC_call rfl (fun W => by go_simp; try rfl) (fun W ⟨R, hW⟩ => rc_has hW.asc.f2.asc.f2.asc hV h0 h256 hba ⟨q0, q1⟩ (unhide HH))) ?_
  go_simp
  iterate 1
    refine wpS_f _ rfl rfl (v := ?_) ?_ ?_
    rotate_left
    · rintro W ⟨R, hW⟩
      have f1 : W.cell? ⟨g, 0, none⟩ = some (.pointer (some ⟨k.bb, 0, none⟩)) := hW.asc.f2.asc.cell 0
      have f2 : W.cell? ⟨z, 6, none⟩ = some (.int .i64 q) := hW.asc.cell 6
      go_simp
      first | rfl | (rw [IntKind.wrap_i64]; omega)
    go_simp
  refine wpS_n (fun w2 hs2 => ?_)
  rw [sep_one] at hs2
  clear HS1
  have HB := Lib.hid hs2.blk
  have HA := hide (rc_answer 2 ⟨1, fl, pa, sr, ds, co, q, pu, A, n, c, b⟩ hs2.right)
  unfold Pk.val Pk.cells at HA
  clear hs2
  go_wp2_with (refine wpList_load_row rfl 79 (.tmp 3) rfl z rfl 79 _ (0, 0) _ HB.out Try.underlying79 rfl (by kernel_rfl) ?_)
  refine (unhide HA).mono ?_
  rintro e w3 ⟨z2, rfl, hs3⟩
  have HS3 := hide hs3
  clear hs3 HA
  go_wp2_with fail
  go_ret2
  exact ⟨z2, rfl, unhide HS3⟩
set_option maxHeartbeats 1000000 in
set_option maxRecDepth 100000 in
/-- One that lies too far ahead. -/
theorem rc_take_far (p : Pk) (hs : Sat E w (RcB g k next arr iss pen false * (BitAt k.bb V k.win ba * F))) (hfl : p.fl ≤ 9223372036854775807) (h1 : p.kind = 1) (h2 : hasF p.fl 4 = false) (h3 : 0 ≤ p.q ∧ p.q ≤ 1152921504606846976) (hV : Small V) (h0 : 1 ≤ k.win) (h256 : k.win ≤ 256) (hba : ba ≤ 1152921504606846977) (hh : hasB V k.win ba p.q = false) (hnx : next ≤ 4611686018427387904) (hfar : (k.win : Int) ≤ p.q - next) :
    Calls Try.prog 38 #[.pointer (some ⟨g, 0, none⟩), p.val] w fun e w' => e = .returned (.tuple #[.slice none 0 0, .slice none 0 0]) ∧ Sat E w' (RcB g k next arr iss pen false * (BitAt k.bb V k.win ba * F)) := by
  obtain ⟨pk, fl, pa, sr, ds, co, q, pu, A, n, c, b⟩ := p
  dsimp only at h1 h2 h3 hfl hh hfar
  subst h1
  have hg : g < w.heap.size := Sat.lt (o := .cells _ _ (0, 0)) hs
  have hs1 := hs.alloc #[.int .i64 1, .int .i64 fl, .int .i64 pa, .int .i64 sr, .int .i64 ds, .int .i64 co, .int .i64 q, .int .i64 pu, .slice A n c] 79
  have d1 : (w.alloc (.cells #[.int .i64 1, .int .i64 fl, .int .i64 pa, .int .i64 sr, .int .i64 ds, .int .i64 co, .int .i64 q, .int .i64 pu, .slice A n c] 79)).cell? ⟨g, 0, none⟩ = some (.pointer (some ⟨k.bb, 0, none⟩)) := hs1.f2.cell 0
  have d3 : w.cell? ⟨g, 13, none⟩ = some (.bool false) := hs.cell 13
  have HF := hide h2
  have H3 := hide (decide_eq_true h3)
  obtain ⟨q0, q1⟩ := h3
  have HH := hide hh
  obtain ⟨z, hz⟩ : ∃ z, z = w.heap.size := ⟨_, rfl⟩
  have HS1 := hide (hs1.perm (show _ = (Asn.blk z 79 #[.int .i64 1, .int .i64 fl, .int .i64 pa, .int .i64 sr, .int .i64 ds, .int .i64 co, .int .i64 q, .int .i64 pu, .slice A n c] * (RcB g k next arr iss pen false * (BitAt k.bb V k.win ba * F))) * (1 : Asn) by rw [sep_one, hz]))
  have HZ := hide hz
  clear hs hs1 h2 hh hz
  show Calls _ _ #[_, .agg #[.int .i64 1, .int .i64 fl, .int .i64 pa, .int .i64 sr, .int .i64 ds, .int .i64 co, .int .i64 q, .int .i64 pu, .slice A n c]] _ _
  go_enter Try.func38, Try.ntmps38
  go_upto_region 7 with (first
    | (go_at_call 73; refine (rc_none _ _ _ d1).mono ?_; rintro e w' ⟨rfl, rfl⟩)
    | (go_at_call 70; refine (in_call _ _ _ _).mono ?_; rintro e w' ⟨rfl, rfl⟩; rw [unhide H3])
    | (go_at_call 74; refine (has_bounced _ _ hfl).mono ?_; rintro e w' ⟨rfl, rfl⟩; rw [unhide HF]))
  rw [← unhide HZ]
  obtain ⟨w1, hw1⟩ : ∃ w1, w1 = w.alloc (.cells #[.int .i64 1, .int .i64 fl, .int .i64 pa, .int .i64 sr, .int .i64 ds, .int .i64 co, .int .i64 q, .int .i64 pu, .slice A n c] 79) := ⟨_, rfl⟩
  rw [← hw1] at HS1 ⊢
  clear d1 d3 hg HZ hw1
  refine wp_region_slr (Q := _) (E := E) (fun W => ∃ R, Sat E W ((Asn.blk z 79 #[.int .i64 1, .int .i64 fl, .int .i64 pa, .int .i64 sr, .int .i64 ds, .int .i64 co, .int .i64 q, .int .i64 pu, .slice A n c] * (RcB g k next arr iss pen false * (BitAt k.bb V k.win ba * F))) * R)) [] [6] [] [] (fun _ => (0, #[], fun _ => undef)) [0, 1, 2, 3, 4, 5, 6, 7] (by kernel_rfl) (by kernel_rfl) (unhide HS1) (fun W R h => ⟨_, h.asc⟩) ?_
  iterate 6
    refine wpS_f _ rfl rfl (v := ?_) ?_ ?_
    rotate_left
    · rintro W ⟨R, hW⟩
      have f1 : W.cell? ⟨g, 0, none⟩ = some (.pointer (some ⟨k.bb, 0, none⟩)) := hW.asc.f2.asc.cell 0
      have f2 : W.cell? ⟨z, 6, none⟩ = some (.int .i64 q) := hW.asc.cell 6
      go_simp
      first | rfl | (rw [IntKind.wrap_i64]; omega)
    go_simp
  refine wpS_c _ rfl rfl (v := .bool false) (freeC_call rfl (fun W => by go_simp; try rfl) (fun W ⟨R, hW⟩ => rc_has hW.asc.f2.asc.f2.asc hV h0 h256 hba ⟨q0, q1⟩ (unhide HH))) ?_
  go_simp
  iterate 1
    refine wpS_f _ rfl rfl (v := ?_) ?_ ?_
    rotate_left
    · rintro W ⟨R, hW⟩
      have f1 : W.cell? ⟨g, 0, none⟩ = some (.pointer (some ⟨k.bb, 0, none⟩)) := hW.asc.f2.asc.cell 0
      have f2 : W.cell? ⟨z, 6, none⟩ = some (.int .i64 q) := hW.asc.cell 6
      go_simp
      first | rfl | (rw [IntKind.wrap_i64]; omega)
    go_simp
  refine wpS_n (fun w2 hs2 => ?_)
  rw [sep_one] at hs2
  clear HS1
  have HS2 := hide (hs2.perm (show _ = (Asn.blk z 79 #[.int .i64 1, .int .i64 fl, .int .i64 pa, .int .i64 sr, .int .i64 ds, .int .i64 co, .int .i64 q, .int .i64 pu, .slice A n c] * (RcB g k next arr iss pen false * (BitAt k.bb V k.win ba * F))) * (1 : Asn) by rw [sep_one]))
  clear hs2
  go_wp2_with fail
  refine wp_region_slr (Q := _) (E := E) (fun W => ∃ R, Sat E W ((Asn.blk z 79 #[.int .i64 1, .int .i64 fl, .int .i64 pa, .int .i64 sr, .int .i64 ds, .int .i64 co, .int .i64 q, .int .i64 pu, .slice A n c] * (RcB g k next arr iss pen false * (BitAt k.bb V k.win ba * F))) * R)) [] [] [] [] (fun _ => (0, #[], fun _ => undef)) [0, 1, 2, 3, 4, 5, 6, 7, 8, 9, 10, 11, 12] (by kernel_rfl) (by kernel_rfl) (unhide HS2) (fun W R h => ⟨_, h.asc⟩) ?_
  iterate 13
    refine wpS_f _ rfl rfl (v := ?_) ?_ ?_
    rotate_left
    · rintro W ⟨R, hW⟩
      have f2 : W.cell? ⟨z, 6, none⟩ = some (.int .i64 q) := hW.asc.cell 6
      have f3 : W.cell? ⟨g, 9, none⟩ = some (.int .i64 next) := hW.asc.f2.asc.cell 9
      have f4 : W.cell? ⟨g, 8, none⟩ = some (.int .i64 k.win) := hW.asc.f2.asc.cell 8
      have f5 : IntKind.i64.wrap (q - (next : Int)) = q - (next : Int) := by rw [IntKind.wrap_i64]; omega
      go_simp
      first | rfl | (rw [IntKind.wrap_i64]; omega)
    go_simp
  refine wpS_n (fun w3 hs3 => ?_)
  rw [sep_one] at hs3
  clear HS2
  have HS3 := hide hs3.right
  clear hs3
  go_wp2_with fail
  go_ret2
  exact ⟨rfl, unhide HS3⟩
set_option maxHeartbeats 1000000 in
set_option maxRecDepth 100000 in
/-- One that was trimmed. -/
theorem rc_take_trim (p : Pk) (hs : Sat E w (RcB g k next arr iss pen false * (BitAt k.bb V k.win ba * F))) (hfl : p.fl ≤ 9223372036854775807) (h1 : p.kind = 1) (h2 : hasF p.fl 4 = false) (h3 : 0 ≤ p.q ∧ p.q ≤ 1152921504606846976) (hV : Small V) (h0 : 1 ≤ k.win) (h256 : k.win ≤ 256) (hba : ba ≤ 1152921504606846977) (hh : hasB V k.win ba p.q = false) (hnx : next ≤ 4611686018427387904) (hnear : p.q - next < (k.win : Int)) (htr : hasF p.fl 3 = true) (ha : arr ≤ 4611686018427387904) (hp : pen ≤ 4611686018427387904) :
    Calls Try.prog 38 #[.pointer (some ⟨g, 0, none⟩), p.val] w fun e w' => ∃ z, e = .returned (.tuple #[.slice (some ⟨z, 0, none⟩) 1 1, .slice none 0 0]) ∧ Sat E w' (Asn.blk z 79 (ansC k 3 p) * (RcB g k next (arr + 1) iss (pen + 1) false * (BitAt k.bb V k.win ba * F))) := by
  obtain ⟨pk, fl, pa, sr, ds, co, q, pu, A, n, c, b⟩ := p
  dsimp only at h1 h2 h3 hfl hh hnear htr
  subst h1
  have hg : g < w.heap.size := Sat.lt (o := .cells _ _ (0, 0)) hs
  have hs1 := hs.alloc #[.int .i64 1, .int .i64 fl, .int .i64 pa, .int .i64 sr, .int .i64 ds, .int .i64 co, .int .i64 q, .int .i64 pu, .slice A n c] 79
  have d1 : (w.alloc (.cells #[.int .i64 1, .int .i64 fl, .int .i64 pa, .int .i64 sr, .int .i64 ds, .int .i64 co, .int .i64 q, .int .i64 pu, .slice A n c] 79)).cell? ⟨g, 0, none⟩ = some (.pointer (some ⟨k.bb, 0, none⟩)) := hs1.f2.cell 0
  have d3 : w.cell? ⟨g, 13, none⟩ = some (.bool false) := hs.cell 13
  have HF := hide h2
  have H3 := hide (decide_eq_true h3)
  obtain ⟨q0, q1⟩ := h3
  have HH := hide hh
  obtain ⟨z, hz⟩ : ∃ z, z = w.heap.size := ⟨_, rfl⟩
  have HS1 := hide (hs1.perm (show _ = (Asn.blk z 79 #[.int .i64 1, .int .i64 fl, .int .i64 pa, .int .i64 sr, .int .i64 ds, .int .i64 co, .int .i64 q, .int .i64 pu, .slice A n c] * (RcB g k next arr iss pen false * (BitAt k.bb V k.win ba * F))) * (1 : Asn) by rw [sep_one, hz]))
  have HZ := hide hz
  clear hs hs1 h2 hh hz
  show Calls _ _ #[_, .agg #[.int .i64 1, .int .i64 fl, .int .i64 pa, .int .i64 sr, .int .i64 ds, .int .i64 co, .int .i64 q, .int .i64 pu, .slice A n c]] _ _
  go_enter Try.func38, Try.ntmps38
  go_upto_region 7 with (first
    | (go_at_call 73; refine (rc_none _ _ _ d1).mono ?_; rintro e w' ⟨rfl, rfl⟩)
    | (go_at_call 70; refine (in_call _ _ _ _).mono ?_; rintro e w' ⟨rfl, rfl⟩; rw [unhide H3])
    | (go_at_call 74; refine (has_bounced _ _ hfl).mono ?_; rintro e w' ⟨rfl, rfl⟩; rw [unhide HF]))
  rw [← unhide HZ]
  obtain ⟨w1, hw1⟩ : ∃ w1, w1 = w.alloc (.cells #[.int .i64 1, .int .i64 fl, .int .i64 pa, .int .i64 sr, .int .i64 ds, .int .i64 co, .int .i64 q, .int .i64 pu, .slice A n c] 79) := ⟨_, rfl⟩
  rw [← hw1] at HS1 ⊢
  clear d1 d3 hg HZ hw1
  refine wp_region_slr (Q := _) (E := E) (fun W => ∃ R, Sat E W ((Asn.blk z 79 #[.int .i64 1, .int .i64 fl, .int .i64 pa, .int .i64 sr, .int .i64 ds, .int .i64 co, .int .i64 q, .int .i64 pu, .slice A n c] * (RcB g k next arr iss pen false * (BitAt k.bb V k.win ba * F))) * R)) [] [6] [] [] (fun _ => (0, #[], fun _ => undef)) [0, 1, 2, 3, 4, 5, 6, 7] (by kernel_rfl) (by kernel_rfl) (unhide HS1) (fun W R h => ⟨_, h.asc⟩) ?_
  iterate 6
    refine wpS_f _ rfl rfl (v := ?_) ?_ ?_
    rotate_left
    · rintro W ⟨R, hW⟩
      have f1 : W.cell? ⟨g, 0, none⟩ = some (.pointer (some ⟨k.bb, 0, none⟩)) := hW.asc.f2.asc.cell 0
      have f2 : W.cell? ⟨z, 6, none⟩ = some (.int .i64 q) := hW.asc.cell 6
      go_simp
      first | rfl | (rw [IntKind.wrap_i64]; omega)
    go_simp
  refine wpS_c _ rfl rfl (v := .bool false) (freeC_call rfl (fun W => by go_simp; try rfl) (fun W ⟨R, hW⟩ => rc_has hW.asc.f2.asc.f2.asc hV h0 h256 hba ⟨q0, q1⟩ (unhide HH))) ?_
  go_simp
  iterate 1
    refine wpS_f _ rfl rfl (v := ?_) ?_ ?_
    rotate_left
    · rintro W ⟨R, hW⟩
      have f1 : W.cell? ⟨g, 0, none⟩ = some (.pointer (some ⟨k.bb, 0, none⟩)) := hW.asc.f2.asc.cell 0
      have f2 : W.cell? ⟨z, 6, none⟩ = some (.int .i64 q) := hW.asc.cell 6
      go_simp
      first | rfl | (rw [IntKind.wrap_i64]; omega)
    go_simp
  refine wpS_n (fun w2 hs2 => ?_)
  rw [sep_one] at hs2
  clear HS1
  have HS2 := hide (hs2.perm (show _ = (Asn.blk z 79 #[.int .i64 1, .int .i64 fl, .int .i64 pa, .int .i64 sr, .int .i64 ds, .int .i64 co, .int .i64 q, .int .i64 pu, .slice A n c] * (RcB g k next arr iss pen false * (BitAt k.bb V k.win ba * F))) * (1 : Asn) by rw [sep_one]))
  clear hs2
  go_wp2_with fail
  refine wp_region_slr (Q := _) (E := E) (fun W => ∃ R, Sat E W ((Asn.blk z 79 #[.int .i64 1, .int .i64 fl, .int .i64 pa, .int .i64 sr, .int .i64 ds, .int .i64 co, .int .i64 q, .int .i64 pu, .slice A n c] * (RcB g k next arr iss pen false * (BitAt k.bb V k.win ba * F))) * R)) [] [] [] [] (fun _ => (0, #[], fun _ => undef)) [0, 1, 2, 3, 4, 5, 6, 7, 8, 9, 10, 11, 12] (by kernel_rfl) (by kernel_rfl) (unhide HS2) (fun W R h => ⟨_, h.asc⟩) ?_
  iterate 13
    refine wpS_f _ rfl rfl (v := ?_) ?_ ?_
    rotate_left
    · rintro W ⟨R, hW⟩
      have f2 : W.cell? ⟨z, 6, none⟩ = some (.int .i64 q) := hW.asc.cell 6
      have f3 : W.cell? ⟨g, 9, none⟩ = some (.int .i64 next) := hW.asc.f2.asc.cell 9
      have f4 : W.cell? ⟨g, 8, none⟩ = some (.int .i64 k.win) := hW.asc.f2.asc.cell 8
      have f5 : IntKind.i64.wrap (q - (next : Int)) = q - (next : Int) := by rw [IntKind.wrap_i64]; omega
      go_simp
      first | rfl | (rw [IntKind.wrap_i64]; omega)
    go_simp
  refine wpS_n (fun w3 hs3 => ?_)
  rw [sep_one] at hs3
  clear HS2
  have HC := hide (rc_counted hs3.f2 ha hp)
  have HTR := hide htr
  clear hs3 htr
  go_wp2_with fail
  refine (unhide HC).mono ?_
  rintro e w4 ⟨⟨v, rfl⟩, hs4⟩
  have hs5 := hs4.f2
  have d2 : w4.cell? ⟨z, 1, none⟩ = some (.int .i64 fl) := hs5.cell 1
  have HB := Lib.hid hs5.blk
  have HA := hide (rc_answer 3 ⟨1, fl, pa, sr, ds, co, q, pu, A, n, c, b⟩ hs5.right)
  unfold Pk.val Pk.cells at HA
  clear hs4 hs5 HC
  go_wp2_with (first
    | (refine wpList_load_row rfl 79 (.tmp 3) rfl z rfl 79 _ (0, 0) _ HB.out Try.underlying79 rfl (by kernel_rfl) ?_)
    | (go_at_call 74; refine (has_trim _ _ hfl).mono ?_; rintro e w' ⟨rfl, rfl⟩; rw [unhide HTR]))
  refine (unhide HA).mono ?_
  rintro e w5 ⟨z2, rfl, hs6⟩
  have HS6 := hide hs6
  clear hs6 HA
  go_wp2_with fail
  go_ret2
  exact ⟨z2, rfl, unhide HS6⟩
end
end Go.Proofs.Ytdfidijlconhnaa
