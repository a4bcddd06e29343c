/- The receiver: Take, where a packet is kept. -/
import Derived.Test.YtdfidijlconhnaaRcU
namespace Go.Proofs.Ytdfidijlconhnaa
open Go.RowKit Asn
attribute [local go_sem] Oper.semAt_some

/-- What Take of a packet that is kept leaves. -/
def TakeP (E : World) (F : Asn) (g : Nat) (k : RcK) (next arr iss pen : Nat) (L : List Pk) (V : Nat → Nat) (ba : Nat) (j : RJ) (p : Pk) (e : Ending) (w' : World) : Prop :=
  ∃ z A c j' A2 c2 r, r = goX (runP (L ++ [{ p with A := A2, c := c2 }]) next) (j, []) ∧ e = .returned (.tuple #[.slice (some ⟨z, 0, none⟩) 1 1, .slice A r.2.1.2.length c]) ∧ j'.rj = r.2.1.1 ∧
    Sat E w' (Asn.blk z 79 (ansC k 2 p) * (bbsl A r.2.1.2.length c r.2.1.2 * (RcB g k (next + r.1) (arr + 1) iss (if r.2.2 then 0 else pen + 1) r.2.2 * (MapAt k.mb (rowsP (if r.2.2 then [] else restR (L ++ [{ p with A := A2, c := c2 }]) next r.1)) *
      (BitAt k.bb (advB (setB V k.win ba p.q).1 ba).1 k.win (advB (setB V k.win ba p.q).1 ba).2 * (JoinAt k.jb j' * (sl 5 1 A2 p.n c2 (bytes p.b) * F)))))))
theorem setB_small {V : Nat → Nat} {sz ba : Nat} {n : Int} (h : Small V) : Small (setB V sz ba n).1 := by
  unfold setB
  split
  · exact h
  · split
    · exact h.on _
    · exact h
section
variable {E w : World} {F : Asn} {g : Nat} {k : RcK} {next arr iss pen : Nat} {V : Nat → Nat} {ba : Nat} {L : List Pk} {j : JoinM}
theorem upd_pk {E w : World} {F : Asn} {g : Nat} {L : List Pk} (hs : Sat E w (MapAt g (rowsP L) * F)) (p : Pk) (hno : ∀ x ∈ L, x.q ≠ p.q) :
    ∃ w', (Instr.mapUpdate 117 (.map (some g)) (.int .i64 p.q) p.val).run Try.prog w = .ok () w' ∧ Sat E w' (MapAt g (rowsP (L ++ [p])) * F) := by
  obtain ⟨w', h1, h2⟩ := hs.updateI (P := Try.prog) (T := 117) (kt := 3) (et := 79) Try.underlying117 Try.underlying3 p.q p.val (by
    intro y hy
    obtain ⟨x, hx, rfl⟩ := List.mem_map.1 hy
    exact hno x hx)
  exact ⟨w', h1, by unfold rowsP at *; rw [List.map_append]; exact h2⟩
set_option maxHeartbeats 8000000 in
set_option maxRecDepth 100000 in
/-- One that is kept. -/
theorem rc_take_new (p : Pk) (hs : Sat E w (RcB g k next arr iss pen false * (BitAt k.bb V k.win ba * (MapAt k.mb (rowsP L) * (JoinAt k.jb j * F))))) (hfl : p.fl ≤ 9223372036854775807) (h1 : p.kind = 1) (h2 : hasF p.fl 4 = false) (h3 : 0 ≤ p.q ∧ p.q ≤ 1152921504606846976) (hV : Small V) (h0 : 1 ≤ k.win) (h256 : k.win ≤ 256) (hba : ba ≤ 1152921504606846977) (hh : hasB V k.win ba p.q = false) (hnx : next + L.length ≤ 4611686018427387000) (hnear : p.q - next < (k.win : Int)) (htr : hasF p.fl 3 = false) (ha : arr ≤ 4611686018427387904) (hp : pen ≤ 4611686018427387904)
    (hl : L.length ≤ 900) (hok : ∀ x ∈ L, PkOk F x) (hpn : p.n ≤ 65536) (hrd : rd F 1 p.A p.n (bytes p.b)) (hno : ∀ x ∈ L, x.q ≠ p.q) :
    Calls Try.prog 38 #[.pointer (some ⟨g, 0, none⟩), p.val] w (TakeP E F g k next arr iss pen L V ba j.rj p) := by
  obtain ⟨pk, fl, pa, sr, ds, co, q, pu, A, n, c, b⟩ := p
  dsimp only at h1 h2 h3 hfl hh hnear htr hpn hrd hno
  subst h1
  have hg : g < w.heap.size := Sat.lt (o := .cells _ _ (0, 0)) hs
  have hs1 := hs.alloc #[.int .i64 1, .int .i64 fl, .int .i64 pa, .int .i64 sr, .int .i64 ds, .int .i64 co, .int .i64 q, .int .i64 pu, .slice A n c] 79
  have d1 : (w.alloc (.cells #[.int .i64 1, .int .i64 fl, .int .i64 pa, .int .i64 sr, .int .i64 ds, .int .i64 co, .int .i64 q, .int .i64 pu, .slice A n c] 79)).cell? ⟨g, 0, none⟩ = some (.pointer (some ⟨k.bb, 0, none⟩)) := hs1.f2.cell 0
  have d3 : w.cell? ⟨g, 13, none⟩ = some (.bool false) := hs.cell 13
  have HF := hide h2
  have H3 := hide (decide_eq_true h3)
  obtain ⟨q0, q1⟩ := h3
  have HH := hide hh
  obtain ⟨z, hz⟩ : ∃ z, z = w.heap.size := ⟨_, rfl⟩
  have HS1 := hide (hs1.perm (show _ = (Asn.blk z 79 #[.int .i64 1, .int .i64 fl, .int .i64 pa, .int .i64 sr, .int .i64 ds, .int .i64 co, .int .i64 q, .int .i64 pu, .slice A n c] * (RcB g k next arr iss pen false * (BitAt k.bb V k.win ba * (MapAt k.mb (rowsP L) * (JoinAt k.jb j * F))))) * (1 : Asn) by rw [sep_one, hz]))
  have HZ := hide hz
  clear hs hs1 h2 hh hz
  show Calls _ _ #[_, .agg #[.int .i64 1, .int .i64 fl, .int .i64 pa, .int .i64 sr, .int .i64 ds, .int .i64 co, .int .i64 q, .int .i64 pu, .slice A n c]] _ _
  go_enter Try.func38, Try.ntmps38
  go_upto_region 7 with (first
    | (go_at_call 73; refine (rc_none _ _ _ d1).mono ?_; rintro e w' ⟨rfl, rfl⟩)
    | (go_at_call 70; refine (in_call _ _ _ _).mono ?_; rintro e w' ⟨rfl, rfl⟩; rw [unhide H3])
    | (go_at_call 74; refine (has_bounced _ _ hfl).mono ?_; rintro e w' ⟨rfl, rfl⟩; rw [unhide HF]))
  rw [← unhide HZ]
  obtain ⟨w1, hw1⟩ : ∃ w1, w1 = w.alloc (.cells #[.int .i64 1, .int .i64 fl, .int .i64 pa, .int .i64 sr, .int .i64 ds, .int .i64 co, .int .i64 q, .int .i64 pu, .slice A n c] 79) := ⟨_, rfl⟩
  rw [← hw1] at HS1 ⊢
  clear d1 d3 hg HZ hw1
  refine wp_region_slr (Q := _) (E := E) (fun W => ∃ R, Sat E W ((Asn.blk z 79 #[.int .i64 1, .int .i64 fl, .int .i64 pa, .int .i64 sr, .int .i64 ds, .int .i64 co, .int .i64 q, .int .i64 pu, .slice A n c] * (RcB g k next arr iss pen false * (BitAt k.bb V k.win ba * (MapAt k.mb (rowsP L) * (JoinAt k.jb j * F))))) * R)) [] [6] [] [] (fun _ => (0, #[], fun _ => undef)) [0, 1, 2, 3, 4, 5, 6, 7] (by kernel_rfl) (by kernel_rfl) (unhide HS1) (fun W R h => ⟨_, h.asc⟩) ?_
  iterate 6
    refine wpS_f _ rfl rfl (v := ?_) ?_ ?_
    rotate_left
    · rintro W ⟨R, hW⟩
      have f1 : W.cell? ⟨g, 0, none⟩ = some (.pointer (some ⟨k.bb, 0, none⟩)) := hW.asc.f2.asc.cell 0
      have f2 : W.cell? ⟨z, 6, none⟩ = some (.int .i64 q) := hW.asc.cell 6
      go_simp
      first | rfl | (rw [IntKind.wrap_i64]; omega)
    go_simp
  refine wpS_c _ rfl rfl (v := .bool false) (freeC_call rfl (fun W => by go_simp; try rfl) (fun W ⟨R, hW⟩ => rc_has hW.asc.f2.asc.f2.asc hV h0 h256 hba ⟨q0, q1⟩ (unhide HH))) ?_
  go_simp
  iterate 1
    refine wpS_f _ rfl rfl (v := ?_) ?_ ?_
    rotate_left
    · rintro W ⟨R, hW⟩
      have f1 : W.cell? ⟨g, 0, none⟩ = some (.pointer (some ⟨k.bb, 0, none⟩)) := hW.asc.f2.asc.cell 0
      have f2 : W.cell? ⟨z, 6, none⟩ = some (.int .i64 q) := hW.asc.cell 6
      go_simp
      first | rfl | (rw [IntKind.wrap_i64]; omega)
    go_simp
  refine wpS_n (fun w2 hs2 => ?_)
  rw [sep_one] at hs2
  clear HS1
  have HS2 := hide (hs2.perm (show _ = (Asn.blk z 79 #[.int .i64 1, .int .i64 fl, .int .i64 pa, .int .i64 sr, .int .i64 ds, .int .i64 co, .int .i64 q, .int .i64 pu, .slice A n c] * (RcB g k next arr iss pen false * (BitAt k.bb V k.win ba * (MapAt k.mb (rowsP L) * (JoinAt k.jb j * F))))) * (1 : Asn) by rw [sep_one]))
  clear hs2
  go_wp2_with fail
  refine wp_region_slr (Q := _) (E := E) (fun W => ∃ R, Sat E W ((Asn.blk z 79 #[.int .i64 1, .int .i64 fl, .int .i64 pa, .int .i64 sr, .int .i64 ds, .int .i64 co, .int .i64 q, .int .i64 pu, .slice A n c] * (RcB g k next arr iss pen false * (BitAt k.bb V k.win ba * (MapAt k.mb (rowsP L) * (JoinAt k.jb j * F))))) * R)) [] [] [] [] (fun _ => (0, #[], fun _ => undef)) [0, 1, 2, 3, 4, 5, 6, 7, 8, 9, 10, 11, 12] (by kernel_rfl) (by kernel_rfl) (unhide HS2) (fun W R h => ⟨_, h.asc⟩) ?_
  iterate 13
    refine wpS_f _ rfl rfl (v := ?_) ?_ ?_
    rotate_left
    · rintro W ⟨R, hW⟩
      have f2 : W.cell? ⟨z, 6, none⟩ = some (.int .i64 q) := hW.asc.cell 6
      have f3 : W.cell? ⟨g, 9, none⟩ = some (.int .i64 next) := hW.asc.f2.asc.cell 9
      have f4 : W.cell? ⟨g, 8, none⟩ = some (.int .i64 k.win) := hW.asc.f2.asc.cell 8
      have f5 : IntKind.i64.wrap (q - (next : Int)) = q - (next : Int) := by rw [IntKind.wrap_i64]; omega
      go_simp
      first | rfl | (rw [IntKind.wrap_i64]; omega)
    go_simp
  refine wpS_n (fun w3 hs3 => ?_)
  rw [sep_one] at hs3
  clear HS2
  have HC := hide (rc_counted hs3.f2 ha hp)
  have HTR := hide htr
  have HOK := hide hok
  have HRD := hide hrd
  have HNO := hide hno
  clear hs3 htr hok hrd hno
  go_wp2_with fail
  refine (unhide HC).mono ?_
  rintro e w4 ⟨⟨v, rfl⟩, hs4⟩
  have d2 : w4.cell? ⟨z, 1, none⟩ = some (.int .i64 fl) := hs4.f2.cell 1
  have HS4 := hide (hs4.perm (show _ = (Asn.blk z 79 #[.int .i64 1, .int .i64 fl, .int .i64 pa, .int .i64 sr, .int .i64 ds, .int .i64 co, .int .i64 q, .int .i64 pu, .slice A n c] * (RcB g k next (arr + 1) iss (pen + 1) false * (MapAt k.mb (rowsP L) * (JoinAt k.jb j * F)))) * BitAt k.bb V k.win ba by ac_rfl))
  clear hs4 HC
  go_upto_region 14 with (go_at_call 74; refine (has_trim _ _ hfl).mono ?_; rintro e w' ⟨rfl, rfl⟩; rw [unhide HTR])
  refine wp_region_slr (Q := _) (E := E) (fun W => ∃ R, Sat E W ((Asn.blk z 79 #[.int .i64 1, .int .i64 fl, .int .i64 pa, .int .i64 sr, .int .i64 ds, .int .i64 co, .int .i64 q, .int .i64 pu, .slice A n c] * (RcB g k next (arr + 1) iss (pen + 1) false * (MapAt k.mb (rowsP L) * (JoinAt k.jb j * F)))) * R)) [6] [] [] [] (fun _ => (0, #[], fun _ => undef)) [0, 1, 2, 3, 4, 5, 6] (by kernel_rfl) (by kernel_rfl) (unhide HS4) (fun W R h => ⟨_, h.asc⟩) ?_
  iterate 6
    refine wpS_f _ rfl rfl (v := ?_) ?_ ?_
    rotate_left
    · rintro W ⟨R, hW⟩
      have f1 : W.cell? ⟨g, 0, none⟩ = some (.pointer (some ⟨k.bb, 0, none⟩)) := hW.asc.f2.asc.cell 0
      have f2 : W.cell? ⟨z, 6, none⟩ = some (.int .i64 q) := hW.asc.cell 6
      go_simp
      first | rfl | (rw [IntKind.wrap_i64]; omega)
    go_simp
  refine wpS_e _ rfl rfl (fun W R hW => ?_)
  refine stp_call rfl (by go_simp; try rfl) ((set_call E W _ k.bb V k.win ba q (hW.perm (show _ = BitAt k.bb V k.win ba * ((Asn.blk z 79 #[.int .i64 1, .int .i64 fl, .int .i64 pa, .int .i64 sr, .int .i64 ds, .int .i64 co, .int .i64 q, .int .i64 pu, .slice A n c] * (RcB g k next (arr + 1) iss (pen + 1) false * (MapAt k.mb (rowsP L) * (JoinAt k.jb j * F)))) * R) by ac_rfl)) hV h0 h256 hba (by omega)).mono ?_)
  rintro e w' ⟨rfl, hs3⟩
  refine ⟨_, rfl, (Asn.blk z 79 #[.int .i64 1, .int .i64 fl, .int .i64 pa, .int .i64 sr, .int .i64 ds, .int .i64 co, .int .i64 q, .int .i64 pu, .slice A n c] * (RcB g k next (arr + 1) iss (pen + 1) false * (MapAt k.mb (rowsP L) * (JoinAt k.jb j * F)))) * (BitAt k.bb (setB V k.win ba q).1 k.win ba), fun W R h => ⟨_, h.asc⟩, hs3.perm (by first | ac_rfl | (simp only [Asn.one_sep, Asn.sep_one]; ac_rfl)), ?_⟩
  clear hs3 hW
  go_simp
  refine wpS_n (fun w5 hs5 => ?_)
  obtain ⟨V1, hV1⟩ : ∃ V1, V1 = (setB V k.win ba q).1 := ⟨_, rfl⟩
  have hV1s : Small V1 := by rw [hV1]; exact setB_small hV
  rw [← hV1] at hs5
  have HV1 := hide hV1
  have H5 := hide hs5
  obtain ⟨y, hy⟩ : ∃ y, y = w5.heap.size := ⟨_, rfl⟩
  have hs6 := (hs5.alloc #[.int .i64 1, .int .i64 fl, .int .i64 pa, .int .i64 sr, .int .i64 ds, .int .i64 co, .int .i64 q, .int .i64 pu, .slice A n c] 79).alloc #[] 5
  rw [World.size_alloc, ← hy] at hs6
  have hs7 : Sat E _ (sl 5 1 (some ⟨y + 1, 0, none⟩) 0 0 [] * _) := Sat.slMk hs6 (by simp) (Nat.le_refl _) (Nat.zero_le _) (by simp) (by intro i u hu; simp at hu)
  obtain ⟨A2, c2, w6, run6, hs8⟩ := Sat.append (P := Try.prog) (t := 22) (ty := 22) (d := c) elt_bytes hs7 (RdW.of_rd (unhide HRD) (Sat.right (hs7.perm (show _ = (sl 5 1 (some ⟨y + 1, 0, none⟩) 0 0 [] * (Asn.blk y 79 #[.int .i64 1, .int .i64 fl, .int .i64 pa, .int .i64 sr, .int .i64 ds, .int .i64 co, .int .i64 q, .int .i64 pu, .slice A n c] * (Asn.blk z 79 #[.int .i64 1, .int .i64 fl, .int .i64 pa, .int .i64 sr, .int .i64 ds, .int .i64 co, .int .i64 q, .int .i64 pu, .slice A n c] * (RcB g k next (arr + 1) iss (pen + 1) false * (MapAt k.mb (rowsP L) * (JoinAt k.jb j * BitAt k.bb V1 k.win ba)))))) * F by ac_rfl)))) oneCell_bytes (by unfold maxLen; omega) (by omega)
  rw [Nat.zero_add, List.nil_append] at hs8
  rw [Nat.zero_add] at run6
  have R6 := Lib.hid run6
  have e8 : w6.cell? ⟨w5.heap.size, 8, none⟩ = some (.slice A n c) := by rw [← hy]; exact hs8.f2.cell 8
  have e8f : w6.frozen? ⟨w5.heap.size, 8, none⟩ = false := by rw [← hy]; exact hs8.f2.frozen 8
  have HB5 := Lib.hid hs5.asc.blk
  have d8 : w5.cell? ⟨z, 8, none⟩ = some (.slice A n c) := hs5.asc.cell 8
  have hz5 : z < w5.heap.size := Sat.lt (o := .cells _ _ (0, 0)) hs5.asc
  have HS8 := hide (hs8.f2.set 8 (.slice A2 n c2))
  have HY := hide hy
  clear hs5 hs6 hs7 hs8 run6 hy hV1 HS4
  go_upto_region 17 with (first
    | (at_builtin; refine wpList_appendR rfl (.tmp 64) (.tmp 66) rfl rfl rfl (by rw [← unhide HY]; exact R6.out) ?_)
    | (refine wpList_load_row rfl 79 (.tmp 3) rfl z rfl 79 _ (0, 0) _ HB5.out Try.underlying79 rfl (by kernel_rfl) ?_))
  rw [← unhide HY]
  obtain ⟨w7, hw7⟩ : ∃ w7, w7 = w6.setCell ⟨y, 8, none⟩ (.slice A2 n c2) := ⟨_, rfl⟩
  rw [← hw7] at HS8 ⊢
  have HS9 := hide ((unhide HS8).perm (show _ = (Asn.blk y 79 #[.int .i64 1, .int .i64 fl, .int .i64 pa, .int .i64 sr, .int .i64 ds, .int .i64 co, .int .i64 q, .int .i64 pu, .slice A2 n c2] * (Asn.blk z 79 #[.int .i64 1, .int .i64 fl, .int .i64 pa, .int .i64 sr, .int .i64 ds, .int .i64 co, .int .i64 q, .int .i64 pu, .slice A n c] * (RcB g k next (arr + 1) iss (pen + 1) false * (BitAt k.bb V1 k.win ba * (JoinAt k.jb j * (sl 5 1 A2 n c2 (bytes b) * F)))))) * MapAt k.mb (rowsP L) by show Asn.blk y 79 #[_, _, _, _, _, _, _, _, _] * _ = _; ac_rfl))
  clear HS8 hw7 e8 e8f HB5 R6 H5 HY d8 hz5
  refine wp_region_slr (Q := _) (E := E) (fun W => ∃ R, Sat E W ((Asn.blk y 79 #[.int .i64 1, .int .i64 fl, .int .i64 pa, .int .i64 sr, .int .i64 ds, .int .i64 co, .int .i64 q, .int .i64 pu, .slice A2 n c2] * (Asn.blk z 79 #[.int .i64 1, .int .i64 fl, .int .i64 pa, .int .i64 sr, .int .i64 ds, .int .i64 co, .int .i64 q, .int .i64 pu, .slice A n c] * (RcB g k next (arr + 1) iss (pen + 1) false * (BitAt k.bb V1 k.win ba * (JoinAt k.jb j * (sl 5 1 A2 n c2 (bytes b) * F)))))) * R)) [7] [] [] [] (fun _ => (0, #[], fun _ => undef)) [0, 1, 2, 3, 4, 5, 6, 7] (by kernel_rfl) (by kernel_rfl) (unhide HS9) (fun W R h => ⟨_, h.asc⟩) ?_
  iterate 6
    refine wpS_f _ rfl rfl (v := ?_) ?_ ?_
    rotate_left
    · rintro W ⟨R, hW⟩
      have f1 : W.cell? ⟨g, 2, none⟩ = some (.map (some k.mb)) := hW.asc.f2.asc.f2.asc.cell 2
      have f2 : W.cell? ⟨z, 6, none⟩ = some (.int .i64 q) := hW.asc.f2.asc.cell 6
      go_simp
      first | rfl | (rw [IntKind.wrap_i64]; omega)
    go_simp
  refine wpS_f _ rfl rfl (v := .agg (#[.int .i64 1, .int .i64 fl, .int .i64 pa, .int .i64 sr, .int .i64 ds, .int .i64 co, .int .i64 q, .int .i64 pu, .slice A2 n c2])) (freeS_load_row rfl 79 _ rfl (y) rfl 79 (#[.int .i64 1, .int .i64 fl, .int .i64 pa, .int .i64 sr, .int .i64 ds, .int .i64 co, .int .i64 q, .int .i64 pu, .slice A2 n c2]) _ (fun W ⟨R, hW⟩ => (hW.asc).blk) (Try.underlying79) rfl (by kernel_rfl)) ?_
  go_simp
  refine wpS_e _ rfl rfl (fun W R hW => ?_)
  obtain ⟨w_, r_, s_⟩ := upd_pk (L := L) (hW.perm (show _ = MapAt k.mb (rowsP L) * ((Asn.blk y 79 #[.int .i64 1, .int .i64 fl, .int .i64 pa, .int .i64 sr, .int .i64 ds, .int .i64 co, .int .i64 q, .int .i64 pu, .slice A2 n c2] * (Asn.blk z 79 #[.int .i64 1, .int .i64 fl, .int .i64 pa, .int .i64 sr, .int .i64 ds, .int .i64 co, .int .i64 q, .int .i64 pu, .slice A n c] * (RcB g k next (arr + 1) iss (pen + 1) false * (BitAt k.bb V1 k.win ba * (JoinAt k.jb j * (sl 5 1 A2 n c2 (bytes b) * F)))))) * R) by ac_rfl)) ⟨1, fl, pa, sr, ds, co, q, pu, A2, n, c2, b⟩ (unhide HNO)
  refine stp_mapUpdate rfl _ _ _ _ rfl rfl rfl rfl r_ ?_
  refine ⟨(Asn.blk y 79 #[.int .i64 1, .int .i64 fl, .int .i64 pa, .int .i64 sr, .int .i64 ds, .int .i64 co, .int .i64 q, .int .i64 pu, .slice A2 n c2] * (Asn.blk z 79 #[.int .i64 1, .int .i64 fl, .int .i64 pa, .int .i64 sr, .int .i64 ds, .int .i64 co, .int .i64 q, .int .i64 pu, .slice A n c] * (RcB g k next (arr + 1) iss (pen + 1) false * (BitAt k.bb V1 k.win ba * (JoinAt k.jb j * (sl 5 1 A2 n c2 (bytes b) * F)))))) * (MapAt k.mb (rowsP (L ++ [⟨1, fl, pa, sr, ds, co, q, pu, A2, n, c2, b⟩]))), fun W R h => ⟨_, h.asc⟩, s_.perm (by first | ac_rfl | (simp only [Asn.one_sep, Asn.sep_one]; ac_rfl)), ?_⟩
  clear hW r_ s_
  go_simp
  refine wpS_n (fun w8 hs8 => ?_)
  have hs9 := (hs8.asc.right).perm (show _ = RcB g k next (arr + 1) iss (pen + 1) false * (MapAt k.mb (rowsP (L ++ [⟨1, fl, pa, sr, ds, co, q, pu, A2, n, c2, b⟩])) * (BitAt k.bb V1 k.win ba * (JoinAt k.jb j * (Asn.blk z 79 #[.int .i64 1, .int .i64 fl, .int .i64 pa, .int .i64 sr, .int .i64 ds, .int .i64 co, .int .i64 q, .int .i64 pu, .slice A n c] * (sl 5 1 A2 n c2 (bytes b) * F))))) by ac_rfl)
  have hG := rc_goOn hs9 (by rw [List.length_append]; simp only [List.length_cons, List.length_nil]; omega) (by rw [List.length_append]; simp only [List.length_cons, List.length_nil]; omega) (by
    intro x hx
    rcases List.mem_append.1 hx with hx | hx
    · obtain ⟨a1, a2, a3⟩ := (unhide HOK) x hx
      exact ⟨a1.right.right, a2, a3⟩
    · obtain rfl := List.mem_singleton.1 hx
      exact ⟨(rd_sl (e := 5) (c := c2)).left.right, by show n ≤ _; omega, hfl⟩) hV1s h0 h256 hba
  obtain ⟨r, hr⟩ : ∃ r, r = goX (runP (L ++ [⟨1, fl, pa, sr, ds, co, q, pu, A2, n, c2, b⟩]) next) (j.rj, []) := ⟨_, rfl⟩
  rw [← hr] at hG
  have HR := hide hr
  have HG := hide hG
  clear hs8 hs9 hG hr HS9
  go_wp2_with fail
  refine (unhide HG).mono ?_
  intro e w9 hG
  obtain ⟨A3, c3, j3, rfl, hj3, hs10⟩ := hG
  have hs11 := hs10.perm (show _ = Asn.blk z 79 #[.int .i64 1, .int .i64 fl, .int .i64 pa, .int .i64 sr, .int .i64 ds, .int .i64 co, .int .i64 q, .int .i64 pu, .slice A n c] * (RcB g k (next + r.1) (arr + 1) iss (if r.2.2 then 0 else pen + 1) r.2.2 * (bbsl A3 r.2.1.2.length c3 r.2.1.2 * (MapAt k.mb (rowsP (if r.2.2 then [] else restR (L ++ [⟨1, fl, pa, sr, ds, co, q, pu, A2, n, c2, b⟩]) next r.1)) * (BitAt k.bb (advB V1 ba).1 k.win (advB V1 ba).2 * (JoinAt k.jb j3 * (sl 5 1 A2 n c2 (bytes b) * F)))))) by ac_rfl)
  have HB9 := Lib.hid hs11.blk
  have HJ3 := hide hj3
  have HA := hide (rc_answer 2 ⟨1, fl, pa, sr, ds, co, q, pu, A, n, c, b⟩ hs11.right)
  unfold Pk.val Pk.cells at HA
  obtain ⟨N, hN⟩ : ∃ N, N = r.2.1.2.length := ⟨_, rfl⟩
  rw [← hN]
  have HN := hide hN
  clear hs10 hs11 hj3 HG hN
  go_wp2_with (refine wpList_load_row rfl 79 (.tmp 3) rfl z rfl 79 _ (0, 0) _ HB9.out Try.underlying79 rfl (by kernel_rfl) ?_)
  refine (unhide HA).mono ?_
  rintro e w10 ⟨z2, rfl, hs12⟩
  have HS12 := hide hs12
  clear hs12 HA
  go_wp2_with fail
  go_ret2
  refine ⟨z2, A3, c3, j3, A2, c2, r, unhide HR, by rw [← unhide HN]; rfl, unhide HJ3, ?_⟩
  rw [← unhide HV1]
  exact (unhide HS12).perm (by ac_rfl)
end
end Go.Proofs.Ytdfidijlconhnaa
