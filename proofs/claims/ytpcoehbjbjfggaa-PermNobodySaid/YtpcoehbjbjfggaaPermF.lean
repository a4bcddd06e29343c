/- The program's perm: Fork, Renew. -/
import Derived.Test.YtpcoehbjbjfggaaPermY
import Derived.ChangeKeysEq
namespace Go.Proofs.Ytpcoehbjbjfggaa
open Go.RowKit Asn
theorem permC_src (gs k : Nat) (pb : Nat → Bool) (lv : Value) (rd : Int) (td : Nat → Int) : (permC gs pb lv rd td).setIfInBounds 0 (.pointer (some ⟨k, 0, none⟩)) = permC k pb lv rd td := by simp [permC]
theorem permC_one (gs : Nat) (pb : Nat → Bool) (A : Option Addr) (n c : Nat) (rd : Int) (td : Nat → Int) : (permC gs pb (.slice A n c) rd td).all (·.oneCell') = true := by
  rw [← Array.all_toList]
  rfl
section
variable {E w : World} {F X : Asn} {g gs n c : Nat} {s i : Int} {pb : Nat → Bool} {rd : Int} {td : Nat → Int} {A : Option Addr} {L : List Int} {t : TypeId} {lv : Value}
theorem permSrc (h : Sat E w (Asn.blk g t (permC gs pb lv rd td) * F)) (k : Nat) : Sat E (w.setCell ⟨g, 0, none⟩ (.pointer (some ⟨k, 0, none⟩))) (Asn.blk g t (permC k pb lv rd td) * F) := by
  have := h.set 0 (.pointer (some ⟨k, 0, none⟩))
  rwa [permC_src] at this
/-- An unmade list's cells. -/
def permZ : Array Value := #[.pointer none, .bool false, .bool false, .bool false, .bool false, .bool false, .bool false, .bool false, .bool false, .slice none 0 0, .int .i64 0, .int .i64 0, .int .i64 0, .int .i64 0, .int .i64 0, .int .i64 0, .int .i64 0, .int .i64 0, .int .i64 0]
/-- What Fork leaves. -/
def ForkP (E : World) (G F : Asn) (s i : Int) (pb : Nat → Bool) (n : Nat) (L : List Int) (rd : Int) (td : Nat → Int) (e : Ending) (w' : World) : Prop :=
  ∃ k ks A c, e = .returned (.pointer (some ⟨k, 0, none⟩)) ∧ Sat E w' (PermAt k ks s i pb (.slice A n c) rd td * (sl 3 1 A n c (ints L) * (G * F)))
set_option maxHeartbeats 4000000 in
set_option maxRecDepth 100000 in
theorem perm_fork (hs : Sat E w (PermAt g gs s i pb (.slice A n c) rd td * (X * F))) (hr : RS X A n c L) (hn : n ≤ 60000) :
    Calls Try.prog 72 #[.pointer (some ⟨g, 0, none⟩)] w (ForkP E (PermAt g gs s i pb (.slice A n c) rd td) (X * F) s i pb n L rd td) := by
  have hno := hide (perm_is hs)
  have HR := hide hr
  have HB := Lib.hid hs.asc.blk
  have hz := hs.alloc permZ 137
  have HZ := Lib.hid hz.blk
  have HS := hide ((hz.row (permC gs pb (.slice A n c) rd td)).perm (show _ = (Asn.blk g 137 (permC gs pb (.slice A n c) rd td) * (X * F)) * (Asn.blk w.heap.size 137 (permC gs pb (.slice A n c) rd td) * SrcAt gs s i) by unfold PermAt; ac_rfl))
  have hcl := hide (fun (W : World) (R : Asn) (h : Sat E W (X * R)) => clone_ints E W _ A n c (ints L) h hr.rd.left oneCell_ints hr.nil (by omega))
  have hgl : g < w.heap.size := Sat.lt (o := .cells _ _ (0, 0)) hs.asc
  clear hs hr hz
  go_enter Try.func72, Try.ntmps72
  go_wp2_with (first
    | (go_at_call 97; refine (unhide hno).mono ?_; rintro e w' ⟨rfl, rfl⟩)
    | (refine wpList_load_row rfl 137 (.tmp 7) rfl g rfl 137 (permC gs pb (.slice A n c) rd td) (0, 0) _ HB.out Try.underlying137 rfl (by kernel_rfl) ?_)
    | (refine wpList_store_row rfl 137 (.tmp 3) (.tmp 8) rfl w.heap.size (permC gs pb (.slice A n c) rd td) rfl rfl 137 permZ HZ.out (by kernel_rfl) rfl (permC_one _ _ _ _ _ _ _) ?_))
  obtain ⟨q, hq⟩ : ∃ q, q = w.heap.size := ⟨_, rfl⟩
  rw [← hq] at HS ⊢
  clear hq
  refine wp_region_slr (Q := _) (E := E) (fun W => ∃ R, Sat E W ((Asn.blk g 137 (permC gs pb (.slice A n c) rd td) * (X * F)) * R)) [4, 9, 11, 13] [] [] [] (fun _ => (0, #[], fun _ => undef)) [0, 1, 2, 3, 4, 5, 6, 7, 8, 9, 10, 11, 12, 13] (by kernel_rfl) (by kernel_rfl) (unhide HS) (fun W R h => ⟨_, h.asc⟩) ?_
  iterate 4
    refine wpS_f _ rfl rfl (v := ?_) ?_ ?_
    rotate_left
    · rintro W ⟨R, hW⟩
      have f0 : W.cell? ⟨g, 0, none⟩ = some (.pointer (some ⟨gs, 0, none⟩)) := hW.asc.cell 0
      have f9 : W.cell? ⟨g, 9, none⟩ = some (.slice A n c) := hW.asc.cell 9
      go_simp
      first | rfl | (rw [IntKind.wrap_i64]; omega)
    go_simp
  refine wpS_e _ rfl rfl (fun W R hW => ?_)
  refine stp_call rfl (by go_simp; try rfl) ((src_fork E W (Asn.blk q 137 (permC gs pb (.slice A n c) rd td) * ((Asn.blk g 137 (permC gs pb (.slice A n c) rd td) * (X * F)) * R)) gs s i (hW.perm (by ac_rfl))).mono ?_)
  rintro e w' ⟨ks, rfl, hs3⟩
  refine ⟨_, rfl, (Asn.blk g 137 (permC gs pb (.slice A n c) rd td) * (X * F)) * (Asn.blk q 137 (permC gs pb (.slice A n c) rd td) * (SrcAt gs s i * SrcAt ks s i)), fun W R h => ⟨_, h.asc⟩, hs3.perm (by first | ac_rfl | (simp only [Asn.one_sep, Asn.sep_one]; ac_rfl)), ?_⟩
  clear hs3 hW
  go_simp
  iterate 4
    refine wpS_f _ rfl rfl (v := ?_) ?_ ?_
    rotate_left
    · rintro W ⟨R, hW⟩
      have f0 : W.cell? ⟨g, 0, none⟩ = some (.pointer (some ⟨gs, 0, none⟩)) := hW.asc.cell 0
      have f9 : W.cell? ⟨g, 9, none⟩ = some (.slice A n c) := hW.asc.cell 9
      go_simp
      first | rfl | (rw [IntKind.wrap_i64]; omega)
    go_simp
  refine wpS_e _ rfl rfl (fun W R hW => ?_)
  refine stp_call rfl (by go_simp; try rfl) ((unhide hcl W (F * (Asn.blk g 137 (permC gs pb (.slice A n c) rd td) * ((Asn.blk q 137 (permC gs pb (.slice A n c) rd td) * (SrcAt gs s i * SrcAt ks s i)) * R))) (hW.perm (by ac_rfl))).mono ?_)
  rintro e w' ⟨A2, c2, rfl, hs3⟩
  refine ⟨_, rfl, (Asn.blk g 137 (permC gs pb (.slice A n c) rd td) * (X * F)) * (Asn.blk q 137 (permC gs pb (.slice A n c) rd td) * (sl 3 1 A2 n c2 (ints L) * (SrcAt gs s i * SrcAt ks s i))), fun W R h => ⟨_, h.asc⟩, hs3.perm (by first | ac_rfl | (simp only [Asn.one_sep, Asn.sep_one]; ac_rfl)), ?_⟩
  clear hs3 hW
  go_simp
  iterate 1
    refine wpS_f _ rfl rfl (v := ?_) ?_ ?_
    rotate_left
    · rintro W ⟨R, hW⟩
      have f0 : W.cell? ⟨g, 0, none⟩ = some (.pointer (some ⟨gs, 0, none⟩)) := hW.asc.cell 0
      have f9 : W.cell? ⟨g, 9, none⟩ = some (.slice A n c) := hW.asc.cell 9
      go_simp
      first | rfl | (rw [IntKind.wrap_i64]; omega)
    go_simp
  refine wpS_e _ rfl rfl (fun W R hW => ?_)
  have s1 : W.cell? ⟨q, 0, none⟩ = some (.pointer (some ⟨gs, 0, none⟩)) := hW.asc.f2.asc.cell 0
  have s2 : W.frozen? ⟨q, 0, none⟩ = false := hW.asc.f2.asc.frozen 0
  have hst := hide (show Sat E _ ((Asn.blk g 137 (permC gs pb (.slice A n c) rd td) * (X * F)) * (Asn.blk q 137 (permC ks pb (.slice A n c) rd td) * (sl 3 1 A2 n c2 (ints L) * (SrcAt gs s i * SrcAt ks s i))) * R) from (permSrc (hW.perm (show _ = Asn.blk q 137 (permC gs pb (.slice A n c) rd td) * ((sl 3 1 A2 n c2 (ints L) * (SrcAt gs s i * SrcAt ks s i)) * ((Asn.blk g 137 (permC gs pb (.slice A n c) rd td) * (X * F)) * R)) by ac_rfl)) ks).perm (by first | ac_rfl | (simp only [Asn.one_sep, Asn.sep_one]; ac_rfl)))
  unfold stp
  go_simp
  refine (show ∃ F', _ from ⟨(Asn.blk g 137 (permC gs pb (.slice A n c) rd td) * (X * F)) * (Asn.blk q 137 (permC ks pb (.slice A n c) rd td) * (sl 3 1 A2 n c2 (ints L) * (SrcAt gs s i * SrcAt ks s i))), fun W R h => ⟨_, h.asc⟩, unhide hst, ?_⟩)
  clear hst hW s1 s2
  go_simp
  iterate 1
    refine wpS_f _ rfl rfl (v := ?_) ?_ ?_
    rotate_left
    · rintro W ⟨R, hW⟩
      have f0 : W.cell? ⟨g, 0, none⟩ = some (.pointer (some ⟨gs, 0, none⟩)) := hW.asc.cell 0
      have f9 : W.cell? ⟨g, 9, none⟩ = some (.slice A n c) := hW.asc.cell 9
      go_simp
      first | rfl | (rw [IntKind.wrap_i64]; omega)
    go_simp
  refine wpS_e _ rfl rfl (fun W R hW => ?_)
  have s1 : W.cell? ⟨q, 9, none⟩ = some (.slice A n c) := hW.asc.f2.asc.cell 9
  have s2 : W.frozen? ⟨q, 9, none⟩ = false := hW.asc.f2.asc.frozen 9
  have hst := hide (show Sat E _ ((Asn.blk g 137 (permC gs pb (.slice A n c) rd td) * (X * F)) * (Asn.blk q 137 (permC ks pb (.slice A2 n c2) rd td) * (sl 3 1 A2 n c2 (ints L) * (SrcAt gs s i * SrcAt ks s i))) * R) from (permLeft (hW.perm (show _ = Asn.blk q 137 (permC ks pb (.slice A n c) rd td) * ((sl 3 1 A2 n c2 (ints L) * (SrcAt gs s i * SrcAt ks s i)) * ((Asn.blk g 137 (permC gs pb (.slice A n c) rd td) * (X * F)) * R)) by ac_rfl)) (.slice A2 n c2)).perm (by first | ac_rfl | (simp only [Asn.one_sep, Asn.sep_one]; ac_rfl)))
  unfold stp
  go_simp
  refine (show ∃ F', _ from ⟨(Asn.blk g 137 (permC gs pb (.slice A n c) rd td) * (X * F)) * (Asn.blk q 137 (permC ks pb (.slice A2 n c2) rd td) * (sl 3 1 A2 n c2 (ints L) * (SrcAt gs s i * SrcAt ks s i))), fun W R h => ⟨_, h.asc⟩, unhide hst, ?_⟩)
  clear hst hW s1 s2
  go_simp
  refine wpS_n (fun w3 hs3 => ?_)
  have hfin : Hid (ForkP E (PermAt g gs s i pb (.slice A n c) rd td) (X * F) s i pb n L rd td (.returned (.pointer (some ⟨q, 0, none⟩))) w3) := ⟨q, ks, A2, c2, rfl, hs3.perm (by unfold PermAt; ac_rfl)⟩
  clear hs3
  go_wp2_with fail
  go_ret
  exact unhide hfin
end
end Go.Proofs.Ytpcoehbjbjfggaa
