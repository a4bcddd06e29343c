/- The program's perm: New. -/
import Derived.Test.YtpcoehbjbjfggaaPermB
namespace Go.Proofs.Ytpcoehbjbjfggaa
open Go.RowKit Asn

theorem new_srcS (E w : World) (F : Asn) (s : Int) (hs : Sat E w F) : Calls Try.prog 23 #[.int .u64 s] w fun e w' => ∃ g, e = .returned (.pointer (some ⟨g, 0, none⟩)) ∧ Sat E w' (SrcAt g s 0 * F) :=
  (new_src w s).mono fun e w' ⟨he, hw⟩ => ⟨_, he, hw ▸ hs.alloc #[.int .u64 s, .int .i64 0, .bool true] 65⟩
theorem new_perm_no (E w : World) (F : Asn) (A : Option Addr) (n c : Nat) (s : Int) (L : List Int) (hs : Sat E w F) (hr : rd F 1 A n (ints L)) (hn : n ≤ 60000) (hbad : ¬ Good L ∨ L = []) :
    Calls Try.prog 63 #[.int .u64 s, .slice A n c] w fun e w' => e = .returned (.tuple #[.pointer none, .int .i64 60]) ∧ Sat E w' F := by
  have hof := hide (of_call E w F A n c L hs hr hn)
  have hres : Hid (∃ cs : Nat → Bool, ∀ e w', OfP E F L e w' → e = .returned (.tuple #[.agg (set8 cs), .bool false]) ∧ Sat E w' F) := by
    rcases hbad with h | h
    · exact ⟨_, fun e w' ho => ⟨ho.2.1 h, ho.2.2⟩⟩
    · by_cases hg : Good L
      · exact ⟨memb L, fun e w' ho => ⟨by rw [ho.1 hg, h]; rfl, ho.2.2⟩⟩
      · exact ⟨_, fun e w' ho => ⟨ho.2.1 hg, ho.2.2⟩⟩
  obtain ⟨cs, hcs⟩ := unhide hres
  have HCS := hide hcs
  clear hcs hs hr hbad
  go_enter Try.func63, Try.ntmps63
  go_wp2_with fail
  refine (unhide hof).mono ?_
  intro e w2 ho
  obtain ⟨rfl, hs2⟩ := unhide HCS _ _ ho
  have HS2 := hide hs2
  clear hs2 ho
  unfold set8
  go_wp2_with fail
  go_ret2
  exact ⟨rfl, (unhide HS2).allocKeep _⟩
/-- What New leaves. -/
def NewP (E : World) (F : Asn) (s : Int) (L : List Int) (e : Ending) (w' : World) : Prop :=
  ∃ g gs A c M, e = .returned (.tuple #[.pointer (some ⟨g, 0, none⟩), .int .i64 0]) ∧ ints M = shufL s ((riseL (memb L)).length - 1) 0 (ints (riseL (memb L))) ∧ M.Perm (riseL (memb L)) ∧
    Sat E w' (PermAt g gs s ((riseL (memb L)).length - 1 : Nat) (memb L) (.slice A M.length c) 1 (fun _ => 0) * (sl 3 1 A M.length c (ints M) * F))
set_option maxHeartbeats 2000000 in
set_option maxRecDepth 100000 in
theorem new_perm (E w : World) (F : Asn) (A : Option Addr) (n c : Nat) (s : Int) (L : List Int) (hs : Sat E w F) (hr : rd F 1 A n (ints L)) (hn : n ≤ 60000) (hg : Good L) (hL : 0 < L.length) :
    Calls Try.prog 63 #[.int .u64 s, .slice A n c] w (NewP E F s L) := by
  have hof := hide (of_call E w F A n c L hs hr hn)
  have HG := hide hg
  have HL := hide hL
  clear hs hr hg hL
  go_enter Try.func63, Try.ntmps63
  go_wp2_with fail
  refine (unhide hof).mono ?_
  intro e w2 ho
  obtain ⟨h1, _, hs2⟩ := ho
  obtain rfl := h1 (unhide HG)
  rw [decide_eq_true (unhide HL)]
  obtain ⟨pb, hpb⟩ : ∃ pb, pb = memb L := ⟨_, rfl⟩
  rw [← hpb]
  have HPB := hide hpb
  have hs3 := hide (hs2.alloc (set8 pb) 135)
  clear h1 hpb hs2 hof
  unfold set8
  go_wp2_with fail
  refine wp_region_sl (Q := _) (E := E) (fun W => ∃ R, Sat E W ((Asn.blk w2.heap.size 135 (set8 pb)) * R)) [1, 4] [] [] (fun _ => (0, #[], fun _ => undef)) [0, 1, 2, 3, 4, 5] (by kernel_rfl) (by kernel_rfl) (unhide hs3) (fun W R h => ⟨_, h.asc⟩) ?_
  iterate 1
    refine wpS_f _ rfl rfl (v := ?_) ?_ ?_
    rotate_left
    · rintro W ⟨R, hW⟩
      have f1 : W.cell? ⟨w2.heap.size, 0, none⟩ = some (.bool (pb 0)) := hW.cell 0
      have f2 : W.cell? ⟨w2.heap.size, 1, none⟩ = some (.bool (pb 1)) := hW.cell 1
      have f3 : W.cell? ⟨w2.heap.size, 2, none⟩ = some (.bool (pb 2)) := hW.cell 2
      have f4 : W.cell? ⟨w2.heap.size, 3, none⟩ = some (.bool (pb 3)) := hW.cell 3
      have f5 : W.cell? ⟨w2.heap.size, 4, none⟩ = some (.bool (pb 4)) := hW.cell 4
      have f6 : W.cell? ⟨w2.heap.size, 5, none⟩ = some (.bool (pb 5)) := hW.cell 5
      have f7 : W.cell? ⟨w2.heap.size, 6, none⟩ = some (.bool (pb 6)) := hW.cell 6
      have f8 : W.cell? ⟨w2.heap.size, 7, none⟩ = some (.bool (pb 7)) := hW.cell 7
      go_simp
      first | rfl | (rw [IntKind.wrap_i64]; omega)
    go_simp
  refine wpS_e _ rfl rfl (fun W R hW => ?_)
  refine stp_call rfl (by go_simp; try rfl) ((new_srcS E W _ s hW).mono ?_)
  rintro e w' ⟨gs, rfl, hs3⟩
  refine ⟨_, rfl, (Asn.blk w2.heap.size 135 (set8 pb)) * (SrcAt gs s 0 * F), fun W R h => ⟨_, h.asc⟩, hs3.perm (by first | ac_rfl | (simp only [Asn.one_sep, Asn.sep_one]; ac_rfl)), ?_⟩
  clear hs3 hW
  go_simp
  iterate 2
    refine wpS_f _ rfl rfl (v := ?_) ?_ ?_
    rotate_left
    · rintro W ⟨R, hW⟩
      have f1 : W.cell? ⟨w2.heap.size, 0, none⟩ = some (.bool (pb 0)) := hW.cell 0
      have f2 : W.cell? ⟨w2.heap.size, 1, none⟩ = some (.bool (pb 1)) := hW.cell 1
      have f3 : W.cell? ⟨w2.heap.size, 2, none⟩ = some (.bool (pb 2)) := hW.cell 2
      have f4 : W.cell? ⟨w2.heap.size, 3, none⟩ = some (.bool (pb 3)) := hW.cell 3
      have f5 : W.cell? ⟨w2.heap.size, 4, none⟩ = some (.bool (pb 4)) := hW.cell 4
      have f6 : W.cell? ⟨w2.heap.size, 5, none⟩ = some (.bool (pb 5)) := hW.cell 5
      have f7 : W.cell? ⟨w2.heap.size, 6, none⟩ = some (.bool (pb 6)) := hW.cell 6
      have f8 : W.cell? ⟨w2.heap.size, 7, none⟩ = some (.bool (pb 7)) := hW.cell 7
      go_simp
      first | rfl | (rw [IntKind.wrap_i64]; omega)
    go_simp
  refine wpS_e _ rfl rfl (fun W R hW => ?_)
  have hst := hide (show Sat E _ ((Asn.blk w2.heap.size 135 (set8 pb)) * (Asn.blk W.heap.size 137 (permC gs pb (.slice none 0 0) 0 (fun _ => 0)) * (SrcAt gs s 0 * F)) * R) from (hW.alloc (permC gs pb (.slice none 0 0) 0 (fun _ => 0)) 137).perm (by first | ac_rfl | (simp only [Asn.one_sep, Asn.sep_one]; ac_rfl)))
  unfold stp
  go_simp
  refine (show ∃ F', _ from ⟨(Asn.blk w2.heap.size 135 (set8 pb)) * (Asn.blk W.heap.size 137 (permC gs pb (.slice none 0 0) 0 (fun _ => 0)) * (SrcAt gs s 0 * F)), fun W R h => ⟨_, h.asc⟩, unhide hst, ?_⟩)
  clear hst hW 
  go_simp
  iterate 1
    refine wpS_f _ rfl rfl (v := ?_) ?_ ?_
    rotate_left
    · rintro W ⟨R, hW⟩
      have f1 : W.cell? ⟨w2.heap.size, 0, none⟩ = some (.bool (pb 0)) := hW.cell 0
      have f2 : W.cell? ⟨w2.heap.size, 1, none⟩ = some (.bool (pb 1)) := hW.cell 1
      have f3 : W.cell? ⟨w2.heap.size, 2, none⟩ = some (.bool (pb 2)) := hW.cell 2
      have f4 : W.cell? ⟨w2.heap.size, 3, none⟩ = some (.bool (pb 3)) := hW.cell 3
      have f5 : W.cell? ⟨w2.heap.size, 4, none⟩ = some (.bool (pb 4)) := hW.cell 4
      have f6 : W.cell? ⟨w2.heap.size, 5, none⟩ = some (.bool (pb 5)) := hW.cell 5
      have f7 : W.cell? ⟨w2.heap.size, 6, none⟩ = some (.bool (pb 6)) := hW.cell 6
      have f8 : W.cell? ⟨w2.heap.size, 7, none⟩ = some (.bool (pb 7)) := hW.cell 7
      go_simp
      first | rfl | (rw [IntKind.wrap_i64]; omega)
    go_simp
  refine wpS_n (fun w3 hs4 => ?_)
  generalize W.heap.size = g at *
  have hbg := hide (begin_call E w3 _ g gs s 0 pb _ 0 _ (hs4.perm (show _ = PermAt g gs s 0 pb (.slice none 0 0) 0 (fun _ => 0) * (F * Asn.blk w2.heap.size 135 (set8 pb)) by unfold PermAt; ac_rfl)) (by omega) (by omega))
  clear hs4 hs3
  go_wp2_with fail
  refine (unhide hbg).mono ?_
  rintro e w4 ⟨⟨v, rfl⟩, A4, c4, M, h1, h2, hs5⟩
  have hfin : Hid (NewP E F s L (.returned (.tuple #[.pointer (some ⟨g, 0, none⟩), .int .i64 0])) w4) := by
    rw [unhide HPB] at h1 h2 hs5
    simp only [Int.zero_add, show wrap64 1 = 1 from by unfold wrap64; omega] at hs5
    exact ⟨g, gs, A4, c4, M, rfl, h1, h2, (hs5.perm (show _ = (PermAt g gs s ((riseL (memb L)).length - 1 : Nat) (memb L) (.slice A4 M.length c4) 1 (fun _ => 0) * (sl 3 1 A4 M.length c4 (ints M) * F)) * Asn.blk w2.heap.size 135 (set8 (memb L)) by ac_rfl)).left⟩
  clear h1 h2 hs5 hbg
  go_wp2_with fail
  go_ret2
  exact unhide hfin
end Go.Proofs.Ytpcoehbjbjfggaa
