/- The receiver: answer, counted, finish, Pending, Done. -/
import Derived.Test.YtdfidijlconhnaaRc
namespace Go.Proofs.Ytdfidijlconhnaa
open Go.RowKit Asn
attribute [local go_sem] Oper.semAt_some

/-- The cells of an answer. -/
def ansC (k : RcK) (kind : Int) (p : Pk) : Array Value := #[.int .i64 kind, .int .i64 0, .int .i64 p.pa, .int .i64 k.dst, .int .i64 k.src, .int .i64 k.co, .int .i64 p.q, .int .i64 0, .slice none 0 0]
section
variable {E w : World} {F : Asn} {g : Nat} {k : RcK} {next arrived issued pending : Nat} {done : Bool}
set_option maxHeartbeats 1000000 in
set_option maxRecDepth 100000 in
theorem rc_answer (kind : Int) (p : Pk) (hs : Sat E w (RcB g k next arrived issued pending done * F)) :
    Calls Try.prog 76 #[.pointer (some ⟨g, 0, none⟩), .int .i64 kind, p.val] w fun e w' => ∃ z, e = .returned (.slice (some ⟨z, 0, none⟩) 1 1) ∧ Sat E w' (Asn.blk z 79 (ansC k kind p) * (RcB g k next arrived issued pending done * F)) := by
  obtain ⟨pk, fl, pa, sr, ds, co, q, pu, A, n, c, b⟩ := p
  have hs1 := hs.alloc #[.int .i64 pk, .int .i64 fl, .int .i64 pa, .int .i64 sr, .int .i64 ds, .int .i64 co, .int .i64 q, .int .i64 pu, .slice A n c] 79
  have HS := hide (hs1.perm (show _ = (Asn.blk w.heap.size 79 #[.int .i64 pk, .int .i64 fl, .int .i64 pa, .int .i64 sr, .int .i64 ds, .int .i64 co, .int .i64 q, .int .i64 pu, .slice A n c] * (RcB g k next arrived issued pending done * F)) * (1 : Asn) by rw [sep_one]))
  clear hs hs1
  show Calls _ _ #[_, _, .agg #[.int .i64 pk, .int .i64 fl, .int .i64 pa, .int .i64 sr, .int .i64 ds, .int .i64 co, .int .i64 q, .int .i64 pu, .slice A n c]] _ _
  go_enter Try.func76, Try.ntmps76
  go_wp2_with fail
  obtain ⟨z, hz⟩ : ∃ z, z = w.heap.size := ⟨_, rfl⟩
  rw [← hz] at HS ⊢
  clear hz
  refine wp_region_slr (Q := _) (E := E) (fun W => ∃ R, Sat E W ((Asn.blk z 79 #[.int .i64 pk, .int .i64 fl, .int .i64 pa, .int .i64 sr, .int .i64 ds, .int .i64 co, .int .i64 q, .int .i64 pu, .slice A n c] * (RcB g k next arrived issued pending done * F)) * R)) [] [] [18] [] (fun i_ => (79, ansC k kind ⟨pk, fl, pa, sr, ds, co, q, pu, A, n, c, b⟩, fun g_ => .slice (some ⟨g_, 0, none⟩) 1 1)) [0, 1, 2, 3, 4, 5, 6, 7, 8, 9, 10, 11, 12, 13, 14, 15, 16, 17, 18, 19] (by kernel_rfl) (by kernel_rfl) (unhide HS) (fun W R h => ⟨_, h.asc⟩) ?_
  iterate 18
    refine wpS_f _ rfl rfl (v := ?_) ?_ ?_
    rotate_left
    · rintro W ⟨R, hW⟩
      have f1 : W.cell? ⟨z, 2, none⟩ = some (.int .i64 pa) := hW.asc.cell 2
      have f2 : W.cell? ⟨z, 6, none⟩ = some (.int .i64 q) := hW.asc.cell 6
      have f3 : W.cell? ⟨g, 4, none⟩ = some (.int .i64 k.dst) := hW.asc.f2.asc.cell 4
      have f4 : W.cell? ⟨g, 3, none⟩ = some (.int .i64 k.src) := hW.asc.f2.asc.cell 3
      have f5 : W.cell? ⟨g, 5, none⟩ = some (.int .i64 k.co) := hW.asc.f2.asc.cell 5
      go_simp
      first | rfl | (rw [IntKind.wrap_i64]; omega)
    go_simp
  refine wpS_a _ rfl rfl (fun W => by unfold stp; go_simp; exact ⟨rfl, rfl⟩) (fun g_25 => ?_)
  go_simp
  iterate 1
    refine wpS_f _ rfl rfl (v := ?_) ?_ ?_
    rotate_left
    · rintro W ⟨R, hW⟩
      have f1 : W.cell? ⟨z, 2, none⟩ = some (.int .i64 pa) := hW.asc.cell 2
      have f2 : W.cell? ⟨z, 6, none⟩ = some (.int .i64 q) := hW.asc.cell 6
      have f3 : W.cell? ⟨g, 4, none⟩ = some (.int .i64 k.dst) := hW.asc.f2.asc.cell 4
      have f4 : W.cell? ⟨g, 3, none⟩ = some (.int .i64 k.src) := hW.asc.f2.asc.cell 3
      have f5 : W.cell? ⟨g, 5, none⟩ = some (.int .i64 k.co) := hW.asc.f2.asc.cell 5
      go_simp
      first | rfl | (rw [IntKind.wrap_i64]; omega)
    go_simp
  refine wpS_n (fun w2 hs2 => ?_)
  have hs3 := hide (hs2.perm (show _ = (Asn.blk g_25 79 (ansC k kind ⟨pk, fl, pa, sr, ds, co, q, pu, A, n, c, b⟩) * (RcB g k next arrived issued pending done * F)) * Asn.blk z 79 #[.int .i64 pk, .int .i64 fl, .int .i64 pa, .int .i64 sr, .int .i64 ds, .int .i64 co, .int .i64 q, .int .i64 pu, .slice A n c] by rw [sep_one]; ac_rfl))
  clear hs2 HS
  go_wp2_with fail
  go_ret
  exact ⟨_, rfl, (unhide hs3).left⟩
theorem rc_counted (hs : Sat E w (RcB g k next arrived issued pending done * F)) (ha : arrived ≤ 4611686018427387904) (hp : pending ≤ 4611686018427387904) :
    Calls Try.prog 77 #[.pointer (some ⟨g, 0, none⟩)] w fun e w' => (∃ v, e = .returned v) ∧ Sat E w' (RcB g k next (arrived + 1) issued (pending + 1) done * F) := by
  have d1 : w.cell? ⟨g, 10, none⟩ = some (.int .i64 arrived) := hs.cell 10
  have d2 : w.cell? ⟨g, 12, none⟩ = some (.int .i64 pending) := hs.cell 12
  have d3 : w.frozen? ⟨g, 10, none⟩ = false := hs.frozen 10
  have d4 : w.frozen? ⟨g, 12, none⟩ = false := hs.frozen 12
  have HS := hide ((hs.set 10 (.int .i64 ((arrived + 1 : Nat) : Int))).set 12 (.int .i64 ((pending + 1 : Nat) : Int)))
  clear hs
  go_enter Try.func77, Try.ntmps77
  go_wp2_with fail
  exact bodyPost_end (v := .tuple #[]) (by simp [results, Try.results77, go_sem]) rfl ⟨⟨_, rfl⟩, unhide HS⟩
theorem rc_finish {L : List (Int × Value)} (hs : Sat E w (RcB g k next arrived issued pending done * (MapAt k.mb L * F))) :
    Calls Try.prog 100 #[.pointer (some ⟨g, 0, none⟩)] w fun e w' => (∃ v, e = .returned v) ∧ Sat E w' (RcB g k next arrived issued 0 true * (MapAt k.mb [] * F)) := by
  have d1 : w.cell? ⟨g, 2, none⟩ = some (.map (some k.mb)) := hs.cell 2
  have d3 : w.frozen? ⟨g, 13, none⟩ = false := hs.frozen 13
  have d4 : w.frozen? ⟨g, 12, none⟩ = false := hs.frozen 12
  have d5 : w.cell? ⟨g, 12, none⟩ = some (.int .i64 pending) := hs.cell 12
  have d6 : w.cell? ⟨g, 13, none⟩ = some (.bool done) := hs.cell 13
  have HS := hide ((hs.set 13 (.bool true)).set 12 (.int .i64 0))
  clear hs
  go_enter Try.func100, Try.ntmps100
  go_upto_region 1 with (fail)
  obtain ⟨w2, hw2⟩ : ∃ w2, w2 = (w.setCell ⟨g, 13, none⟩ (.bool true)).setCell ⟨g, 12, none⟩ (.int .i64 0) := ⟨_, rfl⟩
  rw [← hw2] at HS ⊢
  have d7 : w2.cell? ⟨g, 2, none⟩ = some (.map (some k.mb)) := (unhide HS).cell 2
  obtain ⟨w3, hrun, hs3⟩ := (unhide HS).f2.clearI (P := Try.prog) (T := 117) (kt := 3) (et := 79) Try.underlying117 0
  have HS3 := hide (hs3.perm (show _ = RcB g k next arrived issued 0 true * (MapAt k.mb [] * F) by unfold RcB; show MapAt _ _ * (Asn.blk _ _ #[_, _, _, _, _, _, _, _, _, _, _, _, _, _] * _) = _; unfold rcC; ac_rfl))
  clear HS hs3 d1 d3 d4 d5 d6 hw2
  go_wp2_with fail
  exact bodyPost_end (v := .tuple #[]) (by simp [results, Try.results100, go_sem]) rfl ⟨⟨_, rfl⟩, unhide HS3⟩
theorem rc_pending (hs : Sat E w (RcB g k next arrived issued pending done * F)) :
    Calls Try.prog 53 #[.pointer (some ⟨g, 0, none⟩)] w fun e w' => e = .returned (.int .i64 pending) ∧ w = w' := by
  have d0 : w.cell? ⟨g, 0, none⟩ = some (.pointer (some ⟨k.bb, 0, none⟩)) := hs.cell 0
  have d1 : w.cell? ⟨g, 12, none⟩ = some (.int .i64 pending) := hs.cell 12
  clear hs
  go_enter Try.func53, Try.ntmps53
  go_wp2_with (go_at_call 73; refine (rc_none _ _ _ d0).mono ?_; rintro e w' ⟨rfl, rfl⟩)
  go_ret
  exact ⟨rfl, rfl⟩
theorem rc_done (hs : Sat E w (RcB g k next arrived issued pending done * F)) :
    Calls Try.prog 43 #[.pointer (some ⟨g, 0, none⟩)] w fun e w' => e = .returned (.bool done) ∧ w = w' := by
  have d0 : w.cell? ⟨g, 0, none⟩ = some (.pointer (some ⟨k.bb, 0, none⟩)) := hs.cell 0
  have d1 : w.cell? ⟨g, 13, none⟩ = some (.bool done) := hs.cell 13
  clear hs
  go_enter Try.func43, Try.ntmps43
  go_wp2_with (go_at_call 73; refine (rc_none _ _ _ d0).mono ?_; rintro e w' ⟨rfl, rfl⟩)
  go_ret
  exact ⟨rfl, rfl⟩
end
end Go.Proofs.Ytdfidijlconhnaa
