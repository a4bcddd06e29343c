/- SendqRuns: for every input the law returns true, and each argument reads behind the call as it read before. No condition. -/
import Derived.Test.YtdfidijlconhnaaRows
import Derived.Test.YtdfidijlconhnaaRow
import Derived.Test.YtdfidijlconhnaaSqRunsArg
import Derived.WalkKit
import Derived.ProofKit
import Derived.OpenShut
import Derived.ShutString
import Derived.ChangeOld
import Derived.Below
import Derived.SizedLaws
namespace Go.Proofs.Ytdfidijlconhnaa.sendqRuns
open Go.ChangeShapes Go.WideShapes Go.ChangeAt Go.RowKit Asn
theorem own : ownKnob Try.prog.godebug = none := by kernel_rfl
theorem laidOut : laidOutB Try.prog = true := by kernel_rfl
set_option maxRecDepth 100000 in
theorem lifted (os : Os) (started : os.Started) (H : Type) (enc : TypeId × Value → H) :
    ReturnsInHanded {} Try.checked os 4 .any (Rows.sendqRunsSpec.pre6 enc Try.prog Try.f4 Rows.sendqRunsRow.domain false) (Rows.sendqRunsSpec.post enc Try.prog Try.f4 false true false false) := by
  refine returnsInHanded_of_change_sized (C := Try.checked) own started (by kernel_rfl) Try.func4
    (ChangeSpec.witness6 (enc := enc) (C := Try.checked) false ⟨#[], #[.int .i64 0, .slice none 0 0], []⟩ 8 (by kernel_rfl) (by kernel_rfl) (by kernel_rfl) (by kernel_rfl)) ?_
  intro W base args ds gs before hval0 hW hcnd hsz0 _
  clear hsz0
  have hval : ∀ (j : Nat) t v, Try.f4.params[j]? = some t → args[j]? = some v → Value.okWide Try.prog W .any base t v := hval0
  have hW' := hW
  obtain ⟨p, q, hA0, hV, rfl, hfz, hnd⟩ := hW
  have hA : DataW.TrodAll enc Try.prog W 0 (fun _ => true) true Try.f4.params.toList args.toList ds p := hA0
  rw [Try.params4] at hA hval
  obtain ⟨v0, vs0, d0, ds0, p0, q0, hargs, rfl, rfl, h0, r0⟩ := trodAll_cons hA
  obtain ⟨v1, vs1, d1, ds1, p1, q1, rfl, rfl, rfl, h1, r1⟩ := trodAll_cons r0
  obtain ⟨rfl, rfl, rfl⟩ := trodAll_nil r1
  obtain rfl : args = #[v0, v1] := by cases args; simp_all
  clear r0
  clear r1
  obtain ⟨rfl, rfl⟩ := trodVars_none hV
  obtain ⟨a0, rfl, rfl, rfl, w0⟩ := open_int Try.underlying3 (hval 0 3 v0 rfl rfl) h0
  obtain ⟨A1, n1, c1, rfl⟩ := okWide_slice Try.underlying38 (hval 1 38 v1 rfl rfl)
  have lt1 : ∀ x ∈ p1, x.block < W.heap.size := by obtain ⟨m, hm⟩ := h1; exact DataW.trod_lt m _ _ _ hm
  have tr1 := trods_of h1
  obtain ⟨A_, n_, c_, xs1, he1, hn1, hc1, r1, hA1, hb1, hi1⟩ := Trods.slice Try.underlying38 tr1
  obtain ⟨rfl, rfl, rfl⟩ : A1 = A_ ∧ n1 = n_ ∧ c1 = c_ := by simpa [Value.cells] using he1
  have hz1 : Try.prog.cellsOf 45 = 3 := by kernel_rfl
  rw [hz1] at r1 hi1
  clear hA0 hval0
  refine (sendqRuns_walk W A1 n1 c1 a0 xs1 r1 (fun k hk => op13At_of r1.1 hk (hi1 k hk)) (by unfold maxLen at hc1; omega)).mono fun e W' ⟨he, bel⟩ => ?_
  subst he
  exact ⟨_, rfl, _, _, _, [], _, [], hW', trodAll_mk1 (shut_bool Try.underlying4 _), (trodAll_cons_mk (shut_int Try.underlying3 w0) (trodAll_cons_mk (Below.trod laidOut (by kernel_rfl) (of_decide_eq_true (by kernel_rfl)) h1 bel lt1) trodAll_mk0)), rfl, bel.frame _, fun h => by cases h⟩
theorem over : Rows.sendqRunsRow.holds Try.pinned (OpenSpec.ofChange Rows.sendqRunsSpec) :=
  OpenClaim.holds_of_wide 4 Try.f4 rfl rfl rfl rfl rfl rfl rfl ⟨rfl, rfl, rfl, rfl, rfl⟩ rfl rfl rfl rfl rfl (by kernel_rfl) Try.func4 (by kernel_rfl)
    (of_decide_eq_true (by kernel_rfl)) (by unfold Func.isWrapper; first | (rw [if_pos (by decide +kernel)]; kernel_rfl) | (rw [if_neg (by decide +kernel)]; exact ⟨rfl, rfl⟩))
    (fun os started H enc _ => lifted os started H enc)
end Go.Proofs.Ytdfidijlconhnaa.sendqRuns
namespace Go.Proofs.Ytdfidijlconhnaa
/-- The statement. -/
theorem sendqRuns_holds : Rows.SendqRunsSaid := sendqRuns.over
end Go.Proofs.Ytdfidijlconhnaa
#print axioms Go.Proofs.Ytdfidijlconhnaa.sendqRuns_holds
