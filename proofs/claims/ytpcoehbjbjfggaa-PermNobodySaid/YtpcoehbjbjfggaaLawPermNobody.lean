/- PermNobody: for every input the law returns true, and each argument reads behind the call as it read before. No condition. -/
import Derived.Test.YtpcoehbjbjfggaaRows
import Derived.Test.YtpcoehbjbjfggaaRow
import Derived.Test.YtpcoehbjbjfggaaPermNob
import Derived.WalkKit
import Derived.ProofKit
import Derived.OpenShut
import Derived.ShutString
import Derived.ChangeOld
import Derived.Below
import Derived.SizedLaws
namespace Go.Proofs.Ytpcoehbjbjfggaa.permNobody
open Go.ChangeShapes Go.WideShapes Go.ChangeAt Go.RowKit Asn
theorem own : ownKnob Try.prog.godebug = none := by kernel_rfl
theorem laidOut : laidOutB Try.prog = true := by kernel_rfl
set_option maxRecDepth 100000 in
theorem lifted (os : Os) (started : os.Started) (H : Type) (enc : TypeId × Value → H) :
    ReturnsInHanded {} Try.checked os 14 .any (Rows.permNobodySpec.pre6 enc Try.prog Try.f14 Rows.permNobodyRow.domain false) (Rows.permNobodySpec.post enc Try.prog Try.f14 false true false false) := by
  refine returnsInHanded_of_change_sized (C := Try.checked) own started (by kernel_rfl) Try.func14
    (ChangeSpec.witness6 (enc := enc) (C := Try.checked) false ⟨#[], #[.slice none 0 0], []⟩ 8 (by kernel_rfl) (by kernel_rfl) (by kernel_rfl) (by kernel_rfl)) ?_
  intro W base args ds gs before hval0 hW hcnd hsz0 _
  clear hsz0
  have hval : ∀ (j : Nat) t v, Try.f14.params[j]? = some t → args[j]? = some v → Value.okWide Try.prog W .any base t v := hval0
  have hW' := hW
  obtain ⟨p, q, hA0, hV, rfl, hfz, hnd⟩ := hW
  have hA : DataW.TrodAll enc Try.prog W 0 (fun _ => true) true Try.f14.params.toList args.toList ds p := hA0
  rw [Try.params14] at hA hval
  obtain ⟨v0, vs0, d0, ds0, p0, q0, hargs, rfl, rfl, h0, r0⟩ := trodAll_cons hA
  obtain ⟨rfl, rfl, rfl⟩ := trodAll_nil r0
  obtain rfl : args = #[v0] := by cases args; simp_all
  clear r0
  obtain ⟨rfl, rfl⟩ := trodVars_none hV
  obtain ⟨A0, n0, c0, rfl⟩ := okWide_slice Try.underlying52 (hval 0 52 v0 rfl rfl)
  have lt0 : ∀ x ∈ p0, x.block < W.heap.size := by obtain ⟨m, hm⟩ := h0; exact DataW.trod_lt m _ _ _ hm
  have tr0 := trods_of h0
  obtain ⟨A_, n_, c_, l0, he0, hn0, hc0, hA0, r0, w0⟩ := Trods.ints Try.underlying52 Try.underlying3 (by kernel_rfl) tr0
  obtain ⟨rfl, rfl, rfl⟩ : A0 = A_ ∧ n0 = n_ ∧ c0 = c_ := by simpa [Value.cells] using he0
  clear hA0 hval0
  refine (permNobody_walk W A0 n0 c0 (by unfold maxLen at hc0; omega) hn0).mono fun e W' ⟨he, bel⟩ => ?_
  subst he
  exact ⟨_, rfl, _, _, _, [], _, [], hW', trodAll_mk1 (shut_bool Try.underlying4 _), (trodAll_cons_mk (Below.trod laidOut (by kernel_rfl) (of_decide_eq_true (by kernel_rfl)) h0 bel lt0) trodAll_mk0), rfl, bel.frame _, fun h => by cases h⟩
theorem over : Rows.permNobodyRow.holds Try.pinned (OpenSpec.ofChange Rows.permNobodySpec) :=
  OpenClaim.holds_of_wide 14 Try.f14 rfl rfl rfl rfl rfl rfl rfl ⟨rfl, rfl, rfl, rfl, rfl⟩ rfl rfl rfl rfl rfl (by kernel_rfl) Try.func14 (by kernel_rfl)
    (of_decide_eq_true (by kernel_rfl)) (by unfold Func.isWrapper; first | (rw [if_pos (by decide +kernel)]; kernel_rfl) | (rw [if_neg (by decide +kernel)]; exact ⟨rfl, rfl⟩))
    (fun os started H enc _ => lifted os started H enc)
end Go.Proofs.Ytpcoehbjbjfggaa.permNobody
namespace Go.Proofs.Ytpcoehbjbjfggaa
/-- The statement. -/
theorem permNobody_holds : Rows.PermNobodySaid := permNobody.over
end Go.Proofs.Ytpcoehbjbjfggaa
#print axioms Go.Proofs.Ytpcoehbjbjfggaa.permNobody_holds
