/- ReceiverOrders: for all messages, sizes and picks the law returns true, and each argument reads behind the call as it read before. No condition. -/
import Derived.Test.YtdfidijlconhnaaRows
import Derived.Test.YtdfidijlconhnaaRow
import Derived.Test.YtdfidijlconhnaaRcQA
import Derived.WalkKit
import Derived.ProofKit
import Derived.OpenShut
import Derived.ShutString
import Derived.ChangeOld
import Derived.Below
import Derived.SizedLaws
namespace Go.Proofs.Ytdfidijlconhnaa.receiverOrders
open Go.ChangeShapes Go.WideShapes Go.ChangeAt Go.RowKit Asn
theorem own : ownKnob Try.prog.godebug = none := by kernel_rfl
theorem laidOut : laidOutB Try.prog = true := by kernel_rfl
set_option maxRecDepth 100000 in
theorem lifted (os : Os) (started : os.Started) (H : Type) (enc : TypeId × Value → H) :
    ReturnsInHanded {} Try.checked os 6 .any (Rows.receiverOrdersSpec.pre6 enc Try.prog Try.f6 Rows.receiverOrdersRow.domain false) (Rows.receiverOrdersSpec.post enc Try.prog Try.f6 false true false false) := by
  refine returnsInHanded_of_change_sized (C := Try.checked) own started (by kernel_rfl) Try.func6
    (ChangeSpec.witness6 (enc := enc) (C := Try.checked) false ⟨#[], #[.slice none 0 0, .int .u8 0, .int .u8 0, .slice none 0 0], []⟩ 8 (by kernel_rfl) (by kernel_rfl) (by kernel_rfl) (by kernel_rfl)) ?_
  intro W base args ds gs before hval0 hW hcnd hsz0 _
  clear hsz0
  have hval : ∀ (j : Nat) t v, Try.f6.params[j]? = some t → args[j]? = some v → Value.okWide Try.prog W .any base t v := hval0
  have hW' := hW
  obtain ⟨p, q, hA0, hV, rfl, hfz, hnd⟩ := hW
  have hA : DataW.TrodAll enc Try.prog W 0 (fun _ => true) true Try.f6.params.toList args.toList ds p := hA0
  rw [Try.params6] at hA hval
  obtain ⟨v0, vs0, d0, ds0, p0, q0, hargs, rfl, rfl, h0, r0⟩ := trodAll_cons hA
  obtain ⟨v1, vs1, d1, ds1, p1, q1, rfl, rfl, rfl, h1, r1⟩ := trodAll_cons r0
  obtain ⟨v2, vs2, d2, ds2, p2, q2, rfl, rfl, rfl, h2, r2⟩ := trodAll_cons r1
  obtain ⟨v3, vs3, d3, ds3, p3, q3, rfl, rfl, rfl, h3, r3⟩ := trodAll_cons r2
  obtain ⟨rfl, rfl, rfl⟩ := trodAll_nil r3
  obtain rfl : args = #[v0, v1, v2, v3] := by cases args; simp_all
  clear r0
  clear r1
  clear r2
  clear r3
  obtain ⟨rfl, rfl⟩ := trodVars_none hV
  obtain ⟨A0, n0, c0, rfl⟩ := okWide_slice Try.underlying67 (hval 0 67 v0 rfl rfl)
  have lt0 : ∀ x ∈ p0, x.block < W.heap.size := by obtain ⟨m, hm⟩ := h0; exact DataW.trod_lt m _ _ _ hm
  have tr0 := trods_of h0
  obtain ⟨A_, n_, c_, rs0, ls0, he0, hn0, hc0, hrl0, hll0, r0, hcap0, rr0⟩ := Trods.rows Try.underlying67 Try.underlying22 Try.underlying5 (by kernel_rfl) (by kernel_rfl) tr0
  obtain ⟨rfl, rfl, rfl⟩ : A0 = A_ ∧ n0 = n_ ∧ c0 = c_ := by simpa [Value.cells] using he0
  obtain ⟨a1, rfl, rfl, rfl, w1⟩ := open_int Try.underlying5 (hval 1 5 v1 rfl rfl) h1
  obtain ⟨a2, rfl, rfl, rfl, w2⟩ := open_int Try.underlying5 (hval 2 5 v2 rfl rfl) h2
  obtain ⟨A3, n3, c3, rfl⟩ := okWide_slice Try.underlying68 (hval 3 68 v3 rfl rfl)
  have lt3 : ∀ x ∈ p3, x.block < W.heap.size := by obtain ⟨m, hm⟩ := h3; exact DataW.trod_lt m _ _ _ hm
  have tr3 := trods_of h3
  obtain ⟨A_, n_, c_, xs3, he3, hn3, hc3, r3, hA3, hb3, hi3⟩ := Trods.slice Try.underlying68 tr3
  obtain ⟨rfl, rfl, rfl⟩ : A3 = A_ ∧ n3 = n_ ∧ c3 = c_ := by simpa [Value.cells] using he3
  have hz3 : Try.prog.cellsOf 81 = 2 := by kernel_rfl
  rw [hz3] at r3 hi3
  clear hA0 hval0
  refine (receiverOrders_of W A0 A3 n0 c0 n3 c3 a1 a2 rs0 ls0 xs3 ⟨hrl0, RdW.exact r0, ⟨by rw [hrl0, hll0], fun i r l a b => ⟨RdW.exact (rr0 i r l a b), by have := hcap0 r (List.mem_of_getElem? a); unfold maxLen at this; omega⟩⟩, hcap0, by unfold maxLen at hc0; omega⟩ w1 w2 r3 (by unfold maxLen at hc3; omega) (fun k hk => pickAt_of r3.1 hk (hi3 k hk))).mono fun e W' ⟨he, bel⟩ => ?_
  subst he
  exact ⟨_, rfl, _, _, _, [], _, [], hW', trodAll_mk1 (shut_bool Try.underlying4 _), (trodAll_cons_mk (Below.trod laidOut (by kernel_rfl) (of_decide_eq_true (by kernel_rfl)) h0 bel lt0) (trodAll_cons_mk (shut_int Try.underlying5 w1) (trodAll_cons_mk (shut_int Try.underlying5 w2) (trodAll_cons_mk (Below.trod laidOut (by kernel_rfl) (of_decide_eq_true (by kernel_rfl)) h3 bel lt3) trodAll_mk0)))), rfl, bel.frame _, fun h => by cases h⟩
theorem over : Rows.receiverOrdersRow.holds Try.pinned (OpenSpec.ofChange Rows.receiverOrdersSpec) :=
  OpenClaim.holds_of_wide 6 Try.f6 rfl rfl rfl rfl rfl rfl rfl ⟨rfl, rfl, rfl, rfl, rfl⟩ rfl rfl rfl rfl rfl (by kernel_rfl) Try.func6 (by kernel_rfl)
    (of_decide_eq_true (by kernel_rfl)) (by unfold Func.isWrapper; first | (rw [if_pos (by decide +kernel)]; kernel_rfl) | (rw [if_neg (by decide +kernel)]; exact ⟨rfl, rfl⟩))
    (fun os started H enc _ => lifted os started H enc)
end Go.Proofs.Ytdfidijlconhnaa.receiverOrders
namespace Go.Proofs.Ytdfidijlconhnaa
/-- The statement. -/
theorem receiverOrders_holds : Rows.ReceiverOrdersSaid := receiverOrders.over
end Go.Proofs.Ytdfidijlconhnaa
#print axioms Go.Proofs.Ytdfidijlconhnaa.receiverOrders_holds
