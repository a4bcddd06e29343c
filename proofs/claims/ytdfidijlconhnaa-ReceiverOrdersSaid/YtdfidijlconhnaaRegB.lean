/- Regions: append as an effect; a new block read. Nothing of the program is named here. -/
import Derived.Test.YtdfidijlconhnaaReg
import Derived.Test.YtdfidijlconhnaaSlFro
namespace Go.Proofs.Ytdfidijlconhnaa
open Go.RowKit Asn
section
variable {P : Program} {ops : Array Oper} {a : Act}
theorem stp_append {o : Oper} {w w' : World} {K : Value → World → Prop} {v u u' : Value} {t s : TypeId} (hw : Region.wanted o (yielded ops a.tmps) = true) (x y : Operand)
    (ho : o.op = .call { callee := .builtin .append, args := #[x, y], argTypes := #[t, s] }) (hx : a.eval x = u) (hy : a.eval y = u')
    (hrun : (Builtin.append_ #[t, s] o.type #[u, u']).run P w = .ok v w') (hk : K v w') : stp P ops o a w K := by
  unfold stp
  rw [if_pos hw]
  simp [execOp, ho, resolve, invoke, builtin, hx, hy, hrun, Result.andThen, stpUpon]
  exact hk
end
theorem Sat.rdBlk {E w : World} {F : Asn} {g : Nat} {t : TypeId} {cs : Array Value} {n z : Nat} (h : Sat E w (Asn.blk g t cs * F)) (hl : cs.size = n * z) : RdW w (some ⟨g, 0, none⟩) n z cs.toList :=
  ⟨by simpa using hl, fun _ => ⟨_, rfl, fun j u hu => by rw [add_lit']; rw [Nat.zero_add, h.cell]; simpa using hu⟩⟩
/-- Two blocks that are owned are two. -/
theorem Sat.ne {E w : World} {F : Asn} {g h : Nat} {o p : Obj} (hs : Sat E w (Asn.obj g o * (Asn.obj h p * F))) : g ≠ h := by
  rintro rfl
  obtain ⟨_, _, _, x, _, a, b, hd, _, ha, c, d, _, rfl, hc, _⟩ := hs
  have ha : a = Hp.one g o := ha
  have hc : c = Hp.one g p := hc
  subst ha hc
  rcases hd g with h | h
  · simp [Hp.one] at h
  · simp [Hp.un, Hp.one] at h
end Go.Proofs.Ytdfidijlconhnaa
