/- The document's perm: begin, New, Next, Renew. -/
import Derived.Test.YtpcoehbjbjfggaaRef06
import Derived.Test.YtpcoehbjbjfggaaRef05
namespace Go.Proofs.Ytpcoehbjbjfggaa
open Go.RowKit Asn

/-- The document's list, as cells. -/
def refC (s i : Int) (pv lv : Value) (rn : Int) (td : Nat → Int) : Array Value :=
  #[.int .u64 s, .int .i64 i, pv, lv, .int .i64 rn, .int .i64 (td 0), .int .i64 (td 1), .int .i64 (td 2), .int .i64 (td 3), .int .i64 (td 4), .int .i64 (td 5), .int .i64 (td 6), .int .i64 (td 7)]
theorem refC_one (s i : Int) (A B : Option Addr) (n c m d : Nat) (rn : Int) (td : Nat → Int) : (refC s i (.slice A n c) (.slice B m d) rn td).all (·.oneCell') = true := by
  rw [← Array.all_toList]
  rfl
theorem refC_td (s i : Int) (pv lv : Value) (rn : Int) (td : Nat → Int) {p : Nat} (hp : p < 8) (x : Int) : (refC s i pv lv rn td).setIfInBounds (5 + p) (.int .i64 x) = refC s i pv lv rn (addT td p x) := by
  rcases (by omega : p = 0 ∨ p = 1 ∨ p = 2 ∨ p = 3 ∨ p = 4 ∨ p = 5 ∨ p = 6 ∨ p = 7) with rfl | rfl | rfl | rfl | rfl | rfl | rfl | rfl <;> simp [refC, addT]
theorem refC_get (s i : Int) (pv lv : Value) (rn : Int) (td : Nat → Int) {p : Nat} (hp : p < 8) : (refC s i pv lv rn td)[5 + p]? = some (.int .i64 (td p)) := by
  rcases (by omega : p = 0 ∨ p = 1 ∨ p = 2 ∨ p = 3 ∨ p = 4 ∨ p = 5 ∨ p = 6 ∨ p = 7) with rfl | rfl | rfl | rfl | rfl | rfl | rfl | rfl <;> rfl
section
variable {E w : World} {F X : Asn} {g : Nat} {s i i' : Int} {pv lv v : Value} {rn q : Int} {td : Nat → Int} {t : TypeId}
theorem refSrc (h : Sat E w (Asn.blk g t (refC s i pv lv rn td) * F)) (i' : Int) : Sat E ((w.setCell ⟨g, 0, none⟩ (.int .u64 s)).setCell ⟨g, 1, none⟩ (.int .i64 i')) (Asn.blk g t (refC s i' pv lv rn td) * F) := by
  have := (h.set 0 (.int .u64 s)).set 1 (.int .i64 i')
  have e : ((refC s i pv lv rn td).setIfInBounds 0 (.int .u64 s)).setIfInBounds 1 (.int .i64 i') = refC s i' pv lv rn td := by simp [refC]
  rwa [e] at this
theorem refPaths (h : Sat E w (Asn.blk g t (refC s i pv lv rn td) * F)) (v : Value) : Sat E (w.setCell ⟨g, 2, none⟩ v) (Asn.blk g t (refC s i v lv rn td) * F) := by
  have := h.set 2 v
  have e : (refC s i pv lv rn td).setIfInBounds 2 v = refC s i v lv rn td := by simp [refC]
  rwa [e] at this
theorem refLeft (h : Sat E w (Asn.blk g t (refC s i pv lv rn td) * F)) (v : Value) : Sat E (w.setCell ⟨g, 3, none⟩ v) (Asn.blk g t (refC s i pv v rn td) * F) := by
  have := h.set 3 v
  have e : (refC s i pv lv rn td).setIfInBounds 3 v = refC s i pv v rn td := by simp [refC]
  rwa [e] at this
theorem refRn (h : Sat E w (Asn.blk g t (refC s i pv lv rn td) * F)) (q : Int) : Sat E (w.setCell ⟨g, 4, none⟩ (.int .i64 q)) (Asn.blk g t (refC s i pv lv q td) * F) := by
  have := h.set 4 (.int .i64 q)
  have e : (refC s i pv lv rn td).setIfInBounds 4 (.int .i64 q) = refC s i pv lv q td := by simp [refC]
  rwa [e] at this
theorem refTd (h : Sat E w (Asn.blk g t (refC s i pv lv rn td) * F)) {p : Nat} (hp : p < 8) (x : Int) : Sat E (w.setCell ⟨g, 5 + p, none⟩ (.int .i64 x)) (Asn.blk g t (refC s i pv lv rn (addT td p x)) * F) := by
  have := h.set (5 + p) (.int .i64 x)
  rwa [refC_td _ _ _ _ _ _ hp] at this
end
/-- What begin leaves. -/
def RBeg (E : World) (F : Asn) (s i : Int) (R : List Int) (A : Option Addr) (n c : Nat) (rn : Int) (td : Nat → Int) (e : Ending) (w' : World) : Prop :=
  ∃ B d M, e = .returned (.agg (refC s (i + (R.length - 1 : Nat)) (.slice A n c) (.slice B M.length d) (wrap64 (rn + 1)) td)) ∧ ints M = shufL s (R.length - 1) i (ints R) ∧ M.Perm R ∧ Sat E w' (sl 3 1 B M.length d (ints M) * F)
set_option maxHeartbeats 4000000 in
set_option maxRecDepth 100000 in
theorem rbegin (E w : World) (F : Asn) (s i : Int) (R : List Int) (A B : Option Addr) (n c m d : Nat) (rn : Int) (td : Nat → Int) (hs : Sat E w F) (hr : RS F A n c R) (hn : R.length ≤ 8) (h0 : 0 ≤ i) (hi : i ≤ 900000) :
    Calls Try.prog 98 #[.agg (refC s i (.slice A n c) (.slice B m d) rn td)] w (RBeg E F s i R A n c rn td) := by
  obtain ⟨L, hL, hLp⟩ := shufI s i R (by omega)
  have hnR := hr.len hs
  have hll : L.length = n := by rw [hLp.length_eq, hnR]
  have HLP := hide hLp
  have HLL := hide hL
  have hs1 := hs.alloc (refC s i (.slice A n c) (.slice B m d) rn td) 122
  have hs2 := hs1.alloc (refC 0 0 (.slice none 0 0) (.slice none 0 0) 0 fun _ => 0) 122
  rw [World.size_alloc] at hs2
  have hsh := refShuf E _ _ n c s i A (ints R) hs2 hr.rd.right.right ints_int (by omega) h0 hi
  rw [show n - 1 = R.length - 1 by omega, hL] at hsh
  have HSH := hide hsh
  have hfin : Hid (∀ W D c3, Sat E W (sl 3 1 D n c3 (ints L) * F) → RBeg E F s i R A n c rn td (.returned (.agg (refC s (i + (R.length - 1 : Nat)) (.slice A n c) (.slice D n c3) (wrap64 (rn + 1)) td))) W) := fun W D c3 h => ⟨D, c3, L, by rw [hll], hL.symm, hLp, by rw [hll]; exact h⟩
  obtain ⟨k, hk⟩ : ∃ k : Nat, k = R.length - 1 := ⟨_, rfl⟩
  rw [← hk] at hfin HSH
  clear hs hs1 hs2 hsh hr hL hLp hll hnR hk
  go_enter Try.func98, Try.ntmps98
  unfold refC
  go_wp2_with fail
  unfold refC at HSH
  refine (unhide HSH).mono ?_
  rintro e w2 ⟨D, c3, rfl, hs3⟩
  have k0 : w2.cell? ⟨w.heap.size, 0, none⟩ = some (.int .u64 s) := hs3.f3.cell 0
  have k1 : w2.cell? ⟨w.heap.size, 1, none⟩ = some (.int .i64 i) := hs3.f3.cell 1
  have k3 : w2.cell? ⟨w.heap.size, 3, none⟩ = some (.slice B m d) := hs3.f3.cell 3
  have k4 : w2.cell? ⟨w.heap.size, 4, none⟩ = some (.int .i64 rn) := hs3.f3.cell 4
  have kf : ∀ j, w2.frozen? ⟨w.heap.size, j, none⟩ = false := fun j => hs3.f3.frozen j
  have kl : w.heap.size < w2.heap.size := Sat.lt (o := .cells _ _ (0, 0)) hs3.f3
  have kl1 : w.heap.size + 1 < w2.heap.size := Sat.lt (o := .cells _ _ (0, 0)) hs3.f2
  have hb3 : Sat E w2 (Asn.blk w.heap.size 122 (refC s i (.slice A n c) (.slice B m d) rn td) * _) := hs3.f3
  have hs4 := (refRn (refLeft (refSrc hb3 (i + k)) (.slice D n c3)) (wrap64 (rn + 1))).alloc #[.int .u64 s, .int .i64 (i + k)] 43
  have HB := Lib.hid hs4.f2.blk
  have HZ := Lib.hid hs4.f4.blk
  have hs5 := hs4.f4.row (refC s (i + k) (.slice A n c) (.slice D n c3) (wrap64 (rn + 1)) td)
  have HF := Lib.hid hs5.blk
  have HS := hide (hs5.perm (show _ = (sl 3 1 D n c3 (ints L) * F) * (_ * (_ * _)) by ac_rfl)).left
  clear hs3 hb3 hs4 hs5
  go_upto_region 5 with (fail)
  go_wp2_with (first
    | (refine wpList_load_row rfl 122 (.tmp 1) rfl w.heap.size rfl 122 (refC s (i + k) (.slice A n c) (.slice D n c3) (wrap64 (rn + 1)) td) (0, 0) _ HB.out Try.underlying122 rfl (by kernel_rfl) ?_)
    | (refine wpList_store_row rfl 122 (.tmp 2) (.tmp 21) rfl (w.heap.size + 1) (refC s (i + k) (.slice A n c) (.slice D n c3) (wrap64 (rn + 1)) td) rfl rfl 122 _ HZ.out (by kernel_rfl) rfl (refC_one _ _ _ _ _ _ _ _ _ _) ?_))
  exact bodyPost_ret (results_cell_row (p := 2) rfl _ _ _ _ _ _ _ rfl HF.out Try.underlying122 rfl (by kernel_rfl)) rfl (unhide hfin _ _ _ (unhide HS))
end Go.Proofs.Ytpcoehbjbjfggaa
