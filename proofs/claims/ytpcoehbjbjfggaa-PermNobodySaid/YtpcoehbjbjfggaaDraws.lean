/- The program's draws: what its functions yield. -/
import Derived.Test.YtpcoehbjbjfggaaProg
import Derived.Test.YtpcoehbjbjfggaaRange
import Derived.Test.YtpcoehbjbjfggaaReg
import Derived.Deep.DeepCutAuto
import Derived.Deep.CutBlock
namespace Go.Proofs.Ytpcoehbjbjfggaa
open Go.RowKit Asn
attribute [local go_sem] Oper.semAt_some

def sh (k : Int) : Int := if k = 30 then 1073741824 else if k = 27 then 134217728 else 2147483648
/-- A number with itself, shifted down. -/
def sx (z k : Int) : Int := bits .xor .u64 z (z / sh k)
/-- A number, mixed. -/
def mx (z : Int) : Int := sx (IntKind.u64.wrap (sx (IntKind.u64.wrap (sx z 30 * 13787848793156543929)) 27 * 10723151780598845931)) 31
/-- A draw of a seed. -/
def at05 (seed i : Int) : Int := mx (IntKind.u64.wrap (seed + IntKind.u64.wrap (11400714819323198485 * IntKind.u64.wrap (IntKind.u64.wrap i + 1))))
theorem turn_call (w : World) (z k : Int) (hk : k = 30 ∨ k = 27 ∨ k = 31) : Calls Try.prog 104 #[.int .u64 z, .int .u64 k] w fun e w' => e = .returned (.int .u64 (sx z k)) ∧ w = w' := by
  rcases hk with rfl | rfl | rfl
  all_goals
    go_enter Try.func104, Try.ntmps104
    go_wp2_with fail
    go_ret
    exact ⟨rfl, rfl⟩
theorem mixed_call (w : World) (z : Int) : Calls Try.prog 100 #[.int .u64 z] w fun e w' => e = .returned (.int .u64 (mx z)) ∧ w = w' := by
  go_enter Try.func100, Try.ntmps100
  go_wp2_with (go_at_call 104; refine (turn_call _ _ _ (by decide)).mono ?_; rintro e w' ⟨rfl, rfl⟩)
  go_ret
  exact ⟨rfl, rfl⟩
theorem refmix_call (w : World) (z : Int) : Calls Try.prog 85 #[.int .u64 z] w fun e w' => e = .returned (.int .u64 (mx z)) ∧ w = w' := by
  go_enter Try.func85, Try.ntmps85
  go_wp2_with fail
  go_ret
  exact ⟨rfl, rfl⟩
theorem at_call (w : World) (s i : Int) : Calls Try.prog 81 #[.int .u64 s, .int .i64 i] w fun e w' => e = .returned (.int .u64 (at05 s i)) ∧ w = w' := by
  go_enter Try.func81, Try.ntmps81
  go_wp2_with (go_at_call 100; refine (mixed_call _ _).mono ?_; rintro e w' ⟨rfl, rfl⟩)
  go_ret
  exact ⟨rfl, rfl⟩
theorem refat_call (w : World) (s i : Int) : Calls Try.prog 34 #[.int .u64 s, .int .i64 i] w fun e w' => e = .returned (.int .u64 (at05 s i)) ∧ w = w' := by
  go_enter Try.func34, Try.ntmps34
  go_wp2_with (go_at_call 85; refine (refmix_call _ _).mono ?_; rintro e w' ⟨rfl, rfl⟩)
  go_ret
  exact ⟨by unfold at05; rw [Int.mul_comm]; rfl, rfl⟩

/-- A source at block g: its seed, how many were drawn. -/
def SrcAt (g : Nat) (s i : Int) : Asn := Asn.blk g 65 #[.int .u64 s, .int .i64 i, .bool true]
theorem new_src (w : World) (s : Int) : Calls Try.prog 23 #[.int .u64 s] w fun e w' => e = .returned (.pointer (some ⟨w.heap.size, 0, none⟩)) ∧ w' = w.alloc (.cells #[.int .u64 s, .int .i64 0, .bool true] 65) := by
  go_enter Try.func23, Try.ntmps23
  go_wp2_with fail
  go_ret
  exact ⟨rfl, rfl⟩
theorem src_none (w : World) (g : Nat) (d : Bool) (h : w.cell? ⟨g, 2, none⟩ = some (.bool d)) : Calls Try.prog 82 #[.pointer (some ⟨g, 0, none⟩)] w fun e w' => e = .returned (.bool (!d)) ∧ w = w' := by
  go_enter Try.func82, Try.ntmps82
  go_wp2_with fail
  go_ret
  exact ⟨rfl, rfl⟩
theorem src_nil (w : World) : Calls Try.prog 82 #[.pointer none] w fun e w' => e = .returned (.bool true) ∧ w = w' := by
  go_enter Try.func82, Try.ntmps82
  go_wp2_with fail
  go_ret
  exact ⟨rfl, rfl⟩
theorem draws_call (w : World) (s i : Int) : Calls Try.prog 83 #[.int .u64 s, .int .i64 i] w fun e w' => e = .returned (.func (.func 101) #[] #[.pointer (some ⟨w.heap.size + 1, 0, none⟩), .pointer (some ⟨w.heap.size, 0, none⟩)]) ∧
    w' = (w.alloc (.cells #[.int .u64 s] 38)).alloc (.cells #[.int .i64 i] 3) := by
  go_enter Try.func83, Try.ntmps83
  go_wp2_with fail
  go_ret
  exact ⟨rfl, rfl⟩

/-- What the iterator of draws reads. -/
def DrawM (a b : Nat) (s i : Int) : Asn := Asn.blk a 3 #[.int .i64 i] * Asn.blk b 38 #[.int .u64 s]
def drawE (x : Int × Int) : Array Value := #[.int .i64 x.1, .int .u64 x.2]
set_option maxRecDepth 100000 in
theorem draws_seq (E : World) (a b : Nat) (s i : Int) (h0 : 0 ≤ i) (hi : i ≤ 4611686018427387904) :
    SeqSL E Try.prog 101 #[.pointer (some ⟨a, 0, none⟩), .pointer (some ⟨b, 0, none⟩)] drawE (fun _ => DrawM a b s i)
      (fun xs => i + xs.length = 4611686018427387905) (fun _ => True) (fun pre x => x = (i + pre.length, at05 s (i + pre.length)) ∧ i + pre.length ≤ 4611686018427387904) := by
  intro l J Jx W hY hs
  have hca : ∀ {A : Asn} {W : World}, Sat E W (DrawM a b s i * A) → W.cell? ⟨a, 0, none⟩ = some (.int .i64 i) := fun h => h.asc.cell 0
  have hcb : ∀ {A : Asn} {W : World}, Sat E W (DrawM a b s i * A) → W.cell? ⟨b, 0, none⟩ = some (.int .u64 s) := fun h => h.asc.f2.cell 0
  refine callsIn_wide.1 (callsIn_of_wp (F := Fence.wide) (n := 0) Try.func101 rfl trivial ?_ rfl)
  have c0 := hca hs
  simp only [Try.ntmps101, List.size_toArray, List.length_cons, List.length_nil, Nat.reduceAdd, Nat.reduceSub, Array.replicate_succ, Array.replicate_zero, List.push_toArray, List.append_toArray, List.nil_append, List.cons_append]
  gi_wp2
  gi_loopw [4] (fun p wr => ∃ pre : List (Int × Int), p = .int .i64 (i + pre.length) ∧ i + pre.length ≤ 4611686018427387905 ∧ Sat E wr (DrawM a b s i * J pre)) (fun p _ => (4611686018427387905 - (intOf p)).toNat)
  case atStart => exact ⟨[], by simp, by simp; omega, hs⟩
  case round =>
    obtain ⟨pre, rfl, hle, hsr⟩ := hrel
    by_cases hlt : i + pre.length ≤ 4611686018427387904
    · have c1 := hcb hsr
      obtain ⟨fn, tmps, assign, body, hy, hR⟩ := hY pre (i + pre.length, at05 s (i + pre.length)) wr ⟨rfl, hlt⟩ hsr
      unfold drawE at hy
      dsimp only at hy
      gi_wp2_with (gi_at_call 81; refine (callsIn_wide.2 (at_call _ _ _)).mono ?_; rintro e w' ⟨rfl, rfl⟩)
      refine hR.mono ?_
      rintro e w2 (⟨rfl, hs2⟩ | ⟨rfl, hs2⟩)
      · have hs3 := hide hs2
        clear hsr hR hy hs2 c1
        gi_wp2
        refine ⟨⟨pre ++ [(i + pre.length, at05 s (i + pre.length))], ?_, by simp; omega, unhide hs3⟩, by simp [intOf]; omega⟩
        simp; omega
      · have hs3 := hide hs2
        clear hsr hR hy hs2 c1
        gi_wp2
        refine bodyPost_ret (results_none rfl _ _ _) rfl ?_
        exact ⟨⟨_, rfl⟩, .inr ⟨_, trivial, unhide hs3⟩⟩
    · have hs3 := hide hsr
      clear hsr
      gi_wp2
      go_end0
      exact ⟨⟨_, rfl⟩, .inl ⟨pre, by omega, unhide hs3⟩⟩

theorem runsto {P : Program} {Q : Prop} (h : Q) : Q := h
set_option maxRecDepth 100000 in
theorem src_next (E w : World) (F : Asn) (g : Nat) (s i : Int) (h0 : 0 ≤ i) (hi : i ≤ 1000000) (hs : Sat E w (SrcAt g s i * F)) :
    Calls Try.prog 26 #[.pointer (some ⟨g, 0, none⟩)] w fun e w' => e = .returned (.int .u64 (at05 s i)) ∧ Sat E w' (SrcAt g s (i + 1) * F) := by
  have hs1 := (hs.alloc #[.pointer (some ⟨g, 0, none⟩)] 40).alloc #[.int .u64 0] 38
  rw [World.size_alloc] at hs1
  have c2 : ((w.alloc (.cells #[.pointer (some ⟨g, 0, none⟩)] 40)).alloc (.cells #[.int .u64 0] 38)).cell? ⟨g, 2, none⟩ = some (.bool true) := hs1.f3.cell 2
  have hg : g < w.heap.size := hs.lt
  refine callsIn_wide.1 (callsIn_of_wp_marks (F := Fence.wide) (n := 0) Try.func26 rfl trivial (wpIn_wide.2 ?_) rfl)
  simp only [Try.ntmps26, List.size_toArray, List.length_cons, List.length_nil, Nat.reduceAdd, Nat.reduceSub, Array.replicate_succ, Array.replicate_zero, List.push_toArray, List.append_toArray, List.nil_append, List.cons_append]
  go_wp2_with (go_at_call 82; refine (src_none _ _ _ c2).mono ?_; rintro e w' ⟨rfl, rfl⟩)
  refine wp_region_sl (Q := _) (E := E) (fun W => W.cell? ⟨w.heap.size, 0, none⟩ = some (.pointer (some ⟨g, 0, none⟩)) ∧ W.cell? ⟨g, 0, none⟩ = some (.int .u64 s) ∧ W.cell? ⟨g, 1, none⟩ = some (.int .i64 i)) [8] [] [] (fun _ => (0, #[], fun _ => undef)) [0, 1, 2, 3, 4, 5, 6, 7, 8] (by kernel_rfl) (by kernel_rfl) hs1 (fun W R h => ⟨h.left.f2.cell 0, h.left.f3.cell 0, h.left.f3.cell 1⟩) ?_
  iterate 8
    refine wpS_f _ rfl rfl (v := ?_) ?_ ?_
    rotate_left
    · intro W hW
      obtain ⟨d0, d1, d2⟩ := hW
      go_simp
      rfl
    go_simp
  refine wpS_e _ rfl rfl (fun W R hW => ?_)
  refine stp_call rfl (by go_simp) ((draws_call W s i).mono ?_)
  rintro e w2 ⟨rfl, rfl⟩
  have hs2 := (hW.alloc #[.int .u64 s] 38).alloc #[.int .i64 i] 3
  rw [World.size_alloc] at hs2
  generalize W.heap.size = z at hs2 ⊢
  refine ⟨_, rfl, Asn.blk (z + 1) 3 #[.int .i64 i] * (Asn.blk z 38 #[.int .u64 s] * (Asn.blk (w.heap.size + 1) 38 #[.int .u64 0] * (Asn.blk w.heap.size 40 #[.pointer (some ⟨g, 0, none⟩)] * (SrcAt g s i * F)))),
    fun W R h => ⟨h.left.f4.cell 0, h.left.f5.cell 0, h.left.f5.cell 1⟩, hs2.perm (by ac_rfl), ?_⟩
  clear hs2 hW hs1 c2
  go_simp
  refine wpS_n (fun w3 hs3 => ?_)
  go_wp2_with fail
  refine wpIn_wide.1 (wpIn_rangeFunc_sl (E := E) (α := Int × Int) (R := F) (draws_seq E (z + 1) z s i h0 (by omega)) rfl (enters_of Try.func101 (by kernel_rfl) rfl) (fun x => rfl)
    (fun pre => Asn.fact (pre = []) * (Asn.blk (w.heap.size + 1) 38 #[.int .u64 0] * (Asn.blk w.heap.size 40 #[.pointer (some ⟨g, 0, none⟩)] * SrcAt g s i)))
    (fun c pre => Asn.fact (c = .ret) * (Asn.blk (w.heap.size + 1) 38 #[.int .u64 (at05 s i)] * (Asn.blk w.heap.size 40 #[.pointer (some ⟨g, 0, none⟩)] * SrcAt g s (i + 1)))) ?h0 ?round ?done ?stop)
  case h0 =>
    exact (Sat.mkFact (p := ([] : List (Int × Int)) = []) rfl hs3).perm (by unfold DrawM; ac_rfl)
  case round =>
    rintro l pre x ⟨rfl, hle⟩ T W hsW
    obtain ⟨rfl, hsW⟩ := Sat.fact (p := pre = []) (F := (DrawM (z + 1) z s i * (Asn.blk (w.heap.size + 1) 38 #[.int .u64 0] * (Asn.blk w.heap.size 40 #[.pointer (some ⟨g, 0, none⟩)] * SrcAt g s i))) * T) (hsW.perm (by ac_rfl))
    unfold drawE
    gi_wp2
    refine ⟨_, hsW, ?_⟩
    intro W2 T3 rec hs2
    have hs4 : Sat E W2 (SrcAt g s i * (Asn.blk (w.heap.size + 1) 38 #[.int .u64 0] * (Asn.blk w.heap.size 40 #[.pointer (some ⟨g, 0, none⟩)] * (DrawM (z + 1) z s i * (Asn.obj l (.loop rec) * T3))))) := (Sat.right (A := Asn.fact True) (hs2.perm (by ac_rfl)))
    have d0 : W2.cell? ⟨w.heap.size, 0, none⟩ = some (.pointer (some ⟨g, 0, none⟩)) := hs4.f3.cell 0
    have d1 : W2.cell? ⟨g, 1, none⟩ = some (.int .i64 i) := hs4.cell 1
    have d2 : W2.frozen? ⟨g, 1, none⟩ = false := hs4.frozen 1
    have d3 : W2.cell? ⟨w.heap.size + 1, 0, none⟩ = some (.int .u64 0) := hs4.f2.cell 0
    have d4 : W2.frozen? ⟨w.heap.size + 1, 0, none⟩ = false := hs4.f2.frozen 0
    have hs5 := hide (show Sat E _ (Asn.blk (w.heap.size + 1) 38 #[.int .u64 (at05 s i)] * (SrcAt g s (i + 1) * (Asn.blk w.heap.size 40 #[.pointer (some ⟨g, 0, none⟩)] * (DrawM (z + 1) z s i * (Asn.obj l (.loop rec) * T3))))) from (hs4.set 1 (.int .i64 (i + 1))).f2.set 0 (.int .u64 (at05 s i)))
    clear hs4 hs2 hsW
    gi_wp2
    exact (Sat.mkFact (p := Code.ret = Code.ret) rfl (unhide hs5)).perm (by show _ = (DrawM _ _ _ _ * (Asn.fact _ * (Asn.blk _ _ _ * (Asn.blk _ _ _ * SrcAt _ _ _)))) * (Asn.obj l (.loop rec) * T3); ac_rfl)
  case done =>
    rintro D xs W hx hsW
    obtain ⟨rfl, hsW⟩ := Sat.fact (p := xs = []) (F := (DrawM (z + 1) z s i * ((Asn.blk (w.heap.size + 1) 38 #[.int .u64 0] * (Asn.blk w.heap.size 40 #[.pointer (some ⟨g, 0, none⟩)] * SrcAt g s i)) * (Asn.obj D (.deferred (some [])) * F)))) (hsW.perm (by ac_rfl))
    simp at hx
    omega
  case stop =>
    rintro D c pre W _ hsW
    obtain ⟨rfl, hsX⟩ := Sat.fact (p := c = .ret) (F := Asn.obj D (.deferred (some [])) * (Asn.blk (w.heap.size + 1) 38 #[.int .u64 (at05 s i)] * (Asn.blk w.heap.size 40 #[.pointer (some ⟨g, 0, none⟩)] * (SrcAt g s (i + 1) * (DrawM (z + 1) z s i * F))))) (hsW.perm (by ac_rfl))
    have hs5 := sat_putObj (o' := .deferred none) hsX
    have e1 := hs5.f2.cell 0
    gi_wp2
    refine ⟨by simp, .inl ⟨_, _, rfl, run_takeDeferred hsX.obj, ?_⟩⟩
    refine ⟨_, by simp [results, Try.results26, go_sem, e1], rfl, (hs5.right.f3.perm (B := (SrcAt g s (i + 1) * F) * (DrawM (z + 1) z s i * (Asn.blk (w.heap.size + 1) 38 #[.int .u64 (at05 s i)] * Asn.blk w.heap.size 40 #[.pointer (some ⟨g, 0, none⟩)]))) (by ac_rfl)).left⟩
end Go.Proofs.Ytpcoehbjbjfggaa
