/- The program's bitmap: New; where there is none. -/
import Derived.Test.YtdfidijlconhnaaBitK
namespace Go.Proofs.Ytdfidijlconhnaa
open Go.RowKit Asn
attribute [local go_sem] Oper.semAt_some

theorem bit_new (E w : World) (F : Asn) (sz ba : Nat) (hs : Sat E w F) (h1 : 1 ≤ sz) (h2 : sz ≤ 256) (h3 : ba ≤ 1152921504606846976) :
    Calls Try.prog 71 #[.int .i64 sz, .int .i64 ba] w fun e w' => ∃ g, e = .returned (.tuple #[.pointer (some ⟨g, 0, none⟩), .int .i64 0]) ∧ Sat E w' (BitAt g (fun _ => 0) sz ba * F) := by
  have hs1 := hide (hs.alloc #[.int .u64 0, .int .u64 0, .int .u64 0, .int .u64 0, .int .i64 sz, .int .i64 ba] 162)
  clear hs
  go_enter Try.func71, Try.ntmps71
  go_wp2_with fail
  go_ret2
  exact ⟨_, rfl, unhide hs1⟩
theorem bit_new_no (w : World) (sz ba : Int) (h : ¬ (1 ≤ sz ∧ sz ≤ 256 ∧ 0 ≤ ba ∧ ba ≤ 1152921504606846976)) :
    Calls Try.prog 71 #[.int .i64 sz, .int .i64 ba] w fun e w' => e = .returned (.tuple #[.pointer none, .int .i64 100]) ∧ w = w' := by
  go_enter Try.func71, Try.ntmps71
  go_wp2_with fail
  all_goals first
    | (exfalso; omega)
    | (go_ret2; exact ⟨rfl, rfl⟩)
theorem bit_unmade (w : World) (g : Nat) (h : w.cell? ⟨g, 4, none⟩ = some (.int .i64 0)) : Calls Try.prog 96 #[.pointer (some ⟨g, 0, none⟩)] w fun e w' => e = .returned (.bool true) ∧ w = w' := bit_none w g 0 h

section
variable {p : Value} {w : World}
theorem bitn_set (n : Int) (hn : Hid (Calls Try.prog 96 #[p] w fun e w' => e = .returned (.bool true) ∧ w = w')) :
    Calls Try.prog 78 #[p, .int .i64 n] w fun e w' => e = .returned (.tuple #[.bool false, .int .i64 4]) ∧ w = w' := by
  go_enter Try.func78, Try.ntmps78
  go_wp2_with (go_at_call 96; refine (unhide hn).mono ?_; rintro e w' ⟨rfl, rfl⟩)
  go_ret2
  exact ⟨rfl, rfl⟩
theorem bitn_has (n : Int) (hn : Hid (Calls Try.prog 96 #[p] w fun e w' => e = .returned (.bool true) ∧ w = w')) :
    Calls Try.prog 75 #[p, .int .i64 n] w fun e w' => e = .returned (.bool false) ∧ w = w' := by
  go_enter Try.func75, Try.ntmps75
  go_wp2_with (go_at_call 96; refine (unhide hn).mono ?_; rintro e w' ⟨rfl, rfl⟩)
  go_ret
  exact ⟨rfl, rfl⟩
theorem bitn_fork (hn : Hid (Calls Try.prog 96 #[p] w fun e w' => e = .returned (.bool true) ∧ w = w')) :
    Calls Try.prog 87 #[p] w fun e w' => e = .returned (.pointer none) ∧ w = w' := by
  go_enter Try.func87, Try.ntmps87
  go_wp2_with (go_at_call 96; refine (unhide hn).mono ?_; rintro e w' ⟨rfl, rfl⟩)
  go_ret
  exact ⟨rfl, rfl⟩
theorem bitn_adv (hn : Hid (Calls Try.prog 96 #[p] w fun e w' => e = .returned (.bool true) ∧ w = w')) :
    Calls Try.prog 102 #[p] w fun e w' => e = .returned (.int .i64 0) ∧ w = w' := by
  go_enter Try.func102, Try.ntmps102
  go_wp2_with fail
  go_loopw [3, 4, 5] (fun s3 _ _ wr => s3 = .int .i64 0 ∧ w = wr) (fun _ _ _ _ => 0)
  case atStart => exact ⟨rfl, rfl⟩
  case round =>
    obtain ⟨rfl, rfl⟩ := hrel
    go_wp2_with (go_at_call 96; refine (unhide hn).mono ?_; rintro e w' ⟨rfl, rfl⟩)
    go_ret
    exact ⟨rfl, rfl⟩
end

/-- The window's iterator, where there is no bitmap: nothing comes. -/
theorem winn_seq (E : World) (a : Nat) (p : Option Addr) (N : Asn) (hn : ∀ W R, Sat E W (N * R) → Calls Try.prog 96 #[.pointer p] W fun e w' => e = .returned (.bool true) ∧ W = w') :
    SeqSL E Try.prog 112 #[.pointer (some ⟨a, 0, none⟩)] winE (fun _ => Asn.blk a 115 #[.pointer p] * N) (fun xs => xs = []) (fun _ => True) (fun _ _ => False) := by
  intro l J Jx W hY hsat
  refine callsIn_wide.1 (callsIn_of_wp (F := Fence.wide) (n := 0) Try.func112 rfl trivial ?_ rfl)
  have c0 : W.cell? ⟨a, 0, none⟩ = some (.pointer p) := hsat.asc.cell 0
  have hc := hide (hn W _ hsat.asc.f2)
  have hs := hide hsat
  clear hsat
  simp only [Try.ntmps112, List.size_toArray, List.length_cons, List.length_nil, Nat.reduceAdd, Nat.reduceSub, Array.replicate_succ, Array.replicate_zero, List.push_toArray, List.append_toArray, List.nil_append, List.cons_append]
  gi_wp2_with (gi_at_call 96; refine (callsIn_wide.2 (unhide hc)).mono ?_; rintro e w' ⟨rfl, rfl⟩)
  refine bodyPost_ret (results_none rfl _ _ _) rfl ?_
  exact ⟨⟨_, rfl⟩, .inl ⟨[], rfl, unhide hs⟩⟩

set_option maxRecDepth 100000 in
theorem bitn_list (E w : World) (F N : Asn) (p : Option Addr) (h : Sat E w (N * F)) (hn : ∀ W R, Sat E W (N * R) → Calls Try.prog 96 #[.pointer p] W fun e w' => e = .returned (.bool true) ∧ W = w') :
    Calls Try.prog 90 #[.pointer p] w fun e w' => e = .returned (.slice none 0 0) ∧ Sat E w' (N * F) := by
  have hs1 := (h.alloc #[.slice none 0 0] 34).alloc #[.pointer p] 115
  simp only [World.size_alloc] at hs1
  refine callsIn_wide.1 (callsIn_of_wp_marks (F := Fence.wide) (n := 0) Try.func90 rfl trivial (wpIn_wide.2 ?_) rfl)
  simp only [Try.ntmps90, List.size_toArray, List.length_cons, List.length_nil, Nat.reduceAdd, Nat.reduceSub, Array.replicate_succ, Array.replicate_zero, List.push_toArray, List.append_toArray, List.nil_append, List.cons_append]
  go_wp2_with (go_at_call 105; refine (window_call _ _).mono ?_; rintro e w' ⟨rfl, rfl⟩)
  refine wpIn_wide.1 (wpIn_rangeFunc_sl (E := E) (α := Nat × Bool) (R := F) (winn_seq E (w.heap.size + 1) p N hn) rfl (enters_of Try.func112 (by kernel_rfl) rfl) (fun x => rfl)
    (fun _ => Asn.blk (w.heap.size) 34 #[.slice none 0 0]) (fun _ _ => Asn.fact False) ?h0 ?round ?done ?stop)
  case h0 =>
    exact (hs1).perm (by ac_rfl)
  case round =>
    rintro l pre x hf
    exact hf.elim
  case done =>
    rintro D xs W rfl hsW
    have hs3 : Sat E W (Asn.obj D (.deferred (some [])) * (Asn.blk (w.heap.size) 34 #[.slice none 0 0] * (Asn.blk (w.heap.size + 1) 115 #[.pointer p] * (N * F)))) := hsW.perm (by ac_rfl)
    have d0 : W.cell? ⟨w.heap.size, 0, none⟩ = some (.slice none 0 0) := hs3.f2.cell 0
    have HK := hide hs3.obj
    have HS := hide (sat_putObj (o' := .deferred none) hs3)
    clear hsW hs3
    go_wp2_with fail
    exact ⟨by simp, .inl ⟨_, _, rfl, run_takeDeferred HK.out, ⟨_, results_tmp rfl _ _ _, rfl, (unhide HS).right.right.right⟩⟩⟩
  case stop =>
    rintro D c pre W _ hsW
    exact (Sat.fact (p := False) (F := (Asn.blk (w.heap.size + 1) 115 #[.pointer p] * N) * (Asn.obj D (.deferred (some [])) * F)) (hsW.perm (by ac_rfl))).1.elim

end Go.Proofs.Ytdfidijlconhnaa
