/- SendqNobody: queues that nobody made. -/
import Derived.Test.YtdfidijlconhnaaSqP
namespace Go.Proofs.Ytdfidijlconhnaa
open Go.RowKit Asn
attribute [local go_sem] Oper.semAt_some
/-- No queue: nil, or one that takes no pieces. -/
def NoSq (p : Option Addr) (w : World) : Prop := p = none ∨ ∃ g, p = some ⟨g, 0, none⟩ ∧ w.cell? ⟨g, 0, none⟩ = some (.int .i64 0)
theorem NoSq.none_ {p : Option Addr} {w : World} (h : NoSq p w) : Calls Try.prog 57 #[.pointer p] w fun e w' => e = .returned (.bool true) ∧ w = w' := by
  rcases h with rfl | ⟨g, rfl, hc⟩
  · exact sq_nil w
  · exact sq_none w g 0 hc
theorem NoSq.below {p : Option Addr} {w w' : World} (h : NoSq p w) (hb : Below w.heap.size w w') : NoSq p w' := by
  rcases h with rfl | ⟨g, rfl, hc⟩
  · exact .inl rfl
  · exact .inr ⟨g, rfl, by rw [hb.cell (World.block_lt_of_cell? w _ hc)]; exact hc⟩
theorem NoSq.ptr {p : Option Addr} {w : World} (h : NoSq p w) : (Value.pointer p) = .pointer none ∨ ∃ g, (Value.pointer p) = .pointer (some ⟨g, 0, none⟩) := by
  rcases h with rfl | ⟨g, rfl, _⟩
  · exact .inl rfl
  · exact .inr ⟨g, rfl⟩
section
variable {p : Option Addr} {w : World}
theorem sqn_repeat (h : NoSq p w) : Calls Try.prog 25 #[.pointer p] w fun e w' => e = .returned (.tuple #[.int .i64 0, .bool false]) ∧ Below w.heap.size w w' := by
  have hn := hide h.none_
  go_enter Try.func25, Try.ntmps25
  go_wp2_with (go_at_call 57; refine (unhide hn).mono ?_; rintro e w' ⟨rfl, rfl⟩)
  go_ret2
  exact ⟨rfl, Below.refl _ _⟩
theorem sqn_row (h : NoSq p w) : Calls Try.prog 32 #[.pointer p] w fun e w' => e = .returned (.slice none 0 0) ∧ Below w.heap.size w w' := by
  have hn := hide h.none_
  go_enter Try.func32, Try.ntmps32
  go_wp2_with (go_at_call 57; refine (unhide hn).mono ?_; rintro e w' ⟨rfl, rfl⟩)
  go_ret
  exact ⟨rfl, Below.refl _ _⟩
theorem sqn_low (h : NoSq p w) : Calls Try.prog 16 #[.pointer p] w fun e w' => e = .returned (.int .i64 0) ∧ Below w.heap.size w w' := by
  have hn := hide h.none_
  go_enter Try.func16, Try.ntmps16
  go_wp2_with (go_at_call 57; refine (unhide hn).mono ?_; rintro e w' ⟨rfl, rfl⟩)
  go_ret
  exact ⟨rfl, Below.refl _ _⟩
theorem sqn_next (h : NoSq p w) : Calls Try.prog 17 #[.pointer p] w fun e w' => e = .returned (.int .i64 0) ∧ Below w.heap.size w w' := by
  have hn := hide h.none_
  go_enter Try.func17, Try.ntmps17
  go_wp2_with (go_at_call 57; refine (unhide hn).mono ?_; rintro e w' ⟨rfl, rfl⟩)
  go_ret
  exact ⟨rfl, Below.refl _ _⟩
theorem sqn_total (h : NoSq p w) : Calls Try.prog 31 #[.pointer p] w fun e w' => e = .returned (.int .i64 0) ∧ Below w.heap.size w w' := by
  have hn := hide h.none_
  go_enter Try.func31, Try.ntmps31
  go_wp2_with (go_at_call 57; refine (unhide hn).mono ?_; rintro e w' ⟨rfl, rfl⟩)
  go_ret
  exact ⟨rfl, Below.refl _ _⟩
theorem sqn_fork (h : NoSq p w) : Calls Try.prog 29 #[.pointer p] w fun e w' => e = .returned (.pointer none) ∧ Below w.heap.size w w' := by
  have hn := hide h.none_
  go_enter Try.func29, Try.ntmps29
  go_wp2_with (go_at_call 57; refine (unhide hn).mono ?_; rintro e w' ⟨rfl, rfl⟩)
  go_ret
  exact ⟨rfl, Below.refl _ _⟩
theorem sqn_add (h : NoSq p w) (v : Value) : Calls Try.prog 10 #[.pointer p, v] w fun e w' => e = .returned (.int .i64 4) ∧ Below w.heap.size w w' := by
  have hn := hide h.none_
  go_enter Try.func10, Try.ntmps10
  go_wp2_with (go_at_call 57; refine (unhide hn).mono ?_; rintro e w' ⟨rfl, rfl⟩)
  go_ret
  exact ⟨rfl, Below.refl _ _⟩
set_option maxRecDepth 100000 in
theorem sqn_send (h : NoSq p w) : Calls Try.prog 13 #[.pointer p] w fun e w' => e = .returned (.tuple #[.int .i64 0, .bool false]) ∧ Below w.heap.size w w' := by
  have HH := hide h
  have HS : Hid (Sat w w (Asn.exact w * 1)) := (Sat.start w).perm (sep_one _).symm
  clear h
  go_enter Try.func13, Try.ntmps13
  go_wp2_with fail
  refine wp_region_slr (Q := _) (E := w) (fun W => ∃ R, Sat w W ((Asn.exact w) * R)) [] [1] [] [] (fun _ => (0, #[], fun _ => undef)) [0, 1, 2, 3, 4, 5, 6, 7, 8, 9, 10] (by kernel_rfl) (by kernel_rfl) (unhide HS) (fun W R h => ⟨_, h.asc⟩) ?_
  iterate 1
    refine wpS_f _ rfl rfl (v := ?_) ?_ ?_
    rotate_left
    · rintro W ⟨R, hW⟩
      go_simp
      first | rfl | (rw [IntKind.wrap_i64]; omega)
    go_simp
  refine wpS_c _ rfl rfl (v := .bool true) (freeC_call rfl (fun W => by go_simp; try rfl) (fun W ⟨R, hW⟩ => ((unhide HH).below hW.below).none_.mono fun e w' ⟨he, hw⟩ => ⟨he, hw ▸ Below.refl _ _⟩)) ?_
  go_simp
  iterate 9
    refine wpS_f _ rfl rfl (v := ?_) ?_ ?_
    rotate_left
    · rintro W ⟨R, hW⟩
      go_simp
      first | rfl | (rw [IntKind.wrap_i64]; omega)
    go_simp
  refine wpS_n (fun w3 hs3 => ?_)
  have HS3 := hide hs3.below
  clear hs3
  go_wp2_with fail
  go_ret2
  exact ⟨rfl, unhide HS3⟩
set_option maxRecDepth 100000 in
theorem sqn_lacks (h : NoSq p w) (n : Int) : Calls Try.prog 33 #[.pointer p, .int .i64 n] w fun e w' => e = .returned (.bool false) ∧ Below w.heap.size w w' := by
  have HH := hide h
  have HS : Hid (Sat w w (Asn.exact w * 1)) := (Sat.start w).perm (sep_one _).symm
  clear h
  go_enter Try.func33, Try.ntmps33
  go_wp2_with fail
  refine wp_region_slr (Q := _) (E := w) (fun W => ∃ R, Sat w W ((Asn.exact w) * R)) [] [1] [] [] (fun _ => (0, #[], fun _ => undef)) [0, 1, 2, 3, 4, 5, 6, 7, 8, 9, 10, 11, 12, 13, 14, 15, 16, 17, 18, 19, 20, 21, 22, 23, 24, 25, 26, 27, 28, 29, 30, 31, 32, 33, 34, 35] (by kernel_rfl) (by kernel_rfl) (unhide HS) (fun W R h => ⟨_, h.asc⟩) ?_
  iterate 1
    refine wpS_f _ rfl rfl (v := ?_) ?_ ?_
    rotate_left
    · rintro W ⟨R, hW⟩
      go_simp
      first | rfl | (rw [IntKind.wrap_i64]; omega)
    go_simp
  refine wpS_c _ rfl rfl (v := .bool true) (freeC_call rfl (fun W => by go_simp; try rfl) (fun W ⟨R, hW⟩ => ((unhide HH).below hW.below).none_.mono fun e w' ⟨he, hw⟩ => ⟨he, hw ▸ Below.refl _ _⟩)) ?_
  go_simp
  iterate 34
    refine wpS_f _ rfl rfl (v := ?_) ?_ ?_
    rotate_left
    · rintro W ⟨R, hW⟩
      go_simp
      first | rfl | (rw [IntKind.wrap_i64]; omega)
    go_simp
  refine wpS_n (fun w3 hs3 => ?_)
  have HS3 := hide hs3.below
  clear hs3
  go_wp2_with fail
  go_ret
  exact ⟨rfl, unhide HS3⟩
theorem sqn_again (h : NoSq p w) (n : Int) : Calls Try.prog 23 #[.pointer p, .int .i64 n] w fun e w' => e = .returned (.bool false) ∧ Below w.heap.size w w' := by
  have hl := hide (sqn_lacks h n)
  clear h
  go_enter Try.func23, Try.ntmps23
  go_wp2_with fail
  refine (unhide hl).mono ?_
  rintro e w2 ⟨rfl, hb⟩
  have HB := hide hb
  clear hb hl
  go_wp2_with fail
  go_ret
  exact ⟨rfl, unhide HB⟩
theorem sqn_ack (h : NoSq p w) (n : Int) : Calls Try.prog 14 #[.pointer p, .int .i64 n] w fun e w' => e = .returned (.bool false) ∧ Below w.heap.size w w' := by
  have hl := hide (sqn_lacks h n)
  clear h
  refine callsIn_wide.1 (callsIn_of_wp_marks (F := Fence.wide) (n := 0) Try.func14 rfl trivial (wpIn_wide.2 ?_) rfl)
  simp only [Try.ntmps14, List.size_toArray, List.length_cons, List.length_nil, Nat.reduceAdd, Nat.reduceSub, Array.replicate_succ, Array.replicate_zero, List.push_toArray, List.append_toArray, List.nil_append, List.cons_append]
  go_wp2_with fail
  refine (unhide hl).mono ?_
  rintro e w2 ⟨rfl, hb⟩
  have HB := hide hb
  clear hb hl
  go_wp2_with fail
  refine ⟨_, results_tmp rfl _ _ _, rfl, unhide HB⟩
theorem sqn_piece (h : NoSq p w) (n : Int) : Calls Try.prog 26 #[.pointer p, .int .i64 n] w fun e w' => e = .returned (.tuple #[.agg #[.slice none 0 0, .bool false, .bool false], .bool false]) ∧ Below w.heap.size w w' := by
  have hn := hide (h.below ((Below.refl w.heap.size w).alloc (Nat.le_refl _) (.cells #[.slice none 0 0, .bool false, .bool false] 52))).none_
  clear h
  go_enter Try.func26, Try.ntmps26
  go_wp2_with (go_at_call 57; refine (unhide hn).mono ?_; rintro e w' ⟨rfl, rfl⟩)
  exact bodyPost_ret (v := .tuple #[.agg #[.slice none 0 0, .bool false, .bool false], .bool false]) (by simp [results, Try.results26, go_sem]) rfl ⟨rfl, (Below.refl _ _).alloc (Nat.le_refl _) _⟩
end
set_option maxRecDepth 100000 in
theorem sqn_seq (E : World) (b : Nat) (p : Option Addr) (h : NoSq p E) :
    SeqSL E Try.prog 93 #[.pointer (some ⟨b, 0, none⟩)] (fun n : Nat => #[.int .i64 n]) (fun _ => Asn.blk b 23 #[.pointer p] * Asn.exact E) (fun xs => xs = []) (fun _ => False) (fun _ _ => False) := by
  intro l J Jx W hY hs
  have c0 : W.cell? ⟨b, 0, none⟩ = some (.pointer p) := hs.asc.cell 0
  have hno := hide ((h.below (hs.perm (show _ = Asn.exact E * (Asn.blk b 23 #[.pointer p] * J []) by ac_rfl)).below).none_)
  have HS := hide hs
  clear hs hY
  refine callsIn_wide.1 (callsIn_of_wp (F := Fence.wide) (n := 0) Try.func93 rfl trivial ?_ rfl)
  simp only [Try.ntmps93, List.size_toArray, List.length_cons, List.length_nil, Nat.reduceAdd, Nat.reduceSub, Array.replicate_succ, Array.replicate_zero, List.push_toArray, List.append_toArray, List.nil_append, List.cons_append]
  gi_wp2_with (gi_at_call 57; refine (callsIn_wide.2 (unhide hno)).mono ?_; rintro e w' ⟨rfl, rfl⟩)
  refine bodyPost_ret (results_none rfl _ _ _) rfl ?_
  exact ⟨⟨_, rfl⟩, .inl ⟨_, rfl, unhide HS⟩⟩
set_option maxHeartbeats 2000000 in
set_option maxRecDepth 100000 in
theorem sqn_lacking (w : World) (p : Option Addr) (m : Nat) (h : NoSq p w) : Calls Try.prog 15 #[.pointer p, .int .i64 m] w fun e w' => e = .returned (.slice none 0 0) ∧ Below w.heap.size w w' := by
  have hs1 := ((Sat.start w).alloc #[.int .i64 m] 3).alloc #[.slice none 0 0] 34
  have hs2 := hs1.alloc #[.pointer p] 23
  simp only [World.size_alloc] at hs2
  have HS2 := hide hs2
  have hfn := fun (w : World) (z : Nat) => run_func_nil w 93 #[] #[.pointer (some ⟨z, 0, none⟩)]
  clear hs1 hs2
  refine callsIn_wide.1 (callsIn_of_wp_marks (F := Fence.wide) (n := 0) Try.func15 rfl trivial (wpIn_wide.2 ?_) rfl)
  simp only [Try.ntmps15, List.size_toArray, List.length_cons, List.length_nil, Nat.reduceAdd, Nat.reduceSub, Array.replicate_succ, Array.replicate_zero, List.push_toArray, List.append_toArray, List.nil_append, List.cons_append]
  go_wp2_with (go_at_call 60; refine (sq_lacking _ _ h.ptr).mono ?_; rintro e w' ⟨rfl, rfl⟩)
  obtain ⟨z, hz⟩ : ∃ z, z = w.heap.size := ⟨_, rfl⟩
  rw [← hz] at HS2 ⊢
  have HZ := hide hz
  clear hz
  refine wpIn_wide.1 (wpIn_rangeFunc_sl (E := w) (α := Nat) (R := 1) (sqn_seq w (z + 2) p h) rfl (enters_of Try.func93 (by kernel_rfl) rfl) (fun _ => by rfl)
    (fun pre => Asn.blk (z + 1) 34 #[.slice none 0 0] * Asn.blk z 3 #[.int .i64 m]) (fun c _ => Asn.fact False) ?h0 ?round ?done ?stop)
  case h0 => exact (unhide HS2).perm (by rw [sep_one]; ac_rfl)
  case round =>
    rintro l pre x ⟨⟩
  case done =>
    rintro D xs W hx hsW
    have hs5 := hsW.perm (show _ = Asn.blk (z + 1) 34 #[.slice none 0 0] * (Asn.obj D (.deferred (some [])) * (Asn.blk z 3 #[.int .i64 m] * (Asn.blk (z + 2) 23 #[.pointer p] * Asn.exact w))) by rw [sep_one]; ac_rfl)
    have d0 : W.cell? ⟨z + 1, 0, none⟩ = some (.slice none 0 0) := hs5.cell 0
    have HK := hide hs5.f2.obj
    have HS := hide ((sat_putObj (o' := .deferred none) hs5.f2).perm (show _ = Asn.exact w * (Asn.obj D (.deferred none) * (Asn.blk (z + 1) 34 #[.slice none 0 0] * (Asn.blk z 3 #[.int .i64 m] * Asn.blk (z + 2) 23 #[.pointer p]))) by ac_rfl)).below
    clear hsW hs5 hx HS2
    go_wp2_with fail
    refine ⟨by simp, .inl ⟨_, _, rfl, run_takeDeferred HK.out, ?_⟩⟩
    refine ⟨_, results_tmp rfl _ _ _, rfl, ?_⟩
    exact unhide HS
  case stop =>
    rintro D c pre W ⟨⟩
def nobQ (W0 : World) (q : Nat) : Asn := Asn.blk (q + 1) 23 #[.pointer none, .pointer (some ⟨q, 0, none⟩)] * (Asn.blk q 65 #[.int .i64 0, .int .i64 0, .int .i64 0, .slice none 0 0, .slice none 0 0] * Asn.exact W0)
set_option maxHeartbeats 4000000 in
set_option maxRecDepth 100000 in
theorem sendqNobody_walk (W0 : World) (n : Int) : Calls Try.prog 5 #[.int .i64 n] W0 fun e w' => e = .returned (.bool true) ∧ Below W0.heap.size W0 w' := by
  have hs1 := (Sat.start W0).alloc #[.int .i64 0, .int .i64 0, .int .i64 0, .slice none 0 0, .slice none 0 0] 65
  have hs2 := hs1.alloc #[.pointer none, .pointer (some ⟨W0.heap.size, 0, none⟩)] 23
  rw [World.size_alloc] at hs2
  have HS2 := hide (show Sat W0 _ (nobQ W0 W0.heap.size) from hs2)
  clear hs1 hs2
  go_enter Try.func5, Try.ntmps5
  go_wp2_with fail
  go_loopw [5, 6, 7, 8, 9, 10, 11, 17] (fun _ _ _ _ _ _ _ i wr => ∃ k : Nat, k ≤ 2 ∧ i = .int .i64 k ∧ Sat W0 wr (nobQ W0 W0.heap.size)) (fun _ _ _ _ _ _ _ i _ => 2 - (intOf i).toNat)
  case atStart => exact ⟨0, by omega, rfl, unhide HS2⟩
  case round =>
    obtain ⟨k, hk, rfl, hsr⟩ := hrel
    clear HS2
    by_cases hlt : k < 2
    · obtain ⟨p, hp⟩ : ∃ p : Option Addr, ∀ w, Sat W0 w (nobQ W0 W0.heap.size) → w.cell? ⟨W0.heap.size + 1, k, none⟩ = some (.pointer p) ∧ NoSq p w := by
        rcases (by omega : k = 0 ∨ k = 1) with rfl | rfl
        · exact ⟨none, fun w h => ⟨h.cell 0, .inl rfl⟩⟩
        · exact ⟨some ⟨W0.heap.size, 0, none⟩, fun w h => ⟨h.cell 1, .inr ⟨_, rfl, h.f2.cell 0⟩⟩⟩
      have HP : Hid (∀ w, Sat W0 w (nobQ W0 W0.heap.size) → NoSq p w) := fun w h => (hp w h).2
      have hki : (k : Int) < 2 := by omega
      have hc := (hp wr hsr).1
      have HS := hide hsr
      clear hp hsr
      have hcl := hide (sqn_send (unhide HP _ (unhide HS)))
      go_wp2_with fail
      refine (unhide hcl).mono ?_
      rintro e w2 ⟨rfl, hb⟩
      have HS2 := hide ((unhide HS).under hb)
      clear hcl hb HS hc
      have hcl := hide (sqn_repeat (unhide HP _ (unhide HS2)))
      go_wp2_with fail
      refine (unhide hcl).mono ?_
      rintro e w3 ⟨rfl, hb⟩
      have HS3 := hide ((unhide HS2).under hb)
      clear hcl hb HS2
      have hcl := hide (sqn_piece (unhide HP _ (unhide HS3)) n)
      go_wp2_with fail
      refine (unhide hcl).mono ?_
      rintro e w4 ⟨rfl, hb⟩
      have HS4 := hide ((((unhide HS3).under hb).alloc #[.slice none 0 0, .bool false, .bool false] 52).right)
      have HS5 := hide (((unhide HS4).alloc #[.slice none 0 0, .bool false, .bool false] 52).right)
      clear hcl hb HS3 HS4
      have hcl := hide (fun v => sqn_add (unhide HP _ (unhide HS5)) v)
      go_wp2_with fail
      refine (unhide hcl _).mono ?_
      rintro e w5 ⟨rfl, hb⟩
      have HS6 := hide ((unhide HS5).under hb)
      clear hcl hb HS5
      have hcl := hide (sqn_ack (unhide HP _ (unhide HS6)) n)
      go_wp2_with fail
      refine (unhide hcl).mono ?_
      rintro e w6 ⟨rfl, hb⟩
      have HS7 := hide ((unhide HS6).under hb)
      clear hcl hb HS6
      have hcl := hide (sqn_again (unhide HP _ (unhide HS7)) n)
      go_wp2_with fail
      refine (unhide hcl).mono ?_
      rintro e w7 ⟨rfl, hb⟩
      have HS8 := hide ((unhide HS7).under hb)
      clear hcl hb HS7
      have hcl := hide (sqn_lacks (unhide HP _ (unhide HS8)) n)
      go_wp2_with fail
      refine (unhide hcl).mono ?_
      rintro e w8 ⟨rfl, hb⟩
      have HS9 := hide ((unhide HS8).under hb)
      clear hcl hb HS8
      have hcl := hide (sqn_lacking _ p 3 (unhide HP _ (unhide HS9)))
      go_wp2_with fail
      refine (unhide hcl).mono ?_
      rintro e w9 ⟨rfl, hb⟩
      have HS10 := hide ((unhide HS9).under hb)
      clear hcl hb HS9
      have hcl := hide (sqn_row (unhide HP _ (unhide HS10)))
      go_wp2_with fail
      refine (unhide hcl).mono ?_
      rintro e w10 ⟨rfl, hb⟩
      have HS11 := hide ((unhide HS10).under hb)
      clear hcl hb HS10
      have hcl := hide (sqn_low (unhide HP _ (unhide HS11)))
      go_wp2_with fail
      refine (unhide hcl).mono ?_
      rintro e w11 ⟨rfl, hb⟩
      have HS12 := hide ((unhide HS11).under hb)
      clear hcl hb HS11
      have hcl := hide (sqn_next (unhide HP _ (unhide HS12)))
      go_wp2_with fail
      refine (unhide hcl).mono ?_
      rintro e w12 ⟨rfl, hb⟩
      have HS13 := hide ((unhide HS12).under hb)
      clear hcl hb HS12
      have hcl := hide (sqn_total (unhide HP _ (unhide HS13)))
      go_wp2_with fail
      refine (unhide hcl).mono ?_
      rintro e w13 ⟨rfl, hb⟩
      have HS14 := hide ((unhide HS13).under hb)
      clear hcl hb HS13
      have hcl := hide (sqn_fork (unhide HP _ (unhide HS14)))
      go_wp2_with fail
      refine (unhide hcl).mono ?_
      rintro e w14 ⟨rfl, hb⟩
      have HS15 := hide ((unhide HS14).under hb)
      clear hcl hb HS14
      go_wp2_with fail
      go_roundw
      case rel => exact ⟨k + 1, by omega, by go_num, unhide HS15⟩
      case measure => simp [intOf]; omega
    · have haw := hide (awake13 W0 wr _ hsr)
      have hk2 : ¬ (k : Int) < 2 := by omega
      clear hsr hlt
      go_wp2_with fail
      refine (unhide haw).mono ?_
      rintro e w1 ⟨rfl, hs4⟩
      have hbel := hide (Sat.below (F := 1) (hs4.right.right.perm (sep_one _).symm))
      clear hs4 haw
      go_wp2_with fail
      go_ret
      exact ⟨rfl, unhide hbel⟩
end Go.Proofs.Ytdfidijlconhnaa
