/- The queue of pieces: Add, Row, Fork, Piece. -/
import Derived.Test.YtdfidijlconhnaaSqI
import Derived.Test.YtdfidijlconhnaaRegB
namespace Go.Proofs.Ytdfidijlconhnaa
open Go.RowKit Asn
theorem elt_bytes : Elt Try.prog 22 5 1 1 (.int .u8 0) := elt_of Try.underlying22 (by kernel_rfl) rfl (by omega)
theorem elt_held : Elt Try.prog 61 124 4 40 (.agg #[.slice none 0 0, .bool false, .bool false, .bool false]) := elt_of Try.underlying61 (by kernel_rfl) rfl (by omega)
set_option maxRecDepth 100000 in
/-- Clone, of bytes. -/
theorem clone_bytes (E w : World) (F : Asn) (A : Option Addr) (n c : Nat) (xs : List Value) (hs : Sat E w F) (hr : rd F 1 A n xs) (h1 : ∀ u ∈ xs, u.oneCell' = true) (hc : A = none → c = 0) (hn : n ≤ 65536) :
    Calls Try.prog 58 #[.slice A n c] w fun e w' => ∃ A' c', e = .returned (.slice A' n c') ∧ Sat E w' (sl 5 1 A' n c' xs * F) := by
  have hnil := fun (w : World) (A : Option Addr) (n c n' c' : Nat) => Lib.run_eql_slice_nil (P := Try.prog) w 22 5 A n c n' c' Try.underlying22
  rcases A with _ | ad
  · obtain rfl := hc rfl
    have h0 := (RdW.of_rd hr hs)
    have hn0 : n = 0 := by
      rcases Nat.eq_zero_or_pos n with h | h
      · exact h
      · obtain ⟨_, h, _⟩ := h0.2 h
        cases h
    subst hn0
    obtain rfl : xs = [] := List.eq_nil_of_length_eq_zero (by simpa using h0.1)
    have hs1 := hide hs
    clear hs
    go_enter Try.func58, Try.ntmps58
    go_wp2_with fail
    go_ret
    exact ⟨none, 0, rfl, (unhide hs1).slNil⟩
  · have h0 : Sat E (w.alloc (.cells #[] 5)) (sl 5 1 (some ⟨w.heap.size, 0, none⟩) 0 0 [] * F) :=
      Sat.slMk (hs.alloc #[] 5) (by simp) (Nat.le_refl _) (Nat.zero_le _) (by simp) (by intro j u hu; simp at hu)
    obtain ⟨A1, c1, w1, r1, hs1⟩ := Sat.append (P := Try.prog) (t := 22) (ty := 22) (d := c) elt_bytes h0 (RdW.of_rd hr h0.right) h1 (by unfold maxLen; omega) (by omega)
    rw [Nat.zero_add] at r1 hs1
    rw [List.nil_append] at hs1
    have R1 := Lib.hid r1
    have HS := hide hs1
    clear r1 hs1 h0 hs
    go_enter Try.func58, Try.ntmps58
    go_wp2_with (at_builtin; refine wpList_appendR rfl (.tmp 5) (.tmp 6) rfl rfl rfl R1.out ?_)
    go_ret
    exact ⟨A1, c1, rfl, unhide HS⟩
set_option maxRecDepth 100000 in
/-- Clone, of what is held. -/
theorem clone_held (E w : World) (F : Asn) (A : Option Addr) (n c : Nat) (xs : List Value) (hs : Sat E w F) (hr : rd F 4 A n xs) (h1 : ∀ u ∈ xs, u.oneCell' = true) (hc : A = none → c = 0) (hn : n ≤ 65536) :
    Calls Try.prog 66 #[.slice A n c] w fun e w' => ∃ A' c', e = .returned (.slice A' n c') ∧ Sat E w' (sl 124 4 A' n c' xs * F) := by
  have hnil := fun (w : World) (A : Option Addr) (n c n' c' : Nat) => Lib.run_eql_slice_nil (P := Try.prog) w 61 124 A n c n' c' Try.underlying61
  rcases A with _ | ad
  · obtain rfl := hc rfl
    have h0 := (RdW.of_rd hr hs)
    have hn0 : n = 0 := by
      rcases Nat.eq_zero_or_pos n with h | h
      · exact h
      · obtain ⟨_, h, _⟩ := h0.2 h
        cases h
    subst hn0
    obtain rfl : xs = [] := List.eq_nil_of_length_eq_zero (by simpa using h0.1)
    have hs1 := hide hs
    clear hs
    go_enter Try.func66, Try.ntmps66
    go_wp2_with fail
    go_ret
    exact ⟨none, 0, rfl, (unhide hs1).slNil⟩
  · have h0 : Sat E (w.alloc (.cells #[] 124)) (sl 124 4 (some ⟨w.heap.size, 0, none⟩) 0 0 [] * F) :=
      Sat.slMk (hs.alloc #[] 124) (by simp) (Nat.le_refl _) (Nat.zero_le _) (by simp) (by intro j u hu; simp at hu)
    obtain ⟨A1, c1, w1, r1, hs1⟩ := Sat.append (P := Try.prog) (t := 61) (ty := 61) (d := c) elt_held h0 (RdW.of_rd hr h0.right) h1 (by unfold maxLen; omega) (by omega)
    rw [Nat.zero_add] at r1 hs1
    rw [List.nil_append] at hs1
    have R1 := Lib.hid r1
    have HS := hide hs1
    clear r1 hs1 h0 hs
    go_enter Try.func66, Try.ntmps66
    go_wp2_with (at_builtin; refine wpList_appendR rfl (.tmp 5) (.tmp 6) rfl rfl rfl R1.out ?_)
    go_ret
    exact ⟨A1, c1, rfl, unhide HS⟩
section
variable {E w : World} {F : Asn} {g most low next : Nat} {H : List HR} {row : List Int} {A B : Option Addr} {c d : Nat}
theorem sq_row (hs : Sat E w (QAt g most low next H row A c B d * F)) (h1 : 1 ≤ most) (hr : row.length ≤ 60000) : Calls Try.prog 32 #[.pointer (some ⟨g, 0, none⟩)] w fun e w' => ∃ A' c', e = .returned (.slice A' row.length c') ∧ Sat E w' (sl 3 1 A' row.length c' (ints row) * (QAt g most low next H row A c B d * F)) := by
  have hno := hide (sq_is hs h1)
  have c1 : w.cell? ⟨g, 4, none⟩ = some (.slice B row.length d) := hs.asc.cell 4
  have hsl := hs.perm (show _ = sl 3 1 B row.length d (ints row) * (Asn.blk g 65 (queueC most low next A H.length c B row.length d) * sl 124 4 A H.length c (heldC H) * F) by unfold QAt; ac_rfl)
  have hcl := hide (clone_ints E w _ B row.length d (ints row) hsl rd_sl.left oneCell_ints hsl.slNone (by omega))
  obtain ⟨q, hq⟩ : ∃ q, q = row.length := ⟨_, rfl⟩
  have HQ := hide hq
  rw [← hq] at c1 hcl ⊢
  clear hs hsl hq
  go_enter Try.func32, Try.ntmps32
  go_wp2_with (go_at_call 57; refine (unhide hno).mono ?_; rintro e w' ⟨rfl, rfl⟩)
  refine (unhide hcl).mono ?_
  rintro e w2 ⟨A2, c2, rfl, hs2⟩
  have HS := hide (hs2.perm (show _ = sl 3 1 A2 q c2 (ints row) * (QAt g most low next H row A c B d * F) by unfold QAt; rw [← unhide HQ]; ac_rfl))
  clear hs2 hcl
  go_wp2_with fail
  go_ret
  exact ⟨A2, c2, rfl, unhide HS⟩
set_option maxRecDepth 100000 in
theorem sq_fork (hs : Sat E w (QAt g most low next H row A c B d * F)) (h1 : 1 ≤ most) (hh : H.length ≤ 60000) (hr : row.length ≤ 60000) : Calls Try.prog 29 #[.pointer (some ⟨g, 0, none⟩)] w fun e w' => ∃ g2 A2 c2 B2 d2, e = .returned (.pointer (some ⟨g2, 0, none⟩)) ∧ Sat E w' (QAt g2 most low next H row A2 c2 B2 d2 * (QAt g most low next H row A c B d * F)) := by
  have hno := hide (sq_is hs h1)
  obtain ⟨p, hp⟩ : ∃ p, p = H.length := ⟨_, rfl⟩
  obtain ⟨q, hq⟩ : ∃ q, q = row.length := ⟨_, rfl⟩
  have HP := hide hp
  have HQ := hide hq
  have hs2 := hs.alloc (queueC most low next A H.length c B row.length d) 65
  have hsl := hs2.perm (show _ = sl 124 4 A H.length c (heldC H) * (Asn.blk w.heap.size 65 (queueC most low next A H.length c B row.length d) * (Asn.blk g 65 (queueC most low next A H.length c B row.length d) * (sl 3 1 B row.length d (ints row) * F))) by unfold QAt; ac_rfl)
  have hcl := hide (clone_held E _ _ A H.length c (heldC H) hsl rd_sl.left heldC_one hsl.slNone (by omega))
  have c0 : w.cell? ⟨g, 0, none⟩ = some (.int .i64 most) := hs.asc.cell 0
  have c1 : w.cell? ⟨g, 1, none⟩ = some (.int .i64 low) := hs.asc.cell 1
  have c2 : w.cell? ⟨g, 2, none⟩ = some (.int .i64 next) := hs.asc.cell 2
  have c3 : w.cell? ⟨g, 3, none⟩ = some (.slice A p c) := by rw [hp]; exact hs.asc.cell 3
  have c4 : w.cell? ⟨g, 4, none⟩ = some (.slice B q d) := by rw [hq]; exact hs.asc.cell 4
  have hg : g < w.heap.size := Sat.lt (o := .cells _ _ (0, 0)) hs.asc
  rw [← hp, ← hq] at hcl
  unfold queueC at hcl
  clear hs hs2 hsl hp hq
  go_enter Try.func29, Try.ntmps29
  go_wp2_with (go_at_call 57; refine (unhide hno).mono ?_; rintro e w' ⟨rfl, rfl⟩)
  refine (unhide hcl).mono ?_
  rintro e w2 ⟨A2, d2, rfl, hs3⟩
  have f1 : w2.frozen? ⟨w.heap.size, 3, none⟩ = false := hs3.f3.frozen 3
  have f2 : w2.cell? ⟨w.heap.size, 3, none⟩ = some (.slice A p c) := hs3.f3.cell 3
  have f3 : w.heap.size < w2.heap.size := Sat.lt (o := .cells _ _ (0, 0)) hs3.f3
  have f4 : w2.cell? ⟨g, 4, none⟩ = some (.slice B q d) := hs3.f4.cell 4
  have f5 : g ≠ w.heap.size := by omega
  have hs4 := hs3.f3.set 3 (.slice A2 p d2)
  have hsl := hs4.perm (show _ = sl 3 1 B q d (ints row) * (Asn.blk w.heap.size 65 #[.int .i64 most, .int .i64 low, .int .i64 next, .slice A2 p d2, .slice B q d] * (sl 124 4 A2 p d2 (heldC H) * (sl 124 4 A p c (heldC H) * (Asn.blk g 65 #[.int .i64 most, .int .i64 low, .int .i64 next, .slice A p c, .slice B q d] * F)))) by show Asn.blk _ _ #[_, _, _, _, _] * _ = _; ac_rfl)
  have hcl2 := hide (clone_ints E _ _ B q d (ints row) hsl rd_sl.left oneCell_ints hsl.slNone (by have := unhide HQ; omega))
  clear hs3 hs4 hsl hcl c0 c1 c2 c3 c4
  go_wp2_with fail
  refine (unhide hcl2).mono ?_
  rintro e w3 ⟨A3, d3, rfl, hs5⟩
  have k1 : w3.frozen? ⟨w.heap.size, 4, none⟩ = false := hs5.f3.frozen 4
  have k2 : w3.cell? ⟨w.heap.size, 4, none⟩ = some (.slice B q d) := hs5.f3.cell 4
  have k3 : w.heap.size < w3.heap.size := Sat.lt (o := .cells _ _ (0, 0)) hs5.f3
  have hs6 := hs5.f3.set 4 (.slice A3 q d3)
  have HS := hide (hs6.perm (show _ = QAt w.heap.size most low next H row A2 d2 A3 d3 * (QAt g most low next H row A c B d * F) by unfold QAt queueC; rw [← unhide HP, ← unhide HQ]; show Asn.blk _ _ #[_, _, _, _, _] * _ = _; ac_rfl))
  clear hs5 hs6 hcl2 f1 f2 f3 f4
  go_wp2_with fail
  go_ret
  exact ⟨_, A2, d2, A3, d3, rfl, unhide HS⟩
set_option maxHeartbeats 1000000 in
set_option maxRecDepth 100000 in
theorem sq_piece {i : Nat} {h : HR} {xs : List Value} (hs : Sat E w (QAt g most low next H row A c B d * F)) (h1 : 1 ≤ most) (hb : low ≤ 100000) (hh : H.length ≤ 60000) (hi : H[i]? = some h) (hr : rd F 1 h.a h.n xs) (hx1 : ∀ u ∈ xs, u.oneCell' = true) (hnc : h.a = none → h.c = 0) (hn : h.n ≤ 60000) :
    Calls Try.prog 26 #[.pointer (some ⟨g, 0, none⟩), .int .i64 ((low : Int) + i)] w fun e w' => ∃ A' c', e = .returned (.tuple #[.agg #[.slice A' h.n c', .bool h.e, .bool h.f], .bool true]) ∧ Sat E w' (sl 5 1 A' h.n c' xs * (QAt g most low next H row A c B d * F)) := by
  have hil : i < H.length := (List.getElem?_eq_some_iff.1 hi).1
  have hs0 := hs.allocKeep (.cells #[.slice none 0 0, .bool false, .bool false] 52 (0, 0))
  have hsA := hs.alloc #[.slice none 0 0, .bool false, .bool false] 52
  have hno := hide (sq_is hs0 h1)
  have hto := hide (sq_total hs0 h1 hb (by omega))
  obtain ⟨b, off, rfl, -⟩ := hs.heldAt hi
  have c1 : (w.alloc (.cells #[.slice none 0 0, .bool false, .bool false] 52)).cell? ⟨g, 1, none⟩ = some (.int .i64 low) := hs0.asc.cell 1
  have HAT : Hid (∀ W R, Sat E W (QAt g most low next H row (some ⟨b, off, none⟩) c B d * R) → W.cell? ⟨b, off + i * 4, none⟩ = some (.slice h.a h.n h.c) ∧ W.cell? ⟨b, off + i * 4 + 1, none⟩ = some (.bool h.e) ∧ W.cell? ⟨b, off + i * 4 + 2, none⟩ = some (.bool h.f)) := fun W R hW => by
    obtain ⟨b', off', hA, h2, h3, h4, -⟩ := hW.heldAt hi
    simp only [Option.some.injEq, Addr.mk.injEq, and_true] at hA
    obtain ⟨rfl, rfl⟩ := hA
    exact ⟨h2, h3, h4⟩
  have HW : Hid (IntKind.i64.wrap ((low : Int) + i - low) = (i : Int)) := by show _ = _; rw [IntKind.wrap_i64]; omega
  obtain ⟨q, hq⟩ : ∃ q, q = H.length := ⟨_, rfl⟩
  have HQ := hide hq
  rw [← hq] at hil hto hh
  obtain ⟨ha, hn', hc', he, hf, hk⟩ := h
  dsimp only at *
  have HSA := hide hsA
  have HRD := hide hr
  have d1 : ¬ (low : Int) + i < low := by omega
  have d2 : ¬ ((low + q : Nat) : Int) ≤ (low : Int) + i := by omega
  clear hs hs0 hi hq hr hsA
  go_enter Try.func26, Try.ntmps26
  go_wp2_with (go_at_call 57; refine (unhide hno).mono ?_; rintro e w' ⟨rfl, rfl⟩)
  refine (unhide hto).mono ?_
  rintro e w2 ⟨rfl, hbel⟩
  have HS := hide (((unhide HSA).under hbel).comm.perm (show _ = (QAt g most low next H row (some ⟨b, off, none⟩) c B d * F) * Asn.blk w.heap.size 52 #[.slice none 0 0, .bool false, .bool false] by ac_rfl))
  clear hno hto c1 hbel HSA
  go_wp2_with fail
  refine wp_region_slr (Q := _) (E := E) (fun W => ∃ R, Sat E W ((QAt g most low next H row (some ⟨b, off, none⟩) c B d * F) * R)) [14] [] [13] [] (fun i_ => (52, #[.slice none 0 0, .bool false, .bool false], fun g_ => .pointer (some ⟨g_, 0, none⟩))) [0, 1, 2, 3, 4, 5, 6, 7, 8, 9, 10, 11, 12, 13, 14] (by kernel_rfl) (by kernel_rfl) (unhide HS) (fun W R h => ⟨_, h.asc⟩) ?_
  iterate 13
    refine wpS_f _ rfl rfl (v := ?_) ?_ ?_
    rotate_left
    · rintro W ⟨R, hW⟩
      have f1 : W.cell? ⟨g, 1, none⟩ = some (.int .i64 low) := hW.asc.asc.cell 1
      have f3 : W.cell? ⟨g, 3, none⟩ = some (.slice (some ⟨b, off, none⟩) q c) := by rw [unhide HQ]; exact hW.asc.asc.cell 3
      have f4 : W.cell? ⟨b, off + i * 4, none⟩ = some (.slice ha hn' hc') := (unhide HAT W _ hW.asc).1
      have f5 : W.cell? ⟨b, off + i * 4 + 1, none⟩ = some (.bool he) := (unhide HAT W _ hW.asc).2.1
      have f6 : W.cell? ⟨b, off + i * 4 + 2, none⟩ = some (.bool hf) := (unhide HAT W _ hW.asc).2.2
      have f7 : IntKind.i64.wrap ((low : Int) + i - low) = (i : Int) := HW.out
      go_simp
      first | rfl | (rw [IntKind.wrap_i64]; omega)
    go_simp
  refine wpS_a _ rfl rfl (fun W => by unfold stp; go_simp; exact ⟨rfl, rfl⟩) (fun g_6 => ?_)
  go_simp
  refine wpS_e _ rfl rfl (fun W R hW => ?_)
  have u0 : W.cell? ⟨g_6, 0, none⟩ = some (.slice none 0 0) := hW.asc.cell 0
  have u1 : W.cell? ⟨g_6, 1, none⟩ = some (.bool false) := hW.asc.cell 1
  have u2 : W.cell? ⟨g_6, 2, none⟩ = some (.bool false) := hW.asc.cell 2
  have u3 : ∀ j, W.frozen? ⟨g_6, j, none⟩ = false := fun j => hW.asc.frozen j
  have u4 : g_6 < W.heap.size := Sat.lt (o := .cells _ _ (0, 0)) hW.asc
  have hst := hide (show Sat E _ ((QAt g most low next H row (some ⟨b, off, none⟩) c B d * F) * (Asn.blk g_6 52 #[.slice ha hn' hc', .bool he, .bool hf] * Asn.blk w.heap.size 52 #[.slice none 0 0, .bool false, .bool false]) * R) from (((hW.asc.set 0 (.slice ha hn' hc')).set 1 (.bool he)).set 2 (.bool hf)).perm (by first | ac_rfl | (simp only [Asn.one_sep, Asn.sep_one]; ac_rfl)))
  unfold stp
  go_simp
  refine (show ∃ F', _ from ⟨(QAt g most low next H row (some ⟨b, off, none⟩) c B d * F) * (Asn.blk g_6 52 #[.slice ha hn' hc', .bool he, .bool hf] * Asn.blk w.heap.size 52 #[.slice none 0 0, .bool false, .bool false]), fun W R h => ⟨_, h.asc⟩, unhide hst, ?_⟩)
  clear hst hW u0 u1 u2 u3 u4
  go_simp
  refine wpS_n (fun w3 hs3 => ?_)
  have hs4 := hs3.perm (show _ = Asn.blk g_6 52 #[.slice ha hn' hc', .bool he, .bool hf] * (Asn.blk w.heap.size 52 #[.slice none 0 0, .bool false, .bool false] * (QAt g most low next H row (some ⟨b, off, none⟩) c B d * F)) by ac_rfl)
  have v0 : w3.cell? ⟨g_6, 0, none⟩ = some (.slice ha hn' hc') := hs4.cell 0
  have hcl := hide (clone_bytes E w3 _ ha hn' hc' xs hs4 (unhide HRD).right.right.right hx1 hnc (by omega))
  clear hs3 hs4
  go_wp2_with fail
  refine (unhide hcl).mono ?_
  rintro e w4 ⟨A2, c2, rfl, hs5⟩
  have v0 : w4.cell? ⟨g_6, 0, none⟩ = some (.slice ha hn' hc') := hs5.f2.cell 0
  have v1 : w4.cell? ⟨g_6, 1, none⟩ = some (.bool he) := hs5.f2.cell 1
  have v2 : w4.cell? ⟨g_6, 2, none⟩ = some (.bool hf) := hs5.f2.cell 2
  have v3 : ∀ j, w4.frozen? ⟨g_6, j, none⟩ = false := fun j => hs5.f2.frozen j
  have v4 : g_6 < w4.heap.size := Sat.lt (o := .cells _ _ (0, 0)) hs5.f2
  have t0 : w4.cell? ⟨w.heap.size, 0, none⟩ = some (.slice none 0 0) := hs5.f3.cell 0
  have t1 : w4.cell? ⟨w.heap.size, 1, none⟩ = some (.bool false) := hs5.f3.cell 1
  have t2 : w4.cell? ⟨w.heap.size, 2, none⟩ = some (.bool false) := hs5.f3.cell 2
  have t3 : ∀ j, w4.frozen? ⟨w.heap.size, j, none⟩ = false := fun j => hs5.f3.frozen j
  have t4 : w.heap.size < w4.heap.size := Sat.lt (o := .cells _ _ (0, 0)) hs5.f3
  have t5 : g_6 ≠ w.heap.size := Sat.ne (o := .cells _ _ (0, 0)) (p := .cells _ _ (0, 0)) hs5.right
  have hs6 := (((((hs5.f2.set 0 (.slice A2 hn' c2)).f3.set 0 (.slice A2 hn' c2)).set 1 (.bool he)).set 2 (.bool hf)).perm (show _ = Asn.blk w.heap.size 52 #[.slice A2 hn' c2, .bool he, .bool hf] * (Asn.blk g_6 52 #[.slice A2 hn' c2, .bool he, .bool hf] * (sl 5 1 A2 hn' c2 xs * (QAt g most low next H row (some ⟨b, off, none⟩) c B d * F))) by rfl))
  have HB := Lib.hid hs6.blk
  have HS6 := hide hs6.right.right
  clear hs5 hs6 hcl
  go_wp2_with fail
  exact bodyPost_ret (results_cell2 (p := 4) (u1 := 5) rfl _ _ _ _ _ _ _ rfl HB.out Try.underlying52 rfl (by kernel_rfl)) rfl ⟨A2, c2, rfl, unhide HS6⟩
end
end Go.Proofs.Ytdfidijlconhnaa
