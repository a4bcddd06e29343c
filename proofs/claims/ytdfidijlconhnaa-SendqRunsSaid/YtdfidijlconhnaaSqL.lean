/- The queue of pieces: Lacks, Send. -/
import Derived.Test.YtdfidijlconhnaaSq
import Derived.Test.YtdfidijlconhnaaSlFro
namespace Go.Proofs.Ytdfidijlconhnaa
open Go.RowKit Asn
/-- Does a number lack? -/
def lacksB (low next : Nat) (H : List HR) (seq : Int) : Bool := decide ((low : Int) ≤ seq) && decide (seq < next) && (match H[(seq - low).toNat]? with | some h => !h.k | none => false)
section
variable {E w : World} {F : Asn} {g most low next : Nat} {H : List HR} {row : List Int} {A B : Option Addr} {c d : Nat}
theorem Sat.heldAt (hs : Sat E w (QAt g most low next H row A c B d * F)) {i : Nat} {h : HR} (hi : H[i]? = some h) : ∃ b off, A = some ⟨b, off, none⟩ ∧ w.cell? ⟨b, off + i * 4, none⟩ = some (.slice h.a h.n h.c) ∧ w.cell? ⟨b, off + i * 4 + 1, none⟩ = some (.bool h.e) ∧ w.cell? ⟨b, off + i * 4 + 2, none⟩ = some (.bool h.f) ∧ w.cell? ⟨b, off + i * 4 + 3, none⟩ = some (.bool h.k) := by
  have hs2 := hs.perm (show _ = sl 124 4 A H.length c (heldC H) * (Asn.blk g 65 (queueC most low next A H.length c B row.length d) * sl 3 1 B row.length d (ints row) * F) by unfold QAt; ac_rfl)
  have hil : i < H.length := (List.getElem?_eq_some_iff.1 hi).1
  rcases hs2.slOpen with ⟨_, h0, _⟩ | ⟨b, off, _, hA, _⟩
  · omega
  · refine ⟨b, off, hA, ?_⟩
    obtain ⟨o0, o1, o2, o3⟩ := heldC_at H i h hi
    obtain ⟨ad', h', e1⟩ := hs2.slRd.2 (by omega)
    obtain rfl : ad' = ⟨b, off, none⟩ := by rw [hA] at h'; simpa using h'.symm
    have e0 := e1 _ _ o0
    have e2 := e1 _ _ o2
    have e3 := e1 _ _ o3
    have e1 := e1 _ _ o1
    rw [add_lit'] at e0 e1 e2 e3
    exact ⟨e0, e1, e2, e3⟩
set_option maxHeartbeats 2000000 in
set_option maxRecDepth 100000 in
theorem sq_lacks {seq : Int} (hs : Sat E w (QAt g most low next H row A c B d * F)) (h1 : 1 ≤ most) (hl : next ≤ low + H.length) (hb : low ≤ 100000) (hh : H.length ≤ 100000) (hx : -9223372036854775808 ≤ seq ∧ seq ≤ 9223372036854775807) :
    Calls Try.prog 33 #[.pointer (some ⟨g, 0, none⟩), .int .i64 seq] w fun e w' => e = .returned (.bool (lacksB low next H seq)) ∧ Sat E w' (QAt g most low next H row A c B d * F) := by
  have HS := hide (hs.perm (sep_one _).symm)
  have HNO : Hid (∀ W R, Sat E W (QAt g most low next H row A c B d * R) → Calls Try.prog 57 #[.pointer (some ⟨g, 0, none⟩)] W fun e w' => e = .returned (.bool false) ∧ Below W.heap.size W w') := fun W R h => (sq_is h h1).mono fun e w' ⟨he, hw⟩ => ⟨he, hw ▸ Below.refl _ _⟩
  obtain ⟨r, hr⟩ : ∃ r, r = lacksB low next H seq := ⟨_, rfl⟩
  rw [← hr]
  by_cases c1 : (low : Int) ≤ seq
  · by_cases c2 : seq < next
    · obtain ⟨i, rfl⟩ : ∃ i : Nat, seq = (low : Int) + i := ⟨(seq - low).toNat, by omega⟩
      have hil : i < H.length := by omega
      obtain ⟨h, hi⟩ : ∃ h, H[i]? = some h := ⟨_, List.getElem?_eq_getElem hil⟩
      have hr2 : r = !h.k := by
        rw [hr]
        unfold lacksB
        have e : ((low : Int) + i - low).toNat = i := by omega
        rw [e, hi, decide_eq_true c1, decide_eq_true c2]
        rfl
      obtain ⟨b, off, rfl, -⟩ := hs.heldAt hi
      have HK : Hid (∀ W R, Sat E W (QAt g most low next H row (some ⟨b, off, none⟩) c B d * R) → W.cell? ⟨b, off + i * 4 + 3, none⟩ = some (.bool h.k)) := fun W R hW => by
        obtain ⟨b', off', hA, -, -, -, h4⟩ := hW.heldAt hi
        simp only [Option.some.injEq, Addr.mk.injEq, and_true] at hA
        obtain ⟨rfl, rfl⟩ := hA
        exact h4
      have HW : Hid (IntKind.i64.wrap ((low : Int) + i - low) = (i : Int)) := by show _ = _; rw [IntKind.wrap_i64]; omega
      obtain ⟨q, hq⟩ : ∃ q, q = H.length := ⟨_, rfl⟩
      have HQ := hide hq
      rw [← hq] at hil
      obtain ⟨kk, hkk⟩ : ∃ kk, kk = h.k := ⟨_, rfl⟩
      rw [← hkk] at hr2 HK
      subst hr2
      have d1 : decide ((low : Int) ≤ (low : Int) + i) = true := decide_eq_true c1
      have d2 : decide ((low : Int) + i < next) = true := decide_eq_true c2
      clear hs hr hi hkk hq hl
      go_enter Try.func33, Try.ntmps33
      go_wp2_with fail
      refine wp_region_slr (Q := _) (E := E) (fun W => ∃ R, Sat E W ((QAt g most low next H row (some ⟨b, off, none⟩) c B d * F) * R)) [] [1] [] [] (fun _ => (0, #[], fun _ => undef)) [0, 1, 2, 3, 4, 5, 6, 7, 8, 9, 10, 11, 12, 13, 14, 15, 16, 17, 18, 19, 20, 21, 22, 23, 24, 25, 26, 27, 28, 29, 30, 31, 32, 33, 34, 35] (by kernel_rfl) (by kernel_rfl) (unhide HS) (fun W R h => ⟨_, h.asc⟩) ?_
      iterate 1
        refine wpS_f _ rfl rfl (v := ?_) ?_ ?_
        rotate_left
        · rintro W ⟨R, hW⟩
          have f1 : W.cell? ⟨g, 1, none⟩ = some (.int .i64 low) := hW.asc.asc.cell 1
          have f2 : W.cell? ⟨g, 2, none⟩ = some (.int .i64 next) := hW.asc.asc.cell 2
          have f3 : W.cell? ⟨g, 3, none⟩ = some (.slice (some ⟨b, off, none⟩) q c) := by rw [unhide HQ]; exact hW.asc.asc.cell 3
          have f4 : W.cell? ⟨b, off + i * 4 + 3, none⟩ = some (.bool kk) := unhide HK W _ hW.asc
          have f5 : IntKind.i64.wrap ((low : Int) + i - low) = (i : Int) := HW.out
          go_simp
          first | rfl | (rw [IntKind.wrap_i64]; omega)
        go_simp
      refine wpS_c _ rfl rfl (v := .bool false) (freeC_call rfl (fun W => by go_simp; try rfl) (fun W ⟨R, hW⟩ => unhide HNO W _ hW.asc)) ?_
      go_simp
      iterate 34
        refine wpS_f _ rfl rfl (v := ?_) ?_ ?_
        rotate_left
        · rintro W ⟨R, hW⟩
          have f1 : W.cell? ⟨g, 1, none⟩ = some (.int .i64 low) := hW.asc.asc.cell 1
          have f2 : W.cell? ⟨g, 2, none⟩ = some (.int .i64 next) := hW.asc.asc.cell 2
          have f3 : W.cell? ⟨g, 3, none⟩ = some (.slice (some ⟨b, off, none⟩) q c) := by rw [unhide HQ]; exact hW.asc.asc.cell 3
          have f4 : W.cell? ⟨b, off + i * 4 + 3, none⟩ = some (.bool kk) := unhide HK W _ hW.asc
          have f5 : IntKind.i64.wrap ((low : Int) + i - low) = (i : Int) := HW.out
          go_simp
          first | rfl | (rw [IntKind.wrap_i64]; omega)
        go_simp
      refine wpS_n (fun w3 hs3 => ?_)
      have HS3 := hide (hs3.perm (sep_one _))
      clear hs3
      go_wp2_with fail
      go_ret
      exact ⟨by rfl, unhide HS3⟩
    · have d2 : decide (seq < (next : Int)) = false := decide_eq_false c2
      have hr2 : r = false := by rw [hr]; unfold lacksB; rw [d2]; simp
      subst hr2
      have d1 : decide ((low : Int) ≤ seq) = true := decide_eq_true c1
      clear hs hr hl
      go_enter Try.func33, Try.ntmps33
      go_wp2_with fail
      refine wp_region_slr (Q := _) (E := E) (fun W => ∃ R, Sat E W ((QAt g most low next H row A c B d * F) * R)) [] [1] [] [] (fun _ => (0, #[], fun _ => undef)) [0, 1, 2, 3, 4, 5, 6, 7, 8, 9, 10, 11, 12, 13, 14, 15, 16, 17, 18, 19, 20, 21, 22, 23, 24, 25, 26, 27, 28, 29, 30, 31, 32, 33, 34, 35] (by kernel_rfl) (by kernel_rfl) (unhide HS) (fun W R h => ⟨_, h.asc⟩) ?_
      iterate 1
        refine wpS_f _ rfl rfl (v := ?_) ?_ ?_
        rotate_left
        · rintro W ⟨R, hW⟩
          have f1 : W.cell? ⟨g, 1, none⟩ = some (.int .i64 low) := hW.asc.asc.cell 1
          have f2 : W.cell? ⟨g, 2, none⟩ = some (.int .i64 next) := hW.asc.asc.cell 2
          go_simp
          first | rfl | (rw [IntKind.wrap_i64]; omega)
        go_simp
      refine wpS_c _ rfl rfl (v := .bool false) (freeC_call rfl (fun W => by go_simp; try rfl) (fun W ⟨R, hW⟩ => unhide HNO W _ hW.asc)) ?_
      go_simp
      iterate 34
        refine wpS_f _ rfl rfl (v := ?_) ?_ ?_
        rotate_left
        · rintro W ⟨R, hW⟩
          have f1 : W.cell? ⟨g, 1, none⟩ = some (.int .i64 low) := hW.asc.asc.cell 1
          have f2 : W.cell? ⟨g, 2, none⟩ = some (.int .i64 next) := hW.asc.asc.cell 2
          go_simp
          first | rfl | (rw [IntKind.wrap_i64]; omega)
        go_simp
      refine wpS_n (fun w3 hs3 => ?_)
      have HS3 := hide (hs3.perm (sep_one _))
      clear hs3
      go_wp2_with fail
      go_ret
      exact ⟨by rfl, unhide HS3⟩
  · have d1 : decide ((low : Int) ≤ seq) = false := decide_eq_false c1
    have hr2 : r = false := by rw [hr]; unfold lacksB; rw [d1]; simp
    subst hr2
    clear hs hr hl
    go_enter Try.func33, Try.ntmps33
    go_wp2_with fail
    refine wp_region_slr (Q := _) (E := E) (fun W => ∃ R, Sat E W ((QAt g most low next H row A c B d * F) * R)) [] [1] [] [] (fun _ => (0, #[], fun _ => undef)) [0, 1, 2, 3, 4, 5, 6, 7, 8, 9, 10, 11, 12, 13, 14, 15, 16, 17, 18, 19, 20, 21, 22, 23, 24, 25, 26, 27, 28, 29, 30, 31, 32, 33, 34, 35] (by kernel_rfl) (by kernel_rfl) (unhide HS) (fun W R h => ⟨_, h.asc⟩) ?_
    iterate 1
      refine wpS_f _ rfl rfl (v := ?_) ?_ ?_
      rotate_left
      · rintro W ⟨R, hW⟩
        have f1 : W.cell? ⟨g, 1, none⟩ = some (.int .i64 low) := hW.asc.asc.cell 1
        go_simp
        first | rfl | (rw [IntKind.wrap_i64]; omega)
      go_simp
    refine wpS_c _ rfl rfl (v := .bool false) (freeC_call rfl (fun W => by go_simp; try rfl) (fun W ⟨R, hW⟩ => unhide HNO W _ hW.asc)) ?_
    go_simp
    iterate 34
      refine wpS_f _ rfl rfl (v := ?_) ?_ ?_
      rotate_left
      · rintro W ⟨R, hW⟩
        have f1 : W.cell? ⟨g, 1, none⟩ = some (.int .i64 low) := hW.asc.asc.cell 1
        go_simp
        first | rfl | (rw [IntKind.wrap_i64]; omega)
      go_simp
    refine wpS_n (fun w3 hs3 => ?_)
    have HS3 := hide (hs3.perm (sep_one _))
    clear hs3
    go_wp2_with fail
    go_ret
    exact ⟨by rfl, unhide HS3⟩
set_option maxRecDepth 100000 in
theorem sq_send (hs : Sat E w (QAt g most low next H row A c B d * F)) (h1 : 1 ≤ most) (hb : low ≤ 100000) (hh : H.length ≤ 100000) (hn : next ≤ 200000) :
    Calls Try.prog 13 #[.pointer (some ⟨g, 0, none⟩)] w fun e w' => (next < low + H.length → e = .returned (.tuple #[.int .i64 next, .bool true]) ∧ Sat E w' (QAt g most low (next + 1) H row A c B d * F)) ∧
      (¬ next < low + H.length → e = .returned (.tuple #[.int .i64 0, .bool false]) ∧ Sat E w' (QAt g most low next H row A c B d * F)) := by
  have HS := hide (hs.perm (sep_one _).symm)
  have HNO : Hid (∀ W R, Sat E W (QAt g most low next H row A c B d * R) → Calls Try.prog 57 #[.pointer (some ⟨g, 0, none⟩)] W fun e w' => e = .returned (.bool false) ∧ Below W.heap.size W w') := fun W R h => (sq_is h h1).mono fun e w' ⟨he, hw⟩ => ⟨he, hw ▸ Below.refl _ _⟩
  have HTO : Hid (∀ W R, Sat E W (QAt g most low next H row A c B d * R) → Calls Try.prog 31 #[.pointer (some ⟨g, 0, none⟩)] W fun e w' => e = .returned (.int .i64 (low + H.length : Nat)) ∧ Below W.heap.size W w') := fun W R h => sq_total h h1 hb hh
  obtain ⟨q, hq⟩ : ∃ q, q = low + H.length := ⟨_, rfl⟩
  rw [← hq] at HTO ⊢
  clear hs hq
  by_cases cc : next < q
  · have cd : ¬ ((q : Int) ≤ next) := by omega
    refine Calls.mono (R := fun e w' => e = .returned (.tuple #[.int .i64 next, .bool true]) ∧ Sat E w' (QAt g most low (next + 1) H row A c B d * F)) ?_ fun e w' h => ⟨fun _ => h, fun h2 => absurd cc h2⟩
    have cc2 : decide ((q : Int) ≤ next) = false := decide_eq_false cd
    clear cc
    go_enter Try.func13, Try.ntmps13
    go_wp2_with fail
    refine wp_region_slr (Q := _) (E := E) (fun W => ∃ R, Sat E W ((QAt g most low next H row A c B d * F) * R)) [] [1, 8] [] [] (fun _ => (0, #[], fun _ => undef)) [0, 1, 2, 3, 4, 5, 6, 7, 8, 9, 10] (by kernel_rfl) (by kernel_rfl) (unhide HS) (fun W R h => ⟨_, h.asc⟩) ?_
    iterate 1
      refine wpS_f _ rfl rfl (v := ?_) ?_ ?_
      rotate_left
      · rintro W ⟨R, hW⟩
        have f2 : W.cell? ⟨g, 2, none⟩ = some (.int .i64 next) := hW.asc.asc.cell 2
        go_simp
        first | rfl | (rw [IntKind.wrap_i64]; omega)
      go_simp
    refine wpS_c _ rfl rfl (v := .bool false) (freeC_call rfl (fun W => by go_simp; try rfl) (fun W ⟨R, hW⟩ => unhide HNO W _ hW.asc)) ?_
    go_simp
    iterate 6
      refine wpS_f _ rfl rfl (v := ?_) ?_ ?_
      rotate_left
      · rintro W ⟨R, hW⟩
        have f2 : W.cell? ⟨g, 2, none⟩ = some (.int .i64 next) := hW.asc.asc.cell 2
        go_simp
        first | rfl | (rw [IntKind.wrap_i64]; omega)
      go_simp
    refine wpS_c _ rfl rfl (v := .int .i64 q) (freeC_call rfl (fun W => by go_simp; try rfl) (fun W ⟨R, hW⟩ => unhide HTO W _ hW.asc)) ?_
    go_simp
    iterate 2
      refine wpS_f _ rfl rfl (v := ?_) ?_ ?_
      rotate_left
      · rintro W ⟨R, hW⟩
        have f2 : W.cell? ⟨g, 2, none⟩ = some (.int .i64 next) := hW.asc.asc.cell 2
        go_simp
        first | rfl | (rw [IntKind.wrap_i64]; omega)
      go_simp
    refine wpS_n (fun w3 hs3 => ?_)
    have hs4 := hs3.perm (sep_one _)
    have f2 : w3.cell? ⟨g, 2, none⟩ = some (.int .i64 next) := hs4.asc.cell 2
    have f3 : w3.frozen? ⟨g, 2, none⟩ = false := hs4.asc.frozen 2
    have f4 : g < w3.heap.size := Sat.lt (o := .cells _ _ (0, 0)) hs4.asc
    have HS4 := hide (show Sat E _ (QAt g most low (next + 1) H row A c B d * F) from (hs4.asc.set 2 (.int .i64 (next + 1 : Nat))).csa)
    clear hs3 hs4
    go_wp2_with fail
    go_ret2
    exact ⟨rfl, unhide HS4⟩
  · have cd : (q : Int) ≤ next := by omega
    refine Calls.mono (R := fun e w' => e = .returned (.tuple #[.int .i64 0, .bool false]) ∧ Sat E w' (QAt g most low next H row A c B d * F)) ?_ fun e w' h => ⟨fun h2 => absurd h2 cc, fun _ => h⟩
    have cc2 : decide ((q : Int) ≤ next) = true := decide_eq_true cd
    clear cc
    go_enter Try.func13, Try.ntmps13
    go_wp2_with fail
    refine wp_region_slr (Q := _) (E := E) (fun W => ∃ R, Sat E W ((QAt g most low next H row A c B d * F) * R)) [] [1, 8] [] [] (fun _ => (0, #[], fun _ => undef)) [0, 1, 2, 3, 4, 5, 6, 7, 8, 9, 10] (by kernel_rfl) (by kernel_rfl) (unhide HS) (fun W R h => ⟨_, h.asc⟩) ?_
    iterate 1
      refine wpS_f _ rfl rfl (v := ?_) ?_ ?_
      rotate_left
      · rintro W ⟨R, hW⟩
        have f2 : W.cell? ⟨g, 2, none⟩ = some (.int .i64 next) := hW.asc.asc.cell 2
        go_simp
        first | rfl | (rw [IntKind.wrap_i64]; omega)
      go_simp
    refine wpS_c _ rfl rfl (v := .bool false) (freeC_call rfl (fun W => by go_simp; try rfl) (fun W ⟨R, hW⟩ => unhide HNO W _ hW.asc)) ?_
    go_simp
    iterate 6
      refine wpS_f _ rfl rfl (v := ?_) ?_ ?_
      rotate_left
      · rintro W ⟨R, hW⟩
        have f2 : W.cell? ⟨g, 2, none⟩ = some (.int .i64 next) := hW.asc.asc.cell 2
        go_simp
        first | rfl | (rw [IntKind.wrap_i64]; omega)
      go_simp
    refine wpS_c _ rfl rfl (v := .int .i64 q) (freeC_call rfl (fun W => by go_simp; try rfl) (fun W ⟨R, hW⟩ => unhide HTO W _ hW.asc)) ?_
    go_simp
    iterate 2
      refine wpS_f _ rfl rfl (v := ?_) ?_ ?_
      rotate_left
      · rintro W ⟨R, hW⟩
        have f2 : W.cell? ⟨g, 2, none⟩ = some (.int .i64 next) := hW.asc.asc.cell 2
        go_simp
        first | rfl | (rw [IntKind.wrap_i64]; omega)
      go_simp
    refine wpS_n (fun w3 hs3 => ?_)
    have HS4 := hide (hs3.perm (sep_one _))
    clear hs3
    go_wp2_with fail
    go_ret2
    exact ⟨rfl, unhide HS4⟩
end
end Go.Proofs.Ytdfidijlconhnaa
