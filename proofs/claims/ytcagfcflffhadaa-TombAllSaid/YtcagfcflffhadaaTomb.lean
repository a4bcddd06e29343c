/- The program's tomb: what its functions do to one that is owned. -/
import Derived.Test.YtcagfcflffhadaaTombR
import Derived.Test.YtcagfcflffhadaaBitN
import Derived.Test.YtcagfcflffhadaaElt
namespace Go.Proofs.Ytcagfcflffhadaa
open Go.RowKit Asn

def TombAt (t g sz : Nat) (V : Nat → Nat) (ba : Nat) : Asn := Asn.blk t 88 #[.pointer (some ⟨g, 0, none⟩)] * BitAt g V sz ba
def mayR (sz ba : Nat) (L : List Int) (n : Int) : Bool := decide ((ba : Int) ≤ n ∧ n < ba + sz ∧ n ≤ 1073741824 ∧ n ∉ L)
def closedR (ba : Nat) (L : List Int) (n : Int) : Bool := decide (1 ≤ n ∧ (n < ba ∨ n ∈ L))
theorem tomb_none (w : World) (t : Nat) (p : Option Addr) (h : w.cell? ⟨t, 0, none⟩ = some (.pointer p)) : Calls Try.prog 82 #[.pointer (some ⟨t, 0, none⟩)] w fun e w' => e = .returned (.bool p.isNone) ∧ w = w' := by
  rcases p with _ | p
  all_goals
    go_enter Try.func82, Try.ntmps82
    go_wp2_with fail
    go_ret
    exact ⟨rfl, rfl⟩
theorem tomb_nil (w : World) : Calls Try.prog 82 #[.pointer none] w fun e w' => e = .returned (.bool true) ∧ w = w' := by
  go_enter Try.func82, Try.ntmps82
  go_wp2_with fail
  go_ret
  exact ⟨rfl, rfl⟩
theorem tomb_new (E w : World) (F : Asn) (sz : Nat) (hs : Sat E w F) (h1 : 1 ≤ sz) (h2 : sz ≤ 64) :
    Calls Try.prog 22 #[.int .i64 sz] w fun e w' => ∃ t g, e = .returned (.tuple #[.pointer (some ⟨t, 0, none⟩), .int .i64 0]) ∧ Sat E w' (TombAt t g sz (fun _ => 0) 1 * F) := by
  have hn := hide (bit_new E w F sz 1 hs h1 (by omega) (by omega))
  clear hs
  go_enter Try.func22, Try.ntmps22
  go_wp2_with fail
  refine (unhide hn).mono ?_
  rintro e w2 ⟨g, rfl, hs2⟩
  have HS := hide ((hs2.alloc #[.pointer (some ⟨g, 0, none⟩)] 88).csa)
  clear hs2 hn
  go_wp2_with fail
  go_ret2
  exact ⟨_, g, rfl, unhide HS⟩
theorem tomb_new_no (w : World) (sz : Int) (h : ¬ (1 ≤ sz ∧ sz ≤ 64)) : Calls Try.prog 22 #[.int .i64 sz] w fun e w' => e = .returned (.tuple #[.pointer none, .int .i64 200]) ∧ w = w' := by
  go_enter Try.func22, Try.ntmps22
  go_wp2_with fail
  all_goals first
    | (exfalso; omega)
    | (go_ret2; exact ⟨rfl, rfl⟩)
section
variable {E w : World} {F : Asn} {t g sz ba : Nat} {V : Nat → Nat} {L : List Int}
theorem tomb_is (hs : Sat E w (TombAt t g sz V ba * F)) : Calls Try.prog 82 #[.pointer (some ⟨t, 0, none⟩)] w fun e w' => e = .returned (.bool false) ∧ w = w' :=
  tomb_none w t (some ⟨g, 0, none⟩) (hs.asc.cell 0)
theorem tomb_floor (hs : Sat E w (TombAt t g sz V ba * F)) (hi : TInv sz ba V L) : Calls Try.prog 24 #[.pointer (some ⟨t, 0, none⟩)] w fun e w' => e = .returned (.int .i64 ba) ∧ w = w' := by
  have hno := hide (tomb_is hs)
  have h1 : w.cell? ⟨t, 0, none⟩ = some (.pointer (some ⟨g, 0, none⟩)) := hs.asc.cell 0
  have hb := hide (base_call w g sz ba (hs.asc.f2.cell 4) (hs.asc.f2.cell 5) (by have := hi.r.one; simp; omega))
  clear hs hi
  go_enter Try.func24, Try.ntmps24
  go_wp2_with (first
    | (go_at_call 82; refine (unhide hno).mono ?_; rintro e w' ⟨rfl, rfl⟩)
    | (go_at_call 83; refine (unhide hb).mono ?_; rintro e w' ⟨rfl, rfl⟩))
  go_ret
  exact ⟨rfl, rfl⟩
theorem tomb_count (hs : Sat E w (TombAt t g sz V ba * F)) (hi : TInv sz ba V L) : Calls Try.prog 28 #[.pointer (some ⟨t, 0, none⟩)] w fun e w' => e = .returned (.int .i64 L.length) ∧ Sat E w' (TombAt t g sz V ba * F) := by
  have hno := hide (tomb_is hs)
  have h1 : w.cell? ⟨t, 0, none⟩ = some (.pointer (some ⟨g, 0, none⟩)) := hs.asc.cell 0
  have hb := count_call E w _ g V sz ba hs.asc.f2 hi.r.small hi.r.one hi.r.le hi.r.top
  rw [hi.r.list, length_ints] at hb
  have HB := hide hb
  clear hs hi hb
  go_enter Try.func28, Try.ntmps28
  go_wp2_with (go_at_call 82; refine (unhide hno).mono ?_; rintro e w' ⟨rfl, rfl⟩)
  refine (unhide HB).mono ?_
  rintro e w2 ⟨rfl, hs2⟩
  have HS := hide hs2.f2.csa
  clear hs2
  go_wp2_with fail
  go_ret
  exact ⟨rfl, unhide HS⟩
theorem tomb_fork (hs : Sat E w (TombAt t g sz V ba * F)) (hi : TInv sz ba V L) : Calls Try.prog 30 #[.pointer (some ⟨t, 0, none⟩)] w fun e w' => ∃ t2 g2, e = .returned (.pointer (some ⟨t2, 0, none⟩)) ∧ Sat E w' (TombAt t2 g2 sz V ba * (TombAt t g sz V ba * F)) := by
  have hno := hide (tomb_is hs)
  have h1 : w.cell? ⟨t, 0, none⟩ = some (.pointer (some ⟨g, 0, none⟩)) := hs.asc.cell 0
  have hb := hide (bit_fork E w _ g V sz ba hs.asc.f2 hi.r.one)
  clear hs hi
  go_enter Try.func30, Try.ntmps30
  go_wp2_with (go_at_call 82; refine (unhide hno).mono ?_; rintro e w' ⟨rfl, rfl⟩)
  refine (unhide hb).mono ?_
  rintro e w2 ⟨g2, rfl, hs2⟩
  have hs3 := hs2.alloc #[.pointer (some ⟨g2, 0, none⟩)] 88
  have HS := hide (hs3.perm (show _ = TombAt w2.heap.size g2 sz V ba * (TombAt t g sz V ba * F) by unfold TombAt; ac_rfl))
  clear hs2 hs3
  go_wp2_with fail
  go_ret
  exact ⟨_, g2, rfl, unhide HS⟩
theorem tomb_close {n : Int} (hs : Sat E w (TombAt t g sz V ba * F)) (hi : TInv sz ba V L) (hn : -9223372036854775808 ≤ n ∧ n ≤ 9223372036854775807) :
    Calls Try.prog 25 #[.pointer (some ⟨t, 0, none⟩), .int .i64 n] w fun e w' => ∃ V2 b2, e = .returned (.tuple #[.bool (closeR sz ba L n).2.1, .int .i64 (closeR sz ba L n).2.2]) ∧ TInv sz b2 V2 (closeR sz ba L n).1.1 ∧ (closeR sz ba L n).1.2 = (b2 : Nat) ∧ Sat E w' (TombAt t g sz V2 b2 * F) := by
  obtain ⟨r, hr⟩ : ∃ r, r = closeR sz ba L n := ⟨_, rfl⟩
  rw [← hr]
  have hno := hide (tomb_is hs)
  have h1 : w.cell? ⟨t, 0, none⟩ = some (.pointer (some ⟨g, 0, none⟩)) := hs.asc.cell 0
  by_cases c : 1 ≤ n ∧ n ≤ 1073741824
  · obtain ⟨e1, e2, e3⟩ := hi.close c.1 c.2
    rw [← hr] at e1 e2 e3
    have hset := set_call E w _ g V sz ba n hs.asc.f2 hi.r.small hi.r.one hi.r.le hi.r.top hn
    rw [e1] at hset
    have hsm := (RInv.set hi.r n).1.small
    obtain ⟨V1, hV1⟩ : ∃ V1, V1 = (setB V sz ba n).1 := ⟨_, rfl⟩
    rw [← hV1] at hset hsm e2 e3
    have HSET := hide hset
    have hadv := hide (fun w2 (h : Sat E w2 (BitAt g V1 sz ba * (Asn.blk t 88 #[.pointer (some ⟨g, 0, none⟩)] * F))) => advance_call E w2 _ g V1 sz ba h hsm hi.r.one hi.r.le hi.r.top)
    have E2 := hide e2
    have E3 := hide e3
    obtain ⟨c1, c2⟩ := c
    obtain ⟨r1, r2, r3⟩ := r
    clear hs hi hset hr e1 e2 e3 hV1 hsm
    go_enter Try.func25, Try.ntmps25
    go_wp2_with (go_at_call 82; refine (unhide hno).mono ?_; rintro e w' ⟨rfl, rfl⟩)
    refine (unhide HSET).mono ?_
    rintro e w2 ⟨rfl, hs2⟩
    have h2 : w2.cell? ⟨t, 0, none⟩ = some (.pointer (some ⟨g, 0, none⟩)) := hs2.f2.cell 0
    have had := hide (unhide hadv w2 hs2)
    clear hs2 HSET hadv
    go_wp2_with fail
    refine (unhide had).mono ?_
    rintro e w3 ⟨k, rfl, -, -, -, hs3⟩
    have HS := hide hs3.f2.csa
    clear hs3 had h1 h2
    go_wp2_with fail
    go_ret2
    exact ⟨_, _, rfl, unhide E3, (unhide E2).symm, unhide HS⟩
  · have hr2 : r = ((L, (ba : Int)), false, 5) := by rw [hr]; unfold closeR; rw [if_pos (by omega)]
    subst hr2
    have HS := hide hs
    have HI := hide hi
    clear hs hi hr
    by_cases c1 : n < 1
    · clear c
      go_enter Try.func25, Try.ntmps25
      go_wp2_with (go_at_call 82; refine (unhide hno).mono ?_; rintro e w' ⟨rfl, rfl⟩)
      go_ret2
      exact ⟨V, ba, rfl, unhide HI, rfl, unhide HS⟩
    · have c2 : 1073741824 < n := by omega
      clear c
      go_enter Try.func25, Try.ntmps25
      go_wp2_with (go_at_call 82; refine (unhide hno).mono ?_; rintro e w' ⟨rfl, rfl⟩)
      go_ret2
      exact ⟨V, ba, rfl, unhide HI, rfl, unhide HS⟩
theorem tomb_closed {n : Int} (hs : Sat E w (TombAt t g sz V ba * F)) (hi : TInv sz ba V L) (hn : -9223372036854775808 ≤ n ∧ n ≤ 9223372036854775807) :
    Calls Try.prog 26 #[.pointer (some ⟨t, 0, none⟩), .int .i64 n] w fun e w' => e = .returned (.bool (closedR ba L n)) ∧ ∃ m, w' = w.drewN m := by
  have hno := hide (tomb_is hs)
  have h1 : w.cell? ⟨t, 0, none⟩ = some (.pointer (some ⟨g, 0, none⟩)) := hs.asc.cell 0
  have hb := has_call E w _ g V sz ba n hs.asc.f2 hi.r.small hi.r.one hi.r.le hi.r.top hn
  rw [hi.r.has] at hb
  by_cases c : 1 ≤ n
  · have hr : hasR ba L n = closedR ba L n := by
      unfold hasR closedR
      rw [decide_eq_true (show 0 ≤ n by omega), Bool.true_and, ← Bool.decide_or]
      rw [decide_eq_decide]
      exact ⟨fun h => ⟨c, h⟩, fun h => h.2⟩
    rw [hr] at hb
    have HB := hide hb
    clear hs hi hb hr
    go_enter Try.func26, Try.ntmps26
    go_wp2_with (go_at_call 82; refine (unhide hno).mono ?_; rintro e w' ⟨rfl, rfl⟩)
    refine (unhide HB).mono ?_
    rintro e w2 ⟨rfl, m, rfl⟩
    go_wp2_with fail
    go_ret
    exact ⟨rfl, m, rfl⟩
  · have hr : closedR ba L n = false := decide_eq_false fun h => c h.1
    rw [hr]
    clear hs hi hb hr
    go_enter Try.func26, Try.ntmps26
    go_wp2_with (go_at_call 82; refine (unhide hno).mono ?_; rintro e w' ⟨rfl, rfl⟩)
    go_ret
    exact ⟨rfl, 0, rfl⟩
theorem below_drewN' (w : World) (m : Nat) : Below w.heap.size w (w.drewN m) := ((Sat.start w).perm (sep_one _).symm |>.drewN m).below
set_option maxHeartbeats 2000000 in
set_option maxRecDepth 100000 in
theorem tomb_may {n : Int} (hs : Sat E w (TombAt t g sz V ba * F)) (hi : TInv sz ba V L) (hn : -9223372036854775808 ≤ n ∧ n ≤ 9223372036854775807) :
    Calls Try.prog 27 #[.pointer (some ⟨t, 0, none⟩), .int .i64 n] w fun e w' => e = .returned (.bool (mayR sz ba L n)) ∧ Sat E w' (TombAt t g sz V ba * F) := by
  have HS := hide (hs.perm (sep_one _).symm)
  have HZ : Hid (((sz : Int) == 0) = false) := by have := hi.r.one; show _ = _; simp; omega
  have hsz := hi.sz
  have hba1 := hi.one
  have hba2 := hi.top
  by_cases c1 : (ba : Int) ≤ n
  · have hwr : IntKind.i64.wrap (n - ba) = n - ba := by rw [IntKind.wrap_i64]; omega
    have d1 : decide ((ba : Int) ≤ n) = true := decide_eq_true c1
    by_cases c2 : n - ba < sz
    · have d2 : decide (n - (ba : Int) < sz) = true := decide_eq_true c2
      by_cases c3 : n ≤ 1073741824
      · have d3 : decide (n ≤ 1073741824) = true := decide_eq_true c3
        obtain ⟨is, his⟩ : ∃ is, is = decide (n ∈ L) := ⟨_, rfl⟩
        have hhas : hasB V sz ba n = is := by
          rw [hi.r.has, his]
          unfold hasR
          rw [decide_eq_true (show 0 ≤ n by omega), decide_eq_false (show ¬ n < ba by omega)]
          simp
        have HHAS : Hid (∀ W R, Sat E W (BitAt g V sz ba * R) → Calls Try.prog 86 #[.pointer (some ⟨g, 0, none⟩), .int .i64 n] W fun e w' => e = .returned (.bool is) ∧ Below W.heap.size W w') := fun W R h =>
          (has_call E W R g V sz ba n h hi.r.small hi.r.one hi.r.le hi.r.top hn).mono fun e w' ⟨he, m, hw⟩ => ⟨by rw [he, hhas], hw ▸ below_drewN' W m⟩
        have HR : Hid (mayR sz ba L n = !is) := by
          show _ = _
          unfold mayR
          rw [his, ← decide_not, decide_eq_decide]
          exact ⟨fun h => h.2.2.2, fun h => ⟨c1, by omega, c3, h⟩⟩
        clear hs hi his hhas
        go_enter Try.func27, Try.ntmps27
        go_wp2_with fail
        refine wp_region_slr (Q := _) (E := E) (fun W => ∃ R, Sat E W ((TombAt t g sz V ba * F) * R)) [] [1, 9, 18, 24, 37] [] [] (fun _ => (0, #[], fun _ => undef)) [0, 1, 2, 3, 4, 5, 6, 7, 8, 9, 10, 11, 12, 13, 14, 15, 16, 17, 18, 19, 20, 21, 22, 23, 24, 25, 26, 27, 28, 29, 30, 31, 32, 33, 34, 35, 36, 37, 38, 39, 40] (by kernel_rfl) (by kernel_rfl) (unhide HS) (fun W R h => ⟨_, h.asc⟩) ?_
        iterate 1
          refine wpS_f _ rfl rfl (v := ?_) ?_ ?_
          rotate_left
          · rintro W ⟨R, hW⟩
            have f1 : W.cell? ⟨t, 0, none⟩ = some (.pointer (some ⟨g, 0, none⟩)) := hW.asc.asc.cell 0
            go_simp
            first | rfl | (rw [IntKind.wrap_i64]; omega)
          go_simp
        refine wpS_c _ rfl rfl (v := .bool false) (freeC_call rfl (fun W => by go_simp; try rfl) (fun W ⟨R, hW⟩ => (tomb_is hW.asc).mono fun e w' ⟨he, hw⟩ => ⟨he, hw ▸ Below.refl _ _⟩)) ?_
        go_simp
        iterate 7
          refine wpS_f _ rfl rfl (v := ?_) ?_ ?_
          rotate_left
          · rintro W ⟨R, hW⟩
            have f1 : W.cell? ⟨t, 0, none⟩ = some (.pointer (some ⟨g, 0, none⟩)) := hW.asc.asc.cell 0
            go_simp
            first | rfl | (rw [IntKind.wrap_i64]; omega)
          go_simp
        refine wpS_c _ rfl rfl (v := .int .i64 ba) (freeC_call rfl (fun W => by go_simp; try rfl) (fun W ⟨R, hW⟩ => (base_call W g sz ba (hW.asc.asc.f2.cell 4) (hW.asc.asc.f2.cell 5) (unhide HZ)).mono fun e w' ⟨he, hw⟩ => ⟨he, hw ▸ Below.refl _ _⟩)) ?_
        go_simp
        iterate 8
          refine wpS_f _ rfl rfl (v := ?_) ?_ ?_
          rotate_left
          · rintro W ⟨R, hW⟩
            have f1 : W.cell? ⟨t, 0, none⟩ = some (.pointer (some ⟨g, 0, none⟩)) := hW.asc.asc.cell 0
            go_simp
            first | rfl | (rw [IntKind.wrap_i64]; omega)
          go_simp
        refine wpS_c _ rfl rfl (v := .int .i64 ba) (freeC_call rfl (fun W => by go_simp; try rfl) (fun W ⟨R, hW⟩ => (base_call W g sz ba (hW.asc.asc.f2.cell 4) (hW.asc.asc.f2.cell 5) (unhide HZ)).mono fun e w' ⟨he, hw⟩ => ⟨he, hw ▸ Below.refl _ _⟩)) ?_
        go_simp
        iterate 5
          refine wpS_f _ rfl rfl (v := ?_) ?_ ?_
          rotate_left
          · rintro W ⟨R, hW⟩
            have f1 : W.cell? ⟨t, 0, none⟩ = some (.pointer (some ⟨g, 0, none⟩)) := hW.asc.asc.cell 0
            go_simp
            first | rfl | (rw [IntKind.wrap_i64]; omega)
          go_simp
        refine wpS_c _ rfl rfl (v := .int .i64 sz) (freeC_call rfl (fun W => by go_simp; try rfl) (fun W ⟨R, hW⟩ => (size_call W g sz (hW.asc.asc.f2.cell 4) (unhide HZ)).mono fun e w' ⟨he, hw⟩ => ⟨he, hw ▸ Below.refl _ _⟩)) ?_
        go_simp
        iterate 12
          refine wpS_f _ rfl rfl (v := ?_) ?_ ?_
          rotate_left
          · rintro W ⟨R, hW⟩
            have f1 : W.cell? ⟨t, 0, none⟩ = some (.pointer (some ⟨g, 0, none⟩)) := hW.asc.asc.cell 0
            go_simp
            first | rfl | (rw [IntKind.wrap_i64]; omega)
          go_simp
        refine wpS_c _ rfl rfl (v := .bool is) (freeC_call rfl (fun W => by go_simp; try rfl) (fun W ⟨R, hW⟩ => unhide HHAS W _ hW.asc.asc.f2)) ?_
        go_simp
        iterate 3
          refine wpS_f _ rfl rfl (v := ?_) ?_ ?_
          rotate_left
          · rintro W ⟨R, hW⟩
            have f1 : W.cell? ⟨t, 0, none⟩ = some (.pointer (some ⟨g, 0, none⟩)) := hW.asc.asc.cell 0
            go_simp
            first | rfl | (rw [IntKind.wrap_i64]; omega)
          go_simp
        refine wpS_n (fun w3 hs3 => ?_)
        have HS3 := hide (hs3.perm (sep_one _))
        clear hs3
        go_wp2_with fail
        go_ret
        exact ⟨by rw [unhide HR]; rfl, unhide HS3⟩
      · have d3 : decide (n ≤ 1073741824) = false := decide_eq_false c3
        have HR : Hid (mayR sz ba L n = false) := decide_eq_false fun h => c3 h.2.2.1
        clear hs hi
        go_enter Try.func27, Try.ntmps27
        go_wp2_with fail
        refine wp_region_slr (Q := _) (E := E) (fun W => ∃ R, Sat E W ((TombAt t g sz V ba * F) * R)) [] [1, 9, 18, 24] [] [] (fun _ => (0, #[], fun _ => undef)) [0, 1, 2, 3, 4, 5, 6, 7, 8, 9, 10, 11, 12, 13, 14, 15, 16, 17, 18, 19, 20, 21, 22, 23, 24, 25, 26, 27, 28, 29, 30, 31, 32, 33, 34, 35, 36, 37, 38, 39, 40] (by kernel_rfl) (by kernel_rfl) (unhide HS) (fun W R h => ⟨_, h.asc⟩) ?_
        iterate 1
          refine wpS_f _ rfl rfl (v := ?_) ?_ ?_
          rotate_left
          · rintro W ⟨R, hW⟩
            have f1 : W.cell? ⟨t, 0, none⟩ = some (.pointer (some ⟨g, 0, none⟩)) := hW.asc.asc.cell 0
            go_simp
            first | rfl | (rw [IntKind.wrap_i64]; omega)
          go_simp
        refine wpS_c _ rfl rfl (v := .bool false) (freeC_call rfl (fun W => by go_simp; try rfl) (fun W ⟨R, hW⟩ => (tomb_is hW.asc).mono fun e w' ⟨he, hw⟩ => ⟨he, hw ▸ Below.refl _ _⟩)) ?_
        go_simp
        iterate 7
          refine wpS_f _ rfl rfl (v := ?_) ?_ ?_
          rotate_left
          · rintro W ⟨R, hW⟩
            have f1 : W.cell? ⟨t, 0, none⟩ = some (.pointer (some ⟨g, 0, none⟩)) := hW.asc.asc.cell 0
            go_simp
            first | rfl | (rw [IntKind.wrap_i64]; omega)
          go_simp
        refine wpS_c _ rfl rfl (v := .int .i64 ba) (freeC_call rfl (fun W => by go_simp; try rfl) (fun W ⟨R, hW⟩ => (base_call W g sz ba (hW.asc.asc.f2.cell 4) (hW.asc.asc.f2.cell 5) (unhide HZ)).mono fun e w' ⟨he, hw⟩ => ⟨he, hw ▸ Below.refl _ _⟩)) ?_
        go_simp
        iterate 8
          refine wpS_f _ rfl rfl (v := ?_) ?_ ?_
          rotate_left
          · rintro W ⟨R, hW⟩
            have f1 : W.cell? ⟨t, 0, none⟩ = some (.pointer (some ⟨g, 0, none⟩)) := hW.asc.asc.cell 0
            go_simp
            first | rfl | (rw [IntKind.wrap_i64]; omega)
          go_simp
        refine wpS_c _ rfl rfl (v := .int .i64 ba) (freeC_call rfl (fun W => by go_simp; try rfl) (fun W ⟨R, hW⟩ => (base_call W g sz ba (hW.asc.asc.f2.cell 4) (hW.asc.asc.f2.cell 5) (unhide HZ)).mono fun e w' ⟨he, hw⟩ => ⟨he, hw ▸ Below.refl _ _⟩)) ?_
        go_simp
        iterate 5
          refine wpS_f _ rfl rfl (v := ?_) ?_ ?_
          rotate_left
          · rintro W ⟨R, hW⟩
            have f1 : W.cell? ⟨t, 0, none⟩ = some (.pointer (some ⟨g, 0, none⟩)) := hW.asc.asc.cell 0
            go_simp
            first | rfl | (rw [IntKind.wrap_i64]; omega)
          go_simp
        refine wpS_c _ rfl rfl (v := .int .i64 sz) (freeC_call rfl (fun W => by go_simp; try rfl) (fun W ⟨R, hW⟩ => (size_call W g sz (hW.asc.asc.f2.cell 4) (unhide HZ)).mono fun e w' ⟨he, hw⟩ => ⟨he, hw ▸ Below.refl _ _⟩)) ?_
        go_simp
        iterate 16
          refine wpS_f _ rfl rfl (v := ?_) ?_ ?_
          rotate_left
          · rintro W ⟨R, hW⟩
            have f1 : W.cell? ⟨t, 0, none⟩ = some (.pointer (some ⟨g, 0, none⟩)) := hW.asc.asc.cell 0
            go_simp
            first | rfl | (rw [IntKind.wrap_i64]; omega)
          go_simp
        refine wpS_n (fun w3 hs3 => ?_)
        have HS3 := hide (hs3.perm (sep_one _))
        clear hs3
        go_wp2_with fail
        go_ret
        exact ⟨by rw [unhide HR]; rfl, unhide HS3⟩
    · have d2 : decide (n - (ba : Int) < sz) = false := decide_eq_false c2
      have HR : Hid (mayR sz ba L n = false) := decide_eq_false fun h => c2 (by omega)
      clear hs hi
      go_enter Try.func27, Try.ntmps27
      go_wp2_with fail
      refine wp_region_slr (Q := _) (E := E) (fun W => ∃ R, Sat E W ((TombAt t g sz V ba * F) * R)) [] [1, 9, 18, 24] [] [] (fun _ => (0, #[], fun _ => undef)) [0, 1, 2, 3, 4, 5, 6, 7, 8, 9, 10, 11, 12, 13, 14, 15, 16, 17, 18, 19, 20, 21, 22, 23, 24, 25, 26, 27, 28, 29, 30, 31, 32, 33, 34, 35, 36, 37, 38, 39, 40] (by kernel_rfl) (by kernel_rfl) (unhide HS) (fun W R h => ⟨_, h.asc⟩) ?_
      iterate 1
        refine wpS_f _ rfl rfl (v := ?_) ?_ ?_
        rotate_left
        · rintro W ⟨R, hW⟩
          have f1 : W.cell? ⟨t, 0, none⟩ = some (.pointer (some ⟨g, 0, none⟩)) := hW.asc.asc.cell 0
          go_simp
          first | rfl | (rw [IntKind.wrap_i64]; omega)
        go_simp
      refine wpS_c _ rfl rfl (v := .bool false) (freeC_call rfl (fun W => by go_simp; try rfl) (fun W ⟨R, hW⟩ => (tomb_is hW.asc).mono fun e w' ⟨he, hw⟩ => ⟨he, hw ▸ Below.refl _ _⟩)) ?_
      go_simp
      iterate 7
        refine wpS_f _ rfl rfl (v := ?_) ?_ ?_
        rotate_left
        · rintro W ⟨R, hW⟩
          have f1 : W.cell? ⟨t, 0, none⟩ = some (.pointer (some ⟨g, 0, none⟩)) := hW.asc.asc.cell 0
          go_simp
          first | rfl | (rw [IntKind.wrap_i64]; omega)
        go_simp
      refine wpS_c _ rfl rfl (v := .int .i64 ba) (freeC_call rfl (fun W => by go_simp; try rfl) (fun W ⟨R, hW⟩ => (base_call W g sz ba (hW.asc.asc.f2.cell 4) (hW.asc.asc.f2.cell 5) (unhide HZ)).mono fun e w' ⟨he, hw⟩ => ⟨he, hw ▸ Below.refl _ _⟩)) ?_
      go_simp
      iterate 8
        refine wpS_f _ rfl rfl (v := ?_) ?_ ?_
        rotate_left
        · rintro W ⟨R, hW⟩
          have f1 : W.cell? ⟨t, 0, none⟩ = some (.pointer (some ⟨g, 0, none⟩)) := hW.asc.asc.cell 0
          go_simp
          first | rfl | (rw [IntKind.wrap_i64]; omega)
        go_simp
      refine wpS_c _ rfl rfl (v := .int .i64 ba) (freeC_call rfl (fun W => by go_simp; try rfl) (fun W ⟨R, hW⟩ => (base_call W g sz ba (hW.asc.asc.f2.cell 4) (hW.asc.asc.f2.cell 5) (unhide HZ)).mono fun e w' ⟨he, hw⟩ => ⟨he, hw ▸ Below.refl _ _⟩)) ?_
      go_simp
      iterate 5
        refine wpS_f _ rfl rfl (v := ?_) ?_ ?_
        rotate_left
        · rintro W ⟨R, hW⟩
          have f1 : W.cell? ⟨t, 0, none⟩ = some (.pointer (some ⟨g, 0, none⟩)) := hW.asc.asc.cell 0
          go_simp
          first | rfl | (rw [IntKind.wrap_i64]; omega)
        go_simp
      refine wpS_c _ rfl rfl (v := .int .i64 sz) (freeC_call rfl (fun W => by go_simp; try rfl) (fun W ⟨R, hW⟩ => (size_call W g sz (hW.asc.asc.f2.cell 4) (unhide HZ)).mono fun e w' ⟨he, hw⟩ => ⟨he, hw ▸ Below.refl _ _⟩)) ?_
      go_simp
      iterate 16
        refine wpS_f _ rfl rfl (v := ?_) ?_ ?_
        rotate_left
        · rintro W ⟨R, hW⟩
          have f1 : W.cell? ⟨t, 0, none⟩ = some (.pointer (some ⟨g, 0, none⟩)) := hW.asc.asc.cell 0
          go_simp
          first | rfl | (rw [IntKind.wrap_i64]; omega)
        go_simp
      refine wpS_n (fun w3 hs3 => ?_)
      have HS3 := hide (hs3.perm (sep_one _))
      clear hs3
      go_wp2_with fail
      go_ret
      exact ⟨by rw [unhide HR]; rfl, unhide HS3⟩
  · have d1 : decide ((ba : Int) ≤ n) = false := decide_eq_false c1
    have HR : Hid (mayR sz ba L n = false) := decide_eq_false fun h => c1 h.1
    clear hs hi
    go_enter Try.func27, Try.ntmps27
    go_wp2_with fail
    refine wp_region_slr (Q := _) (E := E) (fun W => ∃ R, Sat E W ((TombAt t g sz V ba * F) * R)) [] [1, 9] [] [] (fun _ => (0, #[], fun _ => undef)) [0, 1, 2, 3, 4, 5, 6, 7, 8, 9, 10, 11, 12, 13, 14, 15, 16, 17, 18, 19, 20, 21, 22, 23, 24, 25, 26, 27, 28, 29, 30, 31, 32, 33, 34, 35, 36, 37, 38, 39, 40] (by kernel_rfl) (by kernel_rfl) (unhide HS) (fun W R h => ⟨_, h.asc⟩) ?_
    iterate 1
      refine wpS_f _ rfl rfl (v := ?_) ?_ ?_
      rotate_left
      · rintro W ⟨R, hW⟩
        have f1 : W.cell? ⟨t, 0, none⟩ = some (.pointer (some ⟨g, 0, none⟩)) := hW.asc.asc.cell 0
        go_simp
        first | rfl | (rw [IntKind.wrap_i64]; omega)
      go_simp
    refine wpS_c _ rfl rfl (v := .bool false) (freeC_call rfl (fun W => by go_simp; try rfl) (fun W ⟨R, hW⟩ => (tomb_is hW.asc).mono fun e w' ⟨he, hw⟩ => ⟨he, hw ▸ Below.refl _ _⟩)) ?_
    go_simp
    iterate 7
      refine wpS_f _ rfl rfl (v := ?_) ?_ ?_
      rotate_left
      · rintro W ⟨R, hW⟩
        have f1 : W.cell? ⟨t, 0, none⟩ = some (.pointer (some ⟨g, 0, none⟩)) := hW.asc.asc.cell 0
        go_simp
        first | rfl | (rw [IntKind.wrap_i64]; omega)
      go_simp
    refine wpS_c _ rfl rfl (v := .int .i64 ba) (freeC_call rfl (fun W => by go_simp; try rfl) (fun W ⟨R, hW⟩ => (base_call W g sz ba (hW.asc.asc.f2.cell 4) (hW.asc.asc.f2.cell 5) (unhide HZ)).mono fun e w' ⟨he, hw⟩ => ⟨he, hw ▸ Below.refl _ _⟩)) ?_
    go_simp
    iterate 31
      refine wpS_f _ rfl rfl (v := ?_) ?_ ?_
      rotate_left
      · rintro W ⟨R, hW⟩
        have f1 : W.cell? ⟨t, 0, none⟩ = some (.pointer (some ⟨g, 0, none⟩)) := hW.asc.asc.cell 0
        go_simp
        first | rfl | (rw [IntKind.wrap_i64]; omega)
      go_simp
    refine wpS_n (fun w3 hs3 => ?_)
    have HS3 := hide (hs3.perm (sep_one _))
    clear hs3
    go_wp2_with fail
    go_ret
    exact ⟨by rw [unhide HR]; rfl, unhide HS3⟩
end
end Go.Proofs.Ytcagfcflffhadaa
