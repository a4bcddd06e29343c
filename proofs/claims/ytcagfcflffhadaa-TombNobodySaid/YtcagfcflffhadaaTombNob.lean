/- TombNobody: tombs that nobody made. -/
import Derived.Test.YtcagfcflffhadaaTombN
namespace Go.Proofs.Ytcagfcflffhadaa
open Go.RowKit Asn
def noneF : Nat → Option TSt := fun _ => none
/-- What TombNobody's two rows lie in. -/
def nobK (W0 : World) (q : Nat) : Asn := Asn.blk (q + 1) 38 #[.pointer none, .pointer (some ⟨q, 0, none⟩)] * (Asn.blk q 88 #[.pointer none] * Asn.exact W0)
def nobM (W0 : World) (q : Nat) : Asn := Asn.blk (q + 1) 85 #[.pointer none, .pointer (some ⟨q, 0, none⟩)] * (Asn.blk q 93 (tombsC noneF 0) * Asn.exact W0)
set_option maxHeartbeats 4000000 in
set_option maxRecDepth 100000 in
theorem tombNobody_walk (W0 : World) (n : Int) : Calls Try.prog 8 #[.int .i64 n] W0 fun e w' => e = .returned (.bool true) ∧ Below W0.heap.size W0 w' := by
  have hs1 := (Sat.start W0).alloc #[.pointer none] 88
  have hs2 := hs1.alloc #[.pointer none, .pointer (some ⟨W0.heap.size, 0, none⟩)] 38
  rw [World.size_alloc] at hs2
  have HS2 := hide (show Sat W0 _ (nobK W0 W0.heap.size) from hs2)
  clear hs1 hs2
  go_enter Try.func8, Try.ntmps8
  go_wp2_with fail
  go_loopw [6, 7, 8] (fun i _ _ wr => ∃ k : Nat, k ≤ 2 ∧ i = .int .i64 k ∧ Sat W0 wr (nobK W0 W0.heap.size)) (fun i _ _ _ => 2 - (intOf i).toNat)
  case atStart => exact ⟨0, by omega, rfl, unhide HS2⟩
  case round =>
    obtain ⟨k, hk, rfl, hsr⟩ := hrel
    clear HS2
    by_cases hlt : k < 2
    · obtain ⟨p, hp⟩ : ∃ p : Option Addr, ∀ w R, Sat W0 w (nobK W0 W0.heap.size * R) → w.cell? ⟨W0.heap.size + 1, k, none⟩ = some (.pointer p) ∧ NoTomb p w := by
        rcases (by omega : k = 0 ∨ k = 1) with rfl | rfl
        · exact ⟨none, fun w R h => ⟨h.left.cell 0, .inl rfl⟩⟩
        · exact ⟨some ⟨W0.heap.size, 0, none⟩, fun w R h => ⟨h.left.cell 1, .inr ⟨_, rfl, h.left.f2.cell 0⟩⟩⟩
      have HP := hide hp
      have hki : (k : Int) < 2 := by omega
      have hc := (hp wr 1 (hsr.perm (sep_one _).symm)).1
      have hcl := hide (tombn_close (hp wr 1 (hsr.perm (sep_one _).symm)).2 n)
      have HSR := hide hsr
      clear hp hsr
      go_wp2_with fail
      refine (unhide hcl).mono ?_
      rintro e w2 ⟨rfl, hb⟩
      have HS := hide (((unhide HSR).under hb).perm (sep_one _).symm)
      clear hcl hb HSR hc
      go_wp2_with fail
      refine wp_region_slr (Q := _) (E := W0) (fun W => ∃ R, Sat W0 W ((nobK W0 W0.heap.size) * R)) [] [11, 19, 26, 31, 37, 47] [] [] (fun _ => (0, #[], fun _ => undef)) [0, 1, 2, 3, 4, 5, 6, 7, 8, 9, 10, 11, 12, 13, 14, 15, 16, 17, 18, 19, 20, 21, 22, 23, 24, 25, 26, 27, 28, 29, 30, 31, 32, 33, 34, 35, 36, 37, 38, 39, 40, 41, 42, 43, 44, 45, 46, 47, 48, 49] (by kernel_rfl) (by kernel_rfl) (unhide HS) (fun W R h => ⟨_, h.asc⟩) ?_
      iterate 11
        refine wpS_f _ rfl rfl (v := ?_) ?_ ?_
        rotate_left
        · rintro W ⟨R, hW⟩
          have c0 : W.cell? ⟨_, k, none⟩ = some (.pointer p) := (unhide HP W R hW).1
          go_simp
          first | rfl | (rw [IntKind.wrap_i64]; omega)
        go_simp
      refine wpS_c _ rfl rfl (v := .bool false) (freeC_call rfl (fun W => by go_simp; try rfl) (fun W ⟨R, hW⟩ => tombn_closed (unhide HP W R hW).2 n)) ?_
      go_simp
      iterate 7
        refine wpS_f _ rfl rfl (v := ?_) ?_ ?_
        rotate_left
        · rintro W ⟨R, hW⟩
          have c0 : W.cell? ⟨_, k, none⟩ = some (.pointer p) := (unhide HP W R hW).1
          go_simp
          first | rfl | (rw [IntKind.wrap_i64]; omega)
        go_simp
      refine wpS_c _ rfl rfl (v := .bool false) (freeC_call rfl (fun W => by go_simp; try rfl) (fun W ⟨R, hW⟩ => tombn_may (unhide HP W R hW).2 n)) ?_
      go_simp
      iterate 6
        refine wpS_f _ rfl rfl (v := ?_) ?_ ?_
        rotate_left
        · rintro W ⟨R, hW⟩
          have c0 : W.cell? ⟨_, k, none⟩ = some (.pointer p) := (unhide HP W R hW).1
          go_simp
          first | rfl | (rw [IntKind.wrap_i64]; omega)
        go_simp
      refine wpS_c _ rfl rfl (v := .int .i64 0) (freeC_call rfl (fun W => by go_simp; try rfl) (fun W ⟨R, hW⟩ => tombn_floor (unhide HP W R hW).2)) ?_
      go_simp
      iterate 4
        refine wpS_f _ rfl rfl (v := ?_) ?_ ?_
        rotate_left
        · rintro W ⟨R, hW⟩
          have c0 : W.cell? ⟨_, k, none⟩ = some (.pointer p) := (unhide HP W R hW).1
          go_simp
          first | rfl | (rw [IntKind.wrap_i64]; omega)
        go_simp
      refine wpS_c _ rfl rfl (v := .int .i64 0) (freeC_call rfl (fun W => by go_simp; try rfl) (fun W ⟨R, hW⟩ => tombn_count (unhide HP W R hW).2)) ?_
      go_simp
      iterate 5
        refine wpS_f _ rfl rfl (v := ?_) ?_ ?_
        rotate_left
        · rintro W ⟨R, hW⟩
          have c0 : W.cell? ⟨_, k, none⟩ = some (.pointer p) := (unhide HP W R hW).1
          go_simp
          first | rfl | (rw [IntKind.wrap_i64]; omega)
        go_simp
      refine wpS_c _ rfl rfl (v := .slice none 0 0) (freeC_call rfl (fun W => by go_simp; try rfl) (fun W ⟨R, hW⟩ => tombn_open (unhide HP W R hW).2 9)) ?_
      go_simp
      iterate 9
        refine wpS_f _ rfl rfl (v := ?_) ?_ ?_
        rotate_left
        · rintro W ⟨R, hW⟩
          have c0 : W.cell? ⟨_, k, none⟩ = some (.pointer p) := (unhide HP W R hW).1
          go_simp
          first | rfl | (rw [IntKind.wrap_i64]; omega)
        go_simp
      refine wpS_c _ rfl rfl (v := .pointer none) (freeC_call rfl (fun W => by go_simp; try rfl) (fun W ⟨R, hW⟩ => tombn_fork (unhide HP W R hW).2)) ?_
      go_simp
      iterate 2
        refine wpS_f _ rfl rfl (v := ?_) ?_ ?_
        rotate_left
        · rintro W ⟨R, hW⟩
          have c0 : W.cell? ⟨_, k, none⟩ = some (.pointer p) := (unhide HP W R hW).1
          go_simp
          first | rfl | (rw [IntKind.wrap_i64]; omega)
        go_simp
      refine wpS_n (fun w3 hs3 => ?_)
      have HS3 := hide (hs3.perm (sep_one _))
      clear hs3
      go_wp2_with fail
      go_roundw
      case rel => exact ⟨k + 1, by omega, by go_num, unhide HS3⟩
      case measure => simp [intOf]; omega
    · have hs1 : Sat W0 _ _ := ((hsr.right.right).alloc (tombsC noneF 0) 93)
      have hs2 := hs1.alloc #[.pointer none, .pointer (some ⟨wr.heap.size, 0, none⟩)] 85
      rw [World.size_alloc] at hs2
      obtain ⟨q, hq⟩ : ∃ q, q = wr.heap.size := ⟨_, rfl⟩
      rw [← hq] at hs2
      have HS2 := hide (show Sat W0 _ (nobM W0 q) from hs2)
      have hk2 : ¬ (k : Int) < 2 := by omega
      clear hs1 hs2 hsr hlt hk
      go_wp2_with fail
      rw [← hq]
      clear hq
      go_loopw [10] (fun i wr => ∃ k : Nat, k ≤ 2 ∧ i = .int .i64 k ∧ Sat W0 wr (nobM W0 q)) (fun i _ => 2 - (intOf i).toNat)
      case atStart => exact ⟨0, by omega, rfl, unhide HS2⟩
      case round =>
        obtain ⟨j, hj, rfl, hsr⟩ := hrel
        clear HS2
        by_cases hjl : j < 2
        · obtain ⟨p, hc, hof, hct⟩ : ∃ p : Option Addr, wr.cell? ⟨q + 1, j, none⟩ = some (.pointer p) ∧ Calls Try.prog 50 #[.pointer p, .int .i64 0] wr (fun e w' => e = .returned (.pointer none) ∧ wr = w') ∧
              Calls Try.prog 51 #[.pointer p] wr (fun e w' => e = .returned (.int .i64 0) ∧ Sat W0 w' (nobM W0 q)) := by
            rcases (by omega : j = 0 ∨ j = 1) with rfl | rfl
            · exact ⟨none, hsr.cell 0, tombs_of_nil wr 0, (tombs_count_nil wr).mono fun e w' ⟨he, hw⟩ => ⟨he, hw ▸ hsr⟩⟩
            · refine ⟨some ⟨q, 0, none⟩, hsr.cell 1, tombs_of_no W0 wr _ noneF q 0 0 hsr.f2 (by omega), ?_⟩
              have hs5 : Sat W0 wr (Asn.blk q 93 (tombsC noneF 0) * (upto 1 noneF 8 * (Asn.blk (q + 1) 85 #[.pointer none, .pointer (some ⟨q, 0, none⟩)] * Asn.exact W0))) := hsr.perm (by unfold nobM; simp only [upto, TSt.asn, noneF, one_sep]; ac_rfl)
              refine (tombs_count W0 wr _ noneF q 0 1 hs5 (fun k x h => by cases h) (fun k => Nat.zero_le _)).mono fun e w' ⟨he, hs⟩ => ⟨he, hs.perm ?_⟩
              unfold nobM
              simp only [upto, TSt.asn, noneF, one_sep]
              ac_rfl
          have HOF := hide hof
          have HCT := hide hct
          have hki : (j : Int) < 2 := by omega
          clear hof hct hsr
          go_wp2_with (go_at_call 50; refine (unhide HOF).mono ?_; rintro e w' ⟨rfl, rfl⟩)
          refine (unhide HCT).mono ?_
          rintro e w2 ⟨rfl, hs3⟩
          have HS3 := hide hs3
          clear hs3 HOF HCT hc
          go_wp2_with fail
          go_roundw
          case rel => exact ⟨j + 1, by omega, by go_num, unhide HS3⟩
          case measure => simp [intOf]; omega
        · have haw := hide (awake20 W0 wr _ hsr)
          clear hsr
          go_wp2_with fail
          refine (unhide haw).mono ?_
          rintro e w1 ⟨rfl, hs4⟩
          have hbel := hide (Sat.below (F := 1) (hs4.right.right.perm (sep_one _).symm))
          clear hs4 haw
          go_wp2_with fail
          go_ret
          exact ⟨rfl, unhide hbel⟩
end Go.Proofs.Ytcagfcflffhadaa
