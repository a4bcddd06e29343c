/- PermNobody: lists that nobody made. -/
import Derived.Test.YtpcoehbjbjfggaaPermRuns
namespace Go.Proofs.Ytpcoehbjbjfggaa
open Go.RowKit Asn

/-- No list: nil, or one without a source. -/
def NoPerm (p : Option Addr) (w : World) : Prop := p = none ∨ ∃ g, p = some ⟨g, 0, none⟩ ∧ w.cell? ⟨g, 0, none⟩ = some (.pointer none)
theorem NoPerm.none_ {p : Option Addr} {w : World} (h : NoPerm p w) : Calls Try.prog 97 #[.pointer p] w fun e w' => e = .returned (.bool true) ∧ w = w' := by
  rcases h with rfl | ⟨g, rfl, hc⟩
  · exact perm_nil w
  · exact perm_none w g none hc
theorem NoPerm.below {p : Option Addr} {w w' : World} (h : NoPerm p w) (hb : Below w.heap.size w w') : NoPerm p w' := by
  rcases h with rfl | ⟨g, rfl, hc⟩
  · exact .inl rfl
  · exact .inr ⟨g, rfl, by rw [hb.cell (World.block_lt_of_cell? w _ hc)]; exact hc⟩
section
variable {p : Option Addr} {w : World}
theorem permn_next (h : NoPerm p w) : Calls Try.prog 66 #[.pointer p] w fun e w' => e = .returned (.int .i64 (-1)) ∧ Below w.heap.size w w' := by
  have hn := hide h.none_
  go_enter Try.func66, Try.ntmps66
  go_wp2_with (go_at_call 97; refine (unhide hn).mono ?_; rintro e w' ⟨rfl, rfl⟩)
  go_ret
  exact ⟨rfl, Below.refl _ _⟩
theorem permn_peek (h : NoPerm p w) : Calls Try.prog 74 #[.pointer p] w fun e w' => e = .returned (.int .i64 (-1)) ∧ Below w.heap.size w w' := by
  have hn := hide h.none_
  go_enter Try.func74, Try.ntmps74
  go_wp2_with (go_at_call 97; refine (unhide hn).mono ?_; rintro e w' ⟨rfl, rfl⟩)
  go_ret
  exact ⟨rfl, Below.refl _ _⟩
theorem permn_left (h : NoPerm p w) : Calls Try.prog 75 #[.pointer p] w fun e w' => e = .returned (.slice none 0 0) ∧ Below w.heap.size w w' := by
  have hn := hide h.none_
  go_enter Try.func75, Try.ntmps75
  go_wp2_with (go_at_call 97; refine (unhide hn).mono ?_; rintro e w' ⟨rfl, rfl⟩)
  go_ret
  exact ⟨rfl, Below.refl _ _⟩
theorem permn_paths (h : NoPerm p w) : Calls Try.prog 76 #[.pointer p] w fun e w' => e = .returned (.slice none 0 0) ∧ Below w.heap.size w w' := by
  have hn := hide h.none_
  go_enter Try.func76, Try.ntmps76
  go_wp2_with (go_at_call 97; refine (unhide hn).mono ?_; rintro e w' ⟨rfl, rfl⟩)
  go_ret
  exact ⟨rfl, Below.refl _ _⟩
theorem permn_rounds (h : NoPerm p w) : Calls Try.prog 77 #[.pointer p] w fun e w' => e = .returned (.int .i64 0) ∧ Below w.heap.size w w' := by
  have hn := hide h.none_
  go_enter Try.func77, Try.ntmps77
  go_wp2_with (go_at_call 97; refine (unhide hn).mono ?_; rintro e w' ⟨rfl, rfl⟩)
  go_ret
  exact ⟨rfl, Below.refl _ _⟩
theorem permn_fork (h : NoPerm p w) : Calls Try.prog 72 #[.pointer p] w fun e w' => e = .returned (.pointer none) ∧ Below w.heap.size w w' := by
  have hn := hide h.none_
  go_enter Try.func72, Try.ntmps72
  go_wp2_with (go_at_call 97; refine (unhide hn).mono ?_; rintro e w' ⟨rfl, rfl⟩)
  go_ret
  exact ⟨rfl, Below.refl _ _⟩
theorem permn_renew (h : NoPerm p w) (v : Value) : Calls Try.prog 70 #[.pointer p, v] w fun e w' => e = .returned (.int .i64 4) ∧ Below w.heap.size w w' := by
  have hn := hide h.none_
  go_enter Try.func70, Try.ntmps70
  go_wp2_with (go_at_call 97; refine (unhide hn).mono ?_; rintro e w' ⟨rfl, rfl⟩)
  go_ret
  exact ⟨rfl, Below.refl _ _⟩
theorem permn_sprayed (h : NoPerm p w) : Calls Try.prog 67 #[.pointer p] w fun e w' => e = .returned (.agg #[.int .i64 0, .int .i64 0, .int .i64 0, .int .i64 0, .int .i64 0, .int .i64 0, .int .i64 0, .int .i64 0]) ∧ Below w.heap.size w w' := by
  have hn : Hid (∀ w', Below w.heap.size w w' → Calls Try.prog 97 #[.pointer p] w' fun e w'' => e = .returned (.bool true) ∧ w' = w'') := fun w' hb => (h.below hb).none_
  go_enter Try.func67, Try.ntmps67
  go_wp2_with (go_at_call 97; refine (unhide hn _ ((Below.refl _ _).alloc (Nat.le_refl _) _)).mono ?_; rintro e w' ⟨rfl, rfl⟩)
  exact bodyPost_ret (v := .agg #[.int .i64 0, .int .i64 0, .int .i64 0, .int .i64 0, .int .i64 0, .int .i64 0, .int .i64 0, .int .i64 0]) (by simp [results, Try.results67, go_sem]) rfl ⟨rfl, (Below.refl _ _).alloc (Nat.le_refl _) _⟩
end
set_option maxHeartbeats 4000000 in
set_option maxRecDepth 100000 in
theorem permNobody_walk (W0 : World) (A0 : Option Addr) (n0 c0 : Nat) (hn0 : n0 ≤ 9223372036854775807) (hc0 : n0 ≤ c0) : Calls Try.prog 14 #[.slice A0 n0 c0] W0 fun e w' => e = .returned (.bool true) ∧ Below W0.heap.size W0 w' := by
  have hs1 := (Sat.start W0).alloc permZ 137
  have hs2 := hs1.alloc #[.pointer none, .pointer (some ⟨W0.heap.size, 0, none⟩)] 112
  rw [World.size_alloc] at hs2
  have hsh := hide (fun w => short06 w A0 n0 c0 hn0 hc0)
  have heq : ∀ w, (Op.equalIn 10000 117 (.agg #[.int .i64 0, .int .i64 0, .int .i64 0, .int .i64 0, .int .i64 0, .int .i64 0, .int .i64 0, .int .i64 0]) (.agg #[.int .i64 0, .int .i64 0, .int .i64 0, .int .i64 0, .int .i64 0, .int .i64 0, .int .i64 0, .int .i64 0])).run Try.prog w = .ok true w := eqT fun _ => 0
  obtain ⟨nn, hnn⟩ : ∃ nn, nn = min n0 20 := ⟨_, rfl⟩
  rw [← hnn] at hsh
  have HS2 := hide hs2
  clear hs1 hs2 hnn
  go_enter Try.func14, Try.ntmps14
  go_wp2_with fail
  go_loopw [5] (fun i wr => ∃ k : Nat, k ≤ 2 ∧ i = .int .i64 k ∧ Sat W0 wr (Asn.blk (W0.heap.size + 1) 112 #[.pointer none, .pointer (some ⟨W0.heap.size, 0, none⟩)] * (Asn.blk W0.heap.size 137 permZ * Asn.exact W0))) (fun i _ => 2 - (intOf i).toNat)
  case atStart => exact ⟨0, by omega, rfl, unhide HS2⟩
  case round =>
    obtain ⟨k, hk, rfl, hsr⟩ := hrel
    clear HS2
    by_cases hlt : k < 2
    · obtain ⟨p, hp⟩ : ∃ p : Option Addr, ∀ w R, Sat W0 w ((Asn.blk (W0.heap.size + 1) 112 #[.pointer none, .pointer (some ⟨W0.heap.size, 0, none⟩)] * (Asn.blk W0.heap.size 137 permZ * Asn.exact W0)) * R) → w.cell? ⟨W0.heap.size + 1, k, none⟩ = some (.pointer p) ∧ NoPerm p w := by
        rcases (by omega : k = 0 ∨ k = 1) with rfl | rfl
        · exact ⟨none, fun w R h => ⟨h.left.cell 0, .inl rfl⟩⟩
        · exact ⟨some ⟨W0.heap.size, 0, none⟩, fun w R h => ⟨h.left.cell 1, .inr ⟨_, rfl, h.left.f2.cell 0⟩⟩⟩
      have HP := hide hp
      have HS := hide (hsr.perm (sep_one _).symm)
      have hki : (k : Int) < 2 := by omega
      clear hp hsr
      go_wp2_with fail
      refine wp_region_slr (Q := _) (E := W0) (fun W => ∃ R, Sat W0 W ((Asn.blk (W0.heap.size + 1) 112 #[.pointer none, .pointer (some ⟨W0.heap.size, 0, none⟩)] * (Asn.blk W0.heap.size 137 permZ * Asn.exact W0)) * R)) [] [4, 11, 19, 25, 32, 42, 43, 51, 60] [] [] (fun _ => (0, #[], fun _ => undef)) [0, 1, 2, 3, 4, 5, 6, 7, 8, 9, 10, 11, 12, 13, 14, 15, 16, 17, 18, 19, 20, 21, 22, 23, 24, 25, 26, 27, 28, 29, 30, 31, 32, 33, 34, 35, 36, 37, 38, 39, 40, 41, 42, 43, 44, 45, 46, 47, 48, 49, 50, 51, 52, 53, 54, 55, 56, 57, 58, 59, 60, 61, 62] (by kernel_rfl) (by kernel_rfl) (unhide HS) (fun W R h => ⟨_, h.asc⟩) ?_
      iterate 4
        refine wpS_f _ rfl rfl (v := ?_) ?_ ?_
        rotate_left
        · rintro W ⟨R, hW⟩
          have c0 : W.cell? ⟨_, k, none⟩ = some (.pointer p) := (unhide HP W R hW).1
          go_simp
          first | rfl | (rw [IntKind.wrap_i64]; omega)
        go_simp
      refine wpS_c _ rfl rfl (v := .int .i64 (-1)) (freeC_call rfl (fun W => by go_simp; try rfl) (fun W ⟨R, hW⟩ => permn_next (unhide HP W R hW).2)) ?_
      go_simp
      iterate 6
        refine wpS_f _ rfl rfl (v := ?_) ?_ ?_
        rotate_left
        · rintro W ⟨R, hW⟩
          have c0 : W.cell? ⟨_, k, none⟩ = some (.pointer p) := (unhide HP W R hW).1
          go_simp
          first | rfl | (rw [IntKind.wrap_i64]; omega)
        go_simp
      refine wpS_c _ rfl rfl (v := .int .i64 (-1)) (freeC_call rfl (fun W => by go_simp; try rfl) (fun W ⟨R, hW⟩ => permn_peek (unhide HP W R hW).2)) ?_
      go_simp
      iterate 7
        refine wpS_f _ rfl rfl (v := ?_) ?_ ?_
        rotate_left
        · rintro W ⟨R, hW⟩
          have c0 : W.cell? ⟨_, k, none⟩ = some (.pointer p) := (unhide HP W R hW).1
          go_simp
          first | rfl | (rw [IntKind.wrap_i64]; omega)
        go_simp
      refine wpS_c _ rfl rfl (v := .slice none 0 0) (freeC_call rfl (fun W => by go_simp; try rfl) (fun W ⟨R, hW⟩ => permn_left (unhide HP W R hW).2)) ?_
      go_simp
      iterate 5
        refine wpS_f _ rfl rfl (v := ?_) ?_ ?_
        rotate_left
        · rintro W ⟨R, hW⟩
          have c0 : W.cell? ⟨_, k, none⟩ = some (.pointer p) := (unhide HP W R hW).1
          go_simp
          first | rfl | (rw [IntKind.wrap_i64]; omega)
        go_simp
      refine wpS_c _ rfl rfl (v := .slice none 0 0) (freeC_call rfl (fun W => by go_simp; try rfl) (fun W ⟨R, hW⟩ => permn_paths (unhide HP W R hW).2)) ?_
      go_simp
      iterate 6
        refine wpS_f _ rfl rfl (v := ?_) ?_ ?_
        rotate_left
        · rintro W ⟨R, hW⟩
          have c0 : W.cell? ⟨_, k, none⟩ = some (.pointer p) := (unhide HP W R hW).1
          go_simp
          first | rfl | (rw [IntKind.wrap_i64]; omega)
        go_simp
      refine wpS_c _ rfl rfl (v := .int .i64 0) (freeC_call rfl (fun W => by go_simp; try rfl) (fun W ⟨R, hW⟩ => permn_rounds (unhide HP W R hW).2)) ?_
      go_simp
      iterate 9
        refine wpS_f _ rfl rfl (v := ?_) ?_ ?_
        rotate_left
        · rintro W ⟨R, hW⟩
          have c0 : W.cell? ⟨_, k, none⟩ = some (.pointer p) := (unhide HP W R hW).1
          go_simp
          first | rfl | (rw [IntKind.wrap_i64]; omega)
        go_simp
      refine wpS_c _ rfl rfl (v := .slice A0 nn c0) (freeC_call rfl (fun W => by go_simp; try rfl) (fun W ⟨R, hW⟩ => (unhide hsh W).mono fun e w' ⟨he, hw⟩ => ⟨he, hw ▸ Below.refl _ _⟩)) ?_
      go_simp
      refine wpS_c _ rfl rfl (v := .int .i64 4) (freeC_call rfl (fun W => by go_simp; try rfl) (fun W ⟨R, hW⟩ => permn_renew (unhide HP W R hW).2 _)) ?_
      go_simp
      iterate 7
        refine wpS_f _ rfl rfl (v := ?_) ?_ ?_
        rotate_left
        · rintro W ⟨R, hW⟩
          have c0 : W.cell? ⟨_, k, none⟩ = some (.pointer p) := (unhide HP W R hW).1
          go_simp
          first | rfl | (rw [IntKind.wrap_i64]; omega)
        go_simp
      refine wpS_c _ rfl rfl (v := .agg #[.int .i64 0, .int .i64 0, .int .i64 0, .int .i64 0, .int .i64 0, .int .i64 0, .int .i64 0, .int .i64 0]) (freeC_call rfl (fun W => by go_simp; try rfl) (fun W ⟨R, hW⟩ => permn_sprayed (unhide HP W R hW).2)) ?_
      go_simp
      iterate 8
        refine wpS_f _ rfl rfl (v := ?_) ?_ ?_
        rotate_left
        · rintro W ⟨R, hW⟩
          have c0 : W.cell? ⟨_, k, none⟩ = some (.pointer p) := (unhide HP W R hW).1
          go_simp
          first | rfl | (rw [IntKind.wrap_i64]; omega)
        go_simp
      refine wpS_c _ rfl rfl (v := .pointer none) (freeC_call rfl (fun W => by go_simp; try rfl) (fun W ⟨R, hW⟩ => permn_fork (unhide HP W R hW).2)) ?_
      go_simp
      iterate 2
        refine wpS_f _ rfl rfl (v := ?_) ?_ ?_
        rotate_left
        · rintro W ⟨R, hW⟩
          have c0 : W.cell? ⟨_, k, none⟩ = some (.pointer p) := (unhide HP W R hW).1
          go_simp
          first | rfl | (rw [IntKind.wrap_i64]; omega)
        go_simp
      refine wpS_n (fun w3 hs3 => ?_)
      have HS3 := hide (hs3.perm (sep_one _))
      clear hs3
      go_wp2_with fail
      go_roundw
      case rel => exact ⟨k + 1, by omega, by go_num, unhide HS3⟩
      case measure => simp [intOf]; omega
    · have haw := hide (awake06 W0 wr _ hsr)
      clear hsr
      go_wp2_with fail
      refine (unhide haw).mono ?_
      rintro e w1 ⟨rfl, hs4⟩
      have hbel := hide (Sat.below (F := 1) (hs4.right.right.perm (sep_one _).symm))
      clear hs4 haw
      go_wp2_with fail
      go_ret
      exact ⟨rfl, unhide hbel⟩
end Go.Proofs.Ytpcoehbjbjfggaa
