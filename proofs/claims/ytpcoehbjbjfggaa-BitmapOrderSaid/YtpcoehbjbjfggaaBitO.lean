/- BitmapNobody: bitmaps that nobody made. -/
import Derived.Test.YtpcoehbjbjfggaaBitA
namespace Go.Proofs.Ytpcoehbjbjfggaa
open Go.RowKit Asn

/-- No bitmap: nil, or one whose size is 0. -/
def NoBit (p : Option Addr) (w : World) : Prop := p = none ∨ ∃ g, p = some ⟨g, 0, none⟩ ∧ w.cell? ⟨g, 4, none⟩ = some (.int .i64 0)
theorem NoBit.none_ {p : Option Addr} {w : World} (h : NoBit p w) : Calls Try.prog 88 #[.pointer p] w fun e w' => e = .returned (.bool true) ∧ w = w' := by
  rcases h with rfl | ⟨g, rfl, hc⟩
  · exact bit_nil w
  · exact bit_unmade w g hc
theorem NoBit.below {p : Option Addr} {w w' : World} (h : NoBit p w) (hb : Below w.heap.size w w') : NoBit p w' := by
  rcases h with rfl | ⟨g, rfl, hc⟩
  · exact .inl rfl
  · exact .inr ⟨g, rfl, by rw [hb.cell (World.block_lt_of_cell? w _ hc)]; exact hc⟩
theorem NoBit.sat {p : Option Addr} {w : World} (h : NoBit p w) : ∀ W R, Sat w W (Asn.exact w * R) → Calls Try.prog 88 #[.pointer p] W fun e w' => e = .returned (.bool true) ∧ W = w' := fun _ _ hs => (h.below hs.below).none_
theorem NoBit.list {p : Option Addr} {w : World} (h : NoBit p w) : Calls Try.prog 53 #[.pointer p] w fun e w' => e = .returned (.slice none 0 0) ∧ Below w.heap.size w w' :=
  (bitn_list w w 1 (Asn.exact w) p ((Sat.start w).perm (sep_one _).symm) h.sat).mono fun e w' ⟨he, hs⟩ => ⟨he, hs.below⟩
theorem NoBit.lacking {p : Option Addr} {w : World} (h : NoBit p w) (most : Int) : Calls Try.prog 61 #[.pointer p, .int .i64 most] w fun e w' => e = .returned (.slice none 0 0) ∧ Below w.heap.size w w' :=
  (bitn_lacking w w 1 (Asn.exact w) p most ((Sat.start w).perm (sep_one _).symm) h.sat).mono fun e w' ⟨he, hs⟩ => ⟨he, hs.below⟩
theorem NoBit.count {p : Option Addr} {w : World} (h : NoBit p w) : Calls Try.prog 50 #[.pointer p] w fun e w' => e = .returned (.int .i64 0) ∧ Below w.heap.size w w' := by
  have hl := hide h.list
  go_enter Try.func50, Try.ntmps50
  go_wp2_with fail
  refine (unhide hl).mono ?_
  rintro e w2 ⟨rfl, hb⟩
  have HB := hide hb
  clear hb
  go_wp2_with fail
  go_ret
  exact ⟨rfl, unhide HB⟩

set_option maxHeartbeats 2000000 in
set_option maxRecDepth 100000 in
theorem bitmapNobody_walk (W : World) (n : Int) : Calls Try.prog 11 #[.int .i64 n] W fun e w' => e = .returned (.bool true) ∧ Below W.heap.size W w' := by
  have hs1 := (Sat.start W).alloc #[.int .u64 0, .int .u64 0, .int .u64 0, .int .u64 0, .int .i64 0, .int .i64 0] 109
  have hs2 := hs1.alloc #[.pointer none, .pointer (some ⟨W.heap.size, 0, none⟩)] 84
  rw [World.size_alloc] at hs2
  clear hs1
  go_enter Try.func11, Try.ntmps11
  go_wp2_with fail
  go_loopw [5, 6, 7] (fun i _ _ wr => ∃ k : Nat, k ≤ 2 ∧ i = .int .i64 k ∧ Sat W wr (Asn.blk (W.heap.size + 1) 84 #[.pointer none, .pointer (some ⟨W.heap.size, 0, none⟩)] *
      (Asn.blk W.heap.size 109 #[.int .u64 0, .int .u64 0, .int .u64 0, .int .u64 0, .int .i64 0, .int .i64 0] * Asn.exact W))) (fun i _ _ _ => 2 - (intOf i).toNat)
  case atStart => exact ⟨0, by omega, rfl, hs2⟩
  case round =>
    obtain ⟨k, hk, rfl, hsr⟩ := hrel
    clear hs2
    by_cases hlt : k < 2
    · obtain ⟨p, hp⟩ : ∃ p : Option Addr, ∀ w R, Sat W w ((Asn.blk (W.heap.size + 1) 84 #[.pointer none, .pointer (some ⟨W.heap.size, 0, none⟩)] *
          (Asn.blk W.heap.size 109 #[.int .u64 0, .int .u64 0, .int .u64 0, .int .u64 0, .int .i64 0, .int .i64 0] * Asn.exact W)) * R) → w.cell? ⟨W.heap.size + 1, k, none⟩ = some (.pointer p) ∧ NoBit p w := by
        rcases (by omega : k = 0 ∨ k = 1) with rfl | rfl
        · exact ⟨none, fun w R h => ⟨h.left.cell 0, .inl rfl⟩⟩
        · exact ⟨some ⟨W.heap.size, 0, none⟩, fun w R h => ⟨h.left.cell 1, .inr ⟨_, rfl, h.left.f2.cell 4⟩⟩⟩
      have hc := (hp wr 1 (hsr.perm (sep_one _).symm)).1
      have hset := hide (bitn_set (w := wr) n (hide (hp wr 1 (hsr.perm (sep_one _).symm)).2.none_))
      go_wp2_with fail
      refine (unhide hset).mono ?_
      rintro e w1 ⟨rfl, rfl⟩
      go_wp2_with fail
      have hki : (k : Int) < 2 := by omega
      refine wp_region_vals (Q := _) (E := W) (fun w => w.cell? ⟨W.heap.size + 1, k, none⟩ = some (.pointer p) ∧ NoBit p w) [11, 18, 23, 29, 35, 41, 48, 58]
        [.bool false, .bool false, .int .i64 4, .bool false, .bool false, .bool false, .slice (some ⟨W.heap.size + 1, 0, none⟩) 2 2, .int .i64 k, .pointer (some ⟨W.heap.size + 1, k, none⟩), .pointer p, .int .i64 n, .bool false, .bool false, .bool false, .slice (some ⟨W.heap.size + 1, 0, none⟩) 2 2, .int .i64 k, .pointer (some ⟨W.heap.size + 1, k, none⟩), .pointer p, .int .i64 0, .slice (some ⟨W.heap.size + 1, 0, none⟩) 2 2, .int .i64 k, .pointer (some ⟨W.heap.size + 1, k, none⟩), .pointer p, .int .i64 0, .int .i64 0, .slice (some ⟨W.heap.size + 1, 0, none⟩) 2 2, .int .i64 k, .pointer (some ⟨W.heap.size + 1, k, none⟩), .pointer p, .int .i64 0, .int .i64 0, .slice (some ⟨W.heap.size + 1, 0, none⟩) 2 2, .int .i64 k, .pointer (some ⟨W.heap.size + 1, k, none⟩), .pointer p, .int .i64 0, .int .i64 0, .slice (some ⟨W.heap.size + 1, 0, none⟩) 2 2, .int .i64 k, .pointer (some ⟨W.heap.size + 1, k, none⟩), .pointer p, .slice none 0 0, .int .i64 0, .int .i64 0, .slice (some ⟨W.heap.size + 1, 0, none⟩) 2 2, .int .i64 k, .pointer (some ⟨W.heap.size + 1, k, none⟩), .pointer p, .slice none 0 0, .int .i64 0, .int .i64 0, .bool false, .bool false, .bool false, .slice (some ⟨W.heap.size + 1, 0, none⟩) 2 2, .int .i64 k, .pointer (some ⟨W.heap.size + 1, k, none⟩), .pointer p, .pointer none, .bool false, .bool false] (by kernel_rfl) (by kernel_rfl) hsr hp (by simp only [putAll]; go_simp; rfl) ?_ ?_
      · focus
          iterate 11
            refine AllFree.s rfl (freeS_run (fun w hw => ?_) rfl) ?_
            · have q1 := hw.1
              go_simp
              try (first | rfl | (rw [IntKind.wrap_i64]; omega))
          refine AllFree.c rfl (freeC_call rfl (fun w => by go_simp) (fun w hw => (bitn_has n (hide hw.2.none_)).mono fun e w' ⟨he, hw⟩ => ⟨he, hw ▸ Below.refl _ _⟩)) ?_
          iterate 6
            refine AllFree.s rfl (freeS_run (fun w hw => ?_) rfl) ?_
            · have q1 := hw.1
              go_simp
              try (first | rfl | (rw [IntKind.wrap_i64]; omega))
          refine AllFree.c rfl (freeC_call rfl (fun w => by go_simp) (fun w hw => (bitn_adv (hide hw.2.none_)).mono fun e w' ⟨he, hw⟩ => ⟨he, hw ▸ Below.refl _ _⟩)) ?_
          iterate 4
            refine AllFree.s rfl (freeS_run (fun w hw => ?_) rfl) ?_
            · have q1 := hw.1
              go_simp
              try (first | rfl | (rw [IntKind.wrap_i64]; omega))
          refine AllFree.c rfl (freeC_call rfl (fun w => by go_simp) (fun w hw => (bitn_base (hide hw.2.none_)).mono fun e w' ⟨he, hw⟩ => ⟨he, hw ▸ Below.refl _ _⟩)) ?_
          iterate 5
            refine AllFree.s rfl (freeS_run (fun w hw => ?_) rfl) ?_
            · have q1 := hw.1
              go_simp
              try (first | rfl | (rw [IntKind.wrap_i64]; omega))
          refine AllFree.c rfl (freeC_call rfl (fun w => by go_simp) (fun w hw => (bitn_size (hide hw.2.none_)).mono fun e w' ⟨he, hw⟩ => ⟨he, hw ▸ Below.refl _ _⟩)) ?_
          iterate 5
            refine AllFree.s rfl (freeS_run (fun w hw => ?_) rfl) ?_
            · have q1 := hw.1
              go_simp
              try (first | rfl | (rw [IntKind.wrap_i64]; omega))
          refine AllFree.c rfl (freeC_call rfl (fun w => by go_simp) (fun w hw => hw.2.count)) ?_
          iterate 5
            refine AllFree.s rfl (freeS_run (fun w hw => ?_) rfl) ?_
            · have q1 := hw.1
              go_simp
              try (first | rfl | (rw [IntKind.wrap_i64]; omega))
          refine AllFree.c rfl (freeC_call rfl (fun w => by go_simp) (fun w hw => hw.2.list)) ?_
          iterate 6
            refine AllFree.s rfl (freeS_run (fun w hw => ?_) rfl) ?_
            · have q1 := hw.1
              go_simp
              try (first | rfl | (rw [IntKind.wrap_i64]; omega))
          refine AllFree.c rfl (freeC_call rfl (fun w => by go_simp) (fun w hw => hw.2.lacking 5)) ?_
          iterate 9
            refine AllFree.s rfl (freeS_run (fun w hw => ?_) rfl) ?_
            · have q1 := hw.1
              go_simp
              try (first | rfl | (rw [IntKind.wrap_i64]; omega))
          refine AllFree.c rfl (freeC_call rfl (fun w => by go_simp) (fun w hw => (bitn_fork (hide hw.2.none_)).mono fun e w' ⟨he, hw⟩ => ⟨he, hw ▸ Below.refl _ _⟩)) ?_
          iterate 2
            refine AllFree.s rfl (freeS_run (fun w hw => ?_) rfl) ?_
            · have q1 := hw.1
              go_simp
              try (first | rfl | (rw [IntKind.wrap_i64]; omega))
          exact trivial
      · intro w3 hs3
        have hs4 := hide hs3
        clear hs3 hsr
        go_wp2_with fail
        go_roundw
        case rel => exact ⟨k + 1, by omega, by go_num, unhide hs4⟩
        case measure => simp [intOf]; omega
    · go_wp2_with fail
      refine (awake10 W wr _ hsr).mono ?_
      rintro e w1 ⟨rfl, hs4⟩
      have hbel := hide (Sat.below (F := 1) (hs4.right.right.perm (sep_one _).symm))
      clear hs4 hsr
      go_wp2_with fail
      go_ret
      exact ⟨rfl, unhide hbel⟩
end Go.Proofs.Ytpcoehbjbjfggaa
