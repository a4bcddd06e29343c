/- JoinRuns: the document's Fits, the law's same and many, and the document's Add over what is owned. -/
import Derived.Test.YtpcoehbjbjfggaaJoinFork
namespace Go.Proofs.Ytpcoehbjbjfggaa
open Go.RowKit Asn

theorem refFits (w : World) (A : Option Addr) (n c : Nat) (a b k m : Int) (hn : n ≤ 65536) :
    Calls Try.prog 87 #[.agg #[.slice A n c, .int .i64 a, .int .i64 b, .int .i64 k], .int .i64 m] w fun e w' => e = .returned (.bool (decide (1 ≤ m) && decide (m ≤ 65536 - (n : Int)))) ∧ Below w.heap.size w w' := by
  have hb := (Below.refl w.heap.size w).alloc (Nat.le_refl _) (.cells #[.slice A n c, .int .i64 a, .int .i64 b, .int .i64 k] 69)
  have HB := hide hb
  clear hb
  by_cases h1 : 1 ≤ m
  · have hd : decide (1 ≤ m) = true := by simpa using h1
    rw [hd, Bool.true_and]
    go_enter Try.func87, Try.ntmps87
    go_wp2_with fail
    go_ret
    exact ⟨rfl, unhide HB⟩
  · have hd : decide (1 ≤ m) = false := by simpa using h1
    rw [hd, Bool.false_and]
    go_enter Try.func87, Try.ntmps87
    go_wp2_with fail
    go_ret
    exact ⟨rfl, unhide HB⟩

/-- bytes, so often. -/
def rep : Nat → List UInt8 → List UInt8
  | 0, _ => []
  | n + 1, b => rep n b ++ b
theorem rep_len (b : List UInt8) : ∀ n, (rep n b).length = n * b.length
  | 0 => by simp [rep]
  | n + 1 => by rw [rep, List.length_append, rep_len b n, Nat.add_mul, Nat.one_mul]

set_option maxRecDepth 100000 in
theorem many12 (E w : World) (F : Asn) (A : Option Addr) (n c : Nat) (l : List UInt8) (t : UInt8) (hs : Sat E w F) (hl : rd F 1 A n (bytes l)) (hc : n ≤ c) (hn : n ≤ 9223372036854775807) :
    Calls Try.prog 39 #[.slice A n c, .int .u8 t.toNat] w fun e w' => ∃ A2 n2 c2 l2, e = .returned (.slice A2 n2 c2) ∧ n2 ≤ 60000 ∧ Sat E w' (bsl A2 n2 c2 l2 * F) := by
  have htl : (t.toNat : Int) < 256 := by have := t.toNat_lt; omega
  go_enter Try.func39, Try.ntmps39
  go_upto_if 10 with (fail)
  go_cut [0] (fun s0 wx => ∃ (n c : Nat) (m : List UInt8), s0 = .slice A n c ∧ n ≤ 300 ∧ rd F 1 A n (bytes m) ∧ w = wx)
  case first =>
    by_cases h6 : 300 < n
    · go_wp2_with fail
      go_meet
      exact ⟨300, c, l.take 300, rfl, Nat.le_refl _, hl.bytesTake (by omega), rfl⟩
    · go_wp2_with fail
      go_meet
      exact ⟨n, c, l, rfl, by omega, hl, rfl⟩
  case rest =>
    obtain ⟨n, c, m, rfl, hn, hm, rfl⟩ := hcut
    go_upto_if 15 with (fail)
    go_cut [5] (fun s5 wx => ∃ q : Nat, s5 = .int .i64 q ∧ q ≤ 200 ∧ w = wx)
    case first =>
      go_wp2_with fail
      all_goals go_meet
      · exact ⟨200, rfl, by omega, rfl⟩
      · exact ⟨1, rfl, by omega, rfl⟩
    case rest =>
      obtain ⟨q, rfl, hq, rfl⟩ := hcut
      go_wp2_with fail
      go_loopw [6, 7] (fun so i wr => ∃ (k oc : Nat) (oA : Option Addr) (p : List UInt8), so = .slice oA (k * n) oc ∧ i = .int .i64 k ∧ k ≤ q ∧ Sat E wr (bsl oA (k * n) oc p * F)) (fun _ i _ => q - (intOf i).toNat)
      case atStart => exact ⟨0, 0, none, [], by rw [Nat.zero_mul], rfl, Nat.zero_le _, by rw [Nat.zero_mul]; exact hs.slNil⟩
      case round =>
        obtain ⟨k, oc, oA, p, rfl, rfl, hk, hsr⟩ := hrel
        have hkn : k * n ≤ 200 * 300 := Nat.mul_le_mul (by omega) hn
        obtain ⟨x, hx⟩ : ∃ x, x = k * n := ⟨_, rfl⟩
        have HX := Lib.hid hx
        rw [← hx] at hsr hkn ⊢
        clear hx
        by_cases hlt : k < q
        · obtain ⟨A4, c4, w4, run4, hs4⟩ := Sat.append (P := Try.prog) (t := 22) (ty := 22) (d := c) elt_bytes hsr (RdW.of_rd hm hsr.right) oneCell_bytes (by unfold maxLen; omega) (by omega)
          have R4 := Lib.hid run4
          have HS := hide hs4
          clear run4 hs4
          go_wp2_with (at_builtin; refine wpList_appendR rfl (.tmp 21) (.tmp 22) rfl rfl rfl R4.out ?_)
          go_roundw
          case rel =>
            have e : x + n = (k + 1) * n := by rw [HX.out, Nat.add_mul, Nat.one_mul]
            exact ⟨k + 1, c4, A4, p ++ m, by rw [e], by go_num, by omega, by rw [← e]; unfold bsl; rw [show bytes (p ++ m) = bytes p ++ bytes m by simp [bytes]]; exact unhide HS⟩
          case measure => simp [intOf]; omega
        · have HS := hide hsr
          clear hsr
          go_wp2_with fail
          go_ret
          exact ⟨oA, x, oc, p, rfl, by omega, unhide HS⟩

set_option maxRecDepth 100000 in
/-- The document's Add, over what is owned. -/
theorem refAdd_own (E w : World) (F : Asn) (A B : Option Addr) (n c m d : Nat) (a b k : Int) (l p : List UInt8) (x : Bool) (hs : Sat E w (bsl A n c l * F)) (hp : rd F 1 B m (bytes p)) (hn : n ≤ 65536) (hm : m ≤ 9223372036854775807) :
    Calls Try.prog 40 #[.agg #[.slice A n c, .int .i64 a, .int .i64 b, .int .i64 k], .slice B m d, .bool x] w fun e w' => ∃ Y A' n' c' A2 n2 c2,
      e = .returned (.tuple #[.agg #[.slice A' n' c', .int .i64 (RJ.add ⟨l, a, b, k⟩ p x).1.parts, .int .i64 (RJ.add ⟨l, a, b, k⟩ p x).1.n, .int .i64 (RJ.add ⟨l, a, b, k⟩ p x).1.bytes], .slice A2 n2 c2, .bool (RJ.add ⟨l, a, b, k⟩ p x).2.2.1, .int .i64 (RJ.add ⟨l, a, b, k⟩ p x).2.2.2]) ∧
      Sat E w' (bsl A' n' c' (RJ.add ⟨l, a, b, k⟩ p x).1.opn * (bsl A2 n2 c2 (RJ.add ⟨l, a, b, k⟩ p x).2.1 * (Y * F))) := by
  have hll : l.length = n := by have := hs.slLen.1; rw [length_bytes] at this; omega
  have hpl := rdlen hs.right hp
  have nil : ∀ {w : World} {F : Asn}, Sat E w F → Sat E w (bsl none 0 0 [] * F) := fun h => h.slNil
  by_cases h0 : m = 0
  · have hr : RJ.add ⟨l, a, b, k⟩ p x = (⟨l, a, b, k⟩, [], false, 120) := by unfold RJ.add; rw [if_pos (by omega)]
    rw [hr]
    refine (refAdd_same E w _ A B n c m d a b k x 120 hs hn hm (.inl ⟨h0, rfl⟩)).mono fun e w' ⟨he, hs'⟩ => ?_
    exact ⟨1, A, n, c, none, 0, 0, he, (nil hs').perm (by rw [one_sep, sep_left_comm])⟩
  · by_cases h1 : 65536 < n + m
    · have hr : RJ.add ⟨l, a, b, k⟩ p x = (⟨l, a, b, k⟩, [], false, 2) := by unfold RJ.add; rw [if_neg (by omega), if_pos (by dsimp only; omega)]
      rw [hr]
      refine (refAdd_same E w _ A B n c m d a b k x 2 hs hn hm (.inr ⟨by omega, h1, rfl⟩)).mono fun e w' ⟨he, hs'⟩ => ?_
      exact ⟨1, A, n, c, none, 0, 0, he, (nil hs').perm (by rw [one_sep, sep_left_comm])⟩
    · cases x with
      | true =>
        have hr : RJ.add ⟨l, a, b, k⟩ p true = (⟨[], 0, wrap64 (b + 1), wrap64 (k + (n + m : Nat))⟩, l ++ p, true, 0) := by
          unfold RJ.add; rw [if_neg (by omega), if_neg (by dsimp only; omega), if_pos rfl]
          simp only [List.length_append, hll, hpl]
        rw [hr]
        refine (refAdd_end E w _ A B n c m d a b k l p hs rd_bsl hp.right (by omega) (by omega)).mono fun e w' ⟨A2, c2, he, hs'⟩ => ?_
        exact ⟨bsl A n c l, none, 0, 0, A2, n + m, c2, he, nil hs'⟩
      | false =>
        have hr : RJ.add ⟨l, a, b, k⟩ p false = (⟨l ++ p, wrap64 (a + 1), b, k⟩, [], false, 0) := by
          unfold RJ.add; rw [if_neg (by omega), if_neg (by dsimp only; omega), if_neg (by simp)]
        rw [hr]
        refine (refAdd_more E w _ A B n c m d a b k l p hs rd_bsl hp.right (by omega) (by omega)).mono fun e w' ⟨A2, c2, he, hs'⟩ => ?_
        exact ⟨bsl A n c l, A2, n + m, c2, none, 0, 0, he, (nil hs').perm (by rw [sep_left_comm])⟩

set_option maxHeartbeats 1000000 in
set_option maxRecDepth 100000 in
theorem same12 (E w : World) (F : Asn) (g jc : Nat) (jA : Option Addr) (j : JoinM) (q : Int) (hs : Sat E w (JoinAt g j * F)) :
    Calls Try.prog 41 #[.pointer (some ⟨g, 0, none⟩), .agg #[.slice jA j.open_ jc, .int .i64 j.parts.length, .int .i64 j.msgs, .int .i64 j.bytes], .int .i64 q] w fun e w' => ∃ Y, e = .returned (.bool true) ∧ Sat E w' (Y * (JoinAt g j * F)) := by
  obtain ⟨A, n, c, rs, hrs, ho, hne, hk, hs⟩ := hs.joinOpen
  have hnl : j.parts.length = n := by rw [← hrs, List.length_map, hk]
  rw [hnl]
  have HMK := hide (fun W (X : Asn) (h : Sat E W (Asn.blk g 80 #[.int .i64 j.open_, .int .i64 j.msgs, .int .i64 j.bytes, .slice A n c, .bool true] * (sl 22 1 A n c (heads rs) * (tails rs * (X * F))))) => joinMk' hrs ho hne h)
  obtain ⟨o, hoo⟩ : ∃ o, o = j.open_ := ⟨_, rfl⟩
  have HOO := Lib.hid hoo
  rw [← hoo] at hs ho ⊢
  clear hrs hne hk hnl hoo
  have hfull : (decide (1 ≤ 65536 - (o : Int)) && decide (65536 - (o : Int) ≤ 65536 - (o : Int))) = decide ((o : Int) < 65536) := by
    rw [Bool.eq_iff_iff]
    simp only [Bool.and_eq_true, decide_eq_true_eq]
    omega
  have HFULL := Lib.hid hfull
  clear hfull
  have hs2 := hs.alloc #[.slice jA o jc, .int .i64 n, .int .i64 j.msgs, .int .i64 j.bytes] 69
  go_enter Try.func41, Try.ntmps41
  go_wp2_with fail
  refine wp_region_vals (Q := _) (E := E) (fun W => Sat E W (Asn.blk w.heap.size 69 #[.slice jA o jc, .int .i64 n, .int .i64 j.msgs, .int .i64 j.bytes] * (Asn.blk g 80 #[.int .i64 o, .int .i64 j.msgs, .int .i64 j.bytes, .slice A n c, .bool true] * (sl 22 1 A n c (heads rs) * (tails rs * F)))))
    [1, 8, 15, 22, 30, 33, 42] [.pointer (some ⟨g, 0, none⟩), .int .i64 o, .pointer (some ⟨w.heap.size, 0, none⟩), .slice jA o jc, .int .i64 o, .bool true, .bool true, .pointer (some ⟨g, 0, none⟩), .int .i64 n, .pointer (some ⟨w.heap.size, 1, none⟩), .int .i64 n, .bool true, .bool true, .bool true, .pointer (some ⟨g, 0, none⟩), .int .i64 j.msgs, .pointer (some ⟨w.heap.size, 2, none⟩), .int .i64 j.msgs, .bool true, .bool true, .bool true, .pointer (some ⟨g, 0, none⟩), .int .i64 j.bytes, .pointer (some ⟨w.heap.size, 3, none⟩), .int .i64 j.bytes, .bool true, .bool true, .bool true, .pointer (some ⟨g, 0, none⟩), .int .i64 q, .bool (decide (1 ≤ q) && decide (q ≤ 65536 - (o : Int))), .agg #[.slice jA o jc, .int .i64 n, .int .i64 j.msgs, .int .i64 j.bytes], .int .i64 q, .bool (decide (1 ≤ q) && decide (q ≤ 65536 - (o : Int))), .bool true, .bool true, .bool true, .pointer (some ⟨g, 0, none⟩), .pointer (some ⟨w.heap.size, 0, none⟩), .slice jA o jc, .int .i64 o, .int .i64 (65536 - (o : Int)), .bool (decide ((o : Int) < 65536)), .pointer (some ⟨w.heap.size, 0, none⟩), .slice jA o jc, .int .i64 o, .bool (decide ((o : Int) < 65536)), .bool true, .bool true, .bool true] (by kernel_rfl) (by kernel_rfl) hs2 (fun W R h => h.left) (by simp only [putAll]; go_simp; rfl) ?_ ?_
  · iterate 1
      refine AllFree.s rfl (freeS_run (fun W hW => ?_) rfl) ?_
      · have r0 : W.cell? ⟨w.heap.size, 0, none⟩ = some (.slice jA o jc) := hW.cell 0
        have r1 : W.cell? ⟨w.heap.size, 1, none⟩ = some (.int .i64 n) := hW.cell 1
        have r2 : W.cell? ⟨w.heap.size, 2, none⟩ = some (.int .i64 j.msgs) := hW.cell 2
        have r3 : W.cell? ⟨w.heap.size, 3, none⟩ = some (.int .i64 j.bytes) := hW.cell 3
        go_simp
        try (rw [IntKind.wrap_i64]; omega)
    refine AllFree.c rfl (freeC_call rfl (fun W => by go_simp) (fun W hW => (open_blk W g _ _ _ _ true hW.f2.blk).mono fun e w' ⟨he, hw⟩ => ⟨he, hw ▸ Below.refl _ _⟩)) ?_
    iterate 6
      refine AllFree.s rfl (freeS_run (fun W hW => ?_) rfl) ?_
      · have r0 : W.cell? ⟨w.heap.size, 0, none⟩ = some (.slice jA o jc) := hW.cell 0
        have r1 : W.cell? ⟨w.heap.size, 1, none⟩ = some (.int .i64 n) := hW.cell 1
        have r2 : W.cell? ⟨w.heap.size, 2, none⟩ = some (.int .i64 j.msgs) := hW.cell 2
        have r3 : W.cell? ⟨w.heap.size, 3, none⟩ = some (.int .i64 j.bytes) := hW.cell 3
        go_simp
        try (rw [IntKind.wrap_i64]; omega)
    refine AllFree.c rfl (freeC_call rfl (fun W => by go_simp) (fun W hW => (parts_blk W g _ _ _ _ _ _ true hW.f2.blk).mono fun e w' ⟨he, hw⟩ => ⟨he, hw ▸ Below.refl _ _⟩)) ?_
    iterate 6
      refine AllFree.s rfl (freeS_run (fun W hW => ?_) rfl) ?_
      · have r0 : W.cell? ⟨w.heap.size, 0, none⟩ = some (.slice jA o jc) := hW.cell 0
        have r1 : W.cell? ⟨w.heap.size, 1, none⟩ = some (.int .i64 n) := hW.cell 1
        have r2 : W.cell? ⟨w.heap.size, 2, none⟩ = some (.int .i64 j.msgs) := hW.cell 2
        have r3 : W.cell? ⟨w.heap.size, 3, none⟩ = some (.int .i64 j.bytes) := hW.cell 3
        go_simp
        try (rw [IntKind.wrap_i64]; omega)
    refine AllFree.c rfl (freeC_call rfl (fun W => by go_simp) (fun W hW => (msgs_blk W g _ _ _ _ true hW.f2.blk).mono fun e w' ⟨he, hw⟩ => ⟨he, hw ▸ Below.refl _ _⟩)) ?_
    iterate 6
      refine AllFree.s rfl (freeS_run (fun W hW => ?_) rfl) ?_
      · have r0 : W.cell? ⟨w.heap.size, 0, none⟩ = some (.slice jA o jc) := hW.cell 0
        have r1 : W.cell? ⟨w.heap.size, 1, none⟩ = some (.int .i64 n) := hW.cell 1
        have r2 : W.cell? ⟨w.heap.size, 2, none⟩ = some (.int .i64 j.msgs) := hW.cell 2
        have r3 : W.cell? ⟨w.heap.size, 3, none⟩ = some (.int .i64 j.bytes) := hW.cell 3
        go_simp
        try (rw [IntKind.wrap_i64]; omega)
    refine AllFree.c rfl (freeC_call rfl (fun W => by go_simp) (fun W hW => (bytes_blk W g _ _ _ _ true hW.f2.blk).mono fun e w' ⟨he, hw⟩ => ⟨he, hw ▸ Below.refl _ _⟩)) ?_
    iterate 7
      refine AllFree.s rfl (freeS_run (fun W hW => ?_) rfl) ?_
      · have r0 : W.cell? ⟨w.heap.size, 0, none⟩ = some (.slice jA o jc) := hW.cell 0
        have r1 : W.cell? ⟨w.heap.size, 1, none⟩ = some (.int .i64 n) := hW.cell 1
        have r2 : W.cell? ⟨w.heap.size, 2, none⟩ = some (.int .i64 j.msgs) := hW.cell 2
        have r3 : W.cell? ⟨w.heap.size, 3, none⟩ = some (.int .i64 j.bytes) := hW.cell 3
        go_simp
        try (rw [IntKind.wrap_i64]; omega)
    refine AllFree.c rfl (freeC_call rfl (fun W => by go_simp) (fun W hW => (fits_blk g o q _ _ _ W hW.f2.blk ho).mono fun e w' ⟨he, hw⟩ => ⟨he, hw ▸ Below.refl _ _⟩)) ?_
    iterate 2
      refine AllFree.s rfl (freeS_run (fun W hW => ?_) rfl) ?_
      · have r0 : W.cell? ⟨w.heap.size, 0, none⟩ = some (.slice jA o jc) := hW.cell 0
        have r1 : W.cell? ⟨w.heap.size, 1, none⟩ = some (.int .i64 n) := hW.cell 1
        have r2 : W.cell? ⟨w.heap.size, 2, none⟩ = some (.int .i64 j.msgs) := hW.cell 2
        have r3 : W.cell? ⟨w.heap.size, 3, none⟩ = some (.int .i64 j.bytes) := hW.cell 3
        go_simp
        try (rw [IntKind.wrap_i64]; omega)
    refine AllFree.c rfl (freeC_call rfl (fun W => by go_simp) (fun W hW => refFits W jA o jc n j.msgs j.bytes q ho)) ?_
    iterate 8
      refine AllFree.s rfl (freeS_run (fun W hW => ?_) rfl) ?_
      · have r0 : W.cell? ⟨w.heap.size, 0, none⟩ = some (.slice jA o jc) := hW.cell 0
        have r1 : W.cell? ⟨w.heap.size, 1, none⟩ = some (.int .i64 n) := hW.cell 1
        have r2 : W.cell? ⟨w.heap.size, 2, none⟩ = some (.int .i64 j.msgs) := hW.cell 2
        have r3 : W.cell? ⟨w.heap.size, 3, none⟩ = some (.int .i64 j.bytes) := hW.cell 3
        go_simp
        try (rw [IntKind.wrap_i64]; omega)
    refine AllFree.c rfl (freeC_call rfl (fun W => by go_simp) (fun W hW => (fits_blk g o (65536 - o) _ _ _ W hW.f2.blk ho).mono fun e w' ⟨he, hw⟩ => ⟨by rw [he, HFULL.out], hw ▸ Below.refl _ _⟩)) ?_
    iterate 7
      refine AllFree.s rfl (freeS_run (fun W hW => ?_) rfl) ?_
      · have r0 : W.cell? ⟨w.heap.size, 0, none⟩ = some (.slice jA o jc) := hW.cell 0
        have r1 : W.cell? ⟨w.heap.size, 1, none⟩ = some (.int .i64 n) := hW.cell 1
        have r2 : W.cell? ⟨w.heap.size, 2, none⟩ = some (.int .i64 j.msgs) := hW.cell 2
        have r3 : W.cell? ⟨w.heap.size, 3, none⟩ = some (.int .i64 j.bytes) := hW.cell 3
        go_simp
        try (rw [IntKind.wrap_i64]; omega)
    exact trivial
  · intro w3 hs3
    go_wp2_with fail
    go_ret
    refine ⟨Asn.blk w.heap.size 69 #[.slice jA o jc, .int .i64 n, .int .i64 j.msgs, .int .i64 j.bytes], rfl, ?_⟩
    have := hs3.f2
    rw [HOO.out] at this
    exact (unhide HMK w3 (Asn.blk w.heap.size 69 #[.slice jA o jc, .int .i64 n, .int .i64 j.msgs, .int .i64 j.bytes]) (by rw [HOO.out]; exact this.perm (by ac_rfl))).perm (by ac_rfl)
end Go.Proofs.Ytpcoehbjbjfggaa
