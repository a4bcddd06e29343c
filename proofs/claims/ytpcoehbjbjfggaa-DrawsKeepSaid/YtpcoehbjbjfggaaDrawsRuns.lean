/- DrawsRuns: what any calls draw of any seed, and how rows are shuffled by it. -/
import Derived.Test.YtpcoehbjbjfggaaRef05
namespace Go.Proofs.Ytpcoehbjbjfggaa
open Go.RowKit Asn

set_option maxRecDepth 100000 in
theorem awake05 (E w : World) (F : Asn) (hs : Sat E w F) : Calls Try.prog 24 #[] w fun e w' => e = .returned (.bool true) ∧ Sat E w' F := by
  have hat := at00
  have hs1 := hs.alloc #[.int .u64 0, .int .i64 0, .bool true] 65
  go_enter Try.func24, Try.ntmps24
  go_wp2_with (first
    | (go_at_call 23; refine (new_src _ _).mono ?_; rintro e w' ⟨rfl, rfl⟩)
    | (go_at_call 81; refine (at_call _ _ _).mono ?_; rintro e w' ⟨rfl, rfl⟩; rw [hat]))
  refine (src_next E _ F w.heap.size 0 0 (by omega) (by omega) hs1).mono ?_
  rintro e w2 ⟨rfl, hs2⟩
  rw [hat]
  have c1 : w2.cell? ⟨w.heap.size, 1, none⟩ = some (.int .i64 1) := hs2.cell 1
  have c2 : w2.cell? ⟨w.heap.size, 2, none⟩ = some (.bool true) := hs2.cell 2
  have hs3 := hide hs2.right
  clear hs1 hs2 hs
  go_wp2_with (first
    | (go_at_call 35; refine (src_count _ _ _ c1 c2).mono ?_; rintro e w' ⟨rfl, rfl⟩)
    | (go_at_call 28; refine (src_below0 _ _ _ (by omega)).mono ?_; rintro e w' ⟨rfl, rfl⟩))
  go_ret
  exact ⟨rfl, unhide hs3⟩

def Op05At (xs : List Value) (k : Nat) : Prop := ∃ (d : UInt8) (n : Int), xs[k * 2]? = some (.int .u8 d.toNat) ∧ xs[k * 2 + 1]? = some (.int .i64 n) ∧ -9223372036854775808 ≤ n ∧ n ≤ 9223372036854775807
/-- What the law holds: the source, the document's. -/
def Both5 (W : World) (rg g : Nat) (s i : Int) (X : Asn) : Asn := SrcAt g s i * (Asn.blk rg 43 #[.int .u64 s, .int .i64 i] * (X * Asn.exact W))
theorem both5_below {W w : World} {rg g : Nat} {s i : Int} {X : Asn} (h : Sat W w (Both5 W rg g s i X)) : Below W.heap.size W w :=
  Sat.below (F := _) (Sat.perm (B := Asn.exact W * (SrcAt g s i * (Asn.blk rg 43 #[.int .u64 s, .int .i64 i] * X))) h (by unfold Both5; ac_rfl))

theorem shufL_mem {K : Value → Prop} (s : Int) : ∀ (k : Nat) (i : Int) (l : List Value), k ≤ l.length - 1 → k ≤ 1000000 → (∀ u ∈ l, K u) → ∀ u ∈ shufL s k i l, K u
  | 0, _, _, _, _, h => h
  | k + 1, i, l, hk, hm, h => by
    have hb := bw_lt s i (k + 2) (by omega) (by omega)
    rw [shufL]
    exact shufL_mem s k (i + 1) _ (by rw [swp_len]; omega) (by omega) (swp_mem h (by omega) (by omega))
theorem Sat.slNone {E w : World} {F : Asn} {e z n c : Nat} {A : Option Addr} {xs : List Value} (h : Sat E w (sl e z A n c xs * F)) : A = none → c = 0 := by
  rintro rfl
  rcases h.slOpen with ⟨_, _, h, _⟩ | ⟨b, off, cells, h, _⟩
  · exact h
  · cases h

set_option maxHeartbeats 2000000 in
set_option maxRecDepth 100000 in
theorem drawsRuns_walk (W : World) (A : Option Addr) (n c : Nat) (s : Int) (xs : List Value) (hx : RdW W A n 2 xs) (hop : ∀ k, k < n → Op05At xs k) (hn : n ≤ 9223372036854775807) :
    Calls Try.prog 5 #[.int .u64 s, .slice A n c] W fun e w' => e = .returned (.bool true) ∧ Below W.heap.size W w' := by
  have HOP := Lib.hid hop
  clear hop
  have hs0 := ((Sat.start W).alloc #[.int .u64 s, .int .i64 0, .bool true] 65).alloc #[.int .u64 s, .int .i64 0] 43
  rw [World.size_alloc] at hs0
  go_enter Try.func5, Try.ntmps5
  go_wp2_with (go_at_call 23; refine (new_src _ _).mono ?_; rintro e w' ⟨rfl, rfl⟩)
  refine (awake05 W _ _ hs0).mono ?_
  rintro e w1 ⟨rfl, hs1⟩
  clear hs0
  go_wp2_with fail
  go_loopw [7] (fun s7 wr => ∃ (k : Nat) (i : Int) (X : Asn), s7 = .int .i64 k ∧ k ≤ n ∧ k ≤ 50 ∧ 0 ≤ i ∧ i ≤ 40 * k ∧ Sat W wr (Both5 W (W.heap.size + 1) W.heap.size s i X)) (fun s7 _ => n - (intOf s7).toNat)
  case atStart =>
    refine ⟨0, 0, 1, rfl, Nat.zero_le _, by omega, by omega, by omega, ?_⟩
    unfold Both5 SrcAt
    exact hs1.perm (by rw [one_sep]; ac_rfl)
  case round =>
    obtain ⟨k, i, X, rfl, hk, hk50, hi0, hi40, hsr⟩ := hrel
    clear hs1
    by_cases hlt : k < n ∧ k < 50
    · obtain ⟨h1, h2⟩ := hlt
      obtain ⟨d, m, o0, o1, hm1, hm2⟩ := HOP.out k h1
      have hbel : Below W.heap.size W wr := both5_below hsr
      obtain ⟨ad, rfl, e0⟩ := (hx.below hbel).at_ o0
      have hrd : ∀ w, Below W.heap.size W w → w.cell? (ad.add (k * 2)) = some (.int .u8 d.toNat) ∧ w.cell? ⟨(ad.add (k * 2)).block, (ad.add (k * 2)).off + (0 + 1), none⟩ = some (.int .i64 m) := by
        intro w hw
        have e1 := (hx.below hw).2 (by omega)
        obtain ⟨ad', h, e1⟩ := e1
        obtain rfl : ad = ad' := by simpa using h
        rw [add_fld]
        exact ⟨e1 _ _ o0, e1 _ _ o1⟩
      have e1 := (hrd wr hbel).2
      have HRD := Lib.hid hrd
      have hdl : (d.toNat : Int) < 256 := by have := d.toNat_lt; omega
      clear o0 o1 hrd
      have c0 : wr.cell? ⟨W.heap.size + 1, 0, none⟩ = some (.int .u64 s) := hsr.f2.cell 0
      have c1 : wr.cell? ⟨W.heap.size + 1, 1, none⟩ = some (.int .i64 i) := hsr.f2.cell 1
      go_upto_block 2 with (fail)
      go_cut [15] (fun _ wx => ∃ (i' : Int) (X' : Asn), i ≤ i' ∧ i' ≤ i + 40 ∧ Sat W wx (Both5 W (W.heap.size + 1) W.heap.size s i' X'))
      case first =>
        by_cases h0 : d.toNat % 4 = 0
        · have h0b : ((d.toNat : Int) % 4 == 0) = true := by simp; omega
          go_wp2_with fail
          refine (refNext W wr _ s i hsr hi0 (by omega)).mono ?_
          rintro e w2 ⟨rfl, hs2⟩
          have k0 : w2.cell? ⟨W.heap.size + 1, 0, none⟩ = some (.int .u64 s) := hs2.f2.cell 0
          have k1 : w2.cell? ⟨W.heap.size + 1, 1, none⟩ = some (.int .i64 i) := hs2.f2.cell 1
          have k2 : ∀ j, w2.frozen? ⟨W.heap.size + 1, j, none⟩ = false := fun j => hs2.f2.frozen j
          have k3 : W.heap.size + 1 < w2.heap.size := hs2.f2.lt
          have hs3 := ((hs2.f2.set 0 (.int .u64 s)).set 1 (.int .i64 (i + 1))).alloc #[.int .u64 s, .int .i64 (i + 1)] 43
          simp only [World.size_setCell] at hs3
          have HS3 := hide (src_next W _ _ W.heap.size s i hi0 (by omega) hs3.f3)
          clear hs2 hs3 hsr
          go_wp2_with fail
          refine (unhide HS3).mono ?_
          rintro e w3 ⟨rfl, hs4⟩
          have HS4 := hide hs4
          clear hs4
          go_wp2_with fail
          go_meet
          refine ⟨i + 1, Asn.blk w2.heap.size 43 #[.int .u64 s, .int .i64 (i + 1)] * X, by omega, by omega, (show Sat W w3 (SrcAt W.heap.size s (i + 1) * (Asn.blk w2.heap.size 43 #[.int .u64 s, .int .i64 (i + 1)] * (Asn.blk (W.heap.size + 1) 43 #[.int .u64 s, .int .i64 (i + 1)] * (X * Asn.exact W)))) from unhide HS4).perm ?_⟩
          unfold Both5
          ac_rfl
        · by_cases h3 : d.toNat % 4 = 1
          · have h0b : ((d.toNat : Int) % 4 == 0) = false := by simp; omega
            have h1b : ((d.toNat : Int) % 4 == 1) = true := by simp; omega
            obtain ⟨i2, r, hi2a, hi2b, hR, hS⟩ : ∃ (i2 r : Int), i ≤ i2 ∧ i2 ≤ i + 1 ∧ (∀ w : World, Calls Try.prog 27 #[.agg #[.int .u64 s, .int .i64 i], .int .i64 m] w fun e w' => e = .returned (.tuple #[.agg #[.int .u64 s, .int .i64 i2], .int .i64 r]) ∧ Below w.heap.size w w') ∧
                (∀ w F, Sat W w (SrcAt W.heap.size s i * F) → Calls Try.prog 28 #[.pointer (some ⟨W.heap.size, 0, none⟩), .int .i64 m] w fun e w' => e = .returned (.int .i64 r) ∧ Sat W w' (SrcAt W.heap.size s i2 * F)) := by
              by_cases hm : m < 1
              · exact ⟨i, 0, by omega, by omega, fun w => (refBelow0 w w _ s i m (Sat.start w) hm).mono fun e w' ⟨he, h⟩ => ⟨he, Sat.below (F := 1) (h.perm (sep_one _).symm)⟩, fun w F h => (src_below0 w _ m hm).mono fun e w' ⟨he, hw⟩ => ⟨he, hw ▸ h⟩⟩
              · exact ⟨i + 1, bw s i m, by omega, by omega, fun w => (refBelow w w _ s i m (Sat.start w) hi0 (by omega) (by omega) hm2).mono fun e w' ⟨he, h⟩ => ⟨he, Sat.below (F := 1) (h.perm (sep_one _).symm)⟩, fun w F h => src_below W w F W.heap.size s i m (by omega) hm2 hi0 (by omega) h⟩
            have HR := hide hR
            have HS := hide hS
            clear hR hS e0 e1 c0 c1
            go_wp2_with fail
            refine wp_region_sl (Q := _) (E := W) (fun w => w.cell? ⟨W.heap.size + 1, 0, none⟩ = some (.int .u64 s) ∧ w.cell? ⟨W.heap.size + 1, 1, none⟩ = some (.int .i64 i) ∧ Below W.heap.size W w) [11] [6] [10]
              (fun _ => (43, #[.int .u64 0, .int .i64 0], fun g => .pointer (some ⟨g, 0, none⟩))) [0, 1, 2, 3, 4, 5, 6, 7, 8, 9, 10, 11, 12] (by kernel_rfl) (by kernel_rfl) hsr (fun w R h => ⟨h.left.f2.cell 0, h.left.f2.cell 1, both5_below h.left⟩) ?_
            iterate 6
              refine wpS_f _ rfl rfl (v := ?_) ?_ ?_
              rotate_left
              · intro w hw
                obtain ⟨q0, q1, q2⟩ := hw
                have q3 := (HRD.out w q2).2
                clear q2
                go_simp
                rfl
              go_simp
            refine wpS_c _ rfl rfl (v := .tuple #[.agg #[.int .u64 s, .int .i64 i2], .int .i64 r]) (freeC_call rfl (fun w => by go_simp) (fun w hw => unhide HR w)) ?_
            go_simp
            iterate 3
              refine wpS_f _ rfl rfl (v := ?_) ?_ ?_
              rotate_left
              · intro w hw
                go_simp
                rfl
              go_simp
            refine wpS_a _ rfl rfl (fun w => by unfold stp; go_simp; exact ⟨rfl, rfl⟩) (fun g => ?_)
            go_simp
            refine wpS_e _ rfl rfl (fun w R hw => ?_)
            have g0 : w.cell? ⟨g, 0, none⟩ = some (.int .u64 0) := hw.asc.cell 0
            have g1 : w.cell? ⟨g, 1, none⟩ = some (.int .i64 0) := hw.asc.cell 1
            have g2 : ∀ j, w.frozen? ⟨g, j, none⟩ = false := fun j => hw.asc.frozen j
            have hw2 := hide (show Sat W _ ((Asn.blk g 43 #[.int .u64 s, .int .i64 i2] * Both5 W (W.heap.size + 1) W.heap.size s i X) * R) from ((hw.asc.set 0 (.int .u64 s)).set 1 (.int .i64 i2)).csa)
            unfold stp
            go_simp
            clear g0 g1 g2 hw
            refine (show ∃ F', _ from ⟨Asn.blk g 43 #[.int .u64 s, .int .i64 i2] * Both5 W (W.heap.size + 1) W.heap.size s i X, fun w R h => ⟨h.left.right.f2.cell 0, h.left.right.f2.cell 1, both5_below h.left.right⟩, unhide hw2, ?_⟩)
            clear hw2
            go_simp
            refine wpS_f _ rfl rfl (v := ?_) ?_ ?_
            rotate_left
            · intro w hw
              go_simp
              rfl
            go_simp
            refine wpS_n (fun w3 hs3 => ?_)
            have hs4 : Sat W w3 (Asn.blk (W.heap.size + 1) 43 #[.int .u64 s, .int .i64 i] * (SrcAt W.heap.size s i * (Asn.blk g 43 #[.int .u64 s, .int .i64 i2] * (X * Asn.exact W)))) := hs3.perm (by unfold Both5; ac_rfl)
            have k0 : w3.cell? ⟨W.heap.size + 1, 0, none⟩ = some (.int .u64 s) := hs4.cell 0
            have k1 : w3.cell? ⟨W.heap.size + 1, 1, none⟩ = some (.int .i64 i) := hs4.cell 1
            have k2 : ∀ j, w3.frozen? ⟨W.heap.size + 1, j, none⟩ = false := fun j => hs4.frozen j
            have k3 : w3.cell? ⟨g, 0, none⟩ = some (.int .u64 s) := hs4.f3.cell 0
            have k4 : w3.cell? ⟨g, 1, none⟩ = some (.int .i64 i2) := hs4.f3.cell 1
            have hs5 : Sat W _ (Both5 W (W.heap.size + 1) W.heap.size s i (Asn.blk g 43 #[.int .u64 s, .int .i64 i2] * X)) := hs3.perm (by unfold Both5; ac_rfl)
            have HS5 := hide ((hs4.set 0 (.int .u64 s)).set 1 (.int .i64 i2))
            clear hs3 hs4 hs5 hsr
            go_upto_region 19 with (fail)
            obtain ⟨w4, hw4⟩ : ∃ w4, w4 = (w3.setCell ⟨W.heap.size + 1, 0, none⟩ (.int .u64 s)).setCell ⟨W.heap.size + 1, 1, none⟩ (.int .i64 i2) := ⟨_, rfl⟩
            rw [← hw4] at HS5 ⊢
            clear hw4 k0 k1 k2 k3 k4
            have hs6 : Sat W w4 (SrcAt W.heap.size s i * (Asn.blk (W.heap.size + 1) 43 #[.int .u64 s, .int .i64 i2] * (Asn.blk g 43 #[.int .u64 s, .int .i64 i2] * (X * Asn.exact W)))) := (unhide HS5).f2
            have e1 := (HRD.out w4 (Sat.below (F := _) (Sat.perm (B := Asn.exact W * (SrcAt W.heap.size s i * (Asn.blk (W.heap.size + 1) 43 #[.int .u64 s, .int .i64 i2] * (Asn.blk g 43 #[.int .u64 s, .int .i64 i2] * X)))) hs6 (by ac_rfl)))).2
            have HC := hide (unhide HS w4 _ hs6)
            clear hs6 HS5
            go_wp2_with fail
            refine (unhide HC).mono ?_
            rintro e w5 ⟨rfl, hs7⟩
            have HS7 := hide hs7
            clear hs7 HC
            go_wp2_with fail
            go_meet
            refine ⟨i2, Asn.blk g 43 #[.int .u64 s, .int .i64 i2] * X, by omega, by omega, (unhide HS7).perm ?_⟩
            unfold Both5
            ac_rfl
          · by_cases h4 : d.toNat % 4 = 2
            · have h0b : ((d.toNat : Int) % 4 == 0) = false := by simp; omega
              have h1b : ((d.toNat : Int) % 4 == 1) = false := by simp; omega
              have h2b : ((d.toNat : Int) % 4 == 2) = true := by simp; omega
              obtain ⟨q, hq, hq40⟩ : ∃ q : Nat, wrap64 ((IntKind.u64.wrap m).tmod 40) = (q : Int) ∧ q < 40 := by
                have h1 : 0 ≤ IntKind.u64.wrap m := by rw [IntKind.wrap_u64]; omega
                have h2 := Int.tmod_nonneg 40 h1
                have h3 := Int.tmod_lt_of_pos (IntKind.u64.wrap m) (by omega : (0 : Int) < 40)
                refine ⟨((IntKind.u64.wrap m).tmod 40).toNat, ?_, by omega⟩
                unfold wrap64
                omega
              go_wp2_with fail
              rw [hq]
              clear hq
              refine (row05 W wr _ q hsr (by omega)).mono ?_
              rintro e w2 ⟨A1, c1', rfl, hs2⟩
              clear hsr c0 c1 e0 e1
              have hints : ∀ u ∈ (List.range q).map (fun j : Nat => Value.int .i64 j), ∃ x, u = Value.int .i64 x := by
                intro u hu
                obtain ⟨j, _, rfl⟩ := List.mem_map.1 hu
                exact ⟨_, rfl⟩
              have hlen : ((List.range q).map (fun j : Nat => Value.int .i64 j)).length = q := by simp
              generalize (List.range q).map (fun j : Nat => Value.int .i64 j) = xs1 at hs2 hints hlen
              have hsm := shufL_mem (K := fun u => ∃ x, u = Value.int .i64 x) s (q - 1) i xs1 (by omega) (by omega) hints
              have k0 : w2.cell? ⟨W.heap.size + 1, 0, none⟩ = some (.int .u64 s) := hs2.f3.cell 0
              have k1 : w2.cell? ⟨W.heap.size + 1, 1, none⟩ = some (.int .i64 i) := hs2.f3.cell 1
              have HC := hide (refShuf W w2 _ q c1' s i A1 xs1 hs2 rd_sl.left hints (by omega) hi0 (by omega))
              have hcn := hs2.slNone
              clear hs2
              go_wp2_with fail
              refine (unhide HC).mono ?_
              rintro e w3 ⟨A2, c2', rfl, hs3⟩
              clear HC k0 k1
              obtain ⟨i3, hi3⟩ : ∃ i3 : Int, i3 = i + (q - 1 : Nat) := ⟨_, rfl⟩
              rw [← hi3]
              have HI3 := Lib.hid hi3
              have hi3a : i ≤ i3 ∧ i3 ≤ i + 40 := by omega
              clear hi3
              have hs4 : Sat W w3 (Asn.blk (W.heap.size + 1) 43 #[.int .u64 s, .int .i64 i] * (SrcAt W.heap.size s i * (sl 3 1 A1 q c1' xs1 * (sl 3 1 A2 q c2' (shufL s (q - 1) i xs1) * (X * Asn.exact W))))) := hs3.perm (by unfold Both5; ac_rfl)
              have k0 : w3.cell? ⟨W.heap.size + 1, 0, none⟩ = some (.int .u64 s) := hs4.cell 0
              have k1 : w3.cell? ⟨W.heap.size + 1, 1, none⟩ = some (.int .i64 i) := hs4.cell 1
              have k2 : ∀ j, w3.frozen? ⟨W.heap.size + 1, j, none⟩ = false := fun j => hs4.frozen j
              have k3 : W.heap.size + 1 < w3.heap.size := hs4.lt
              have hs5 := ((hs4.set 0 (.int .u64 s)).set 1 (.int .i64 i3)).alloc #[.int .u64 s, .int .i64 i3] 43
              simp only [World.size_setCell] at hs5
              have HC2 := hide (shuf_ints W _ _ W.heap.size q c1' s i A1 xs1 hs5.f3 rd_sl.left.right.right hints hcn (by omega) hi0 (by omega))
              clear hs3 hs4 hs5
              go_wp2_with fail
              refine (unhide HC2).mono ?_
              rintro e w4 ⟨A3, c3', rfl, hs6⟩
              clear HC2
              rw [← HI3.out] at hs6
              go_wp2_with fail
              refine (sameInts W w4 _ A3 A2 q c3' c2' _ hs6 rd_sl.left ?_ hsm (by omega)).mono ?_
              · exact rd_sl.left.right.right.right.right.right
              rintro e w5 ⟨rfl, hs7⟩
              have hs8 := hide (show Sat W w5 (sl 3 1 A3 q c3' (shufL s (q - 1) i xs1) * (SrcAt W.heap.size s i3 * (Asn.blk w3.heap.size 43 #[.int .u64 s, .int .i64 i3] * (Asn.blk (W.heap.size + 1) 43 #[.int .u64 s, .int .i64 i3] * (sl 3 1 A1 q c1' xs1 * (sl 3 1 A2 q c2' (shufL s (q - 1) i xs1) * (X * Asn.exact W))))))) from hs7)
              clear hs6 hs7
              go_wp2_with fail
              go_meet
              refine ⟨i3, sl 3 1 A3 q c3' (shufL s (q - 1) i xs1) * (Asn.blk w3.heap.size 43 #[.int .u64 s, .int .i64 i3] * (sl 3 1 A1 q c1' xs1 * (sl 3 1 A2 q c2' (shufL s (q - 1) i xs1) * X))), by omega, by omega, (unhide hs8).perm ?_⟩
              unfold Both5
              ac_rfl
            · have h0b : ((d.toNat : Int) % 4 == 0) = false := by simp; omega
              have h1b : ((d.toNat : Int) % 4 == 1) = false := by simp; omega
              have h2b : ((d.toNat : Int) % 4 == 2) = false := by simp; omega
              clear e0 e1 c0 c1
              go_wp2_with fail
              refine (src_fork W wr _ W.heap.size s i hsr).mono ?_
              rintro e w2 ⟨f, rfl, hs2⟩
              have hs3 : Sat W w2 (SrcAt W.heap.size s i * (Asn.blk (W.heap.size + 1) 43 #[.int .u64 s, .int .i64 i] * (SrcAt f s i * (X * Asn.exact W)))) := (show Sat W w2 (SrcAt f s i * (SrcAt W.heap.size s i * (Asn.blk (W.heap.size + 1) 43 #[.int .u64 s, .int .i64 i] * (X * Asn.exact W)))) from hs2).perm (by ac_rfl)
              clear hsr hs2
              go_wp2_with fail
              refine wp_region_sl (Q := _) (E := W) (fun w => w.cell? ⟨W.heap.size + 1, 1, none⟩ = some (.int .i64 i) ∧ w.cell? ⟨W.heap.size, 1, none⟩ = some (.int .i64 i) ∧ w.cell? ⟨W.heap.size, 2, none⟩ = some (.bool true)) [4] [8, 13] []
                (fun _ => (0, #[], fun _ => undef)) [0, 1, 2, 3, 4, 5, 6, 7, 8, 9, 10, 11, 12, 13, 14, 15, 16, 17] (by kernel_rfl) (by kernel_rfl) hs3 (fun w R h => ⟨h.left.f2.cell 1, h.left.cell 1, h.left.cell 2⟩) ?_
              iterate 4
                refine wpS_f _ rfl rfl (v := ?_) ?_ ?_
                rotate_left
                · intro w hw
                  obtain ⟨q0, q1, q2⟩ := hw
                  go_simp
                  rfl
                go_simp
              refine wpS_e _ rfl rfl (fun w R hw => ?_)
              have hw2 : Sat W w (SrcAt f s i * ((SrcAt W.heap.size s i * (Asn.blk (W.heap.size + 1) 43 #[.int .u64 s, .int .i64 i] * (X * Asn.exact W))) * R)) := hw.perm (by ac_rfl)
              refine stp_call rfl (by go_simp) ((src_next W w _ f s i hi0 (by omega) hw2).mono ?_)
              rintro e w3 ⟨rfl, hs4⟩
              refine ⟨_, rfl, SrcAt W.heap.size s i * (Asn.blk (W.heap.size + 1) 43 #[.int .u64 s, .int .i64 i] * (SrcAt f s (i + 1) * (X * Asn.exact W))), fun w R h => ⟨h.left.f2.cell 1, h.left.cell 1, h.left.cell 2⟩, hs4.perm (by ac_rfl), ?_⟩
              clear hs4 hw hw2
              go_simp
              iterate 3
                refine wpS_f _ rfl rfl (v := ?_) ?_ ?_
                rotate_left
                · intro w hw
                  obtain ⟨q0, q1, q2⟩ := hw
                  go_simp
                  rfl
                go_simp
              refine wpS_c _ rfl rfl (v := .int .u64 (at05 s i)) (freeC_call rfl (fun w => by go_simp) (fun w hw => (refat_call w s i).mono fun e w' ⟨he, hw⟩ => ⟨he, hw ▸ Below.refl _ _⟩)) ?_
              go_simp
              iterate 4
                refine wpS_f _ rfl rfl (v := ?_) ?_ ?_
                rotate_left
                · intro w hw
                  go_simp
                  rfl
                go_simp
              refine wpS_c _ rfl rfl (v := .int .i64 i) (freeC_call rfl (fun w => by go_simp) (fun w hw => (src_count _ _ _ hw.2.1 hw.2.2).mono fun e w' ⟨he, hw⟩ => ⟨he, hw ▸ Below.refl _ _⟩)) ?_
              go_simp
              iterate 4
                refine wpS_f _ rfl rfl (v := ?_) ?_ ?_
                rotate_left
                · intro w hw
                  obtain ⟨q0, q1, q2⟩ := hw
                  go_simp
                  rfl
                go_simp
              refine wpS_n (fun w3 hs4 => ?_)
              have hs5 := hide hs4
              clear hs3 hs4
              go_wp2_with fail
              go_meet
              refine ⟨i, SrcAt f s (i + 1) * X, by omega, by omega, (unhide hs5).perm ?_⟩
              unfold Both5
              ac_rfl
      case rest =>
        obtain ⟨i', X', hi1, hi2, hs9⟩ := hcut
        clear hsr
        go_wp2_with fail
        refine wp_region_vals (Q := _) (E := W) (fun w => w.cell? ⟨W.heap.size, 1, none⟩ = some (.int .i64 i') ∧ w.cell? ⟨W.heap.size, 2, none⟩ = some (.bool true) ∧ w.cell? ⟨W.heap.size + 1, 1, none⟩ = some (.int .i64 i')) [1]
          [.pointer (some ⟨W.heap.size, 0, none⟩), .int .i64 i', .pointer (some ⟨W.heap.size + 1, 1, none⟩), .int .i64 i', .bool false] (by kernel_rfl) (by kernel_rfl) hs9 (fun w R h => ⟨h.left.cell 1, h.left.cell 2, h.left.f2.cell 1⟩) (by simp only [putAll]; go_simp; rfl) ?_ ?_
        · refine AllFree.s rfl (freeS_run (fun w hw => by go_simp) rfl) ?_
          refine AllFree.c rfl (freeC_call rfl (fun w => by go_simp) (fun w hw => (src_count _ _ _ hw.1 hw.2.1).mono fun e w' ⟨he, hw⟩ => ⟨he, hw ▸ Below.refl _ _⟩)) ?_
          refine AllFree.s rfl (freeS_run (fun w hw => by go_simp) rfl) ?_
          refine AllFree.s rfl (freeS_run (fun w hw => by obtain ⟨_, _, q⟩ := hw; go_simp) rfl) ?_
          refine AllFree.s rfl (freeS_run (fun w hw => by go_simp) rfl) ?_
          exact trivial
        · intro w3 hs10
          have hs11 := hide hs10
          clear hs9 hs10
          go_wp2_with fail
          go_roundw
          case rel => exact ⟨k + 1, i', X', by go_num, by omega, by omega, by omega, by omega, unhide hs11⟩
          case measure => simp [intOf]; omega
    · have hfin := hide (both5_below hsr)
      clear hsr
      by_cases hk1 : k < n
      · have hk2 : ¬ k < 50 := fun h => hlt ⟨hk1, h⟩
        go_wp2_with fail
        go_ret
        exact ⟨rfl, unhide hfin⟩
      · go_wp2_with fail
        go_ret
        exact ⟨rfl, unhide hfin⟩
end Go.Proofs.Ytpcoehbjbjfggaa
