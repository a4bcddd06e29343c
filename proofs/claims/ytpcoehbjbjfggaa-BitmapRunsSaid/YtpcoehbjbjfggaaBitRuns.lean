/- BitmapRuns: what any calls make of a bitmap, and what each tells. -/
import Derived.Test.YtpcoehbjbjfggaaBitSame
namespace Go.Proofs.Ytpcoehbjbjfggaa
open Go.RowKit Asn

/-- A call, as its cells tell it. -/
def Op10At (xs : List Value) (k : Nat) : Prop := ∃ (d : UInt8) (m x : Int), xs[k * 3]? = some (.int .u8 d.toNat) ∧ xs[k * 3 + 1]? = some (.int .i8 m) ∧ xs[k * 3 + 2]? = some (.int .i64 x) ∧
  -128 ≤ m ∧ m ≤ 127 ∧ -9223372036854775808 ≤ x ∧ x ≤ 9223372036854775807
/-- What the law holds: the bitmap, the document's, what that one's row lies in. -/
def Both10 (W : World) (rg g : Nat) (V : Nat → Nat) (sz ba : Nat) (A : Option Addr) (n c : Nat) (X : Asn) : Asn :=
  BitAt g V sz ba * (Asn.blk rg 93 #[.int .i64 sz, .int .i64 ba, .slice A n c] * (X * Asn.exact W))
theorem both10_below {W w : World} {rg g : Nat} {V : Nat → Nat} {sz ba : Nat} {A : Option Addr} {n c : Nat} {X : Asn} (h : Sat W w (Both10 W rg g V sz ba A n c X)) : Below W.heap.size W w :=
  Sat.below (F := 1) (h.right.right.right.perm (sep_one _).symm)
set_option maxHeartbeats 4000000 in
set_option maxRecDepth 100000 in
theorem bitmapRuns_walk (W : World) (A0 : Option Addr) (N C : Nat) (size base most : Int) (xs : List Value) (hx : RdW W A0 N 3 xs) (hop : ∀ k, k < N → Op10At xs k) (hn : N ≤ 9223372036854775807) :
    Calls Try.prog 10 #[.int .i64 size, .int .i64 base, .slice A0 N C, .int .i64 most] W fun e w' => e = .returned (.bool true) ∧ Below W.heap.size W w' := by
  have HOP := Lib.hid hop
  clear hop
  by_cases hok : 1 ≤ size ∧ size ≤ 256 ∧ 0 ≤ base ∧ base ≤ 1152921504606846976
  · obtain ⟨sz, rfl⟩ := Int.eq_ofNat_of_zero_le (show 0 ≤ size by omega)
    obtain ⟨ba0, rfl⟩ := Int.eq_ofNat_of_zero_le hok.2.2.1
    obtain ⟨k1, k2, k3, k4⟩ := id hok
    have hnew := hide (bit_new W W _ sz ba0 (Sat.start W) (by omega) (by omega) (by omega))
    have hri := hide (RInv.start sz ba0 (by omega) (by omega) (by omega))
    have HOK := hide hok
    clear hok
    go_enter Try.func10, Try.ntmps10
    go_wp2_with fail
    refine (unhide hnew).mono ?_
    rintro e w1 ⟨g0, rfl, hs1⟩
    clear hnew
    have hnr := hide (new10 w1 sz ba0 (unhide HOK))
    go_wp2_with fail
    refine (unhide hnr).mono ?_
    rintro e w2 ⟨rfl, hb⟩
    have hs2 := hs1.under hb
    clear hnr hs1 hb
    have haw := hide (awake10 W _ _ (hs2.alloc #[.int .i64 sz, .int .i64 ba0, .slice none 0 0] 93))
    generalize hrg : w2.heap.size = rg at *
    clear hs2
    go_wp2_with fail
    refine (unhide haw).mono ?_
    rintro e w3 ⟨rfl, hs3⟩
    clear haw
    have hs4 : Sat W w3 (Both10 W rg g0 (fun _ => 0) sz ba0 none 0 0 1) := hs3.perm (by unfold Both10; rw [one_sep]; ac_rfl)
    have HS4 := hide hs4
    clear hs3 hs4 hrg
    go_wp2_with fail
    go_loopw [9, 13, 14, 15, 16, 17, 18, 19, 20, 21, 22, 23, 24] (fun s9 s13 _ _ _ _ _ _ _ _ _ _ _ wr => ∃ (g : Nat) (V : Nat → Nat) (ba : Nat) (L : List Int) (A : Option Addr) (n c : Nat) (X : Asn) (k : Nat), s9 = .pointer (some ⟨g, 0, none⟩) ∧ s13 = .int .i64 k ∧ k ≤ N ∧
      Hid (RInv sz ba V L) ∧ Hid (RS X A n c L) ∧ Sat W wr (Both10 W rg g V sz ba A n c X)) (fun _ s13 _ _ _ _ _ _ _ _ _ _ _ _ => N - (intOf s13).toNat)
    case atStart => exact ⟨g0, _, ba0, [], none, 0, 0, 1, 0, rfl, rfl, Nat.zero_le _, hri, RS.none_ _, unhide HS4⟩
    case round =>
      obtain ⟨g, V, ba, L, A, n, c, X, k, rfl, rfl, hk, HI, HR, hsr⟩ := hrel
      clear HS4 hri
      by_cases hlt : k < N ∧ k < 60
      · obtain ⟨h1, h2⟩ := hlt
        obtain ⟨d, m, x, o0, o1, o2, hm1, hm2, hx1, hx2⟩ := HOP.out k h1
        have hbel : Below W.heap.size W wr := both10_below hsr
        obtain ⟨ad, rfl, e0⟩ := (hx.below hbel).at_ o0
        have e1 := (hx.below hbel).2 (by omega)
        obtain ⟨ad', h, e1⟩ := e1
        obtain rfl : ad = ad' := by simpa using h
        have e2 := e1 _ _ o2
        have e1 := e1 _ _ o1
        rw [← add_fld] at e1 e2
        clear o0 o1 o2 h hbel
        have hdl : (d.toNat : Int) < 256 := by have := d.toNat_lt; omega
        have hbt := (unhide HI).top
        have hs1' := (unhide HI).one
        have hs2' := (unhide HI).le
        have hsm := hide (unhide HI).small
        have hn' : n ≤ 256 := by
          have := (unhide HI).len
          have := (unhide HR).len hsr.right.right.left
          omega
        have hs3 : Sat W (wr.alloc (.cells #[.int .u8 d.toNat, .int .i8 m, .int .i64 x] 98)) (Both10 W rg g V sz ba A n c (Asn.blk wr.heap.size 98 #[.int .u8 d.toNat, .int .i8 m, .int .i64 x] * X)) := (hsr.alloc #[.int .u8 d.toNat, .int .i8 m, .int .i64 x] 98).perm (by unfold Both10; ac_rfl)
        have f1 : wr.cell? ⟨rg, 1, none⟩ = some (.int .i64 ba) := hsr.f2.cell 1
        have frl : rg < wr.heap.size := Sat.lt (o := .cells _ _ (0, 0)) hsr.f2
        have HS3 := hide hs3
        clear hs3 hsr
        go_upto_block 2 with (fail)
        go_cut [9, 15] (fun s9 s15 wx => ∃ (g : Nat) (V : Nat → Nat) (ba : Nat) (L : List Int) (A : Option Addr) (n c : Nat) (X : Asn) (y : Int), s9 = .pointer (some ⟨g, 0, none⟩) ∧ s15 = .int .i64 y ∧ -9223372036854775808 ≤ y ∧ y ≤ 9223372036854775807 ∧
          Hid (RInv sz ba V L) ∧ Hid (RS X A n c L) ∧ Sat W wx (Both10 W rg g V sz ba A n c X))
        case first =>
          by_cases h5 : d.toNat % 8 = 5 ∨ d.toNat % 8 = 6
          · have hadv := hide (advance_call W _ _ g V sz ba (unhide HS3) (unhide hsm) hs1' hs2' hbt)
            obtain ⟨ha1, ha2⟩ := RInv.adv L ba V (unhide HI)
            obtain ⟨V2, hV2⟩ : ∃ x, x = (advB V ba).1 := ⟨_, rfl⟩
            obtain ⟨b2, hb2⟩ : ∃ x, x = (advB V ba).2 := ⟨_, rfl⟩
            rw [← hV2, ← hb2] at hadv ha1
            rw [← hb2] at ha2
            obtain ⟨L2, hL2⟩ : ∃ x, x = (advR L ba).1 := ⟨_, rfl⟩
            rw [← hL2] at ha1
            have HI2 := hide ha1
            have HA2 := hide ha2
            have HL2 := hide hL2
            clear ha1 ha2 hL2 hV2 hb2
            have h5a : ((d.toNat : Int) % 8 == 5) = decide (d.toNat % 8 = 5) := by rw [Bool.eq_iff_iff]; simp; omega
            have h6a : ((d.toNat : Int) % 8 == 6) = decide (d.toNat % 8 = 6) := by rw [Bool.eq_iff_iff]; simp; omega
            rcases h5 with h5 | h5
            all_goals
              first | rw [decide_eq_true h5] at h5a | rw [decide_eq_false (by omega)] at h5a
              first | rw [decide_eq_true h5] at h6a | rw [decide_eq_false (by omega)] at h6a
              clear h5 e0 e1 e2
              go_wp2_with fail
              refine (unhide hadv).mono ?_
              rintro e w5 ⟨q, rfl, hq, -, -, hs5⟩
              have HQ := hide hq
              clear hq hadv f1 frl
              have hs5' := hs5.f2.f3
              have hs5 : Sat W w5 ((Asn.blk wr.heap.size 98 #[.int .u8 d.toNat, .int .i8 m, .int .i64 x] * X) * (BitAt g V2 sz b2 * (Asn.blk rg 93 #[.int .i64 sz, .int .i64 ba, .slice A n c] * Asn.exact W))) := hs5.perm (by ac_rfl)
              clear hs5'
              have c0 : w5.cell? ⟨rg, 0, none⟩ = some (.int .i64 sz) := hs5.f3.cell 0
              have c1 : w5.cell? ⟨rg, 1, none⟩ = some (.int .i64 ba) := hs5.f3.cell 1
              have c2 : w5.cell? ⟨rg, 2, none⟩ = some (.slice A n c) := hs5.f3.cell 2
              have hra := hide (adv10 W w5 _ _ A n c L sz ba hs5 (unhide HR).right (by omega) hbt)
              clear hs5
              go_wp2_with fail
              refine (unhide hra).mono ?_
              rintro e w6 ⟨q2, A2, n2, c2', rfl, hq2, hr2, hs6⟩
              clear hra c0 c1 c2
              obtain rfl : q2 = q := by have := unhide HQ; have := unhide HA2; omega
              have hb2 : b2 = ba + q2 := unhide HQ
              have HR2 := hide hr2
              rw [← unhide HL2] at HR2
              have c0 : w6.cell? ⟨rg, 0, none⟩ = some (.int .i64 sz) := hs6.f3.cell 0
              have c1 : w6.cell? ⟨rg, 1, none⟩ = some (.int .i64 ba) := hs6.f3.cell 1
              have c2 : w6.cell? ⟨rg, 2, none⟩ = some (.slice A n c) := hs6.f3.cell 2
              have c3 : ∀ j, w6.frozen? ⟨rg, j, none⟩ = false := fun j => hs6.f3.frozen j
              have c4 : rg < w6.heap.size := Sat.lt (o := .cells _ _ (0, 0)) hs6.f3
              have hs7 := ((((hs6.f3.set 0 (.int .i64 sz)).set 1 (.int .i64 (ba + q2 : Nat))).set 2 (.slice A2 n2 c2')).alloc #[.int .i64 sz, .int .i64 (ba + q2 : Nat), .slice A2 n2 c2'] 93).right
              rw [← hb2] at hs7 ⊢
              have HS7 := hide hs7
              clear hs6 hs7 hr2 hq2 hb2
              go_wp2_with fail
              go_meet
              refine ⟨g, V2, b2, L2, A2, n2, c2', _, _, rfl, rfl, ?_, ?_, HI2, HR2, (unhide HS7).perm ?_⟩
              · omega
              · omega
              · unfold Both10
                show Asn.blk rg _ #[_, _, _] * _ = _ * (Asn.blk rg _ #[_, _, _] * _)
                ac_rfl
          · by_cases h7 : d.toNat % 8 = 7
            · have h5a : ((d.toNat : Int) % 8 == 5) = false := by simp; omega
              have h6a : ((d.toNat : Int) % 8 == 6) = false := by simp; omega
              have h7a : ((d.toNat : Int) % 8 == 7) = true := by simp; omega
              have hfk := hide (bit_fork W _ _ g V sz ba (unhide HS3) hs1')
              clear h5 h7 e0 e1 e2
              go_wp2_with fail
              refine (unhide hfk).mono ?_
              rintro e w5 ⟨g2, rfl, hs5⟩
              clear hfk f1 frl
              have c1 : w5.cell? ⟨rg, 1, none⟩ = some (.int .i64 ba) := hs5.f3.cell 1
              have hst := hide (set_call W w5 _ g V sz ba ba hs5.f2 (unhide hsm) hs1' hs2' hbt (by omega))
              have hV2 := hide (setB_small (n := ba) (unhide hsm) sz ba)
              clear hs5
              go_wp2_with fail
              refine (unhide hst).mono ?_
              rintro e w6 ⟨rfl, hs6⟩
              have had := hide (advance_call W w6 _ g _ sz ba hs6 (unhide hV2) hs1' hs2' hbt)
              clear hst hs6 c1
              go_wp2_with fail
              refine (unhide had).mono ?_
              rintro e w7 ⟨q, rfl, -, -, -, hs7⟩
              have HS7 := hide hs7
              clear had hs7
              go_wp2_with fail
              go_meet
              exact ⟨g2, V, ba, L, A, n, c, _, _, rfl, rfl, by omega, by omega, HI, (unhide HR).right, (unhide HS7).right⟩
            · have h5a : ((d.toNat : Int) % 8 == 5) = false := by simp; omega
              have h6a : ((d.toNat : Int) % 8 == 6) = false := by simp; omega
              have h7a : ((d.toNat : Int) % 8 == 7) = false := by simp; omega
              clear h5 h7 e0 e1 e2
              obtain ⟨y, hy1, hy2, hyy⟩ : ∃ y : Int, -9223372036854775808 ≤ y ∧ y ≤ 9223372036854775807 ∧ ((d.toNat % 8 = 4 ∧ y = x) ∨ (d.toNat % 8 ≠ 4 ∧ y = ba + m)) := by
                by_cases h4 : d.toNat % 8 = 4
                · exact ⟨x, hx1, hx2, .inl ⟨h4, rfl⟩⟩
                · exact ⟨ba + m, by omega, by omega, .inr ⟨h4, rfl⟩⟩
              have hst := set_call W _ _ g V sz ba y (unhide HS3) (unhide hsm) hs1' hs2' hbt ⟨hy1, hy2⟩
              obtain ⟨hset1, hset2⟩ := RInv.set (unhide HI) y
              obtain ⟨p, hp⟩ : ∃ p, p = (setR sz ba L y).2 := ⟨_, rfl⟩
              rw [hset2, ← hp] at hst
              obtain ⟨V2, hV2⟩ : ∃ x, x = (setB V sz ba y).1 := ⟨_, rfl⟩
              rw [← hV2] at hst hset1
              obtain ⟨L2, hL2⟩ : ∃ x, x = (setR sz ba L y).1 := ⟨_, rfl⟩
              rw [← hL2] at hset1
              have hrs : Hid (∀ w' F, Sat W w' ((Asn.blk wr.heap.size 98 #[.int .u8 d.toNat, .int .i8 m, .int .i64 x] * X) * F) → Calls Try.prog 57 #[.agg #[.int .i64 sz, .int .i64 ba, .slice A n c], .int .i64 y] w' (Set10 W (Asn.blk wr.heap.size 98 #[.int .u8 d.toNat, .int .i8 m, .int .i64 x] * X) F sz ba (L2, p))) := by
                intro w' F h
                have := set10 W w' _ F A n c L sz ba y h (unhide HR).right (by omega) hs2' hbt ⟨hy1, hy2⟩
                rwa [hL2, hp]
              have HST := hide hst
              have HI2 := hide hset1
              clear hst hset1 hset2 hp hV2 hL2
              obtain ⟨p1, p2⟩ := p
              dsimp only at HST
              rcases hyy with ⟨h4, rfl⟩ | ⟨h4, rfl⟩
              all_goals
                first
                  | (have h4a : ((d.toNat : Int) % 8 == 4) = true := by simp; omega)
                  | (have h4a : ((d.toNat : Int) % 8 == 4) = false := by simp; omega)
                clear h4
                go_wp2_with fail
                refine (unhide HST).mono ?_
                rintro e w5 ⟨rfl, hs5'⟩
                have hs5 := hs5'.perm (show _ = (Asn.blk wr.heap.size 98 #[.int .u8 d.toNat, .int .i8 m, .int .i64 _] * X) * (BitAt g V2 sz ba * (Asn.blk rg 93 #[.int .i64 sz, .int .i64 ba, .slice A n c] * Asn.exact W)) by ac_rfl)
                clear hs5' HST f1 frl
                have c0 : w5.cell? ⟨rg, 0, none⟩ = some (.int .i64 sz) := hs5.f3.cell 0
                have c1 : w5.cell? ⟨rg, 1, none⟩ = some (.int .i64 ba) := hs5.f3.cell 1
                have c2 : w5.cell? ⟨rg, 2, none⟩ = some (.slice A n c) := hs5.f3.cell 2
                have hra := hide (unhide hrs _ _ hs5)
                clear hs5
                go_wp2_with fail
                refine (unhide hra).mono ?_
                rintro e w6 ⟨A2, n2, c2', G, rfl, hs6, hr2⟩
                clear hra c0 c1 c2
                have HR2 := hide hr2
                have c0 : w6.cell? ⟨rg, 0, none⟩ = some (.int .i64 sz) := hs6.f4.cell 0
                have c1 : w6.cell? ⟨rg, 1, none⟩ = some (.int .i64 ba) := hs6.f4.cell 1
                have c2 : w6.cell? ⟨rg, 2, none⟩ = some (.slice A n c) := hs6.f4.cell 2
                have c3 : ∀ j, w6.frozen? ⟨rg, j, none⟩ = false := fun j => hs6.f4.frozen j
                have c4 : rg < w6.heap.size := Sat.lt (o := .cells _ _ (0, 0)) hs6.f4
                have hs7 := ((((hs6.f4.set 0 (.int .i64 sz)).set 1 (.int .i64 ba)).set 2 (.slice A2 n2 c2')).alloc #[.int .i64 sz, .int .i64 ba, .slice A2 n2 c2'] 93).right
                have HS7 := hide hs7
                clear hs6 hs7 hr2
                go_wp2_with fail
                go_meet
                refine ⟨g, V2, ba, L2, A2, n2, c2', _, _, rfl, rfl, hy1, hy2, HI2, HR2, (unhide HS7).perm ?_⟩
                unfold Both10
                show Asn.blk rg _ #[_, _, _] * _ = _ * (Asn.blk rg _ #[_, _, _] * _)
                ac_rfl
        case rest =>
          obtain ⟨g, V, ba, L, A, n, c, X, y, rfl, rfl, hy1, hy2, HI, HR, hsx⟩ := hcut
          clear HS3 e0 e1 e2 f1 frl
          have c0 : wc.cell? ⟨rg, 0, none⟩ = some (.int .i64 sz) := hsx.f2.cell 0
          have c1 : wc.cell? ⟨rg, 1, none⟩ = some (.int .i64 ba) := hsx.f2.cell 1
          have c2 : wc.cell? ⟨rg, 2, none⟩ = some (.slice A n c) := hsx.f2.cell 2
          have hsame := hide (same10 W wc _ g V sz ba L A n c y most (unhide HI) hsx (unhide HR).left.right ⟨hy1, hy2⟩)
          clear hsx
          go_wp2_with fail
          refine (unhide hsame).mono ?_
          rintro e w5 ⟨rfl, hs5⟩
          have HS5 := hide hs5
          clear hs5 hsame c0 c1 c2
          go_wp2_with fail
          go_roundw
          case rel => exact ⟨g, V, ba, L, A, n, c, X, k + 1, rfl, by go_num, by omega, HI, HR, unhide HS5⟩
          case measure => simp [intOf]; omega
      · have hbel := hide (both10_below hsr)
        clear hsr
        by_cases h1 : k < N
        · have h2 : ¬ (k : Int) < 60 := by omega
          clear hlt
          go_wp2_with fail
          go_ret
          exact ⟨rfl, unhide hbel⟩
        · clear hlt
          go_wp2_with fail
          go_ret
          exact ⟨rfl, unhide hbel⟩
  · have hnew := hide (bit_new_no W size base hok)
    have hnr := hide (new10_no W size base hok)
    clear hok
    go_enter Try.func10, Try.ntmps10
    go_wp2_with fail
    refine (unhide hnew).mono ?_
    rintro e w1 ⟨rfl, rfl⟩
    clear hnew
    go_wp2_with fail
    refine (unhide hnr).mono ?_
    rintro e w2 ⟨rfl, hb⟩
    have hs2 := (((Sat.start W).perm (sep_one _).symm).under hb).alloc #[.int .i64 0, .int .i64 0, .slice none 0 0] 93
    have haw := hide (awake10 W _ _ hs2.right)
    clear hnr hb hs2
    go_wp2_with fail
    refine (unhide haw).mono ?_
    rintro e w3 ⟨rfl, hs3⟩
    have HB := hide hs3.below
    clear haw hs3
    go_wp2_with fail
    go_loopw [9, 13] (fun s9 s13 wr => s9 = .pointer none ∧ s13 = .int .i64 0 ∧ wr = w3) (fun _ _ _ => 0)
    case atStart => exact ⟨rfl, rfl, rfl⟩
    case round =>
      obtain ⟨rfl, rfl, rfl⟩ := hrel
      by_cases h1 : 0 < N
      · go_wp2_with fail
        go_ret
        exact ⟨rfl, unhide HB⟩
      · go_wp2_with fail
        go_ret
        exact ⟨rfl, unhide HB⟩
end Go.Proofs.Ytpcoehbjbjfggaa
