/- TombRuns: what any calls make of a tomb, and what each tells. -/
import Derived.Test.YtcagfcflffhadaaTombS
import Derived.Test.YtcagfcflffhadaaTombA
namespace Go.Proofs.Ytcagfcflffhadaa
open Go.RowKit Asn

/-- A call, as its cells tell it. -/
def Op20At (xs : List Value) (k : Nat) : Prop := ∃ (d : UInt8) (m x : Int), xs[k * 3]? = some (.int .u8 d.toNat) ∧ xs[k * 3 + 1]? = some (.int .i8 m) ∧ xs[k * 3 + 2]? = some (.int .i64 x) ∧
  -128 ≤ m ∧ m ≤ 127 ∧ -9223372036854775808 ≤ x ∧ x ≤ 9223372036854775807
/-- What the law holds: the tomb, the document's, what that one's row lies in. -/
def Both20 (W : World) (rg t g : Nat) (V : Nat → Nat) (sz ba : Nat) (A : Option Addr) (n c : Nat) (X : Asn) : Asn :=
  TombAt t g sz V ba * (Asn.blk rg 45 #[.int .i64 sz, .int .i64 ba, .slice A n c] * (X * Asn.exact W))
theorem both20_below {W w : World} {rg t g : Nat} {V : Nat → Nat} {sz ba : Nat} {A : Option Addr} {n c : Nat} {X : Asn} (h : Sat W w (Both20 W rg t g V sz ba A n c X)) : Below W.heap.size W w :=
  Sat.below (F := 1) (h.right.right.right.perm (sep_one _).symm)
set_option maxHeartbeats 4000000 in
set_option maxRecDepth 100000 in
theorem tombRuns_walk (W : World) (A0 : Option Addr) (N C : Nat) (span : Int) (xs : List Value) (hx : RdW W A0 N 3 xs) (hop : ∀ k, k < N → Op20At xs k) (hn : N ≤ 9223372036854775807) :
    Calls Try.prog 5 #[.int .i64 span, .slice A0 N C] W fun e w' => e = .returned (.bool true) ∧ Below W.heap.size W w' := by
  have HOP := Lib.hid hop
  clear hop
  by_cases hok : 1 ≤ span ∧ span ≤ 64
  · obtain ⟨sz, rfl⟩ := Int.eq_ofNat_of_zero_le (show 0 ≤ span by omega)
    obtain ⟨k1, k2⟩ := id hok
    have hnew := hide (tomb_new W W _ sz (Sat.start W) (by omega) (by omega))
    have hri := hide (TInv.start sz (by omega) (by omega))
    have HOK := hide hok
    clear hok
    go_enter Try.func5, Try.ntmps5
    go_wp2_with fail
    refine (unhide hnew).mono ?_
    rintro e w1 ⟨t0, g0, rfl, hs1⟩
    clear hnew
    have hnr := hide (new20 w1 sz (unhide HOK))
    go_wp2_with fail
    refine (unhide hnr).mono ?_
    rintro e w2 ⟨rfl, hb⟩
    have hs2 := hs1.under hb
    clear hnr hs1 hb
    have haw := hide (awake20 W _ _ (hs2.alloc #[.int .i64 sz, .int .i64 1, .slice none 0 0] 45))
    generalize hrg : w2.heap.size = rg at *
    clear hs2
    go_wp2_with fail
    refine (unhide haw).mono ?_
    rintro e w3 ⟨rfl, hs3⟩
    clear haw
    have hs4 : Sat W w3 (Both20 W rg t0 g0 (fun _ => 0) sz 1 none 0 0 1) := hs3.perm (by unfold Both20; rw [one_sep]; ac_rfl)
    have HS4 := hide hs4
    clear hs3 hs4 hrg
    go_wp2_with fail
    go_loopw [5, 9, 10, 11, 12, 13, 14, 15, 16, 17] (fun s5 s9 _ _ _ _ _ _ _ _ wr => ∃ (t g : Nat) (V : Nat → Nat) (ba : Nat) (L : List Int) (A : Option Addr) (n c : Nat) (X : Asn) (k : Nat), s5 = .pointer (some ⟨t, 0, none⟩) ∧ s9 = .int .i64 k ∧ k ≤ N ∧
      Hid (TInv sz ba V L) ∧ Hid (RS X A n c L) ∧ Sat W wr (Both20 W rg t g V sz ba A n c X)) (fun _ s9 _ _ _ _ _ _ _ _ _ => N - (intOf s9).toNat)
    case atStart => exact ⟨t0, g0, _, 1, [], none, 0, 0, 1, 0, rfl, rfl, Nat.zero_le _, hri, RS.none_ _, unhide HS4⟩
    case round =>
      obtain ⟨t, g, V, ba, L, A, n, c, X, k, rfl, rfl, hk, HI, HR, hsr⟩ := hrel
      clear HS4 hri
      by_cases hlt : k < N ∧ k < 80
      · obtain ⟨h1, h2⟩ := hlt
        obtain ⟨d, m, x, o0, o1, o2, hm1, hm2, hx1, hx2⟩ := HOP.out k h1
        have hbel : Below W.heap.size W wr := both20_below hsr
        obtain ⟨ad, rfl, e0⟩ := (hx.below hbel).at_ o0
        have e1 := (hx.below hbel).2 (by omega)
        obtain ⟨ad', h, e1⟩ := e1
        obtain rfl : ad = ad' := by simpa using h
        have e2 := e1 _ _ o2
        have e1 := e1 _ _ o1
        rw [← add_fld] at e1 e2
        clear o0 o1 o2 h hbel
        have hdl : (d.toNat : Int) < 256 := by have := d.toNat_lt; omega
        have hbt := (unhide HI).top
        have hsz := (unhide HI).sz
        have hn' : n ≤ 256 := by
          have := (unhide HI).r.len
          have := (unhide HR).len hsr.right.right.left
          omega
        have hs3 : Sat W (wr.alloc (.cells #[.int .u8 d.toNat, .int .i8 m, .int .i64 x] 50)) (Both20 W rg t g V sz ba A n c (Asn.blk wr.heap.size 50 #[.int .u8 d.toNat, .int .i8 m, .int .i64 x] * X)) := (hsr.alloc #[.int .u8 d.toNat, .int .i8 m, .int .i64 x] 50).perm (by unfold Both20; ac_rfl)
        have f1 : wr.cell? ⟨rg, 1, none⟩ = some (.int .i64 ba) := hsr.f2.cell 1
        have frl : rg < wr.heap.size := Sat.lt (o := .cells _ _ (0, 0)) hsr.f2
        have HS3 := hide hs3
        clear hs3 hsr
        go_upto_if 69 with (fail)
        go_cut [11] (fun s11 wx => ∃ y : Int, s11 = .int .i64 y ∧ -9223372036854775808 ≤ y ∧ y ≤ 9223372036854775807 ∧ wx = wr.alloc (.cells #[.int .u8 d.toNat, .int .i8 m, .int .i64 x] 50))
        case first =>
          by_cases h6 : d.toNat % 8 = 6
          · have h6a : ((d.toNat : Int) % 8 == 6) = true := by simp; omega
            go_wp2_with fail
            go_meet
            exact ⟨x, rfl, hx1, hx2, rfl⟩
          · have h6a : ((d.toNat : Int) % 8 == 6) = false := by simp; omega
            go_wp2_with fail
            go_meet
            exact ⟨ba + m, rfl, by omega, by omega, rfl⟩
        case rest =>
        obtain ⟨y, rfl, hy1, hy2, rfl⟩ := hcut
        go_upto_if 75 with (fail)
        go_cut [5, 12, 13, 14, 15, 16, 17] (fun s5 _ _ _ _ _ _ wx => ∃ (t g : Nat) (V : Nat → Nat) (ba : Nat) (L : List Int) (A : Option Addr) (n c : Nat) (X : Asn), s5 = .pointer (some ⟨t, 0, none⟩) ∧
          Hid (TInv sz ba V L) ∧ Hid (RS (Asn.blk wr.heap.size 50 #[.int .u8 d.toNat, .int .i8 m, .int .i64 x] * X) A n c L) ∧ Sat W wx (Both20 W rg t g V sz ba A n c (Asn.blk wr.heap.size 50 #[.int .u8 d.toNat, .int .i8 m, .int .i64 x] * X)))
        case first =>
          by_cases h7 : d.toNat % 8 = 7
          · have h7a : ((d.toNat : Int) % 8 == 7) = true := by simp; omega
            have hfk := hide (tomb_fork (unhide HS3) (unhide HI))
            clear h7
            go_wp2_with fail
            refine (unhide hfk).mono ?_
            rintro e w5 ⟨t2, g2, rfl, hs5⟩
            clear hfk f1 frl e0 e1 e2
            have c1 : w5.cell? ⟨rg, 1, none⟩ = some (.int .i64 ba) := hs5.f3.cell 1
            have hst := hide (tomb_close (n := (ba : Int)) hs5.f2 (unhide HI) (by omega))
            clear hs5
            go_wp2_with fail
            refine (unhide hst).mono ?_
            rintro e w6 ⟨V2, b2, rfl, -, -, hs6⟩
            have HS6 := hide hs6
            clear hst hs6 c1
            go_wp2_with fail
            go_meet
            exact ⟨t2, g2, V, ba, L, A, n, c, (TombAt t g sz V2 b2 * X), rfl, HI, hide (unhide HR).right.right, (unhide HS6).perm (by unfold Both20; ac_rfl)⟩
          · have h7a : ((d.toNat : Int) % 8 == 7) = false := by simp; omega
            clear h7
            have hst := tomb_close (n := y) (unhide HS3) (unhide HI) ⟨hy1, hy2⟩
            have hrs : Hid (∀ w' F, Sat W w' ((Asn.blk wr.heap.size 50 #[.int .u8 d.toNat, .int .i8 m, .int .i64 x] * X) * F) → Calls Try.prog 31 #[.agg #[.int .i64 sz, .int .i64 ba, .slice A n c], .int .i64 y] w' (Close20 W (Asn.blk wr.heap.size 50 #[.int .u8 d.toNat, .int .i8 m, .int .i64 x] * X) F sz (closeR sz ba L y))) :=
              fun w' F h => close20 W w' _ F A n c L sz ba y h (unhide HR).right (by omega) hsz hbt ⟨hy1, hy2⟩
            obtain ⟨p, hp⟩ : ∃ p, p = closeR sz ba L y := ⟨_, rfl⟩
            rw [← hp] at hst hrs
            have HST := hide hst
            clear hst hp
            obtain ⟨⟨L2, b2⟩, p1, p2⟩ := p
            dsimp only at HST
            go_wp2_with fail
            refine (unhide HST).mono ?_
            rintro e w5 ⟨V2, b3, rfl, hi2, hb3, hs5'⟩
            obtain rfl : b2 = (b3 : Int) := hb3
            have hs5 := hs5'.perm (show _ = (Asn.blk wr.heap.size 50 #[.int .u8 d.toNat, .int .i8 m, .int .i64 x] * X) * (TombAt t g sz V2 b3 * (Asn.blk rg 45 #[.int .i64 sz, .int .i64 ba, .slice A n c] * Asn.exact W)) by ac_rfl)
            have HI2 := hide hi2
            clear hs5' HST f1 frl hi2 e0 e1 e2
            have c0 : w5.cell? ⟨rg, 0, none⟩ = some (.int .i64 sz) := hs5.f3.cell 0
            have c1 : w5.cell? ⟨rg, 1, none⟩ = some (.int .i64 ba) := hs5.f3.cell 1
            have c2 : w5.cell? ⟨rg, 2, none⟩ = some (.slice A n c) := hs5.f3.cell 2
            have hra := hide (unhide hrs _ _ hs5)
            clear hs5 hrs
            go_wp2_with fail
            refine (unhide hra).mono ?_
            rintro e w6 ⟨A2, n2, c2', G, b4, rfl, hb4, hs6, hr2⟩
            obtain rfl : b4 = b3 := by have h : (b3 : Int) = (b4 : Nat) := hb4; omega
            clear hra c0 c1 c2 hb4
            have HR2 := hide hr2
            have c0 : w6.cell? ⟨rg, 0, none⟩ = some (.int .i64 sz) := hs6.f4.cell 0
            have c1 : w6.cell? ⟨rg, 1, none⟩ = some (.int .i64 ba) := hs6.f4.cell 1
            have c2 : w6.cell? ⟨rg, 2, none⟩ = some (.slice A n c) := hs6.f4.cell 2
            have c3 : ∀ j, w6.frozen? ⟨rg, j, none⟩ = false := fun j => hs6.f4.frozen j
            have c4 : rg < w6.heap.size := Sat.lt (o := .cells _ _ (0, 0)) hs6.f4
            have hs7 := ((((hs6.f4.set 0 (.int .i64 sz)).set 1 (.int .i64 b4)).set 2 (.slice A2 n2 c2')).alloc #[.int .i64 sz, .int .i64 b4, .slice A2 n2 c2'] 45).right
            have HS7 := hide hs7
            clear hs6 hs7 hr2
            go_wp2_with fail
            go_meet
            refine ⟨t, g, V2, b4, L2, A2, n2, c2', G * X, rfl, HI2, ?_, (unhide HS7).perm ?_⟩
            · rw [sep_left_comm] at HR2; exact HR2
            · unfold Both20
              show Asn.blk rg _ #[_, _, _] * _ = _ * (Asn.blk rg _ #[_, _, _] * _)
              ac_rfl
        case rest =>
        obtain ⟨t, g, V, ba, L, A, n, c, X, rfl, HI, HR, hsx⟩ := hcut
        clear HS3 e0 e1 e2 f1 frl
        have c0 : wc.cell? ⟨rg, 0, none⟩ = some (.int .i64 sz) := hsx.f2.cell 0
        have c1 : wc.cell? ⟨rg, 1, none⟩ = some (.int .i64 ba) := hsx.f2.cell 1
        have c2 : wc.cell? ⟨rg, 2, none⟩ = some (.slice A n c) := hsx.f2.cell 2
        have hs5 := hsx.perm (show _ = TombAt t g sz V ba * ((Asn.blk wr.heap.size 50 #[.int .u8 d.toNat, .int .i8 m, .int .i64 x] * X) * (Asn.blk rg 45 #[.int .i64 sz, .int .i64 ba, .slice A n c] * Asn.exact W)) by unfold Both20; ac_rfl)
        have hsame := hide (same20 W wc _ _ t g sz V ba L A n c y (unhide HI) hs5 (unhide HR) ⟨hy1, hy2⟩)
        clear hsx hs5
        go_wp2_with fail
        refine (unhide hsame).mono ?_
        rintro e w5 ⟨rfl, hs5⟩
        clear c0 c1 c2
        have hs6 := hs5.perm (show _ = Asn.blk wr.heap.size 50 #[.int .u8 d.toNat, .int .i8 m, .int .i64 x] * (Asn.blk rg 45 #[.int .i64 sz, .int .i64 ba, .slice A n c] * (TombAt t g sz V ba * (X * Asn.exact W))) by ac_rfl)
        have c0 : w5.cell? ⟨rg, 0, none⟩ = some (.int .i64 sz) := hs6.f2.cell 0
        have c1 : w5.cell? ⟨rg, 1, none⟩ = some (.int .i64 ba) := hs6.f2.cell 1
        have c2 : w5.cell? ⟨rg, 2, none⟩ = some (.slice A n c) := hs6.f2.cell 2
        have c3 : w5.cell? ⟨wr.heap.size, 2, none⟩ = some (.int .i64 x) := hs6.cell 2
        have hsame2 := hide (same20 W w5 _ _ t g sz V ba L A n c x (unhide HI) hs5 (unhide HR) ⟨hx1, hx2⟩)
        clear hsame hs5 hs6
        go_wp2_with fail
        refine (unhide hsame2).mono ?_
        rintro e w6 ⟨rfl, hs6⟩
        have HS5 := hide (hs6.perm (show _ = Both20 W rg t g V sz ba A n c (Asn.blk wr.heap.size 50 #[.int .u8 d.toNat, .int .i8 m, .int .i64 x] * X) by unfold Both20; ac_rfl))
        clear hs6 hsame2 c0 c1 c2 c3
        go_wp2_with fail
        go_roundw
        case rel => exact ⟨t, g, V, ba, L, A, n, c, (Asn.blk wr.heap.size 50 #[.int .u8 d.toNat, .int .i8 m, .int .i64 x] * X), k + 1, rfl, by go_num, by omega, HI, HR, unhide HS5⟩
        case measure => simp [intOf]; omega
      · have hbel := hide (both20_below hsr)
        clear hsr
        by_cases h1 : k < N
        · have h2 : ¬ (k : Int) < 80 := by omega
          clear hlt
          go_wp2_with fail
          go_ret
          exact ⟨rfl, unhide hbel⟩
        · clear hlt
          go_wp2_with fail
          go_ret
          exact ⟨rfl, unhide hbel⟩
  · have hnew := hide (tomb_new_no W span hok)
    have hnr := hide (new20_no W span hok)
    clear hok
    go_enter Try.func5, Try.ntmps5
    go_wp2_with fail
    refine (unhide hnew).mono ?_
    rintro e w1 ⟨rfl, rfl⟩
    clear hnew
    go_wp2_with fail
    refine (unhide hnr).mono ?_
    rintro e w2 ⟨rfl, hb⟩
    have hs2 := (((Sat.start W).perm (sep_one _).symm).under hb).alloc #[.int .i64 0, .int .i64 0, .slice none 0 0] 45
    have haw := hide (awake20 W _ _ hs2.right)
    clear hnr hb hs2
    go_wp2_with fail
    refine (unhide haw).mono ?_
    rintro e w3 ⟨rfl, hs3⟩
    have HB := hide hs3.below
    clear haw hs3
    go_wp2_with fail
    go_loopw [5, 9] (fun s5 s9 wr => s5 = .pointer none ∧ s9 = .int .i64 0 ∧ wr = w3) (fun _ _ _ => 0)
    case atStart => exact ⟨rfl, rfl, rfl⟩
    case round =>
      obtain ⟨rfl, rfl, rfl⟩ := hrel
      by_cases h1 : 0 < N
      · go_wp2_with fail
        go_ret
        exact ⟨rfl, unhide HB⟩
      · go_wp2_with fail
        go_ret
        exact ⟨rfl, unhide HB⟩
end Go.Proofs.Ytcagfcflffhadaa
