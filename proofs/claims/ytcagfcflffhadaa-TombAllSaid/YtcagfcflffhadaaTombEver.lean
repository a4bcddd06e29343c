/- TombEver: what is closed stays so, and never may be new; fewer than the span are closed above the floor. -/
import Derived.Test.YtcagfcflffhadaaTombE
import Derived.Test.YtcagfcflffhadaaArg
namespace Go.Proofs.Ytcagfcflffhadaa
open Go.RowKit Asn
theorem RdW.some_at {w : World} {ad : Addr} {n z : Nat} {xs : List Value} (h : RdW w (some ad) n z xs) {j : Nat} {u : Value} (hj : xs[j]? = some u) : w.cell? (ad.add j) = some u := by
  obtain ⟨a, h1, h2⟩ := h.at_ hj
  obtain rfl : ad = a := by simpa using h1
  exact h2
theorem bytes_some {l : List UInt8} {k : Nat} (h : k < l.length) : (bytes l)[k]? = some (.int .u8 (l[k].toNat : Nat)) := by
  unfold bytes; rw [List.getElem?_map, List.getElem?_eq_getElem h]; rfl
set_option maxHeartbeats 4000000 in
set_option maxRecDepth 100000 in
theorem tombEver_walk (W0 : World) (A0 : Option Addr) (N C : Nat) (span : Int) (l : List UInt8) (hx : RdW W0 A0 N 1 (bytes l)) (hsp : 0 ≤ span ∧ span ≤ 255) (hn : N ≤ 9223372036854775807) :
    Calls Try.prog 4 #[.int .u8 span, .slice A0 N C] W0 fun e w' => e = .returned (.bool true) ∧ Below W0.heap.size W0 w' := by
  have hlN : l.length = N := by have := hx.1; unfold bytes at this; rw [List.length_map] at this; omega
  have HLN := hide hlN
  clear hlN
  obtain ⟨s, rfl⟩ := Int.eq_ofNat_of_zero_le hsp.1
  obtain ⟨sz, hsz⟩ : ∃ sz, sz = 1 + s % 64 := ⟨_, rfl⟩
  have k1 : 1 ≤ sz := by omega
  have k2 : sz ≤ 64 := by omega
  have hsv : (1 : Int) + (s : Int) % 64 = sz := by omega
  have hnew := hide (tomb_new W0 W0 _ sz (Sat.start W0) k1 k2)
  have hri := hide (TInv.start sz k1 k2)
  clear hsz
  go_enter Try.func4, Try.ntmps4
  go_upto_region 2 with (fail)
  clear hsv
  go_wp2_with fail
  refine (unhide hnew).mono ?_
  rintro e w1 ⟨t, g, rfl, hs1⟩
  clear hnew
  have haw := hide (awake20 W0 _ _ hs1)
  clear hs1
  go_wp2_with fail
  refine (unhide haw).mono ?_
  rintro e w3 ⟨rfl, hs3⟩
  have hs4 := hide (hs3.slNil (e := 3) (z := 1))
  clear haw hs3
  go_wp2_with fail
  go_loopw [8, 9, 10, 11, 12, 13] (fun s8 s9 _ _ _ _ wr => ∃ (V : Nat → Nat) (ba : Nat) (L : List Int) (A : Option Addr) (c : Nat) (M : List Int) (k : Nat), s8 = .slice A k c ∧ s9 = .int .i64 k ∧ k ≤ N ∧ k ≤ 120 ∧ M.length = k ∧ ba + L.length ≤ k + 1 ∧
    Hid (TInv sz ba V L) ∧ Hid (∀ m ∈ M, closedR ba L m = true) ∧ Sat W0 wr (sl 3 1 A k c (ints M) * (TombAt t g sz V ba * Asn.exact W0))) (fun _ s9 _ _ _ _ _ => N - (intOf s9).toNat)
  case atStart => exact ⟨_, 1, [], none, 0, [], 0, rfl, rfl, Nat.zero_le _, Nat.zero_le _, rfl, by simp, hri, hide (fun m hm => by simp at hm), unhide hs4⟩
  case round =>
    obtain ⟨V, ba, L, A, c, M, k, rfl, rfl, hk, hk2, hM, hbk, HI, HC, hsr⟩ := hrel
    clear hs4 hri
    by_cases hlt : k < N ∧ k < 120
    · obtain ⟨h1, h2⟩ := hlt
      have hkl : k < l.length := by have := unhide HLN; omega
      have hbel : Below W0.heap.size W0 wr := (hsr.perm (show _ = Asn.exact W0 * (sl 3 1 A k c (ints M) * TombAt t g sz V ba) by ac_rfl)).below
      obtain ⟨ad, rfl, -⟩ := (hx.below hbel).at_ (bytes_some hkl)
      obtain ⟨x, hxx⟩ : ∃ x, x = l[k].toNat := ⟨_, rfl⟩
      have hx256 : x < 256 := by have := l[k].toNat_lt; omega
      have hcell := hide (fun W (h : Below W0.heap.size W0 W) => (hx.below h).some_at (bytes_some hkl))
      rw [← hxx] at hcell
      obtain ⟨r, hr⟩ : ∃ r, r = x % sz := ⟨_, rfl⟩
      have hrs : r < sz := by rw [hr]; exact Nat.mod_lt _ k1
      have hrv : Hid ((IntKind.i64.wrap (x : Int)).tmod (sz : Int) = (r : Int)) := by
        show _ = _
        rw [show IntKind.i64.wrap (x : Int) = x by rw [IntKind.wrap_i64]; omega, Int.tmod_eq_emod_of_nonneg (by omega), hr]; rfl
      have hbr : Hid (IntKind.i64.wrap ((ba : Int) + (r : Int)) = ((ba + r : Nat) : Int)) := by show _ = _; rw [IntKind.wrap_i64]; omega
      have hsz1 : ¬ sz = 0 := by omega
      have hsz0 : ((sz : Int) == 0) = false := by simp; omega
      have HS := hide ((hsr.perm (show _ = TombAt t g sz V ba * (sl 3 1 A k c (ints M) * Asn.exact W0) by ac_rfl)).perm (sep_one _).symm)
      clear hsr hbel hxx hr
      go_wp2_with fail
      refine wp_region_slr (Q := _) (E := W0) (fun W => ∃ R, Sat W0 W ((TombAt t g sz V ba * (sl 3 1 A k c (ints M) * Asn.exact W0)) * R)) [] [1] [] [] (fun _ => (0, #[], fun _ => undef)) [0, 1, 2, 3, 4, 5, 6, 7, 8, 9, 10] (by kernel_rfl) (by kernel_rfl) (unhide HS) (fun W R h => ⟨_, h.asc⟩) ?_
      iterate 1
        refine wpS_f _ rfl rfl (v := ?_) ?_ ?_
        rotate_left
        · rintro W ⟨R, hW⟩
          have e0 : W.cell? (ad.add k) = some (.int .u8 x) := unhide hcell W (hW.perm (show _ = Asn.exact W0 * (TombAt t g sz V ba * sl 3 1 A k c (ints M) * R) by ac_rfl)).below
          have e1 : (IntKind.i64.wrap (x : Int)).tmod (sz : Int) = (r : Int) := hrv.out
          have e2 : IntKind.i64.wrap ((ba : Int) + (r : Int)) = ((ba + r : Nat) : Int) := hbr.out
          go_simp
          first | rfl | (rw [IntKind.wrap_i64]; omega)
        go_simp
      refine wpS_c _ rfl rfl (v := .int .i64 ba) (freeC_call rfl (fun W => by go_simp; try rfl) (fun W ⟨R, hW⟩ => (tomb_floor hW.asc (unhide HI)).mono fun e w' ⟨he, hw⟩ => ⟨he, hw ▸ Below.refl _ _⟩)) ?_
      go_simp
      iterate 9
        refine wpS_f _ rfl rfl (v := ?_) ?_ ?_
        rotate_left
        · rintro W ⟨R, hW⟩
          have e0 : W.cell? (ad.add k) = some (.int .u8 x) := unhide hcell W (hW.perm (show _ = Asn.exact W0 * (TombAt t g sz V ba * sl 3 1 A k c (ints M) * R) by ac_rfl)).below
          have e1 : (IntKind.i64.wrap (x : Int)).tmod (sz : Int) = (r : Int) := hrv.out
          have e2 : IntKind.i64.wrap ((ba : Int) + (r : Int)) = ((ba + r : Nat) : Int) := hbr.out
          go_simp
          first | rfl | (rw [IntKind.wrap_i64]; omega)
        go_simp
      refine wpS_n (fun w4 hs4 => ?_)
      have hs5 := hs4.perm (sep_one _)
      clear hs4
      have hba1 := (unhide HI).one
      obtain ⟨n, hnn⟩ : ∃ n : Int, n = (ba : Int) + r := ⟨_, rfl⟩
      have n1 : 1 ≤ n := by omega
      have n2 : n ≤ 1073741824 := by omega
      have n3 : n < ba + sz := by omega
      rw [← hnn]
      have hcl := tomb_close (n := n) hs5 (unhide HI) (by omega)
      have hok := closeR_ok (L := L) n n1 n2 n3
      have hev := closeR_ever (L := L) n n1 n2 n3
      obtain ⟨p, hp⟩ : ∃ p, p = closeR sz ba L n := ⟨_, rfl⟩
      rw [← hp] at hcl hev hok
      obtain ⟨⟨L2, b2⟩, p1, p2⟩ := p
      obtain rfl : p2 = 0 := hok
      dsimp only at hcl hev
      have HCL := hide hcl
      have HEV := hide hev
      clear hcl hev hp hs5 hnn hrv hbr hcell n3
      go_wp2_with fail
      refine (unhide HCL).mono ?_
      rintro e w5 ⟨V2, b3, rfl, hi2, hb3, hs6⟩
      clear HCL
      obtain ⟨-, hv2, hv3, hv4⟩ := unhide HEV b3 hb3
      have hM2 : ∀ m ∈ M ++ [n], closedR b3 L2 m = true := fun m hm => by
        rcases List.mem_append.1 hm with h | h
        · exact hv2 m (unhide HC m h)
        · obtain rfl : m = n := by simpa using h
          exact hv3
      have hbk2 : b3 + L2.length ≤ k + 2 := by omega
      obtain ⟨A4, c4, w6, run4, hs7⟩ := Sat.app1 (t := 34) (ty := 34) hs6.f2 elt_ints (.int .i64 n) rfl (by unfold maxLen; omega) (by omega)
      have e4 : ints M ++ [.int .i64 n] = ints (M ++ [n]) := by rw [ints_append]; rfl
      rw [e4] at hs7
      have hM3 : (M ++ [n]).length = k + 1 := by simp [hM]
      obtain ⟨M2, hMM⟩ : ∃ M2, M2 = M ++ [n] := ⟨_, rfl⟩
      rw [← hMM] at hs7 hM2 hM3
      have R4 := Lib.hid run4
      have HS7 := hide hs7
      have HI2 := hide hi2
      have HM2 := hide hM2
      clear hs6 run4 hs7 HEV HI HC hi2 hv2 hv3 hv4 hM2 e4 hb3 hMM hM hbk
      go_wp2_with (at_builtin; refine wpList_appendR rfl (.tmp 61) (.tmp 63) rfl rfl rfl R4.out ?_)
      go_loopw [13] (fun s13 wr => ∃ j : Nat, s13 = .int .i64 j ∧ j ≤ k + 1 ∧ Sat W0 wr (sl 3 1 A4 (k + 1) c4 (ints M2) * (TombAt t g sz V2 b3 * Asn.exact W0))) (fun s13 _ => k + 1 - (intOf s13).toNat)
      case atStart => exact ⟨0, rfl, Nat.zero_le _, unhide HS7⟩
      case round =>
        obtain ⟨j, rfl, hj, hsr⟩ := hrel
        clear HS7
        by_cases hjl : j < k + 1
        · obtain ⟨ad4, rfl, hc⟩ := (hsr.slRd).int_at hjl
          have hmem : M2.getD j 0 ∈ M2 := by rw [getD_lt (by omega)]; exact List.getElem_mem _
          obtain ⟨m, hm⟩ : ∃ m, m = M2.getD j 0 := ⟨_, rfl⟩
          rw [← hm] at hc hmem
          have hcm := unhide HM2 m hmem
          have hmay := may_not (sz := sz) hcm
          have hmb : -9223372036854775808 ≤ m ∧ m ≤ 9223372036854775807 := by
            have := of_decide_eq_true hcm
            have hw := (unhide HI2).r.win
            rcases this.2 with h | h
            · omega
            · have := hw m h; omega
          have hs8 := hsr.perm (show _ = TombAt t g sz V2 b3 * (sl 3 1 (some ad4) (k + 1) c4 (ints M2) * Asn.exact W0) by ac_rfl)
          have HCL : Hid (Calls Try.prog 26 #[.pointer (some ⟨t, 0, none⟩), .int .i64 m] wr fun e w' => e = .returned (.bool true) ∧ Sat W0 w' (TombAt t g sz V2 b3 * (sl 3 1 (some ad4) (k + 1) c4 (ints M2) * Asn.exact W0)) ∧ w'.cell? (ad4.add j) = some (.int .i64 m)) := (tomb_closed hs8 (unhide HI2) hmb).mono fun e w' ⟨he, m, hw⟩ => ⟨by rw [he, hcm], hw ▸ hs8.drewN m, by rw [hw]; exact hc⟩
          clear hmem hm hsr hs8
          go_wp2_with fail
          refine (unhide HCL).mono ?_
          rintro e w7 ⟨rfl, hs9, hc2⟩
          have hmy := tomb_may hs9 (unhide HI2) hmb
          rw [hmay] at hmy
          have HMY := hide hmy
          clear hs9 hmy HCL hmay hcm hmb hc
          go_wp2_with fail
          refine (unhide HMY).mono ?_
          rintro e w8 ⟨rfl, hs10⟩
          have HSX := hide (hs10.perm (show _ = sl 3 1 (some ad4) (k + 1) c4 (ints M2) * (TombAt t g sz V2 b3 * Asn.exact W0) by ac_rfl))
          clear hs10 HMY hc2
          go_wp2_with fail
          go_roundw
          case rel => exact ⟨j + 1, by go_num, by omega, unhide HSX⟩
          case measure => simp [intOf]; omega
        · obtain rfl : j = k + 1 := by omega
          have hs8 := hsr.perm (show _ = TombAt t g sz V2 b3 * (sl 3 1 A4 (k + 1) c4 (ints M2) * Asn.exact W0) by ac_rfl)
          have hcnt := hide (tomb_count hs8 (unhide HI2))
          have hfew := (unhide HI2).few
          obtain ⟨q, hq⟩ : ∃ q, q = L2.length := ⟨_, rfl⟩
          rw [← hq] at hcnt hfew hbk2
          have HQ := hide hq
          clear hsr hs8 hq
          go_wp2_with fail
          refine (unhide hcnt).mono ?_
          rintro e w7 ⟨rfl, hs9⟩
          have hflo := hide (tomb_floor hs9 (unhide HI2))
          have HCL : Hid (Calls Try.prog 26 #[.pointer (some ⟨t, 0, none⟩), .int .i64 b3] w7 fun e w' => e = .returned (.bool false) ∧ Sat W0 w' (TombAt t g sz V2 b3 * (sl 3 1 A4 (k + 1) c4 (ints M2) * Asn.exact W0))) := (tomb_closed hs9 (unhide HI2) (by omega)).mono fun e w' ⟨he, m, hw⟩ => ⟨by rw [he, (unhide HI2).floorNot], hw ▸ hs9.drewN m⟩
          clear hs9 hcnt
          go_wp2_with (go_at_call 24; refine (unhide hflo).mono ?_; rintro e w' ⟨rfl, rfl⟩)
          refine (unhide HCL).mono ?_
          rintro e w8 ⟨rfl, hs10⟩
          have hflo2 := hide (tomb_floor hs10 (unhide HI2))
          have hmy := tomb_may (n := (b3 : Int)) hs10 (unhide HI2) (by omega)
          rw [(unhide HI2).floorMay (by omega)] at hmy
          have HMY := hide hmy
          clear hs10 hflo HCL hmy
          go_wp2_with (go_at_call 24; refine (unhide hflo2).mono ?_; rintro e w' ⟨rfl, rfl⟩)
          refine (unhide HMY).mono ?_
          rintro e w9 ⟨rfl, hs11⟩
          have HSX := hide (hs11.perm (show _ = sl 3 1 A4 (k + 1) c4 (ints M2) * (TombAt t g sz V2 b3 * Asn.exact W0) by ac_rfl))
          clear hs11 HMY hflo2
          go_wp2_with fail
          go_roundw
          case rel => exact ⟨V2, b3, L2, A4, c4, M2, k + 1, rfl, by go_num, by omega, by omega, hM3, by have := unhide HQ; omega, HI2, HM2, unhide HSX⟩
          case measure => simp [intOf]; omega
    · have hbel : Hid (Below W0.heap.size W0 wr) := (hsr.perm (show _ = Asn.exact W0 * (sl 3 1 A k c (ints M) * TombAt t g sz V ba) by ac_rfl)).below
      clear hsr
      by_cases h1 : k < N
      · have h2 : ¬ (k : Int) < 120 := by omega
        clear hlt
        go_wp2_with fail
        go_ret
        exact ⟨rfl, unhide hbel⟩
      · clear hlt
        go_wp2_with fail
        go_ret
        exact ⟨rfl, unhide hbel⟩
end Go.Proofs.Ytcagfcflffhadaa
