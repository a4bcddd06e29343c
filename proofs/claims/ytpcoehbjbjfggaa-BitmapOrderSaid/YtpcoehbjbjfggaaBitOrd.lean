/- BitmapOrder: whatever the order, and whenever the base goes on. -/
import Derived.Test.YtpcoehbjbjfggaaBitP
import Derived.Test.YtpcoehbjbjfggaaBitO
namespace Go.Proofs.Ytpcoehbjbjfggaa
open Go.RowKit Asn

/-- Which numbers are among the first k. -/
def inF (g : Nat → Nat) (k : Nat) : Nat → Bool := fun r => (List.range k).any fun i => decide (r = g i)
theorem inF_succ (g : Nat → Nat) (k : Nat) : addS (inF g k) (g k) = inF g (k + 1) := by
  funext r
  unfold addS inF
  rw [List.range_succ, List.any_append]
  simp
theorem inF_rot {g : Nat → Nat} {n t : Nat} (hn : 0 < n) : inF (fun i => g ((i + t) % n)) n = inF g n := by
  funext r
  unfold inF
  rw [Bool.eq_iff_iff]
  simp only [List.any_eq_true, List.mem_range, decide_eq_true_eq]
  constructor
  · rintro ⟨i, hi, rfl⟩
    exact ⟨(i + t) % n, Nat.mod_lt _ hn, rfl⟩
  · rintro ⟨j, hj, rfl⟩
    refine ⟨(j + (n - t % n)) % n, Nat.mod_lt _ hn, ?_⟩
    congr 1
    have h1 : t % n < n := Nat.mod_lt _ hn
    have h2 : t = n * (t / n) + t % n := (Nat.div_add_mod t n).symm
    rw [Nat.mod_add_mod]
    rw [show j + (n - t % n) + t = j + n + n * (t / n) by omega, Nat.add_mul_mod_self_left, Nat.add_mod_right, Nat.mod_eq_of_lt hj]
theorem inF_mem {g : Nat → Nat} {k i : Nat} (h : i < k) : inF g k (g i) = true := by
  unfold inF
  rw [List.any_eq_true]
  exact ⟨i, List.mem_range.2 h, by simp⟩
theorem addS_mem {S : Nat → Bool} {n : Nat} (h : S n = true) : addS S n = S := by
  funext r
  unfold addS
  by_cases e : r = n
  · rw [e, h]; rfl
  · rw [decide_eq_false e, Bool.or_false]
theorem inF_zero (g : Nat → Nat) : inF g 0 = fun _ => false := rfl
theorem binv0 : BInv (fun _ => false) 0 (fun _ => 0) := ⟨fun _ => Nat.two_pow_pos 64, by omega, fun r hr => by omega, fun r _ => by simp [bitAt]⟩

set_option maxHeartbeats 6000000 in
set_option maxRecDepth 100000 in
theorem bitmapOrder_walk (W : World) (A B : Option Addr) (n0 c m d : Nat) (l0 : List UInt8) (t : Nat) (es : List Bool) (hl : RdW W A n0 1 (bytes l0)) (he : RdW W B m 1 (es.map Value.bool)) (hn : n0 ≤ 9223372036854775807) (hc : n0 ≤ c) (hm : m ≤ 9223372036854775807) (htl : t < 256) :
    Calls Try.prog 9 #[.slice A n0 c, .int .u8 t, .slice B m d] W fun e w' => e = .returned (.bool true) ∧ Below W.heap.size W w' := by
  go_enter Try.func9, Try.ntmps9
  go_wp2_with fail
  refine (bit_new W W _ 256 0 (Sat.start W) (by omega) (by omega) (by omega)).mono ?_
  rintro e w1 ⟨ga, rfl, hs1⟩
  go_wp2_with fail
  refine (bit_new W w1 _ 256 0 hs1 (by omega) (by omega) (by omega)).mono ?_
  rintro e w2 ⟨gb, rfl, hs2⟩
  clear hs1
  go_wp2_with fail
  refine (awake10 W w2 _ hs2).mono ?_
  rintro e w3 ⟨rfl, hs3⟩
  clear hs2
  have hs4 : Sat W w3 (BitAt ga (fun _ => 0) 256 0 * (BitAt gb (fun _ => 0) 256 0 * Asn.exact W)) := hs3.f2
  clear hs3
  go_upto_if 48 with (fail)
  go_cut [0] (fun s0 wx => ∃ (n c : Nat) (l : List UInt8), s0 = .slice A n c ∧ n ≤ 100 ∧ RdW W A n 1 (bytes l) ∧ w3 = wx)
  case first =>
    by_cases h6 : 100 < n0
    · go_wp2_with fail
      go_meet
      refine ⟨100, c, l0.take 100, rfl, Nat.le_refl _, ?_, rfl⟩
      have := hl.take (k := 100) (by omega)
      simpa [bytes, List.map_take] using this
    · go_wp2_with fail
      go_meet
      exact ⟨n0, c, l0, rfl, by omega, hl, rfl⟩
  case rest =>
    obtain ⟨n, c, l, rfl, hn100, hr, rfl⟩ := hcut
    obtain ⟨ga', hga⟩ : ∃ f : Nat → Nat, f = fun i => (l.getD i 0).toNat := ⟨_, rfl⟩
    have hll : l.length = n := by have := hr.1; rw [length_bytes] at this; omega
    have hcell : ∀ (w : World), Below W.heap.size W w → ∀ i, i < n → ∃ ad, A = some ad ∧ w.cell? (ad.add i) = some (.int .u8 (ga' i)) ∧ ga' i < 256 := by
      intro w hb i hi
      have hx : l[i]? = some (l[i]'(by omega)) := List.getElem?_eq_getElem _
      obtain ⟨ad, h1, h2⟩ := (hr.below hb).at_ (j := i) (u := .int .u8 (l[i]'(by omega)).toNat) (by rw [bytes, List.getElem?_map, hx]; rfl)
      have h3 : ga' i = (l[i]'(by omega)).toNat := by rw [hga]; simp [List.getD, hx]
      exact ⟨ad, h1, by rw [h3]; exact h2, by rw [h3]; exact (l[i]'(by omega)).toNat_lt⟩
    clear hga hll
    have HCELL := Lib.hid hcell
    clear hcell
    go_wp2_with fail
    go_loopw [11, 12, 13, 14] (fun s11 s12 _ _ wr => ∃ (k : Nat) (V : Nat → Nat), s12 = .int .i64 k ∧ k ≤ n ∧ Hid (BInv (inF ga' k) 0 V) ∧ s11 = .int .i64 (howMany (inF ga' k)) ∧ Sat W wr (BitAt ga V 256 0 * (BitAt gb (fun _ => 0) 256 0 * Asn.exact W))) (fun _ s12 _ _ _ => n - (intOf s12).toNat)
    case atStart => exact ⟨0, fun _ => 0, rfl, Nat.zero_le _, binv0, by rw [inF_zero]; rfl, hs4⟩
    case round =>
      obtain ⟨k, V, rfl, hk, HI, rfl, hsr⟩ := hrel
      clear hs4
      by_cases hlt : k < n
      · obtain ⟨ad, rfl, e0, hlt2⟩ := HCELL.out wr (hsr.right.right.perm (sep_one _).symm).below k hlt
        obtain ⟨hi1, hi2⟩ := HI.out.set hlt2
        have hcall := set_call W wr _ ga V 256 0 (ga' k) hsr HI.out.small (by omega) (by omega) (by omega) (by omega)
        rw [hi2] at hcall
        rw [inF_succ] at hi1
        have hh := howMany_add (S := inF ga' k) hlt2
        rw [inF_succ] at hh
        have hle := howMany_le (inF ga' k)
        obtain ⟨hm1, hhm1⟩ : ∃ x, x = howMany (inF ga' k) := ⟨_, rfl⟩
        rw [← hhm1] at hh hle ⊢
        have HH := Lib.hid hh
        have HC := hide hcall
        have HI1 := hide hi1
        clear hcall hi1 hi2 hh hhm1
        cases hS : inF ga' k (ga' k)
        all_goals
          rw [hS] at HC HH
          clear hS
          go_wp2_with fail
          refine (unhide HC).mono ?_
          rintro e w5 ⟨rfl, hs5⟩
          have HS5 := hide hs5
          clear hs5 hsr
          go_wp2_with fail
          go_roundw
          case rel => exact ⟨k + 1, _, by go_num, by omega, unhide HI1, by rw [HH.out]; simp, unhide HS5⟩
          case measure => simp [intOf]; omega
      · obtain rfl : k = n := by omega
        have hsr' := hide hsr
        clear hsr
        go_wp2_with fail
        go_loopw [15] (fun s15 wr => ∃ (j b : Nat) (U : Nat → Nat), s15 = .int .i64 j ∧ j ≤ k ∧ Hid (BInv (inF (fun i => ga' ((i + t) % k)) j) b U) ∧ Sat W wr (BitAt gb U 256 b * (BitAt ga V 256 0 * Asn.exact W))) (fun s15 _ => k - (intOf s15).toNat)
        case atStart => exact ⟨0, 0, fun _ => 0, rfl, Nat.zero_le _, binv0, (unhide hsr').f2⟩
        case round =>
          obtain ⟨j, b, U, rfl, hj, HJ, hsq⟩ := hrel
          clear hsr' 
          by_cases hlt' : j < k
          · obtain ⟨ad, rfl, e0, hlt2⟩ := HCELL.out wr (hsq.right.right.perm (sep_one _).symm).below ((j + t) % k) (Nat.mod_lt _ (by omega))
            have hb1 : 0 ≤ ((j : Int) + t) % k := Int.emod_nonneg _ (by omega)
            have hb2 : ((j : Int) + t) % k < k := Int.emod_lt_of_pos _ (by omega)
            obtain ⟨hi1, hi2⟩ := HJ.out.set hlt2
            have hle := HJ.out.le
            have hcall := hide (set_call W wr _ gb U 256 b (ga' ((j + t) % k)) hsq HJ.out.small (by omega) (by omega) (by omega) (by omega))
            rw [show addS (inF (fun i => ga' ((i + t) % k)) j) (ga' ((j + t) % k)) = inF (fun i => ga' ((i + t) % k)) (j + 1) from inF_succ _ _] at hi1
            obtain ⟨U2, hU2⟩ : ∃ U2, U2 = (setB U 256 b (ga' ((j + t) % k))).1 := ⟨_, rfl⟩
            rw [← hU2] at hcall hi1
            have HI1 := hide hi1
            clear hi1 hi2 hU2
            go_upto_region 19 with (fail)
            go_wp2_with fail
            refine (unhide hcall).mono ?_
            rintro e w5 ⟨rfl, hs5⟩
            clear hcall hsq e0
            by_cases hjm : j < m
            · obtain ⟨be, hbe⟩ : ∃ be, (es.map Value.bool)[j]? = some (.bool be) := by
                have hlen := he.1
                simp only [List.length_map] at hlen
                exact ⟨es[j]'(by omega), by rw [List.getElem?_map, List.getElem?_eq_getElem (by omega)]; rfl⟩
              obtain ⟨ad2, rfl, e2⟩ := (he.below (hs5.right.right.perm (sep_one _).symm).below).at_ hbe
              clear hbe
              cases be
              · have HS5 := hide hs5
                clear hs5
                go_wp2_with fail
                go_roundw
                case rel => exact ⟨j + 1, b, U2, by go_num, by omega, HI1, unhide HS5⟩
                case measure => simp [intOf]; omega
              · have hadv := hide (advance_call W w5 _ gb U2 256 b hs5 (unhide HI1).small (by omega) (by omega) (by omega))
                obtain ⟨ha1, _, _⟩ := BInv.adv (256 - b) b U2 rfl (unhide HI1)
                have HA := hide ha1
                clear ha1 hs5
                go_wp2_with fail
                refine (unhide hadv).mono ?_
                rintro e w6 ⟨q, rfl, -, -, -, hs6⟩
                have HS6 := hide hs6
                clear hs6 hadv
                go_wp2_with fail
                go_roundw
                case rel => exact ⟨j + 1, _, _, by go_num, by omega, HA, unhide HS6⟩
                case measure => simp [intOf]; omega
            · have HS5 := hide hs5
              clear hs5
              go_wp2_with fail
              go_roundw
              case rel => exact ⟨j + 1, b, U2, by go_num, by omega, HI1, unhide HS5⟩
              case measure => simp [intOf]; omega
          · obtain rfl : j = k := by omega
            have hS : inF (fun i => ga' ((i + t) % j)) j = inF ga' j := by
              rcases Nat.eq_zero_or_pos j with h0 | h0
              · subst h0; rfl
              · exact inF_rot h0
            rw [hS] at HJ
            clear hS
            have hle := HJ.out.le
            have hcnt := hide (count_call W wr _ ga V 256 0 hsq.f2 HI.out.small (by omega) (by omega) (by omega))
            rw [HI.out.count] at hcnt
            clear hsq
            go_wp2_with fail
            refine (unhide hcnt).mono ?_
            rintro e w5 ⟨rfl, hs5⟩
            have hadv := hide (advance_call W w5 _ ga V 256 0 hs5 HI.out.small (by omega) (by omega) (by omega))
            clear hs5 hcnt
            obtain ⟨ha1, ha2, _⟩ := BInv.adv (256 - 0) 0 V rfl HI.out
            obtain ⟨V3, hV3⟩ : ∃ x, x = (advB V 0).1 := ⟨_, rfl⟩
            obtain ⟨a3, ha3⟩ : ∃ x, x = (advB V 0).2 := ⟨_, rfl⟩
            rw [← hV3, ← ha3] at hadv ha1
            rw [← ha3] at ha2
            have HA1 := hide ha1
            have HA2 := hide ha2
            clear ha1 ha2 hV3 ha3
            go_wp2_with fail
            refine (unhide hadv).mono ?_
            rintro e w6 ⟨q, rfl, -, -, -, hs6⟩
            have hadv2 := hide (advance_call W w6 _ gb U 256 b hs6.f2 HJ.out.small (by omega) (by omega) (by omega))
            clear hs6 hadv
            obtain ⟨hb1, hb2, _⟩ := BInv.adv (256 - b) b U rfl HJ.out
            obtain ⟨U3, hU3⟩ : ∃ x, x = (advB U b).1 := ⟨_, rfl⟩
            obtain ⟨b3, hb3⟩ : ∃ x, x = (advB U b).2 := ⟨_, rfl⟩
            rw [← hU3, ← hb3] at hadv2 hb1
            rw [← hb3] at hb2
            obtain rfl := (unhide HA1).base hb1 (unhide HA2) hb2
            have HB1 := hide hb1
            have hle3 := hb1.le
            clear hb1 hb2 hU3 hb3 HA2
            go_wp2_with fail
            refine (unhide hadv2).mono ?_
            rintro e w7 ⟨q2, rfl, -, -, -, hs7⟩
            have hs7' := hide hs7
            clear hadv2 hs7
            go_wp2_with fail
            go_loopw [17, 18, 19] (fun s17 _ _ wr => ∃ (i : Nat) (U4 : Nat → Nat), s17 = .int .i64 i ∧ i ≤ j ∧ Hid (BInv (inF ga' j) a3 U4) ∧ Sat W wr (BitAt gb U4 256 a3 * (BitAt ga V3 256 a3 * Asn.exact W))) (fun s17 _ _ _ => j - (intOf s17).toNat)
            case atStart => exact ⟨0, U3, rfl, Nat.zero_le _, HB1, unhide hs7'⟩
            case round =>
              obtain ⟨i, U4, rfl, hi, HK, hsz⟩ := hrel
              clear hs7' HB1
              by_cases hlt3 : i < j
              · obtain ⟨ad, rfl, e0, hlt2⟩ := HCELL.out wr (hsz.right.right.perm (sep_one _).symm).below i hlt3
                obtain ⟨hi1, hi2⟩ := HK.out.set hlt2
                have hcall := set_call W wr _ gb U4 256 a3 (ga' i) hsz HK.out.small (by omega) (by omega) (by omega) (by omega)
                rw [hi2, inF_mem hlt3] at hcall
                rw [addS_mem (inF_mem hlt3)] at hi1
                have HC := hide hcall
                have HI1 := hide hi1
                clear hcall hi1 hi2 hsz
                go_wp2_with fail
                refine (unhide HC).mono ?_
                rintro e w8 ⟨rfl, hs8⟩
                have HS8 := hide hs8
                clear hs8 HC
                go_wp2_with fail
                go_roundw
                case rel => exact ⟨i + 1, _, by go_num, by omega, HI1, unhide HS8⟩
                case measure => simp [intOf]; omega
              · have a4 : wr.cell? ⟨ga, 4, none⟩ = some (.int .i64 256) := hsz.f2.cell 4
                have a5 : wr.cell? ⟨ga, 5, none⟩ = some (.int .i64 a3) := hsz.f2.cell 5
                have b4 : wr.cell? ⟨gb, 4, none⟩ = some (.int .i64 256) := hsz.cell 4
                have b5 : wr.cell? ⟨gb, 5, none⟩ = some (.int .i64 a3) := hsz.cell 5
                have hl1 := hide (list_call W wr _ ga V3 256 a3 hsz.f2 (unhide HA1).small (by omega) (by omega) (by omega))
                have heqL := (unhide HA1).list HK.out
                have HSU := hide HK.out.small
                have hlen : (lst (winL V3 256 a3)).length ≤ 256 := by
                  have h1 := lst_len (winL V3 256 a3)
                  have h2 : winN 256 a3 ≤ 256 := Nat.min_le_left _ _
                  rw [winL_len] at h1
                  omega
                have HEQ := hide heqL
                clear heqL
                go_wp2_with (first
                  | (go_at_call 51; refine (base_call _ ga 256 a3 a4 a5 rfl).mono ?_; rintro e w' ⟨rfl, rfl⟩)
                  | (go_at_call 51; refine (base_call _ gb 256 a3 b4 b5 rfl).mono ?_; rintro e w' ⟨rfl, rfl⟩))
                refine (unhide hl1).mono ?_
                rintro e w8 ⟨A8, c8, rfl, hs8⟩
                have hl2 := list_call W w8 _ gb U4 256 a3 (hs8.f3) (unhide HSU) (by omega) (by omega) (by omega)
                rw [← unhide HEQ] at hl2
                have HL2 := hide hl2
                clear hl2 hl1 hs8 hsz a4 a5 b4 b5
                go_wp2_with fail
                refine (unhide HL2).mono ?_
                rintro e w9 ⟨A9, c9, rfl, hs9⟩
                have hsi := hide (sameInts04 W w9 _ A8 A9 _ c8 c9 _ hs9 rd_sl.left.right.right rd_sl.left (fun u hu => by
                  unfold lst at hu
                  obtain ⟨x, _, rfl⟩ := List.mem_map.1 hu
                  exact ⟨_, rfl⟩) (by omega))
                clear HL2 hs9
                go_wp2_with fail
                refine (unhide hsi).mono ?_
                rintro e w10 ⟨rfl, hs10⟩
                have hbel := hide (Sat.below (F := 1) (hs10.right.right.right.right.perm (sep_one _).symm))
                clear hsi hs10
                go_wp2_with fail
                go_ret
                exact ⟨rfl, unhide hbel⟩
theorem bitmapOrder_any (W : World) (A B : Option Addr) (n0 c m d : Nat) (l0 : List UInt8) (a : Int) (es : List Bool) (hl : RdW W A n0 1 (bytes l0)) (he : RdW W B m 1 (es.map Value.bool)) (hn : n0 ≤ 9223372036854775807) (hc : n0 ≤ c) (hm : m ≤ 9223372036854775807) (hw : (Lit.int .u8 a).wf = true) :
    Calls Try.prog 9 #[.slice A n0 c, .int .u8 a, .slice B m d] W fun e w' => e = .returned (.bool true) ∧ Below W.heap.size W w' := by
  have h : 0 ≤ a ∧ a < 256 := by
    simp only [Lit.wf, Bool.and_eq_true, decide_eq_true_eq] at hw
    have h1 : IntKind.min .u8 = 0 := rfl
    have h2 : IntKind.max .u8 = 255 := rfl
    rw [h1, h2] at hw
    omega
  obtain ⟨t, rfl⟩ := Int.eq_ofNat_of_zero_le h.1
  exact bitmapOrder_walk W A B n0 c m d l0 t es hl he hn hc hm (by omega)
end Go.Proofs.Ytpcoehbjbjfggaa
