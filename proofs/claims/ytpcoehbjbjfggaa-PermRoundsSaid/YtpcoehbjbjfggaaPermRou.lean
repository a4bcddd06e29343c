/- PermRounds: each path once a round. -/
import Derived.Test.YtpcoehbjbjfggaaPermRnd
import Derived.Test.YtpcoehbjbjfggaaArg
namespace Go.Proofs.Ytpcoehbjbjfggaa
open Go.RowKit Asn

/-- The state after j draws, somewhere. -/
def StR (W0 : World) (P : List Int) (s : Int) (g gs j : Nat) (w : World) : Prop :=
  ∃ (i : Int) (rn : Int) (td : Nat → Int) (A : Option Addr) (n c : Nat) (X : Asn) (L : List Int),
    RS X A n c L ∧ RndI (riseL (memb P)) L td j ∧ 0 ≤ i ∧ i ≤ 8 * (j + 1) ∧ Sat W0 w (PermAt g gs s i (memb P) (.slice A n c) rn td * (X * Asn.exact W0))
theorem StR.next {W0 w : World} {P : List Int} {s : Int} {g gs j : Nat} (h : StR W0 P s g gs j w) (hj : j ≤ 1000) :
    Calls Try.prog 66 #[.pointer (some ⟨g, 0, none⟩)] w fun e w' => (∃ v, e = .returned v) ∧ StR W0 P s g gs (j + 1) w' := by
  obtain ⟨i, rn, td, A, n, c, X, L, hl, hr, h0, h1, hs⟩ := h
  obtain ⟨x, l, rfl⟩ : ∃ x l, L = x :: l := by
    obtain ⟨_, _, _, h3, _⟩ := hr
    cases L with
    | nil => exact absurd rfl h3
    | cons x l => exact ⟨x, l, rfl⟩
  have hxR : x ∈ riseL (memb P) := by
    obtain ⟨_, _, h2, _⟩ := hr
    exact h2 x List.mem_cons_self
  obtain ⟨p, hp8, _, rfl⟩ := (riseL_mem _ _).1 hxR
  have hb := hr.bd hxR
  refine (next_call hs hl hp8 (by omega) h0 (by omega)).mono fun e w' ⟨hm, hla⟩ => ?_
  by_cases hle : l = []
  · obtain ⟨A', c', M, he, _, hM, hs'⟩ := hla hle
    subst hle
    refine ⟨⟨_, he⟩, i + ((riseL (memb P)).length - 1 : Nat), _, _, A', M.length, c', sl 3 1 A' M.length c' (ints M) * X, M, ?_, hr.last hM (riseL_nodup _), by omega, by have := riseL_len (memb P); omega, hs'.perm (by ac_rfl)⟩
    exact (Sat.slRS hs'.f2).left
  · obtain ⟨A', n', c', he, hl', hs'⟩ := hm hle
    exact ⟨⟨_, he⟩, i, rn, _, A', n', c', X, l, hl', hr.more hle, h0, by omega, hs'⟩
set_option maxHeartbeats 8000000 in
set_option maxRecDepth 100000 in
theorem permRounds_walk (W0 : World) (A0 : Option Addr) (n0 c0 : Nat) (s : Int) (L0 : List Int) (t : Nat) (hL : RdW W0 A0 n0 1 (ints L0)) (hn0 : n0 ≤ 9223372036854775807) (hc0 : n0 ≤ c0) (ht : t < 256) :
    Calls Try.prog 12 #[.int .u64 s, .slice A0 n0 c0, .int .u8 t] W0 fun e w' => e = .returned (.bool true) ∧ Below W0.heap.size W0 w' := by
  obtain ⟨n, hnm⟩ : ∃ n, n = min n0 20 := ⟨_, rfl⟩
  have hsh := hide (short06 W0 A0 n0 c0 hn0 hc0)
  rw [← hnm] at hsh
  have hLt := hL.take (k := n) (by omega)
  rw [Nat.mul_one, ints_take] at hLt
  obtain ⟨P, hPL⟩ : ∃ P, P = L0.take n := ⟨_, rfl⟩
  rw [← hPL] at hLt
  have hrd : rd (Asn.exact W0) 1 A0 n (ints P) := hLt.exact
  have hn20 : n ≤ 20 := by omega
  clear hL hPL hnm
  by_cases hok : Good P ∧ P ≠ []
  · obtain ⟨hg, hne⟩ := hok
    have hPl : P.length = n := by have := hLt.1; rw [length_ints] at this; omega
    have hn1 : 0 < n := by cases P with | nil => exact absurd rfl hne | cons => simp at hPl; omega
    have hp := hide (new_perm W0 W0 _ A0 n c0 s P (Sat.start W0) hrd (by omega) hg (by omega))
    have hpp := hide (rise_perm hg)
    have HRD := hide hLt
    have HPL := hide hPl
    have HG := hide hg.1
    have hpne : Hid (riseL (memb P) ≠ []) := fun h => hne (by have := (rise_perm hg).length_eq; rw [h] at this; exact List.eq_nil_of_length_eq_zero this.symm)
    clear hg hne hrd hLt hPl
    go_enter Try.func12, Try.ntmps12
    go_wp2_with fail
    refine (unhide hsh).mono ?_
    rintro e w' ⟨rfl, rfl⟩
    go_wp2_with fail
    refine (unhide hp).mono ?_
    rintro e w1 ⟨g, gs, A1, c1, M, rfl, hM, hMp, hs1⟩
    have hst : Hid (StR W0 P s g gs 0 w1) := ⟨_, 1, fun _ => 0, A1, M.length, c1, _, M, Sat.slRS hs1.f2, RndI.start hMp (riseL_nodup _) (unhide hpne), by omega, by have := riseL_len (memb P); omega, hs1⟩
    clear hsh hp hM hMp hs1
    go_wp2_with fail
    go_loopw [11, 12, 13, 14, 15, 16] (fun s11 _ _ _ _ _ wr => ∃ j : Nat, s11 = .int .i64 j ∧ j ≤ 80 ∧ StR W0 P s g gs j wr) (fun s11 _ _ _ _ _ _ => 80 - (intOf s11).toNat)
    case atStart => exact ⟨0, rfl, by omega, unhide hst⟩
    case round =>
      obtain ⟨j, rfl, hj, hsr⟩ := hrel
      clear hst
      by_cases hlt : j < t % 80
      · have hlt2 : (j : Int) < t % 80 := by omega
        have hj80 : j < 80 := by omega
        have hnx := hide (hsr.next (by omega))
        clear hsr hlt
        go_wp2_with fail
        refine (unhide hnx).mono ?_
        rintro e w2 ⟨⟨v, rfl⟩, hs2⟩
        have HS2 := hide hs2
        obtain ⟨i, rn, td, A, n1, c1, X, L, hl, hr, h0, h1, hs3⟩ := hs2
        have hspr := hide (sprayed_call hs3)
        have hbel : Hid (∀ w3, Below w2.heap.size w2 w3 → StR W0 P s g gs (j + 1) w3) := fun w3 hb => ⟨i, rn, td, A, n1, c1, X, L, hl, hr, h0, h1, hs3.under hb⟩
        have hlook := hr.look (unhide hpp).symm (riseL_nodup _) (fun x hx => by obtain ⟨p, _, _, rfl⟩ := (riseL_mem _ _).1 hx; omega)
        have hbd : Hid (∀ x ∈ P, ∃ p : Nat, x = p ∧ p < 8 ∧ 0 ≤ td p ∧ td p ≤ 100) := fun x hx => by
          obtain ⟨p, h8, _, rfl⟩ := (riseL_mem _ _).1 ((unhide hpp).mem_iff.2 hx)
          have := hr.bd ((unhide hpp).mem_iff.2 hx)
          exact ⟨p, rfl, h8, by omega, by omega⟩
        have HLOOK := hide hlook
        have hrdw : Hid (∀ w3, Below w2.heap.size w2 w3 → RdW w3 A0 n 1 (ints P)) := fun w3 hb => ((unhide HRD).below (Sat.below (F := 1) (hs3.right.right.perm (sep_one _).symm))).below hb
        clear hnx hs3 hlook hl hr h0 h1
        unfold told8 at hspr
        go_wp2_with fail
        refine (unhide hspr).mono ?_
        rintro e w3 ⟨rfl, hb3⟩
        have hb4 := hb3.alloc hb3.size (.cells (told8 td) 117 (0, 0))
        have HB4 := hide hb4
        obtain ⟨w4, hw4⟩ : ∃ w4, w4 = w3.alloc (.cells (told8 td) 117) := ⟨_, rfl⟩
        obtain ⟨cb, hcb⟩ : ∃ cb, cb = w3.heap.size := ⟨_, rfl⟩
        have hcell : Hid (∀ p, p < 8 → w4.cell? ⟨cb, p, none⟩ = some (.int .i64 (td p))) := fun p hp => by
          rw [hw4, hcb, cell_of_row _ _ _ _ _ _ (heap_alloc_new w3 _)]
          exact told8_get td hp
        go_upto_region 11 with (fail)
        simp only [told8] at hw4
        rw [← hw4, ← hcb]
        have hrd4 := hide (unhide hrdw w4 (by rw [hw4]; exact hb4))
        have HST4 := hide (unhide hbel w4 (by rw [hw4]; exact hb4))
        clear hw4 hcb hb3 hb4 HB4 hspr hbel hrdw
        go_wp2_with fail
        go_loop [13, 14, 15, 16] (fun s13 s14 s15 s16 => ∃ (k : Nat) (lo hi sm : Int), s16 = .int .i64 k ∧ s13 = .int .i64 lo ∧ s14 = .int .i64 hi ∧ s15 = .int .i64 sm ∧ k ≤ n ∧ 0 ≤ lo ∧ lo ≤ 100 ∧ 0 ≤ hi ∧ hi ≤ 100 ∧ 0 ≤ sm ∧ sm ≤ 100 * k ∧
          Hid (lo = (P.take k).foldl (fun a x => min a (td x.toNat)) ((j + 1 : Nat) : Int) ∧ hi = (P.take k).foldl (fun a x => max a (td x.toNat)) 0 ∧ sm = (P.take k).foldl (fun a x => a + td x.toNat) 0)) (fun _ _ _ s16 => n - (intOf s16).toNat)
        case atStart => exact ⟨0, j + 1, 0, 0, rfl, rfl, rfl, rfl, by omega, by omega, by omega, by omega, by omega, by omega, by omega, ⟨rfl, rfl, rfl⟩⟩
        case round =>
          obtain ⟨k, lo, hi, sm, rfl, rfl, rfl, rfl, hk, hlo, hlo2, hhi, hhi2, hsm, hsm2, HF⟩ := hrel
          by_cases hkn : k < n
          · obtain ⟨ad, rfl, hc⟩ := (unhide hrd4).int_at hkn
            have hpl := unhide HPL
            have hts := take_snoc' P (k := k) (by omega)
            have hmem : P.getD k 0 ∈ P := by rw [getD_lt (by omega)]; exact List.getElem_mem _
            obtain ⟨p, hxp, hp8, ht0, ht1⟩ := unhide hbd _ hmem
            rw [hxp] at hc hts
            have hcp := unhide hcell p hp8
            have hp8i : (p : Int) < 8 := by omega
            have hnx : Hid (min lo (td p) = (P.take (k + 1)).foldl (fun a x => min a (td x.toNat)) ((j + 1 : Nat) : Int) ∧ max hi (td p) = (P.take (k + 1)).foldl (fun a x => max a (td x.toNat)) 0 ∧ sm + td p = (P.take (k + 1)).foldl (fun a x => a + td x.toNat) 0) := by
              obtain ⟨e1, e2, e3⟩ := HF
              rw [hts, List.foldl_append, List.foldl_append, List.foldl_append, ← e1, ← e2, ← e3]
              simp
              exact trivial
            clear hmem hts hxp hpl HF
            obtain ⟨tp, htp⟩ : ∃ tp, tp = td p := ⟨_, rfl⟩
            rw [← htp] at hcp ht0 ht1 hnx
            clear htp
            go_wp2_with fail
            have e1 : (if tp < lo then tp else lo) = min lo tp := by split <;> omega
            have e2 : (if hi < tp then tp else hi) = max hi tp := by split <;> omega
            rw [e1, e2]
            go_round
            case rel => exact ⟨k + 1, min lo tp, max hi tp, sm + tp, by go_num, rfl, rfl, rfl, by omega, by omega, by omega, by omega, by omega, by omega, by omega, hnx⟩
            case measure => simp [intOf]; omega
          · obtain rfl : k = n := by omega
            have hpl := unhide HPL
            have hlk := unhide HLOOK
            have hf := HF
            rw [List.take_of_length_le (by omega)] at hf
            obtain ⟨e1, e2, e3⟩ := hf
            rw [← e1, ← e2, ← e3, hpl] at hlk
            obtain ⟨l1, l2, l3⟩ := hlk
            clear e1 e2 e3 HF hpl hrd4
            obtain rfl : sm = (j : Int) + 1 := by omega
            have l1' : ¬ 1 < hi - lo := by omega
            clear l2
            have hk0 : ¬ (k : Int) = 0 := by omega
            by_cases hm : (j + 1) % k = 0
            · have hhl : hi = lo := l3 hm
              subst hhl
              have hm2 : (((j : Int) + 1) % k == 0) = true := by
                simp only [beq_iff_eq]
                have : (((j + 1) % k : Nat) : Int) = 0 := by omega
                simpa using this
              have hne2 : (hi != hi) = false := by simp
              clear l1 l3 hm
              go_wp2_with fail
              go_roundw
              case rel => exact ⟨j + 1, by go_num, by omega, unhide HST4⟩
              case measure => simp [intOf]; omega
            · have hm2 : (((j : Int) + 1) % k == 0) = false := by
                simp only [beq_eq_false_iff_ne, ne_eq]
                intro h
                apply hm
                have : (((j + 1) % k : Nat) : Int) = 0 := by simpa using h
                omega
              clear l3 hm
              go_wp2_with fail
              go_roundw
              case rel => exact ⟨j + 1, by go_num, by omega, unhide HST4⟩
              case measure => simp [intOf]; omega
      · have hlt2 : ¬ (j : Int) < t % 80 := by omega
        obtain ⟨i, rn, td, A, n1, c1', X, L, -, -, -, -, hs3⟩ := hsr
        have haw := hide (awake06 W0 wr _ hs3)
        clear hs3 hlt
        go_wp2_with fail
        refine (unhide haw).mono ?_
        rintro e w3 ⟨rfl, hs4⟩
        have hbel := hide (Sat.below (F := 1) (hs4.right.right.perm (sep_one _).symm))
        clear haw hs4
        go_wp2_with fail
        go_ret
        exact ⟨rfl, unhide hbel⟩
  · have hp := hide (new_perm_no W0 W0 _ A0 n c0 s P (Sat.start W0) hrd (by omega) (by by_cases h : Good P; exact .inr (Classical.byContradiction fun h2 => hok ⟨h, h2⟩); exact .inl h))
    have HRD := hide hrd
    have HOK := hide hok
    clear hrd hok hLt
    go_enter Try.func12, Try.ntmps12
    go_wp2_with fail
    refine (unhide hsh).mono ?_
    rintro e w' ⟨rfl, rfl⟩
    go_wp2_with fail
    refine (unhide hp).mono ?_
    rintro e w1 ⟨rfl, hs1⟩
    have hri := hide (rise_call W0 w1 _ A0 n c0 P hs1 (unhide HRD) (by omega))
    clear hs1 hp hsh
    go_wp2_with fail
    refine (unhide hri).mono ?_
    rintro e w2 ⟨A2, c2, M, ok, rfl, hok, -, -, hs2⟩
    have hokf : ok = false := by cases ok; rfl; exact absurd (hok.1 rfl) (unhide HOK)
    subst hokf
    have haw := hide (awake06 W0 w2 _ hs2)
    clear hs2 hok hri
    go_wp2_with fail
    refine (unhide haw).mono ?_
    rintro e w3 ⟨rfl, hs4⟩
    have hbel := hide (Sat.below (F := 1) (hs4.right.perm (sep_one _).symm))
    clear haw hs4
    go_wp2_with fail
    go_ret
    exact ⟨rfl, unhide hbel⟩
theorem permRounds_any (W0 : World) (A0 : Option Addr) (n0 c0 : Nat) (s : Int) (L0 : List Int) (a : Int) (hL : RdW W0 A0 n0 1 (ints L0)) (hn0 : n0 ≤ 9223372036854775807) (hc0 : n0 ≤ c0) (hw : 0 ≤ a ∧ a ≤ 255) :
    Calls Try.prog 12 #[.int .u64 s, .slice A0 n0 c0, .int .u8 a] W0 fun e w' => e = .returned (.bool true) ∧ Below W0.heap.size W0 w' := by
  obtain ⟨t, rfl⟩ := Int.eq_ofNat_of_zero_le hw.1
  exact permRounds_walk W0 A0 n0 c0 s L0 t hL hn0 hc0 (by omega)
end Go.Proofs.Ytpcoehbjbjfggaa
