/- SendqAll: when nothing lacks, and all were sent, the least number that is not acknowledged is how many there are. -/
import Derived.Test.YtdfidijlconhnaaSqP
import Derived.Test.YtdfidijlconhnaaSqQ
namespace Go.Proofs.Ytdfidijlconhnaa
open Go.RowKit Asn
theorem akB_rep (k j : Nat) : akB (List.replicate k false) j = false := by
  unfold akB
  rw [List.getD_eq_getElem?_getD, List.getElem?_replicate]
  split <;> rfl
theorem lackD_rep (k : Nat) : (lackD (List.replicate k false) k).length = k := by
  unfold lackD
  rw [List.filter_eq_self.2 (fun j _ => by rw [akB_rep]; rfl), List.length_range]
theorem lackD_none {ak : List Bool} {k : Nat} (h : ∀ j, j < k → akB ak j = true) : lackD ak k = [] := by
  unfold lackD
  exact List.filter_eq_nil_iff.2 fun j hj => by rw [h j (List.mem_range.1 hj)]; simp
theorem natI_len (l : List Nat) : (natI l).length = l.length := by unfold natI; rw [List.length_map]
theorem QI.one {ak : List Bool} {low next : Nat} {H : List HR} (q : QI ak low next H) (hk : next = ak.length) : ∀ seq : Nat, seq < next → lacksD ak next seq = !akB ak seq := fun seq h => by
  unfold lacksD
  rw [decide_eq_true (show (0 : Int) ≤ (seq : Int) by omega), decide_eq_true (show (seq : Int) < next by omega)]
  simp
set_option maxHeartbeats 4000000 in
set_option maxRecDepth 100000 in
theorem sendqAll_walk (W0 : World) (A0 : Option Addr) (N C : Nat) (n : Int) (l : List UInt8) (hx : RdW W0 A0 N 1 (bytes l)) (hn0 : 0 ≤ n ∧ n ≤ 255) (hn : N ≤ 9223372036854775807) :
    Calls Try.prog 3 #[.int .u8 n, .slice A0 N C] W0 fun e w' => e = .returned (.bool true) ∧ Below W0.heap.size W0 w' := by
  have hlN : l.length = N := by have := hx.1; unfold bytes at this; rw [List.length_map] at this; omega
  have HLN := hide hlN
  clear hlN
  obtain ⟨s, rfl⟩ := Int.eq_ofNat_of_zero_le hn0.1
  obtain ⟨k, hk⟩ : ∃ k, k = 1 + s % 30 := ⟨_, rfl⟩
  have k1 : 1 ≤ k := by omega
  have k2 : k ≤ 30 := by omega
  have hsv : (1 : Int) + (s : Int) % 30 = k := by omega
  have hnew := hide (sq_new W0 W0 _ 30 (Sat.start W0) (by omega) (by omega))
  clear hk
  go_enter Try.func3, Try.ntmps3
  go_upto_region 2 with (fail)
  clear hsv
  go_wp2_with fail
  refine (unhide hnew).mono ?_
  rintro e w1 ⟨g, rfl, hs1⟩
  clear hnew
  have hpi := hide (pieces13 W0 w1 _ k 0 hs1 (by omega) (by omega))
  clear hs1
  go_wp2_with fail
  refine (unhide hpi).mono ?_
  rintro e w2 ⟨P, pA, pc, G, rfl, hpl, hpb, hs2⟩
  have hs3 := hs2.perm (show _ = QAt g 30 0 0 [] [] none 0 none 0 * ((sl 52 3 pA k pc (pieceC P) * G) * Asn.exact W0) by ac_rfl)
  have hadd := sq_add (P := P) (pA := pA) (pc := pc) hs3 (by omega) (by omega) (by simp) (by omega) (by simp; omega) (by rw [hpl]; exact rd_sl.left) (fun i p hi => (hpb i p hi).imp fun l h => h.right)
  rw [hpl] at hadd
  have HADD := hide hadd
  clear hs2 hs3 hadd hpi hpb
  go_wp2_with fail
  refine (unhide HADD).mono ?_
  rintro e w3 ⟨rfl, G2, H2, A2, c2, hl2, hnw, hs4⟩
  rw [List.nil_append] at hs4
  have hk2 : ∀ h ∈ H2, h.k = false := fun h hh => by
    obtain ⟨i, hi, rfl⟩ := List.getElem_of_mem hh
    exact (hnw i _ _ (List.getElem?_eq_getElem hi) (List.getElem?_eq_getElem (by omega))).2
  have hq0 := QI.start.add hk2
  rw [List.nil_append, List.nil_append, hl2, hpl] at hq0
  have hH2 : H2.length = k := by omega
  have haw := hide (awake13 W0 w3 _ hs4)
  have HQ0 := hide hq0
  clear hs4 hnw hk2 hq0 hl2 hpl HADD
  go_wp2_with fail
  refine (unhide haw).mono ?_
  rintro e w4 ⟨rfl, hs5⟩
  obtain ⟨X, hX⟩ : ∃ X, X = G2 * (sl 52 3 pA k pc (pieceC P) * G) := ⟨_, rfl⟩
  have HS5 := hide (hs5.perm (show _ = QAt g 30 0 0 H2 [] A2 c2 none 0 * (X * Asn.exact W0) by rw [hX]; ac_rfl))
  clear hs5 haw hX
  go_wp2_with fail
  go_loopw [8] (fun s8 wr => ∃ i : Nat, s8 = .int .i64 i ∧ i ≤ k ∧ Hid (QI (List.replicate k false) 0 i H2) ∧ Sat W0 wr (QAt g 30 0 i H2 [] A2 c2 none 0 * (X * Asn.exact W0))) (fun s8 _ => k - (intOf s8).toNat)
  case atStart => exact ⟨0, rfl, Nat.zero_le _, HQ0, unhide HS5⟩
  case round =>
    obtain ⟨i, rfl, hi, HQ, hsr⟩ := hrel
    clear HS5 HQ0
    by_cases hlt : i < k
    · have hsd := hide (sq_send hsr (by omega) (by omega) (by omega) (by omega))
      clear hsr
      go_wp2_with fail
      refine (unhide hsd).mono ?_
      rintro e w5 ⟨h1, -⟩
      obtain ⟨rfl, hs6⟩ := h1 (by omega)
      have HS6 := hide hs6
      have HQ2 := hide ((unhide HQ).send (by rw [List.length_replicate]; exact hlt))
      clear hs6 h1 hsd
      go_wp2_with fail
      go_roundw
      case rel => exact ⟨i + 1, by go_num, by omega, HQ2, unhide HS6⟩
      case measure => simp [intOf]; omega
    · obtain rfl : i = k := by omega
      have hi0 : ¬ (i : Int) < i := by omega
      have HS6 := hide hsr
      clear hsr hlt hi
      go_wp2_with fail
      go_loopw [9, 10] (fun s9 s10 wr => ∃ (t dn low : Nat) (ak : List Bool) (H : List HR) (A : Option Addr) (c : Nat) (B : Option Addr) (d : Nat), s10 = .int .i64 t ∧ s9 = .int .i64 dn ∧ t ≤ N ∧ ak.length = i ∧ (lackD ak i).length + dn = i ∧ Hid (QI ak low i H) ∧ Sat W0 wr (QAt g 30 low i H [] A c B d * (X * Asn.exact W0))) (fun _ s10 _ => N - (intOf s10).toNat)
      case atStart => exact ⟨0, 0, 0, _, H2, A2, c2, none, 0, rfl, rfl, Nat.zero_le _, List.length_replicate, by rw [lackD_rep]; rfl, HQ, unhide HS6⟩
      case round =>
        obtain ⟨t, dn, low, ak, H, A, c, B, d, rfl, rfl, ht, hak, hdn, HQ, hsr⟩ := hrel
        clear HS6
        have hlo := (unhide HQ).lo
        have hle := (unhide HQ).len
        by_cases hlt : t < N ∧ t < 100
        · obtain ⟨h1, h2⟩ := hlt
          have htl : t < l.length := by have := unhide HLN; omega
          have hbel : Below W0.heap.size W0 wr := (hsr.perm (show _ = Asn.exact W0 * (QAt g 30 low i H [] A c B d * X) by ac_rfl)).below
          have hat : (bytes l)[t]? = some (.int .u8 (l[t].toNat : Nat)) := by unfold bytes; rw [List.getElem?_map, List.getElem?_eq_getElem htl]; rfl
          obtain ⟨ad, rfl, hc⟩ := (hx.below hbel).at_ hat
          obtain ⟨x, hxx⟩ : ∃ x, x = l[t].toNat := ⟨_, rfl⟩
          have hx256 : x < 256 := by have := l[t].toNat_lt; omega
          rw [← hxx] at hc
          obtain ⟨r, hr⟩ : ∃ r, r = x % i := ⟨_, rfl⟩
          have hri : r < i := by rw [hr]; exact Nat.mod_lt _ k1
          have hrv : (x : Int).tmod (i : Int) = (r : Int) := by rw [Int.tmod_eq_emod_of_nonneg (by omega), hr]; rfl
          have hi1 : ¬ i = 0 := by omega
          have hi2 : ((i : Int) == 0) = false := by simp; omega
          have hlv := (unhide HQ).one hak.symm r hri
          have HLK : Hid (∀ w' low ak H A c B d dn, ak.length = i → (lackD ak i).length + dn = i → QI ak low i H → Sat W0 w' (QAt g 30 low i H [] A c B d * (X * Asn.exact W0)) → Calls Try.prog 15 #[.pointer (some ⟨g, 0, none⟩), .int .i64 i] w' fun e w' => (∃ A' c', e = .returned (.slice A' (i - dn) c')) ∧ Sat W0 w' (QAt g 30 low i H [] A c B d * (X * Asn.exact W0))) := by
            intro w' low ak H A c B d dn hak hdn q hs
            have := q.len; have := q.lo
            refine (lacking13 W0 w' _ g 30 low i H [] A B c d i hs (by omega) (by omega) (by omega) (by omega) (by omega) (by omega)).mono ?_
            rintro e w2 ⟨A', c', rfl, hs2⟩
            have hl : (natI ((lackN low i H).take i)).length = i - dn := by
              rw [natI_len, List.take_of_length_le (by rw [q.lackN_len]; omega), q.lackN_len]; omega
            rw [hl] at hs2 ⊢
            exact ⟨⟨A', c', rfl⟩, hs2.right⟩
          clear hat hxx hr hbel
          cases hb : akB ak r with
          | false =>
            rw [hb] at hlv
            have hac := hide (ack_yes hsr (unhide HQ) (by omega) (by omega) (by simp) hlv)
            have hds := lackD_set ak i r hri (by omega) hb
            have HDS := hide hds
            clear hsr hlv hb hds
            go_wp2_with fail
            refine (unhide hac).mono ?_
            rintro e w5 ⟨rfl, low2, H2', A2', c2', d2', -, hq2, -, hs6⟩
            have hlk := hide (unhide HLK w5 low2 _ H2' A2' c2' B d2' (dn + 1) (by rw [List.length_set]; exact hak) (by have := unhide HDS; rw [Int.toNat_natCast]; omega) hq2 hs6)
            have HQ2 := hide hq2
            have hsub : ((i - (dn + 1) : Nat) : Int) = (i : Int) - ((dn : Int) + 1) := by have := unhide HDS; omega
            clear hs6 hac hq2
            go_wp2_with fail
            refine (unhide hlk).mono ?_
            rintro e w6 ⟨⟨A', c', rfl⟩, hs7⟩
            have HS7 := hide hs7
            clear hs7 hlk
            go_wp2_with fail
            go_roundw
            case rel => exact ⟨t + 1, dn + 1, low2, _, H2', A2', c2', B, d2', by go_num, by go_num, by omega, by rw [List.length_set]; exact hak, by have := unhide HDS; rw [Int.toNat_natCast]; omega, HQ2, unhide HS7⟩
            case measure => simp [intOf]; omega
          | true =>
            rw [hb] at hlv
            have hac := hide (ack_no hsr (unhide HQ) (by omega) (by omega) (by omega) hlv)
            have hsub : ((i - dn : Nat) : Int) = (i : Int) - (dn : Int) := by omega
            clear hsr hlv hb
            go_wp2_with fail
            refine (unhide hac).mono ?_
            rintro e w5 ⟨rfl, hs6⟩
            have hlk := hide (unhide HLK w5 low ak H A c B d dn hak hdn (unhide HQ) hs6)
            clear hs6 hac
            go_wp2_with fail
            refine (unhide hlk).mono ?_
            rintro e w6 ⟨⟨A', c', rfl⟩, hs7⟩
            have HS7 := hide hs7
            clear hs7 hlk
            go_wp2_with fail
            go_roundw
            case rel => exact ⟨t + 1, dn, low, ak, H, A, c, B, d, by go_num, rfl, by omega, hak, hdn, HQ, unhide HS7⟩
            case measure => simp [intOf]; omega
        · have HS7 := hide hsr
          clear hsr
          by_cases h1 : t < N
          all_goals
            first
              | (have h2 : ¬ (t : Int) < 100 := by omega)
              | skip
            clear hlt
            go_wp2_with fail
            go_loopw [11] (fun s11 wr => ∃ (j low : Nat) (ak : List Bool) (H : List HR) (A : Option Addr) (c : Nat) (B : Option Addr) (d : Nat), s11 = .int .i64 j ∧ j ≤ i ∧ ak.length = i ∧ Hid (∀ m, m < j → akB ak m = true) ∧ Hid (QI ak low i H) ∧ Sat W0 wr (QAt g 30 low i H [] A c B d * (X * Asn.exact W0))) (fun s11 _ => i - (intOf s11).toNat)
            case atStart => exact ⟨0, low, ak, H, A, c, B, d, rfl, Nat.zero_le _, hak, hide (fun m hm => absurd hm (by omega)), HQ, unhide HS7⟩
            case round =>
              clear HS7 HQ hlo hle hak hdn
              obtain ⟨j, low, ak, H, A, c, B, d, rfl, hj, hak, HA, HQ, hsr⟩ := hrel
              have hlo := (unhide HQ).lo
              have hle := (unhide HQ).len
              by_cases hji : j < i
              · have hji2 : (j : Int) < i := by omega
                have hlv := (unhide HQ).one hak.symm j hji
                cases hb : akB ak j with
                | false =>
                  rw [hb] at hlv
                  have hac := hide (ack_yes hsr (unhide HQ) (by omega) (by omega) (by simp) hlv)
                  have hnx : Hid (∀ m, m < j + 1 → akB (ak.set j true) m = true) := fun m hm => by
                    rw [akB_set ak j m (by omega)]
                    split
                    · rfl
                    · exact unhide HA m (by omega)
                  clear hsr hlv hb
                  go_wp2_with fail
                  refine (unhide hac).mono ?_
                  rintro e w5 ⟨rfl, low2, H2', A2', c2', d2', -, hq2, -, hs6⟩
                  have HS6 := hide hs6
                  have HQ2 := hide hq2
                  clear hs6 hac hq2
                  go_wp2_with fail
                  go_roundw
                  case rel => exact ⟨j + 1, low2, _, H2', A2', c2', B, d2', by go_num, by omega, by rw [List.length_set]; exact hak, hnx, HQ2, unhide HS6⟩
                  case measure => simp [intOf]; omega
                | true =>
                  rw [hb] at hlv
                  have hac := hide (ack_no hsr (unhide HQ) (by omega) (by omega) (by omega) hlv)
                  have hnx : Hid (∀ m, m < j + 1 → akB ak m = true) := fun m hm => by
                    rcases Nat.lt_succ_iff_lt_or_eq.1 hm with h | h
                    · exact unhide HA m h
                    · rw [h]; exact hb
                  clear hsr hlv hb
                  go_wp2_with fail
                  refine (unhide hac).mono ?_
                  rintro e w5 ⟨rfl, hs6⟩
                  have HS6 := hide hs6
                  clear hs6 hac
                  go_wp2_with fail
                  go_roundw
                  case rel => exact ⟨j + 1, low, ak, H, A, c, B, d, by go_num, by omega, hak, hnx, HQ, unhide HS6⟩
                  case measure => simp [intOf]; omega
              · obtain rfl : j = i := by omega
                have hn := lackD_none (unhide HA)
                have hlw : low = j := by rw [(unhide HQ).low]; unfold lowD; rw [hn]; rfl
                subst hlw
                have hlo := hide (sq_low hsr (by omega))
                have hnx := hide (sq_next hsr (by omega))
                have hlk := lacking13 W0 wr _ g 30 low low H [] A B c d low hsr (by omega) (by omega) (by omega) (by omega) (by omega) (by omega)
                rw [lackD_eq (unhide HQ), hn] at hlk
                have HLK := hide hlk
                have hi0 : ¬ (low : Int) < low := by omega
                clear hsr hn hlk hji
                go_wp2_with (first
                  | (go_at_call 16; refine (unhide hlo).mono ?_; rintro e w' ⟨rfl, rfl⟩)
                  | (go_at_call 17; refine (unhide hnx).mono ?_; rintro e w' ⟨rfl, rfl⟩))
                refine (unhide HLK).mono ?_
                rintro e w5 ⟨A', c', rfl, hs8⟩
                have hbel : Hid (Below W0.heap.size W0 w5) := (hs8.perm (show _ = Asn.exact W0 * (sl 3 1 A' (natI (List.take low [])).length c' (ints (natI (List.take low []))) * (QAt g 30 low low H [] A c B d * X)) by ac_rfl)).below
                have hz : (natI (List.take low [])).length = 0 := by simp [natI]
                rw [hz]
                clear hs8 HLK hlo hnx
                go_wp2_with fail
                go_ret
                exact ⟨rfl, unhide hbel⟩
end Go.Proofs.Ytdfidijlconhnaa
