/- ReceiverOrders: the messages that are looked at. -/
import Derived.Test.YtdfidijlconhnaaRcS
namespace Go.Proofs.Ytdfidijlconhnaa
open Go.RowKit Asn
attribute [local go_sem] Oper.semAt_some

/-- What of the messages is kept. -/
def KeptM (G : Asn) (rs : List (Option Addr × Nat × Nat)) (ls : List (List UInt8)) : Prop :=
  rowsOk G rs ls ∧ ∀ r ∈ rs, 1 ≤ r.2.1 ∧ r.2.1 ≤ 60 ∧ r.2.1 ≤ r.2.2 ∧ r.2.2 ≤ maxLen
theorem KeptM.snoc {G : Asn} {rs : List (Option Addr × Nat × Nat)} {ls : List (List UInt8)} (h : KeptM G rs ls) {B : Option Addr} {q d : Nat} {l : List UInt8} (hr : rd G 1 B q (bytes l)) (h1 : 1 ≤ q) (h2 : q ≤ 60) (h3 : q ≤ d) (h4 : d ≤ maxLen) : KeptM G (rs ++ [(B, q, d)]) (ls ++ [l]) :=
  ⟨h.1.snoc (r := (B, q, d)) hr (by dsimp only; omega), fun r hr => by
    rcases List.mem_append.1 hr with hr | hr
    · exact h.2 r hr
    · obtain rfl := List.mem_singleton.1 hr
      exact ⟨h1, h2, h3, h4⟩⟩
theorem hds_app (rs : List (Option Addr × Nat × Nat)) (r : Option Addr × Nat × Nat) : hds (rs ++ [r]) = hds rs ++ [.slice r.1 r.2.1 r.2.2] := by unfold hds; rw [List.map_append]; rfl
/-- The rows that are handed over. -/
structure ArgM (W : World) (A : Option Addr) (n : Nat) (rs : List (Option Addr × Nat × Nat)) (ls : List (List UInt8)) : Prop where
  rl : rs.length = n
  rdr : rd (Asn.exact W) 1 A n (hds rs)
  ok : rowsOk (Asn.exact W) rs ls
  cap : ∀ r ∈ rs, r.2.1 ≤ r.2.2 ∧ r.2.2 ≤ maxLen
  n63 : n ≤ 9223372036854775807
theorem argM_at {W : World} {A : Option Addr} {n i : Nat} {rs : List (Option Addr × Nat × Nat)} {ls : List (List UInt8)} (h : ArgM W A n rs ls) (hi : i < n) :
    ∃ (ad : Addr) (B : Option Addr) (m d : Nat) (l : List UInt8), A = some ad ∧ m ≤ d ∧ d ≤ maxLen ∧ rd (Asn.exact W) 1 B m (bytes l) ∧ ∀ (w : World) (F : Asn), Sat W w (Asn.exact W * F) → w.cell? (ad.add i) = some (.slice B m d) := by
  have hr : rs[i]? = some (rs[i]'(by have := h.rl; omega)) := List.getElem?_eq_getElem _
  have hl : ls[i]? = some (ls[i]'(by have := h.ok.1; have := h.rl; omega)) := List.getElem?_eq_getElem _
  have hrm := List.mem_of_getElem? hr
  generalize rs[i]'(by have := h.rl; omega) = r at hr hrm
  generalize ls[i]'(by have := h.ok.1; have := h.rl; omega) = l at hl
  obtain ⟨B, m, d⟩ := r
  obtain ⟨h5, _⟩ := h.ok.2 i _ _ hr hl
  obtain ⟨a1, a2⟩ := h.cap _ hrm
  obtain ⟨ad, rfl, _⟩ := (RdW.of_rd h.rdr (Sat.start W)).at_ (by rw [hds, List.getElem?_map, hr]; rfl)
  refine ⟨ad, _, _, _, _, rfl, a1, a2, h5, fun w F hs => ?_⟩
  obtain ⟨ad2, he, hc⟩ := (RdW.of_rd h.rdr hs.left).at_ (by rw [hds, List.getElem?_map, hr]; rfl)
  injection he with he
  rw [he]
  exact hc

/-- The picks that are handed over. -/
def PickAt (xs : List Value) (k : Nat) : Prop := ∃ (s : Nat) (b : Bool), s ≤ 255 ∧ xs[k * 2]? = some (.int .u8 s) ∧ xs[k * 2 + 1]? = some (.bool b)
set_option maxHeartbeats 8000000 in
set_option maxRecDepth 100000 in
theorem receiverOrders_walk (W0 : World) (A0 A3 : Option Addr) (n0 c0 n3 c3 : Nat) (a1 a2 : Nat) (rs0 : List (Option Addr × Nat × Nat)) (ls0 : List (List UInt8)) (xs : List Value) (hM : ArgM W0 A0 n0 rs0 ls0) (ha1 : a1 ≤ 255) (ha2 : a2 ≤ 255) (hX : RdW W0 A3 n3 2 xs) (hn3 : n3 ≤ 9223372036854775807) (hP : ∀ k, k < n3 → PickAt xs k) :
    Calls Try.prog 6 #[.slice A0 n0 c0, .int .u8 a1, .int .u8 a2, .slice A3 n3 c3] W0 fun e w' => e = .returned (.bool true) ∧ Below W0.heap.size W0 w' := by
  have hs0 := Sat.start W0
  have HM := hide hM
  have HX := hide hX
  have HP := hide hP
  have h63 := hM.n63
  clear hM hX hP
  go_enter Try.func6, Try.ntmps6
  go_upto_block 0 with (fail)
  go_cut [9, 10] (fun s9 _ wx => ∃ (A9 : Option Addr) (c9 : Nat) (rs : List (Option Addr × Nat × Nat)) (ls : List (List UInt8)), s9 = .slice A9 rs.length c9 ∧ rs.length ≤ 6 ∧ Hid (KeptM (Asn.exact W0) rs ls) ∧ Sat W0 wx (sl 22 1 A9 rs.length c9 (hds rs) * Asn.exact W0))
  case first =>
    go_wp2_with fail
    go_loopw [9, 10] (fun s9 s10 wr => ∃ (i : Nat) (A9 : Option Addr) (c9 : Nat) (rs : List (Option Addr × Nat × Nat)) (ls : List (List UInt8)), s9 = .slice A9 rs.length c9 ∧ s10 = .int .i64 i ∧ i ≤ n0 ∧ i ≤ 6 ∧ rs.length ≤ i ∧ Hid (KeptM (Asn.exact W0) rs ls) ∧ Sat W0 wr (sl 22 1 A9 rs.length c9 (hds rs) * Asn.exact W0))
      (fun _ s10 _ => 6 - (intOf s10).toNat)
    case atStart => exact ⟨0, none, 0, [], [], rfl, rfl, Nat.zero_le _, Nat.zero_le _, Nat.le_refl _, ⟨⟨rfl, fun i r l a => by simp at a⟩, fun r hr => by simp at hr⟩, (Sat.slNil (e := 22) (z := 1) hs0)⟩
    case round =>
      obtain ⟨i, A9, c9, rs, ls, rfl, rfl, hin, hi6, hrl, HK, hsr⟩ := hrel
      clear hs0
      obtain ⟨N, hN⟩ : ∃ N, N = rs.length := ⟨_, rfl⟩
      rw [← hN] at hsr hrl ⊢
      have HN := hide hN
      clear hN
      by_cases hlt : i < n0 ∧ i < 6
      · obtain ⟨hl1, hl2⟩ := hlt
        obtain ⟨ad, B, m, d, l, rfl, hmd, hdm, hrd, hcell⟩ := argM_at (unhide HM) hl1
        have hc1 := hcell wr _ hsr.comm
        have hd63 : d ≤ 9223372036854775807 := by unfold maxLen at hdm; omega
        have HC := hide hcell
        have HRD := hide hrd
        by_cases hm0 : m = 0
        · subst hm0
          have HS := hide hsr
          clear hsr hcell hrd HC HRD
          go_wp2_with fail
          go_roundw
          case rel => exact ⟨i + 1, A9, c9, rs, ls, by rw [unhide HN], by push_cast; rfl, by omega, by omega, by rw [← unhide HN]; omega, HK, by rw [← unhide HN]; exact unhide HS⟩
          case measure => simp [intOf]; omega
        · have hfin : ∀ q, 1 ≤ q → q ≤ 60 → q ≤ m → ∀ {A4 : Option Addr} {c4 : Nat} {w5 : World} {R : Asn}, Sat W0 w5 (sl 22 1 A4 (N + 1) c4 (hds rs ++ [.slice B q d]) * Asn.exact W0) →
              ∃ (rs' : List (Option Addr × Nat × Nat)) (ls' : List (List UInt8)), rs'.length = N + 1 ∧ Hid (KeptM (Asn.exact W0) rs' ls') ∧ Sat W0 w5 (sl 22 1 A4 (N + 1) c4 (hds rs') * Asn.exact W0) := by
            intro q q1 q2 q3 A4 c4 w5 R hs5
            refine ⟨rs ++ [(B, q, d)], ls ++ [l.take q], by rw [List.length_append, ← unhide HN]; rfl, (unhide HK).snoc (hrd.bytesTake q3) q1 q2 (by omega) hdm, ?_⟩
            rw [hds_app]
            exact hs5
          have HFIN := hide @hfin
          have HSR := hide (hsr.perm (show _ = Asn.exact W0 * sl 22 1 A9 N c9 (hds rs) by ac_rfl))
          clear hsr hcell hrd HRD hfin
          obtain ⟨q, hq, hq1, hq2, hq3⟩ : ∃ q, ((60 < m ∧ q = 60) ∨ (m ≤ 60 ∧ q = m)) ∧ 1 ≤ q ∧ q ≤ 60 ∧ q ≤ m := by
            by_cases h60 : 60 < m
            · exact ⟨60, .inl ⟨h60, rfl⟩, by omega, by omega, by omega⟩
            · exact ⟨m, .inr ⟨by omega, rfl⟩, by omega, by omega, by omega⟩
          rcases hq with ⟨h60, rfl⟩ | ⟨h60, rfl⟩
          · go_upto_region 6 with (fail)
            clear hc1
            refine wp_region_slr (Q := _) (E := W0) (fun W => ∃ R, Sat W0 W ((Asn.exact W0) * R)) [13] [] [12] [] (fun i_ => (22, #[.slice B 60 d], fun g_ => .slice (some ⟨g_, 0, none⟩) 1 1)) [0, 1, 2, 3, 4, 5, 6, 7, 8, 9, 10, 11, 12, 13, 14] (by kernel_rfl) (by kernel_rfl) (unhide HSR) (fun W R h => ⟨_, h.asc⟩) ?_
            iterate 12
              refine wpS_f _ rfl rfl (v := ?_) ?_ ?_
              rotate_left
              · rintro W ⟨R, hW⟩
                have f1 : W.cell? (ad.add i) = some (.slice B m d) := (unhide HC) W R hW
                have f2 : (if (60 : Int) < (m : Int) then (60 : Int) else (m : Int)) = (60 : Int) := by split <;> omega
                have f3 : ((60 : Int) ≤ (d : Int)) = True := by simp; omega
                go_simp
                first | rfl | (rw [IntKind.wrap_i64]; omega)
              go_simp
            refine wpS_a _ rfl rfl (fun W => by unfold stp; go_simp; exact ⟨rfl, rfl⟩) (fun g_57 => ?_)
            go_simp
            refine wpS_e _ rfl rfl (fun W R hW => ?_)
            obtain ⟨A4, c4, w5, r_, hs_⟩ := Sat.append (P := Try.prog) (t := 67) (ty := 67) (d := 1) elt_rows (hW.perm (show _ = sl 22 1 A9 N c9 (hds rs) * (Asn.blk g_57 22 #[.slice B 60 d] * (Asn.exact W0 * R)) by ac_rfl)) (hW.asc.rdBlk (n := 1) (z := 1) rfl) (by intro u hu; simp at hu; subst hu; rfl) (by unfold maxLen; omega) (by omega)
            refine stp_append rfl _ _ rfl rfl rfl r_ ?_
            refine ⟨(Asn.exact W0) * (sl 22 1 A4 (N + 1) c4 (hds rs ++ [.slice B 60 d]) * Asn.blk g_57 22 #[.slice B 60 d]), fun W R h => ⟨_, h.asc⟩, (hs_).perm (by first | ac_rfl | (simp only [Asn.one_sep, Asn.sep_one]; ac_rfl)), ?_⟩
            clear hW r_
            go_simp
            iterate 1
              refine wpS_f _ rfl rfl (v := ?_) ?_ ?_
              rotate_left
              · rintro W ⟨R, hW⟩
                have f1 : W.cell? (ad.add i) = some (.slice B m d) := (unhide HC) W R hW
                have f2 : (if (60 : Int) < (m : Int) then (60 : Int) else (m : Int)) = (60 : Int) := by split <;> omega
                have f3 : ((60 : Int) ≤ (d : Int)) = True := by simp; omega
                go_simp
                first | rfl | (rw [IntKind.wrap_i64]; omega)
              go_simp
            refine wpS_n (fun w6 hs6 => ?_)
            obtain ⟨rs', ls', h1, h2, h3⟩ := unhide HFIN 60 hq1 hq2 hq3 (R := 1) ((hs6.perm (show _ = Asn.blk g_57 22 #[.slice B 60 d] * (sl 22 1 A4 (N + 1) c4 (hds rs ++ [.slice B 60 d]) * Asn.exact W0) by ac_rfl)).right)
            have H1 := hide h1
            have H3 := hide h3
            clear hs6 h1 h3 HFIN HSR
            go_wp2_with fail
            go_roundw
            case rel => exact ⟨i + 1, A4, c4, rs', ls', by rw [unhide H1], by push_cast; rfl, by omega, by omega, by rw [unhide H1]; omega, h2, by rw [unhide H1]; exact unhide H3⟩
            case measure => simp [intOf]; omega
          · go_upto_region 6 with (fail)
            clear hc1
            refine wp_region_slr (Q := _) (E := W0) (fun W => ∃ R, Sat W0 W ((Asn.exact W0) * R)) [13] [] [12] [] (fun i_ => (22, #[.slice B q d], fun g_ => .slice (some ⟨g_, 0, none⟩) 1 1)) [0, 1, 2, 3, 4, 5, 6, 7, 8, 9, 10, 11, 12, 13, 14] (by kernel_rfl) (by kernel_rfl) (unhide HSR) (fun W R h => ⟨_, h.asc⟩) ?_
            iterate 12
              refine wpS_f _ rfl rfl (v := ?_) ?_ ?_
              rotate_left
              · rintro W ⟨R, hW⟩
                have f1 : W.cell? (ad.add i) = some (.slice B q d) := (unhide HC) W R hW
                have f2 : (if (60 : Int) < (q : Int) then (60 : Int) else (q : Int)) = (q : Int) := by split <;> omega
                go_simp
                first | rfl | (rw [IntKind.wrap_i64]; omega)
              go_simp
            refine wpS_a _ rfl rfl (fun W => by unfold stp; go_simp; exact ⟨rfl, rfl⟩) (fun g_57 => ?_)
            go_simp
            refine wpS_e _ rfl rfl (fun W R hW => ?_)
            obtain ⟨A4, c4, w5, r_, hs_⟩ := Sat.append (P := Try.prog) (t := 67) (ty := 67) (d := 1) elt_rows (hW.perm (show _ = sl 22 1 A9 N c9 (hds rs) * (Asn.blk g_57 22 #[.slice B q d] * (Asn.exact W0 * R)) by ac_rfl)) (hW.asc.rdBlk (n := 1) (z := 1) rfl) (by intro u hu; simp at hu; subst hu; rfl) (by unfold maxLen; omega) (by omega)
            refine stp_append rfl _ _ rfl rfl rfl r_ ?_
            refine ⟨(Asn.exact W0) * (sl 22 1 A4 (N + 1) c4 (hds rs ++ [.slice B q d]) * Asn.blk g_57 22 #[.slice B q d]), fun W R h => ⟨_, h.asc⟩, (hs_).perm (by first | ac_rfl | (simp only [Asn.one_sep, Asn.sep_one]; ac_rfl)), ?_⟩
            clear hW r_
            go_simp
            iterate 1
              refine wpS_f _ rfl rfl (v := ?_) ?_ ?_
              rotate_left
              · rintro W ⟨R, hW⟩
                have f1 : W.cell? (ad.add i) = some (.slice B q d) := (unhide HC) W R hW
                have f2 : (if (60 : Int) < (q : Int) then (60 : Int) else (q : Int)) = (q : Int) := by split <;> omega
                go_simp
                first | rfl | (rw [IntKind.wrap_i64]; omega)
              go_simp
            refine wpS_n (fun w6 hs6 => ?_)
            obtain ⟨rs', ls', h1, h2, h3⟩ := unhide HFIN q hq1 hq2 hq3 (R := 1) ((hs6.perm (show _ = Asn.blk g_57 22 #[.slice B q d] * (sl 22 1 A4 (N + 1) c4 (hds rs ++ [.slice B q d]) * Asn.exact W0) by ac_rfl)).right)
            have H1 := hide h1
            have H3 := hide h3
            clear hs6 h1 h3 HFIN HSR
            go_wp2_with fail
            go_roundw
            case rel => exact ⟨i + 1, A4, c4, rs', ls', by rw [unhide H1], by push_cast; rfl, by omega, by omega, by rw [unhide H1]; omega, h2, by rw [unhide H1]; exact unhide H3⟩
            case measure => simp [intOf]; omega
      · have HS := hide hsr
        have HK2 := HK
        clear hsr
        by_cases h1 : i < n0
        all_goals
          go_wp2_with fail
          go_meet
          exact ⟨A9, c9, rs, ls, by rw [unhide HN], by rw [← unhide HN]; omega, HK2, by rw [← unhide HN]; exact unhide HS⟩
  case rest =>
    obtain ⟨A9, c9, rs, ls, rfl, h6, HK, hsx⟩ := hcut
    clear hs0
    have hmsg : MsgOk (sl 22 1 A9 rs.length c9 (hds rs) * Asn.exact W0) A9 rs.length ls := ⟨rs, rfl, (rd_sl (e := 22) (c := c9)).left, (unhide HK).1.right, (unhide HK).2⟩
    obtain ⟨mtu, hmt⟩ : ∃ mtu, mtu = 1 + a1 % 20 := ⟨_, rfl⟩
    have hmti : (1 + (a1 : Int) % 20) = (mtu : Int) := by omega
    have hm1 : 1 ≤ mtu := by omega
    have hm2 : mtu ≤ 20 := by omega
    have hlen1 : ∀ x ∈ ls, 1 ≤ x.length := by
      intro x hx
      obtain ⟨i, hi, rfl⟩ := List.mem_iff_getElem.1 hx
      have hr : rs[i]? = some (rs[i]'(by have := (unhide HK).1.1; omega)) := List.getElem?_eq_getElem _
      obtain ⟨h1, _⟩ := (unhide HK).1.2 i _ _ hr (List.getElem?_eq_getElem hi)
      have := rdlen (Sat.start W0) h1
      have := ((unhide HK).2 _ (List.mem_of_getElem? hr)).1
      omega
    have hR := row19 A9 rs.length c9 mtu ls hsx hmsg h6 hm1 hm2
    have HR := hide hR
    have HL1 := hide hlen1
    obtain ⟨N, hN⟩ : ∃ N, N = rs.length := ⟨_, rfl⟩
    rw [← hN]
    have HN := hide hN
    clear hsx hmsg hmt hlen1 hR hN
    go_upto_region 7 with (fail)
    go_wp2_with fail
    rw [unhide HN]
    refine (unhide HR).mono ?_
    rintro e w1 ⟨X, A11, c11, ps, rfl, hs1, hokp, hmap, hpl⟩
    obtain ⟨ql, hql⟩ : ∃ ql, ql = ps.map PcR.abs := ⟨_, rfl⟩
    have hqlen : ql.length = ps.length := by rw [hql, List.length_map]
    have hrow : RowOk ql := by
      rw [hql, hmap]
      refine piecesL_ok (unhide HL1) hm1 hm2 ?_
      have := congrArg List.length hmap
      rw [List.length_map, List.length_append] at this
      simp at this
      omega
    have hpos := hrow.pos
    have HROW := hide hrow
    have HOKP := hide hokp
    have HQL := hide hql
    obtain ⟨L, hL⟩ : ∃ L, L = ps.length := ⟨_, rfl⟩
    rw [← hL] at hs1 hqlen hpl ⊢
    rw [hqlen] at hpos
    have HQLEN := hide hqlen
    have HL := hide hL
    have HS1 := hide hs1
    clear hs1 hokp hmap hql hqlen hrow hL HR hmti
    go_wp2_with fail
    refine (conf_call w1).mono ?_
    rintro e w2 ⟨rfl, hb2⟩
    have hs2 := (unhide HS1).under hb2
    obtain ⟨win, hwin⟩ : ∃ win, win = 1 + a2 % 40 := ⟨_, rfl⟩
    have hwini : (1 + (a2 : Int) % 40) = (win : Int) := by omega
    have hw1 : 1 ≤ win := by omega
    have hw2 : win ≤ 40 := by omega
    have hs3 := hs2.alloc #[.int .i64 3, .int .i64 2, .int .i64 1, .int .i64 2, .int .i64 (win : Nat), .int .i64 4, .int .i64 40, .int .i64 4, .int .i64 6, .int .i64 20, .int .i64 9, .int .i64 6, .int .i64 40, .int .i64 0] 72
    obtain ⟨z, hz⟩ : ∃ z, z = w2.heap.size := ⟨_, rfl⟩
    rw [← hz] at hs3
    have hN := rcm_new ⟨3, 2, 1, 2, win, 4, 40, 4, 6, 20, 9, 6, 40, 0⟩ 0 1 1 0 hs3 (by
      unfold newE
      dsimp only
      rw [if_neg (by omega), if_neg (by omega)])
    have HNEW := hide hN
    have HZ := hide hz
    clear hb2 hs2 hs3 hN HS1 hwin hz
    unfold Cf.cells at HNEW ⊢
    go_wp2_with fail
    refine (unhide HNEW).mono ?_
    rintro e w3 ⟨g, bb, jb, mb, win', hwin', rfl, hrc⟩
    obtain rfl : win' = win := by have : ((win : Nat) : Int) = (win' : Nat) := hwin'; omega
    obtain ⟨k, hk⟩ : ∃ k : RcK, k = ⟨bb, jb, mb, 0, 1, 1, 0, 2, win'⟩ := ⟨_, rfl⟩
    have hkw : k.win = win' := by rw [hk]
    rw [← hk] at hrc
    have HK := hide hkw
    obtain ⟨L0, V0, ba0, j0, hI0, hb0, hok0, hs0⟩ := hrc
    have HA := hide (rc_awake hs0)
    have HI0 := hide hI0
    have HB0 := hide hb0
    have HOK0 := hide hok0
    rw [← unhide HZ]
    clear hs0 hI0 hb0 hok0 hk hkw HNEW HZ hwin' hwini
    go_wp2_with fail
    refine (unhide HA).mono ?_
    rintro e w4 ⟨rfl, hs4⟩
    have hrc4 : RcSat W0 w4 g k rm0 1 _ := ⟨L0, V0, ba0, j0, unhide HI0, unhide HB0, unhide HOK0, hs4⟩
    have hmk := fun W : World => run_makeN elt_boolS .i64 .i64 L L (Nat.le_refl _) (by omega) (by omega) W
    obtain ⟨zc, hzc⟩ : ∃ zc, zc = w4.heap.size := ⟨_, rfl⟩
    have hrc5 := hrc4.grow (X := sl 4 1 (some ⟨zc, 0, none⟩) L L (List.replicate L (.bool false))) (w' := w4.alloc (.cells (made (.bool false) L) 4)) (fun G hG => by
      have := hG.makeSl (.bool false) rfl 4 L (by unfold maxLen; omega)
      rw [← hzc] at this
      exact this.f2)
    have hst : OSt W0 (w4.alloc (.cells (made (.bool false) L) 4)) g k ql ps L A11 c11 z zc win' 0 rm0 (List.replicate L false) 0 [] none 0 [] 1 (X * sl 22 1 A9 rs.length c9 (hds rs)) := by
      refine ⟨by rw [← unhide HQLEN]; exact OInv.start win' (unhide HROW), ⟨rfl, fun i r l a => by simp at a⟩, fun p hp => rd.left ((unhide HOKP) p hp), ?_, Nat.le_refl _, Nat.le_refl _⟩
      refine hrc5.step (fun G hG => ?_)
      unfold OFr
      rw [List.map_replicate]
      exact ((Sat.slNil (e := 22) (z := 1) hG).f2).perm (by show _ = G * (sl _ _ _ _ _ [] * (_ * (Asn.blk _ _ #[_, _, _, _, _, _, _, _, _, _, _, _, _, _] * _))); ac_rfl)
    have HST := hide hst
    have HZC := hide hzc
    clear hs4 hrc4 hrc5 hst HA HI0 HB0 HOK0 HOKP hzc
    go_upto_block 2 with (fail)
    rw [← unhide HZC]
    clear HZC
    go_cut [15, 16, 17, 18, 19, 20, 21, 22] (fun s15 _ s17 _ _ _ _ _ wx => ∃ (m : RM) (came : List Bool) (next : Nat) (told : List (List UInt8)) (A15 : Option Addr) (c15 : Nat) (tr : List (Option Addr × Nat × Nat)) (P Y : Asn), s15 = .slice A15 tr.length c15 ∧ s17 = .int .i64 next ∧ next ≤ L ∧
      Hid (OSt W0 wx g k ql ps L A11 c11 z zc win' 200 m came next told A15 c15 tr P Y))
    case first =>
      go_wp2_with fail
      go_loopw [15, 17, 18, 19, 20, 21, 22] (fun s15 s17 s18 _ _ _ _ wr => ∃ (i : Nat) (m : RM) (came : List Bool) (next : Nat) (told : List (List UInt8)) (A15 : Option Addr) (c15 : Nat) (tr : List (Option Addr × Nat × Nat)) (P Y : Asn), s15 = .slice A15 tr.length c15 ∧ s17 = .int .i64 next ∧ s18 = .int .i64 i ∧ i ≤ n3 ∧ i ≤ 200 ∧ next ≤ L ∧
        Hid (OSt W0 wr g k ql ps L A11 c11 z zc win' i m came next told A15 c15 tr P Y)) (fun _ _ s18 _ _ _ _ _ => 200 - (intOf s18).toNat)
      case atStart => exact ⟨0, _, _, _, _, _, _, _, _, _, rfl, rfl, rfl, Nat.zero_le _, Nat.zero_le _, Nat.zero_le _, HST⟩
      case round =>
        obtain ⟨i, m, came, next, told, A15, c15, tr, P, Y, rfl, rfl, rfl, hin, hi200, hnL, HO⟩ := hrel
        clear HST
        obtain ⟨T, hT⟩ : ∃ T, T = tr.length := ⟨_, rfl⟩
        rw [← hT]
        have HT := hide hT
        clear hT
        by_cases hlt : i < n3 ∧ i < 200
        · obtain ⟨hl1, hl2⟩ := hlt
          obtain ⟨s, tb, hs255, hx0, hx1⟩ := (unhide HP) i hl1
          obtain ⟨X0, hsat⟩ := (unhide HO).sat.sat
          have hsat : Sat W0 wr (X0 * (sl 22 1 A15 tr.length c15 (hds tr) * (sl 4 1 (some ⟨zc, 0, none⟩) L L (came.map Value.bool) * (Asn.blk z 72 (confC win') * (sl 79 9 A11 L c11 (pkC (pksR 0 ps)) * (Y * Asn.exact W0)))))) := hsat
          have hex := hsat.right.right.right.right.right.right
          obtain ⟨ad3, rfl, e0⟩ := (RdW.of_rd (unhide HX).exact hex).at_ hx0
          obtain ⟨ad3', he3, e1⟩ := (RdW.of_rd (unhide HX).exact hex).at_ hx1
          injection he3 with he3
          subst he3
          rw [← add_fld] at e1
          have hb0 := World.block_lt_of_cell? wr _ e0
          have hb1 := World.block_lt_of_cell? wr _ e1
          obtain ⟨kk, hkk⟩ : ∃ kk, kk = s % L := ⟨_, rfl⟩
          have hkL : kk < L := by rw [hkk]; exact Nat.mod_lt _ (by omega)
          have hki : ((s : Int) % (L : Int)) = (kk : Int) := by rw [hkk]; exact (Int.natCast_emod _ _).symm
          have hL0 : (L = 0) = False := by simp; omega
          obtain ⟨x, hx⟩ : ∃ x, ps[kk]? = some x := ⟨_, List.getElem?_eq_getElem (by rw [← unhide HL]; exact hkL)⟩
          have hpx := pksR_at ps 0 kk x hx
          rw [Nat.zero_add] at hpx
          obtain ⟨pb, po, rfl, hpb, hpc, hpf⟩ := (hsat.perm (show _ = sl 79 9 A11 L c11 (pkC (pksR 0 ps)) * (X0 * (sl 22 1 A15 tr.length c15 (hds tr) * (sl 4 1 (some ⟨zc, 0, none⟩) L L (came.map Value.bool) * (Asn.blk z 72 (confC win') * (Y * Asn.exact W0))))) by ac_rfl)).slAt hpos
          obtain ⟨xA, xc, xb, xe, xf⟩ := x
          have hpcx : ∀ j, j < 9 → (pkC (pksR 0 ps))[kk * 9 + j]? = (pkOf kk ⟨xA, xc, xb, xe, xf⟩).cells[j]? := fun j hj => pkC_at hpx hj
          obtain ⟨fl, hfl⟩ : ∃ fl, fl = flOf xe xf := ⟨_, rfl⟩
          obtain ⟨xl, hxl⟩ : ∃ xl, xl = xb.length := ⟨_, rfl⟩
          have hcl : (pkOf kk ⟨xA, xc, xb, xe, xf⟩).cells = #[.int .i64 1, .int .i64 fl, .int .i64 0, .int .i64 0, .int .i64 1, .int .i64 1, .int .i64 kk, .int .i64 0, .slice xA xl xc] := by rw [hfl, hxl]; rfl
          rw [hcl] at hpcx
          have p0 : wr.cell? ⟨pb, po + kk * 9, none⟩ = some (.int .i64 1) := hpc (kk * 9) _ (hpcx 0 (by omega))
          have p1 : wr.cell? ⟨pb, po + kk * 9 + 1, none⟩ = some (.int .i64 fl) := by have := hpc (kk * 9 + 1) _ (hpcx 1 (by omega)); rwa [← Nat.add_assoc] at this
          have p2 : wr.cell? ⟨pb, po + kk * 9 + 2, none⟩ = some (.int .i64 0) := by have := hpc (kk * 9 + 2) _ (hpcx 2 (by omega)); rwa [← Nat.add_assoc] at this
          have p3 : wr.cell? ⟨pb, po + kk * 9 + 3, none⟩ = some (.int .i64 0) := by have := hpc (kk * 9 + 3) _ (hpcx 3 (by omega)); rwa [← Nat.add_assoc] at this
          have p4 : wr.cell? ⟨pb, po + kk * 9 + 4, none⟩ = some (.int .i64 1) := by have := hpc (kk * 9 + 4) _ (hpcx 4 (by omega)); rwa [← Nat.add_assoc] at this
          have p5 : wr.cell? ⟨pb, po + kk * 9 + 5, none⟩ = some (.int .i64 1) := by have := hpc (kk * 9 + 5) _ (hpcx 5 (by omega)); rwa [← Nat.add_assoc] at this
          have p6 : wr.cell? ⟨pb, po + kk * 9 + 6, none⟩ = some (.int .i64 kk) := by have := hpc (kk * 9 + 6) _ (hpcx 6 (by omega)); rwa [← Nat.add_assoc] at this
          have p7 : wr.cell? ⟨pb, po + kk * 9 + 7, none⟩ = some (.int .i64 0) := by have := hpc (kk * 9 + 7) _ (hpcx 7 (by omega)); rwa [← Nat.add_assoc] at this
          have p8 : wr.cell? ⟨pb, po + kk * 9 + 8, none⟩ = some (.slice xA xl xc) := by have := hpc (kk * 9 + 8) _ (hpcx 8 (by omega)); rwa [← Nat.add_assoc] at this
          have hflb : 0 ≤ fl ∧ fl ≤ 4 := by rw [hfl]; cases xe <;> cases xf <;> decide
          have HFL := hide hfl
          have HXL := hide hxl
          have HXX := hide hx
          have HKK := hide hkk
          have hcl2 : came.length = L := by rw [(unhide HO).inv.len, unhide HQLEN]
          have hzc := (hsat.perm (show _ = sl 4 1 (some ⟨zc, 0, none⟩) L L (came.map Value.bool) * (X0 * (sl 22 1 A15 tr.length c15 (hds tr) * (Asn.blk z 72 (confC win') * (sl 79 9 (some ⟨pb, po, none⟩) L c11 (pkC (pksR 0 ps)) * (Y * Asn.exact W0))))) by ac_rfl))
          obtain ⟨_, _, hA0, _, hzcell, _⟩ := hzc.slAt hpos
          injection hA0 with hA0
          injection hA0 with hA1 hA2
          subst hA1 hA2
          have ck : wr.cell? ⟨zc, kk, none⟩ = some (.bool (came.getD kk false)) := by
            have := hzcell kk (.bool (came.getD kk false)) (by rw [List.getElem?_map, List.getD_eq_getElem?_getD, List.getElem?_eq_getElem (by omega)]; rfl)
            rwa [Nat.zero_add] at this
          have ckf : wr.frozen? ⟨zc, kk, none⟩ = false := hzc.slFro _
          have hzlt : zc < wr.heap.size := hzc.slIn
          have cw : wr.cell? ⟨z, 4, none⟩ = some (.int .i64 (win' : Nat)) := (hsat.perm (show _ = Asn.blk z 72 (confC win') * (X0 * (sl 22 1 A15 tr.length c15 (hds tr) * (sl 4 1 (some ⟨zc, 0, none⟩) L L (came.map Value.bool) * (sl 79 9 (some ⟨pb, po, none⟩) L c11 (pkC (pksR 0 ps)) * (Y * Asn.exact W0))))) by ac_rfl)).cell 4
          have hzl2 : z < wr.heap.size := Sat.lt (o := .cells _ _ (0, 0)) (hsat.perm (show _ = Asn.blk z 72 (confC win') * (X0 * (sl 22 1 A15 tr.length c15 (hds tr) * (sl 4 1 (some ⟨zc, 0, none⟩) L L (came.map Value.bool) * (sl 79 9 (some ⟨pb, po, none⟩) L c11 (pkC (pksR 0 ps)) * (Y * Asn.exact W0))))) by ac_rfl))
          clear hsat hex hx0 hx1 hpc hpcx hcl hpf hzc hzcell hx hpx hfl hxl hkk
          go_upto_if 117 with (fail)
          go_cut [] (fun wx => ∃ (fl' : Int) (pA : Option Addr) (pn pc : Nat) (came' : List Bool), Hid (PickOut tb kk next win' came came' fl fl' xA xl xc pA pn pc) ∧ Hid (RcSat W0 wx g k m P (Asn.blk wr.heap.size 79 #[.int .i64 1, .int .i64 fl', .int .i64 0, .int .i64 0, .int .i64 1, .int .i64 1, .int .i64 kk, .int .i64 0, .slice pA pn pc] * OFr W0 ps L (some ⟨pb, po, none⟩) c11 z zc win' A15 c15 tr came' Y)))
          case first =>
            cases tb with
            | true =>
              have HR := hide ((unhide HO).sat.grow (X := Asn.blk wr.heap.size 79 #[.int .i64 1, .int .i64 (fl + 8), .int .i64 0, .int .i64 0, .int .i64 1, .int .i64 1, .int .i64 kk, .int .i64 0, .slice none 0 0]) (w' := wr.alloc (.cells #[.int .i64 1, .int .i64 (fl + 8), .int .i64 0, .int .i64 0, .int .i64 1, .int .i64 1, .int .i64 kk, .int .i64 0, .slice none 0 0] 79)) (fun G hG => (hG.alloc _ _).f2))
              go_wp2_with fail
              go_meet
              exact ⟨fl + 8, none, 0, 0, came, .inl ⟨rfl, rfl, rfl, rfl, rfl, rfl⟩, HR⟩
            | false =>
              by_cases hc : kk < next + win'
              · have h1 := (unhide HO).sat.step (F' := OFr W0 ps L (some ⟨pb, po, none⟩) c11 z zc win' A15 c15 tr (came.set kk true) Y) (w' := wr.setCell ⟨zc, kk, none⟩ (.bool true)) (fun G hG => by
                  have hG : Sat W0 wr (G * (sl 22 1 A15 tr.length c15 (hds tr) * (sl 4 1 (some ⟨zc, 0, none⟩) L L (came.map Value.bool) * (Asn.blk z 72 (confC win') * (sl 79 9 (some ⟨pb, po, none⟩) L c11 (pkC (pksR 0 ps)) * (Y * Asn.exact W0)))))) := hG
                  have h2 := (hG.perm (show _ = sl 4 1 (some ⟨zc, 0, none⟩) L L (came.map Value.bool) * (G * (sl 22 1 A15 tr.length c15 (hds tr) * (Asn.blk z 72 (confC win') * (sl 79 9 (some ⟨pb, po, none⟩) L c11 (pkC (pksR 0 ps)) * (Y * Asn.exact W0))))) by ac_rfl)).slSet (i := kk) (v := .bool true) (by omega)
                  rw [Nat.zero_add, ← List.map_set] at h2
                  exact h2.perm (by unfold OFr; ac_rfl))
                have h3 := h1.grow (X := Asn.blk wr.heap.size 79 #[.int .i64 1, .int .i64 fl, .int .i64 0, .int .i64 0, .int .i64 1, .int .i64 1, .int .i64 kk, .int .i64 0, .slice xA xl xc]) (w' := (wr.setCell ⟨zc, kk, none⟩ (.bool true)).alloc (.cells #[.int .i64 1, .int .i64 fl, .int .i64 0, .int .i64 0, .int .i64 1, .int .i64 1, .int .i64 kk, .int .i64 0, .slice xA xl xc] 79)) (fun G hG => by
                  have := (hG.alloc #[.int .i64 1, .int .i64 fl, .int .i64 0, .int .i64 0, .int .i64 1, .int .i64 1, .int .i64 kk, .int .i64 0, .slice xA xl xc] 79).f2
                  rwa [World.size_setCell] at this)
                have HR := hide h3
                clear h1 h3
                go_wp2_with fail
                go_meet
                exact ⟨fl, xA, xl, xc, came.set kk true, .inr ⟨rfl, by rw [if_pos hc], rfl, rfl, rfl, rfl⟩, HR⟩
              · have HR := hide ((unhide HO).sat.grow (X := Asn.blk wr.heap.size 79 #[.int .i64 1, .int .i64 fl, .int .i64 0, .int .i64 0, .int .i64 1, .int .i64 1, .int .i64 kk, .int .i64 0, .slice xA xl xc]) (w' := wr.alloc (.cells #[.int .i64 1, .int .i64 fl, .int .i64 0, .int .i64 0, .int .i64 1, .int .i64 1, .int .i64 kk, .int .i64 0, .slice xA xl xc] 79)) (fun G hG => (hG.alloc _ _).f2))
                go_wp2_with fail
                go_meet
                exact ⟨fl, xA, xl, xc, came, .inr ⟨rfl, by rw [if_neg hc], rfl, rfl, rfl, rfl⟩, HR⟩
          case rest =>
            obtain ⟨fl', pA, pn, pc, came', HPO, HRC⟩ := hcut
            obtain ⟨zt, hzt⟩ : ∃ zt, zt = wr.heap.size := ⟨_, rfl⟩
            rw [← hzt] at HRC ⊢
            clear e0 e1 p0 p1 p2 p3 p4 p5 p6 p7 p8 ck ckf cw hb0 hb1 hzlt hzl2 hL0 hpb hzt hki
            have hkql : kk < ql.length := by rw [unhide HQLEN]; exact hkL
            have hpcat : pcAt ql kk = (xb, xe, xf) := by
              unfold pcAt
              rw [unhide HQL, List.getD_eq_getElem?_getD, List.getElem?_map, unhide HXX]
              rfl
            have hpk : (⟨1, fl, 0, 0, 1, 1, kk, 0, xb⟩ : Pkt) = pktA ql kk := by
              unfold pktA
              rw [hpcat, unhide HFL]
            obtain ⟨pbv, hrd, hpn, hfl2, hinv, hle⟩ : ∃ pbv : List UInt8, rd (P * (Asn.blk zt 79 #[.int .i64 1, .int .i64 fl', .int .i64 0, .int .i64 0, .int .i64 1, .int .i64 1, .int .i64 kk, .int .i64 0, .slice pA pn pc] * OFr W0 ps L (some ⟨pb, po, none⟩) c11 z zc win' A15 c15 tr came' Y)) 1 pA pn (bytes pbv) ∧ pn ≤ 65536 ∧ fl' ≤ 100 ∧
                OInv win' ql (takeM win' m (⟨1, fl', 0, 0, 1, 1, kk, 0, pA, pn, pc, pbv⟩ : Pk).abs).1 came' (takeM win' m (⟨1, fl', 0, 0, 1, 1, kk, 0, pA, pn, pc, pbv⟩ : Pk).abs).1.next (told ++ (takeM win' m (⟨1, fl', 0, 0, 1, 1, kk, 0, pA, pn, pc, pbv⟩ : Pk).abs).2.2) ∧ next ≤ (takeM win' m (⟨1, fl', 0, 0, 1, 1, kk, 0, pA, pn, pc, pbv⟩ : Pk).abs).1.next := by
              rcases unhide HPO with ⟨_, rfl, rfl, rfl, rfl, rfl⟩ | ⟨_, rfl, rfl, rfl, rfl, rfl⟩
              · obtain ⟨t1, t2, t3⟩ := (unhide HO).inv.trimmed (unhide HROW) hkql (⟨1, fl + 8, 0, 0, 1, 1, kk, 0, []⟩ : Pkt) ⟨rfl, by rw [← hpk], rfl⟩
                refine ⟨[], rd.nil _ _ _, by omega, by omega, ?_, ?_⟩
                · show OInv win' ql (takeM win' m (⟨1, fl + 8, 0, 0, 1, 1, kk, 0, []⟩ : Pkt)).1 came' (takeM win' m (⟨1, fl + 8, 0, 0, 1, 1, kk, 0, []⟩ : Pkt)).1.next (told ++ (takeM win' m (⟨1, fl + 8, 0, 0, 1, 1, kk, 0, []⟩ : Pkt)).2.2)
                  rw [t1, t2, List.append_nil, (unhide HO).inv.nx]
                  exact t3
                · show next ≤ (takeM win' m (⟨1, fl + 8, 0, 0, 1, 1, kk, 0, []⟩ : Pkt)).1.next
                  rw [t2, (unhide HO).inv.nx]
                  exact Nat.le_refl _
              · have hw := (unhide HO).inv.whole (unhide HROW) hkql hw1
                rw [← hpk] at hw
                have hmem : (⟨pA, pc, xb, xe, xf⟩ : PcR) ∈ ps := List.mem_of_getElem? (unhide HXX)
                have hy := (unhide HO).pcs _ hmem
                have hb20 : xb.length ≤ 20 := by
                  by_cases hlast : kk < ql.length - 1
                  · have := ((unhide HROW).body hlast).2.1
                    rwa [hpcat] at this
                  · have := (unhide HROW).last
                    rw [show ql.length - 1 = kk by omega, hpcat] at this
                    injection this with h1 _
                    rw [h1]
                    simp
                refine ⟨xb, ?_, by rw [unhide HXL]; omega, by omega, hw.1, hw.2⟩
                have hy2 : rd Y 1 pA pn (bytes xb) := by rw [unhide HXL]; exact hy
                exact (show rd (Asn.blk zt 79 #[.int .i64 1, .int .i64 fl', .int .i64 0, .int .i64 0, .int .i64 1, .int .i64 1, .int .i64 kk, .int .i64 0, .slice pA pn pc] * (sl 22 1 A15 tr.length c15 (hds tr) * (sl 4 1 (some ⟨zc, 0, none⟩) L L ((if kk < next + win' then came.set kk true else came).map Value.bool) * (Asn.blk z 72 (confC win') * (sl 79 9 (some ⟨pb, po, none⟩) L c11 (pkC (pksR 0 ps)) * (Y * Asn.exact W0)))))) 1 pA pn (bytes xb) from (rd.left hy2).right.right.right.right.right).right
            have harr := (unhide HO).arr
            have hpen := (unhide HO).pen
            have htl := takeM_le win' m (⟨1, fl', 0, 0, 1, 1, kk, 0, pA, pn, pc, pbv⟩ : Pk).abs
            have hT := rcm_take (⟨1, fl', 0, 0, 1, 1, kk, 0, pA, pn, pc, pbv⟩ : Pk) (unhide HRC) (by show fl' ≤ _; omega) (by omega) (by omega) hpn hrd
            unfold TakeM at hT
            rw [unhide HK] at hT
            have hrows := (unhide HO).rows
            have hpcs := (unhide HO).pcs
            obtain ⟨m', hm'⟩ : ∃ m', m' = (takeM win' m (⟨1, fl', 0, 0, 1, 1, kk, 0, pA, pn, pc, pbv⟩ : Pk).abs).1 := ⟨_, rfl⟩
            obtain ⟨an, han⟩ : ∃ an, an = (takeM win' m (⟨1, fl', 0, 0, 1, 1, kk, 0, pA, pn, pc, pbv⟩ : Pk).abs).2.1 := ⟨_, rfl⟩
            obtain ⟨ms, hms⟩ : ∃ ms, ms = (takeM win' m (⟨1, fl', 0, 0, 1, 1, kk, 0, pA, pn, pc, pbv⟩ : Pk).abs).2.2 := ⟨_, rfl⟩
            rw [← hm', ← han, ← hms] at hT
            rw [← hm', ← hms] at hinv
            rw [← hm'] at hle htl
            obtain ⟨X9, hsat9⟩ := (unhide HRC).sat
            have HB9 := Lib.hid (hsat9.perm (show _ = Asn.blk zt 79 #[.int .i64 1, .int .i64 fl', .int .i64 0, .int .i64 0, .int .i64 1, .int .i64 1, .int .i64 kk, .int .i64 0, .slice pA pn pc] * (X9 * OFr W0 ps L (some ⟨pb, po, none⟩) c11 z zc win' A15 c15 tr came' Y) by ac_rfl)).blk
            have htold : (told ++ ms).length ≤ 481 := by
              have h1 := congrArg (fun x => x.2.length) hinv.st
              dsimp only at h1
              have h2 := foldT_len ql (min m'.next (ql.length - 1))
              have h3 := (unhide HROW).few
              omega
            rw [List.length_append] at htold
            have hrl1 := hrows.1
            have HT2 := hide hT
            have HINV := hide hinv
            have HROWS := hide hrows
            have HPCS := hide hpcs
            have hmL : m'.next ≤ L := by have := hinv.le; rwa [unhide HQLEN] at this
            have HMS := hide hms
            unfold Pk.val Pk.cells at HT2
            clear hT hsat9 hinv hrows hpcs hm' han hms hrd hpcat hpk HPO HRC
            go_wp2_with (refine wpList_load_row rfl 79 (.tmp 19) rfl zt rfl 79 _ (0, 0) _ HB9.out Try.underlying79 rfl (by kernel_rfl) ?_)
            refine (unhide HT2).mono ?_
            rintro e w5 ⟨zA, A6, c6, X1, rfl, hrc6⟩
            obtain ⟨rsM, hrsM, hrlM, hrlenM, hrc8⟩ := (hrc6.perm (show _ = bbsl A6 ms.length c6 ms * (sl 22 1 A15 tr.length c15 (hds tr) * ((ansB k (⟨1, fl', 0, 0, 1, 1, kk, 0, pA, pn, pc, pbv⟩ : Pk) an zA * Asn.blk zt 79 #[.int .i64 1, .int .i64 fl', .int .i64 0, .int .i64 0, .int .i64 1, .int .i64 1, .int .i64 kk, .int .i64 0, .slice pA pn pc]) * (sl 4 1 (some ⟨zc, 0, none⟩) L L (came'.map Value.bool) * (Asn.blk z 72 (confC win') * (sl 79 9 (some ⟨pb, po, none⟩) L c11 (pkC (pksR 0 ps)) * (Y * Asn.exact W0)))))) by unfold OFr; ac_rfl)).bbslOpen
            obtain ⟨X8, hsat8⟩ := hrc8.sat
            obtain ⟨A7, c7, w7, run7, hrc9⟩ := RcSat.append (Pr := Try.prog) (t := 67) (ty := 67) (d := c6) elt_rows (hrc8.perm (show _ = sl 22 1 A15 tr.length c15 (hds tr) * (sl 22 1 A6 ms.length c6 (heads rsM) * (tails rsM * ((ansB k (⟨1, fl', 0, 0, 1, 1, kk, 0, pA, pn, pc, pbv⟩ : Pk) an zA * Asn.blk zt 79 #[.int .i64 1, .int .i64 fl', .int .i64 0, .int .i64 0, .int .i64 1, .int .i64 1, .int .i64 kk, .int .i64 0, .slice pA pn pc]) * (sl 4 1 (some ⟨zc, 0, none⟩) L L (came'.map Value.bool) * (Asn.blk z 72 (confC win') * (sl 79 9 (some ⟨pb, po, none⟩) L c11 (pkC (pksR 0 ps)) * (Y * Asn.exact W0))))))) by ac_rfl)) (Sat.slRd (e := 22) (c := c6) hsat8.f2) (by intro u hu; obtain ⟨r, _, rfl⟩ := List.mem_map.1 hu; rfl) (by unfold maxLen; omega) (by omega)
            have hst7 : OSt W0 w7 g k ql ps L (some ⟨pb, po, none⟩) c11 z zc win' (i + 1) m' came' m'.next (told ++ ms) A7 c7 (tr ++ hdsOf rsM) (X1 * P) (tails rsM * Y) := by
              refine ⟨unhide HINV, ((unhide HROWS).right).app (by rw [← hrsM]; exact (rowsOk_tails rsM hrlenM).left), fun p hp => rd.right ((unhide HPCS) p hp), ?_, by omega, by omega⟩
              refine hrc9.step (fun G hG => ?_)
              unfold OFr
              rw [List.length_append, show (hdsOf rsM).length = ms.length by rw [← hrlM]; simp [hdsOf], hds, List.map_append, ← hds, ← hds, hds_hdsOf]
              exact (hG.perm (show _ = (sl 22 1 A6 ms.length c6 (heads rsM) * (ansB k (⟨1, fl', 0, 0, 1, 1, kk, 0, pA, pn, pc, pbv⟩ : Pk) an zA * Asn.blk zt 79 #[.int .i64 1, .int .i64 fl', .int .i64 0, .int .i64 0, .int .i64 1, .int .i64 1, .int .i64 kk, .int .i64 0, .slice pA pn pc])) * (G * (sl 22 1 A7 (tr.length + ms.length) c7 (hds tr ++ heads rsM) * (sl 4 1 (some ⟨zc, 0, none⟩) L L (came'.map Value.bool) * (Asn.blk z 72 (confC win') * (sl 79 9 (some ⟨pb, po, none⟩) L c11 (pkC (pksR 0 ps)) * ((tails rsM * Y) * Asn.exact W0)))))) by ac_rfl)).right
            have htrl : (tr ++ hdsOf rsM).length = T + ms.length := by rw [List.length_append, unhide HT]; simp [hdsOf, hrlM]
            rw [← unhide HT] at run7
            obtain ⟨M9, hM9⟩ : ∃ M9, M9 = ms.length := ⟨_, rfl⟩
            rw [← hM9] at run7 htrl ⊢
            have R7 := Lib.hid run7
            have HST7 := hide hst7
            have HTRL := hide htrl
            clear hrc6 hrc8 hsat8 run7 hrc9 hst7 htrl HT2 hrsM hrlM hrlenM HO HINV HROWS HPCS HB9 hM9 HMS
            go_upto_block 4 with (at_builtin; refine wpList_appendR rfl (.tmp 138) (.tmp 139) rfl rfl rfl R7.out ?_)
            have HCM : Hid (∀ j, j < L → w7.cell? ⟨zc, j, none⟩ = some (.bool (came'.getD j false))) := by
              intro j hj
              obtain ⟨X7, hsat7⟩ := (unhide HST7).sat.sat
              have h1 := (hsat7.perm (show _ = sl 4 1 (some ⟨zc, 0, none⟩) L L (came'.map Value.bool) * (X7 * (sl 22 1 A7 (tr ++ hdsOf rsM).length c7 (hds (tr ++ hdsOf rsM)) * (Asn.blk z 72 (confC win') * (sl 79 9 (some ⟨pb, po, none⟩) L c11 (pkC (pksR 0 ps)) * ((tails rsM * Y) * Asn.exact W0))))) by unfold OFr; ac_rfl))
              obtain ⟨_, _, hA0, _, hzcell, _⟩ := h1.slAt hpos
              injection hA0 with hA0
              injection hA0 with hA1 hA2
              subst hA1 hA2
              have hcl : came'.length = L := by rw [(unhide HST7).inv.len, unhide HQLEN]
              have := hzcell j (.bool (came'.getD j false)) (by rw [List.getElem?_map, List.getD_eq_getElem?_getD, List.getElem?_eq_getElem (by omega)]; rfl)
              rwa [Nat.zero_add] at this
            have HLT : Hid (∀ j, j < m'.next → j < L → came'.getD j false = true) := fun j h1 h2 => (unhide HST7).inv.came_lt h1 (by rw [unhide HQLEN]; exact h2)
            have HSTP : Hid (m'.next < L → came'.getD m'.next false = false) := fun h1 => (unhide HST7).inv.came_stop (by rw [unhide HQLEN]; exact h1)
            go_cut [17] (fun s17 wx => s17 = .int .i64 m'.next ∧ w7 = wx)
            case first =>
              go_wp2_with fail
              go_loopw [17] (fun s17 wr2 => ∃ j : Nat, s17 = .int .i64 j ∧ j ≤ m'.next ∧ w7 = wr2) (fun s17 _ => m'.next - (intOf s17).toNat)
              case atStart => exact ⟨next, rfl, hle, rfl⟩
              case round =>
                obtain ⟨j, rfl, hj, rfl⟩ := hrel
                by_cases hjl : j < m'.next
                · have hjL : j < L := by omega
                  have ct := (unhide HCM) j hjL
                  rw [(unhide HLT) j hjl hjL] at ct
                  go_wp2_with fail
                  go_roundw
                  case rel => exact ⟨j + 1, by push_cast; rfl, by omega, by first | rfl | trivial⟩
                  case measure => simp [intOf]; omega
                · obtain rfl : j = m'.next := by omega
                  by_cases hl : m'.next < L
                  · have ct := (unhide HCM) m'.next hl
                    rw [(unhide HSTP) hl] at ct
                    go_wp2_with fail
                    go_meet
                    exact ⟨rfl, rfl⟩
                  · go_wp2_with fail
                    go_meet
                    exact ⟨rfl, rfl⟩
            case rest =>
              obtain ⟨rfl, rfl⟩ := hcut
              have hLn := rcm_line (unhide HST7).sat
              unfold lineC at hLn
              have HLN := hide hLn
              clear hLn HCM HLT HSTP R7
              go_wp2_with fail
              refine (unhide HLN).mono ?_
              rintro e w8 ⟨rfl, hrc8⟩
              have HST8 := hide (show OSt W0 w8 g k ql ps L (some ⟨pb, po, none⟩) c11 z zc win' (i + 1) m' came' m'.next (told ++ ms) A7 c7 (tr ++ hdsOf rsM) (X1 * P) (tails rsM * Y) from ⟨(unhide HST7).inv, (unhide HST7).rows, (unhide HST7).pcs, hrc8, (unhide HST7).arr, (unhide HST7).pen⟩)
              clear hrc8 HLN HST7
              go_wp2_with (refine wpList_field rfl 85 (.tmp 154) 4 rfl (.int .i64 (m'.next : Int)) (by kernel_rfl) ?_)
              go_roundw
              case rel => exact ⟨i + 1, m', came', m'.next, told ++ ms, A7, c7, tr ++ hdsOf rsM, X1 * P, tails rsM * Y, by rw [unhide HTRL], rfl, by push_cast; rfl, by omega, by omega, hmL, HST8⟩
              case measure => simp [intOf]; omega
        · have HF := hide (show OSt W0 wr g k ql ps L A11 c11 z zc win' 200 m came next told A15 c15 tr P Y from ⟨(unhide HO).inv, (unhide HO).rows, (unhide HO).pcs, (unhide HO).sat, by have := (unhide HO).arr; omega, by have := (unhide HO).pen; omega⟩)
          by_cases h1 : i < n3
          all_goals
            go_wp2_with fail
            go_meet
            exact ⟨m, came, next, told, A15, c15, tr, P, Y, by rw [unhide HT], rfl, hnL, HF⟩
    case rest =>
      obtain ⟨m, came, next, told, A15, c15, tr, P, Y, rfl, rfl, hnL, HO⟩ := hcut
      obtain ⟨L8, V8, ba8, j8, hI8, hb8, hok8, hs8⟩ := (unhide HO).sat
      have hs8 := hs8.perm (show _ = (RcB g k m.next m.arr m.iss m.pen m.done * (MapAt k.mb (rowsP L8) * (BitAt k.bb V8 k.win ba8 * (JoinAt k.jb j8 * P)))) * (sl 22 1 A15 tr.length c15 (hds tr) * (sl 4 1 (some ⟨zc, 0, none⟩) L L (came.map Value.bool) * (Asn.blk z 72 (confC win') * (sl 79 9 A11 L c11 (pkC (pksR 0 ps)) * (Y * Asn.exact W0))))) by unfold OFr; ac_rfl)
      have hrows := (unhide HO).rows
      have hpcs := (unhide HO).pcs
      have hdn := (unhide HO).inv.dn
      have hst := (unhide HO).inv.st
      have hlast := (unhide HROW).last
      rw [unhide HQLEN] at hdn hst
      obtain ⟨K, hK⟩ : ∃ K, K = min next (L - 1) := ⟨_, rfl⟩
      rw [← hK] at hst
      have hKn : K ≤ next := by omega
      have hKL : K ≤ L - 1 := by omega
      have hKs : ∀ i : Nat, i < K → (i < next ∧ i < L - 1) := fun i hi => by omega
      have hKe : ¬ (K < next ∧ K < L - 1) := by omega
      have HROWS := hide hrows
      have HPCS := hide hpcs
      have HDN := hide hdn
      have HST8 := hide hst
      have HS8 := hide hs8
      have htr : tr.length = told.length := hrows.1
      have HTR := hide htr
      have htold : told.length ≤ 481 := by
        have h1 := congrArg (fun x => x.2.length) hst
        dsimp only at h1
        have h2 := foldT_len ql K
        omega
      obtain ⟨T, hT⟩ : ∃ T, T = tr.length := ⟨_, rfl⟩
      rw [← hT]
      have HT := hide hT
      have HPCS2 : Hid (∀ i, i < L → ∃ x, ps[i]? = some x ∧ pcAt ql i = (x.b, x.e, x.f)) := by
        intro i hi
        have hx : ps[i]? = some (ps[i]'(by rw [← unhide HL]; exact hi)) := List.getElem?_eq_getElem _
        refine ⟨_, hx, ?_⟩
        unfold pcAt
        rw [unhide HQL, List.getD_eq_getElem?_getD, List.getElem?_map, hx]
        rfl
      obtain ⟨pb, po, rfl, -, -, -⟩ := (hs8.perm (show _ = sl 79 9 A11 L c11 (pkC (pksR 0 ps)) * ((RcB g k m.next m.arr m.iss m.pen m.done * (MapAt k.mb (rowsP L8) * (BitAt k.bb V8 k.win ba8 * (JoinAt k.jb j8 * P)))) * (sl 22 1 A15 tr.length c15 (hds tr) * (sl 4 1 (some ⟨zc, 0, none⟩) L L (came.map Value.bool) * (Asn.blk z 72 (confC win') * (Y * Asn.exact W0))))) by ac_rfl)).slAt hpos
      clear hs8 hI8 hb8 hok8 hrows hpcs hdn hst hK hT htr hlast HO HST
      go_upto_block 6 with (fail)
      go_cut [23, 24, 25] (fun s23 s24 _ wx => ∃ (A23 A24 : Option Addr) (c23 c24 : Nat) (pr : List (Option Addr × Nat × Nat)), s23 = .slice A23 K c23 ∧ s24 = .slice A24 K c24 ∧ Hid (pr.length = K ∧ rowsOk Y pr (partsL ql K)) ∧ Hid (Sat W0 wx ((sl 22 1 A23 K c23 (hds pr) * sl 4 1 A24 K c24 ((endsL ql K).map Value.bool)) * ((RcB g k m.next m.arr m.iss m.pen m.done * (MapAt k.mb (rowsP L8) * (BitAt k.bb V8 k.win ba8 * (JoinAt k.jb j8 * P)))) * (sl 22 1 A15 tr.length c15 (hds tr) * (sl 4 1 (some ⟨zc, 0, none⟩) L L (came.map Value.bool) * (Asn.blk z 72 (confC win') * (sl 79 9 (some ⟨pb, po, none⟩) L c11 (pkC (pksR 0 ps)) * (Y * Asn.exact W0)))))))))
      case first =>
        go_wp2_with fail
        go_loopw [23, 24, 25] (fun s23 s24 s25 wr => ∃ (i : Nat) (A23 A24 : Option Addr) (c23 c24 : Nat) (pr : List (Option Addr × Nat × Nat)), s23 = .slice A23 i c23 ∧ s24 = .slice A24 i c24 ∧ s25 = .int .i64 i ∧ i ≤ K ∧ Hid (pr.length = i ∧ rowsOk Y pr (partsL ql i)) ∧ Hid (Sat W0 wr ((sl 22 1 A23 i c23 (hds pr) * sl 4 1 A24 i c24 ((endsL ql i).map Value.bool)) * ((RcB g k m.next m.arr m.iss m.pen m.done * (MapAt k.mb (rowsP L8) * (BitAt k.bb V8 k.win ba8 * (JoinAt k.jb j8 * P)))) * (sl 22 1 A15 tr.length c15 (hds tr) * (sl 4 1 (some ⟨zc, 0, none⟩) L L (came.map Value.bool) * (Asn.blk z 72 (confC win') * (sl 79 9 (some ⟨pb, po, none⟩) L c11 (pkC (pksR 0 ps)) * (Y * Asn.exact W0))))))))) (fun _ _ s25 _ => K - (intOf s25).toNat)
        case atStart => exact ⟨0, none, none, 0, 0, [], rfl, rfl, rfl, Nat.zero_le _, ⟨rfl, rfl, fun i r l a => by simp at a⟩, (Sat.slNil (e := 22) (z := 1) (Sat.slNil (e := 4) (z := 1) (unhide HS8))).perm (by show _ = (sl _ _ _ _ _ [] * sl _ _ _ _ _ []) * _; ac_rfl)⟩
        case round =>
          obtain ⟨i, A23, A24, c23, c24, pr, rfl, rfl, rfl, hiK, HPR, HSR⟩ := hrel
          clear HS8
          by_cases hlt : i < K
          · obtain ⟨hi1, hi2⟩ := hKs i hlt
            have hiL : i < L := by omega
            obtain ⟨x, hx, hpx⟩ := (unhide HPCS2) i hiL
            have hok := (unhide HPCS) x (List.mem_of_getElem? hx)
            have hpk := pksR_at ps 0 i x hx
            rw [Nat.zero_add] at hpk
            obtain ⟨xA, xc, xb, xe, xf⟩ := x
            obtain ⟨fl, hfl⟩ : ∃ fl, fl = flOf xe xf := ⟨_, rfl⟩
            obtain ⟨xl, hxl⟩ : ∃ xl, xl = xb.length := ⟨_, rfl⟩
            have HCE : Hid (∀ (W : World) (R : Asn), Sat W0 W (sl 79 9 (some ⟨pb, po, none⟩) L c11 (pkC (pksR 0 ps)) * R) → W.cell? ⟨pb, po + i * 9 + 8, none⟩ = some (.slice xA xl xc) ∧ W.cell? ⟨pb, po + i * 9 + 1, none⟩ = some (.int .i64 fl)) := by
              intro W R hW
              obtain ⟨b', o', hA, _, hpc, _⟩ := hW.slAt hpos
              injection hA with hA
              injection hA with hA1 hA2
              subst hA1 hA2
              have h8 := hpc (i * 9 + 8) _ (show (pkC (pksR 0 ps))[i * 9 + 8]? = some (.slice xA xl xc) by rw [pkC_at hpk (by omega), hxl]; rfl)
              have h1 := hpc (i * 9 + 1) _ (show (pkC (pksR 0 ps))[i * 9 + 1]? = some (.int .i64 fl) by rw [pkC_at hpk (by omega), hfl]; rfl)
              rw [← Nat.add_assoc] at h8 h1
              exact ⟨h8, h1⟩
            obtain ⟨en, hen⟩ : ∃ en, en = hasF fl 1 := ⟨_, rfl⟩
            have HHAS : Hid (∀ W : World, Calls Try.prog 40 #[.int .i64 fl, .int .i64 2] W fun e w' => e = .returned (.bool en) ∧ Below W.heap.size W w') := by
              intro W
              rw [hen, hfl]
              refine (has03 W xe xf).mono ?_
              rintro e w' ⟨rfl, rfl⟩
              exact ⟨rfl, Below.refl _ _⟩
            have hparts : partsL ql (i + 1) = partsL ql i ++ [xb] := by
              unfold partsL
              rw [List.range_succ, List.map_append, List.map_singleton, hpx]
            have hends : endsL ql (i + 1) = endsL ql i ++ [en] := by
              unfold endsL
              rw [List.range_succ, List.map_append, List.map_singleton]
              have : (pktA ql i).fl = fl := by unfold pktA; rw [hpx, hfl]
              rw [this, hen]
            have hpr2 : (pr ++ [(xA, xl, xc)]).length = i + 1 ∧ rowsOk Y (pr ++ [(xA, xl, xc)]) (partsL ql (i + 1)) := by
              refine ⟨by rw [List.length_append, (unhide HPR).1]; rfl, ?_⟩
              rw [hparts]
              refine (unhide HPR).2.snoc (by rw [hxl]; exact hok) ?_
              have := ((unhide HROW).body (k := i) (by rw [unhide HQLEN]; exact hi2)).2.1
              rw [hpx] at this
              dsimp only at this ⊢
              omega
            have HPR2 := hide hpr2
            have HENDS := hide hends
            clear hpr2 hends hparts hok hpk hx hpx hfl hxl hen HPR
            have hL1 : ((L : Int) - 1) = ((L - 1 : Nat) : Int) := by omega
            go_upto_region 36 with (fail)
            have HX := hide ((unhide HSR).perm (show _ = ((RcB g k m.next m.arr m.iss m.pen m.done * (MapAt k.mb (rowsP L8) * (BitAt k.bb V8 k.win ba8 * (JoinAt k.jb j8 * P)))) * (sl 22 1 A15 tr.length c15 (hds tr) * (sl 4 1 (some ⟨zc, 0, none⟩) L L (came.map Value.bool) * (Asn.blk z 72 (confC win') * (sl 79 9 (some ⟨pb, po, none⟩) L c11 (pkC (pksR 0 ps)) * (Y * Asn.exact W0)))))) * (sl 22 1 A23 i c23 (hds pr) * sl 4 1 A24 i c24 ((endsL ql i).map Value.bool)) by ac_rfl))
            clear HSR
            refine wp_region_slr (Q := _) (E := W0) (fun W => ∃ R, Sat W0 W (((RcB g k m.next m.arr m.iss m.pen m.done * (MapAt k.mb (rowsP L8) * (BitAt k.bb V8 k.win ba8 * (JoinAt k.jb j8 * P)))) * (sl 22 1 A15 tr.length c15 (hds tr) * (sl 4 1 (some ⟨zc, 0, none⟩) L L (came.map Value.bool) * (Asn.blk z 72 (confC win') * (sl 79 9 (some ⟨pb, po, none⟩) L c11 (pkC (pksR 0 ps)) * (Y * Asn.exact W0)))))) * R)) [7, 16] [14] [6, 15] [] (fun i_ => if i_ = 6 then (22, #[.slice xA xl xc], fun g_ => .slice (some ⟨g_, 0, none⟩) 1 1) else (4, #[.bool en], fun g_ => .slice (some ⟨g_, 0, none⟩) 1 1)) [0, 1, 2, 3, 4, 5, 6, 7, 8, 9, 10, 11, 12, 13, 14, 15, 16, 17, 18] (by kernel_rfl) (by kernel_rfl) (unhide HX) (fun W R h => ⟨_, h.asc⟩) ?_
            iterate 6
              refine wpS_f _ rfl rfl (v := ?_) ?_ ?_
              rotate_left
              · rintro W ⟨R, hW⟩
                have f1 : W.cell? ⟨pb, po + i * 9 + 8, none⟩ = some (.slice xA xl xc) := ((unhide HCE) W _ (hW.perm (show _ = sl 79 9 (some ⟨pb, po, none⟩) L c11 (pkC (pksR 0 ps)) * (((RcB g k m.next m.arr m.iss m.pen m.done * (MapAt k.mb (rowsP L8) * (BitAt k.bb V8 k.win ba8 * (JoinAt k.jb j8 * P)))) * (sl 22 1 A15 tr.length c15 (hds tr) * (sl 4 1 (some ⟨zc, 0, none⟩) L L (came.map Value.bool) * (Asn.blk z 72 (confC win') * (Y * Asn.exact W0))))) * R) by ac_rfl))).1
                have f2 : W.cell? ⟨pb, po + i * 9 + 1, none⟩ = some (.int .i64 fl) := ((unhide HCE) W _ (hW.perm (show _ = sl 79 9 (some ⟨pb, po, none⟩) L c11 (pkC (pksR 0 ps)) * (((RcB g k m.next m.arr m.iss m.pen m.done * (MapAt k.mb (rowsP L8) * (BitAt k.bb V8 k.win ba8 * (JoinAt k.jb j8 * P)))) * (sl 22 1 A15 tr.length c15 (hds tr) * (sl 4 1 (some ⟨zc, 0, none⟩) L L (came.map Value.bool) * (Asn.blk z 72 (confC win') * (Y * Asn.exact W0))))) * R) by ac_rfl))).2
                go_simp
                first | rfl | (rw [IntKind.wrap_i64]; omega)
              go_simp
            refine wpS_a _ rfl rfl (fun W => by unfold stp; go_simp; exact ⟨rfl, rfl⟩) (fun g_176 => ?_)
            go_simp
            refine wpS_e _ rfl rfl (fun W R hW => ?_)
            obtain ⟨A4, c4, w5, r_, hs_⟩ := Sat.append (P := Try.prog) (t := 67) (ty := 67) (d := 1) elt_rows (hW.perm (show _ = sl 22 1 A23 i c23 (hds pr) * (Asn.blk g_176 22 #[.slice xA xl xc] * (sl 4 1 A24 i c24 ((endsL ql i).map Value.bool) * (((RcB g k m.next m.arr m.iss m.pen m.done * (MapAt k.mb (rowsP L8) * (BitAt k.bb V8 k.win ba8 * (JoinAt k.jb j8 * P)))) * (sl 22 1 A15 tr.length c15 (hds tr) * (sl 4 1 (some ⟨zc, 0, none⟩) L L (came.map Value.bool) * (Asn.blk z 72 (confC win') * (sl 79 9 (some ⟨pb, po, none⟩) L c11 (pkC (pksR 0 ps)) * (Y * Asn.exact W0)))))) * R))) by ac_rfl)) (hW.asc.rdBlk (n := 1) (z := 1) rfl) (by intro u hu; simp at hu; subst hu; rfl) (by unfold maxLen; omega) (by omega)
            refine stp_append rfl _ _ rfl rfl rfl r_ ?_
            refine ⟨((RcB g k m.next m.arr m.iss m.pen m.done * (MapAt k.mb (rowsP L8) * (BitAt k.bb V8 k.win ba8 * (JoinAt k.jb j8 * P)))) * (sl 22 1 A15 tr.length c15 (hds tr) * (sl 4 1 (some ⟨zc, 0, none⟩) L L (came.map Value.bool) * (Asn.blk z 72 (confC win') * (sl 79 9 (some ⟨pb, po, none⟩) L c11 (pkC (pksR 0 ps)) * (Y * Asn.exact W0)))))) * (sl 22 1 A4 (i + 1) c4 (hds pr ++ [.slice xA xl xc]) * (Asn.blk g_176 22 #[.slice xA xl xc] * sl 4 1 A24 i c24 ((endsL ql i).map Value.bool))), fun W R h => ⟨_, h.asc⟩, (hs_).perm (by first | ac_rfl | (simp only [Asn.one_sep, Asn.sep_one]; ac_rfl)), ?_⟩
            clear hW r_
            go_simp
            iterate 6
              refine wpS_f _ rfl rfl (v := ?_) ?_ ?_
              rotate_left
              · rintro W ⟨R, hW⟩
                have f1 : W.cell? ⟨pb, po + i * 9 + 8, none⟩ = some (.slice xA xl xc) := ((unhide HCE) W _ (hW.perm (show _ = sl 79 9 (some ⟨pb, po, none⟩) L c11 (pkC (pksR 0 ps)) * (((RcB g k m.next m.arr m.iss m.pen m.done * (MapAt k.mb (rowsP L8) * (BitAt k.bb V8 k.win ba8 * (JoinAt k.jb j8 * P)))) * (sl 22 1 A15 tr.length c15 (hds tr) * (sl 4 1 (some ⟨zc, 0, none⟩) L L (came.map Value.bool) * (Asn.blk z 72 (confC win') * (Y * Asn.exact W0))))) * R) by ac_rfl))).1
                have f2 : W.cell? ⟨pb, po + i * 9 + 1, none⟩ = some (.int .i64 fl) := ((unhide HCE) W _ (hW.perm (show _ = sl 79 9 (some ⟨pb, po, none⟩) L c11 (pkC (pksR 0 ps)) * (((RcB g k m.next m.arr m.iss m.pen m.done * (MapAt k.mb (rowsP L8) * (BitAt k.bb V8 k.win ba8 * (JoinAt k.jb j8 * P)))) * (sl 22 1 A15 tr.length c15 (hds tr) * (sl 4 1 (some ⟨zc, 0, none⟩) L L (came.map Value.bool) * (Asn.blk z 72 (confC win') * (Y * Asn.exact W0))))) * R) by ac_rfl))).2
                go_simp
                first | rfl | (rw [IntKind.wrap_i64]; omega)
              go_simp
            refine wpS_c _ rfl rfl (v := .bool en) (freeC_call rfl (fun W => by go_simp; try rfl) (fun W ⟨R, hW⟩ => unhide HHAS W)) ?_
            go_simp
            refine wpS_a _ rfl rfl (fun W => by unfold stp; go_simp; exact ⟨rfl, rfl⟩) (fun g_185 => ?_)
            go_simp
            refine wpS_e _ rfl rfl (fun W R hW => ?_)
            obtain ⟨A5, c5, w6, r_, hs_⟩ := Sat.append (P := Try.prog) (t := 39) (ty := 39) (d := 1) elt_boolS (hW.perm (show _ = sl 4 1 A24 i c24 ((endsL ql i).map Value.bool) * (Asn.blk g_185 4 #[.bool en] * (sl 22 1 A4 (i + 1) c4 (hds pr ++ [.slice xA xl xc]) * (Asn.blk g_176 22 #[.slice xA xl xc] * (((RcB g k m.next m.arr m.iss m.pen m.done * (MapAt k.mb (rowsP L8) * (BitAt k.bb V8 k.win ba8 * (JoinAt k.jb j8 * P)))) * (sl 22 1 A15 tr.length c15 (hds tr) * (sl 4 1 (some ⟨zc, 0, none⟩) L L (came.map Value.bool) * (Asn.blk z 72 (confC win') * (sl 79 9 (some ⟨pb, po, none⟩) L c11 (pkC (pksR 0 ps)) * (Y * Asn.exact W0)))))) * R)))) by ac_rfl)) (hW.asc.rdBlk (n := 1) (z := 1) rfl) (by intro u hu; simp at hu; subst hu; rfl) (by unfold maxLen; omega) (by omega)
            refine stp_append rfl _ _ rfl rfl rfl r_ ?_
            refine ⟨((RcB g k m.next m.arr m.iss m.pen m.done * (MapAt k.mb (rowsP L8) * (BitAt k.bb V8 k.win ba8 * (JoinAt k.jb j8 * P)))) * (sl 22 1 A15 tr.length c15 (hds tr) * (sl 4 1 (some ⟨zc, 0, none⟩) L L (came.map Value.bool) * (Asn.blk z 72 (confC win') * (sl 79 9 (some ⟨pb, po, none⟩) L c11 (pkC (pksR 0 ps)) * (Y * Asn.exact W0)))))) * (sl 22 1 A4 (i + 1) c4 (hds pr ++ [.slice xA xl xc]) * (Asn.blk g_176 22 #[.slice xA xl xc] * (sl 4 1 A5 (i + 1) c5 ((endsL ql i).map Value.bool ++ [.bool en]) * Asn.blk g_185 4 #[.bool en]))), fun W R h => ⟨_, h.asc⟩, (hs_).perm (by first | ac_rfl | (simp only [Asn.one_sep, Asn.sep_one]; ac_rfl)), ?_⟩
            clear hW r_
            go_simp
            iterate 2
              refine wpS_f _ rfl rfl (v := ?_) ?_ ?_
              rotate_left
              · rintro W ⟨R, hW⟩
                have f1 : W.cell? ⟨pb, po + i * 9 + 8, none⟩ = some (.slice xA xl xc) := ((unhide HCE) W _ (hW.perm (show _ = sl 79 9 (some ⟨pb, po, none⟩) L c11 (pkC (pksR 0 ps)) * (((RcB g k m.next m.arr m.iss m.pen m.done * (MapAt k.mb (rowsP L8) * (BitAt k.bb V8 k.win ba8 * (JoinAt k.jb j8 * P)))) * (sl 22 1 A15 tr.length c15 (hds tr) * (sl 4 1 (some ⟨zc, 0, none⟩) L L (came.map Value.bool) * (Asn.blk z 72 (confC win') * (Y * Asn.exact W0))))) * R) by ac_rfl))).1
                have f2 : W.cell? ⟨pb, po + i * 9 + 1, none⟩ = some (.int .i64 fl) := ((unhide HCE) W _ (hW.perm (show _ = sl 79 9 (some ⟨pb, po, none⟩) L c11 (pkC (pksR 0 ps)) * (((RcB g k m.next m.arr m.iss m.pen m.done * (MapAt k.mb (rowsP L8) * (BitAt k.bb V8 k.win ba8 * (JoinAt k.jb j8 * P)))) * (sl 22 1 A15 tr.length c15 (hds tr) * (sl 4 1 (some ⟨zc, 0, none⟩) L L (came.map Value.bool) * (Asn.blk z 72 (confC win') * (Y * Asn.exact W0))))) * R) by ac_rfl))).2
                go_simp
                first | rfl | (rw [IntKind.wrap_i64]; omega)
              go_simp
            refine wpS_n (fun w7 hs7 => ?_)
            have HS7 := hide ((hs7.perm (show _ = (Asn.blk g_176 22 #[.slice xA xl xc] * Asn.blk g_185 4 #[.bool en]) * ((sl 22 1 A4 (i + 1) c4 (hds (pr ++ [(xA, xl, xc)])) * sl 4 1 A5 (i + 1) c5 ((endsL ql (i + 1)).map Value.bool)) * ((RcB g k m.next m.arr m.iss m.pen m.done * (MapAt k.mb (rowsP L8) * (BitAt k.bb V8 k.win ba8 * (JoinAt k.jb j8 * P)))) * (sl 22 1 A15 tr.length c15 (hds tr) * (sl 4 1 (some ⟨zc, 0, none⟩) L L (came.map Value.bool) * (Asn.blk z 72 (confC win') * (sl 79 9 (some ⟨pb, po, none⟩) L c11 (pkC (pksR 0 ps)) * (Y * Asn.exact W0))))))) by rw [hds_app, unhide HENDS, List.map_append]; show _ = _ * ((_ * sl _ _ _ _ _ (_ ++ [Value.bool en])) * _); ac_rfl)).right)
            clear hs7 HX HCE HHAS HENDS
            go_wp2_with fail
            go_roundw
            case rel => exact ⟨i + 1, A4, A5, c4, c5, pr ++ [(xA, xl, xc)], rfl, rfl, by push_cast; rfl, by omega, HPR2, HS7⟩
            case measure => simp [intOf]; omega
          · obtain rfl : i = K := by omega
            have hL1 : ((L : Int) - 1) = ((L - 1 : Nat) : Int) := by omega
            by_cases h1 : i < next
            all_goals
              go_wp2_with fail
              go_meet
              exact ⟨A23, A24, c23, c24, pr, rfl, rfl, HPR, HSR⟩
      case rest =>
        obtain ⟨A23, A24, c23, c24, pr, rfl, rfl, HPR, HSF⟩ := hcut
        have hsf := (unhide HSF).perm (show _ = sl 22 1 A23 K c23 (hds pr) * (sl 4 1 A24 K c24 ((endsL ql K).map Value.bool) * ((RcB g k m.next m.arr m.iss m.pen m.done * (MapAt k.mb (rowsP L8) * (BitAt k.bb V8 k.win ba8 * (JoinAt k.jb j8 * P)))) * (sl 22 1 A15 tr.length c15 (hds tr) * (sl 4 1 (some ⟨zc, 0, none⟩) L L (came.map Value.bool) * (Asn.blk z 72 (confC win') * (sl 79 9 (some ⟨pb, po, none⟩) L c11 (pkC (pksR 0 ps)) * (Y * Asn.exact W0))))))) by ac_rfl)
        have hyr : ∀ {rs : List (Option Addr × Nat × Nat)} {out : List (List UInt8)}, rowsOk Y rs out → rowsOk (sl 4 1 A24 K c24 ((endsL ql K).map Value.bool) * ((RcB g k m.next m.arr m.iss m.pen m.done * (MapAt k.mb (rowsP L8) * (BitAt k.bb V8 k.win ba8 * (JoinAt k.jb j8 * P)))) * (sl 22 1 A15 tr.length c15 (hds tr) * (sl 4 1 (some ⟨zc, 0, none⟩) L L (came.map Value.bool) * (Asn.blk z 72 (confC win') * (sl 79 9 (some ⟨pb, po, none⟩) L c11 (pkC (pksR 0 ps)) * (Y * Asn.exact W0))))))) rs out := fun h => (((((h.left (X := Asn.exact W0)).right.right).right).right).right).right
        have hrr : rdRows (sl 22 1 A23 K c23 (hds pr) * (sl 4 1 A24 K c24 ((endsL ql K).map Value.bool) * ((RcB g k m.next m.arr m.iss m.pen m.done * (MapAt k.mb (rowsP L8) * (BitAt k.bb V8 k.win ba8 * (JoinAt k.jb j8 * P)))) * (sl 22 1 A15 tr.length c15 (hds tr) * (sl 4 1 (some ⟨zc, 0, none⟩) L L (came.map Value.bool) * (Asn.blk z 72 (confC win') * (sl 79 9 (some ⟨pb, po, none⟩) L c11 (pkC (pksR 0 ps)) * (Y * Asn.exact W0)))))))) A23 K (partsL ql K) := (hyr (unhide HPR).2).rows (rd_sl (e := 22) (c := c23)) (unhide HPR).1
        have hre : rd (sl 22 1 A23 K c23 (hds pr) * (sl 4 1 A24 K c24 ((endsL ql K).map Value.bool) * ((RcB g k m.next m.arr m.iss m.pen m.done * (MapAt k.mb (rowsP L8) * (BitAt k.bb V8 k.win ba8 * (JoinAt k.jb j8 * P)))) * (sl 22 1 A15 tr.length c15 (hds tr) * (sl 4 1 (some ⟨zc, 0, none⟩) L L (came.map Value.bool) * (Asn.blk z 72 (confC win') * (sl 79 9 (some ⟨pb, po, none⟩) L c11 (pkC (pksR 0 ps)) * (Y * Asn.exact W0)))))))) 1 A24 K ((endsL ql K).map Value.bool) := ((rd_sl (e := 4) (c := c24)).left).right
        have hall := refAll W0 wc (sl 22 1 A23 K c23 (hds pr) * (sl 4 1 A24 K c24 ((endsL ql K).map Value.bool) * ((RcB g k m.next m.arr m.iss m.pen m.done * (MapAt k.mb (rowsP L8) * (BitAt k.bb V8 k.win ba8 * (JoinAt k.jb j8 * P)))) * (sl 22 1 A15 tr.length c15 (hds tr) * (sl 4 1 (some ⟨zc, 0, none⟩) L L (came.map Value.bool) * (Asn.blk z 72 (confC win') * (sl 79 9 (some ⟨pb, po, none⟩) L c11 (pkC (pksR 0 ps)) * (Y * Asn.exact W0)))))))) A23 A24 K c23 K c24 (partsL ql K) (endsL ql K) hsf hrr hre (by omega) (by omega)
        have hw : (allF (endsL ql K) 0 (partsL ql K) [] []).1 = told := by
          rw [allF_row (unhide HROW) K (by rw [unhide HQLEN]; exact hKL), ← unhide HST8]
        rw [hw] at hall
        obtain ⟨n1, hn1⟩ : ∃ n1, n1 = (allF (endsL ql K) 0 (partsL ql K) [] []).2.1 := ⟨_, rfl⟩
        obtain ⟨n2, hn2⟩ : ∃ n2, n2 = (allF (endsL ql K) 0 (partsL ql K) [] []).2.2 := ⟨_, rfl⟩
        rw [← hn1, ← hn2] at hall
        have hTl : T = told.length := by rw [unhide HT, unhide HTR]
        rw [← hTl] at hall
        have hrT : rdRows (sl 22 1 A23 K c23 (hds pr) * (sl 4 1 A24 K c24 ((endsL ql K).map Value.bool) * ((RcB g k m.next m.arr m.iss m.pen m.done * (MapAt k.mb (rowsP L8) * (BitAt k.bb V8 k.win ba8 * (JoinAt k.jb j8 * P)))) * (sl 22 1 A15 tr.length c15 (hds tr) * (sl 4 1 (some ⟨zc, 0, none⟩) L L (came.map Value.bool) * (Asn.blk z 72 (confC win') * (sl 79 9 (some ⟨pb, po, none⟩) L c11 (pkC (pksR 0 ps)) * (Y * Asn.exact W0)))))))) A15 T told := by
          refine ⟨tr, by rw [hTl, unhide HTR], hTl.symm, ?_, fun i r l a b => ?_⟩
          · rw [unhide HT]
            exact ((((rd_sl (e := 22) (c := c15)).left).right).right).right
          · have h1 := (hyr (unhide HROWS)).2 i r l a b
            exact ⟨h1.1.right, h1.2⟩
        have HALL := hide hall
        have HRT := hide hrT
        have hT5 : T ≤ 481 := by omega
        clear hsf hyr hrr hre hall hw hn1 hn2 hrT HSF HPR hTl htold
        go_wp2_with fail
        refine (unhide HALL).mono ?_
        rintro e w1 ⟨X2, A2, c2, rfl, hs9, hr9⟩
        have hsame := refSame W0 w1 (X2 * (sl 22 1 A23 K c23 (hds pr) * (sl 4 1 A24 K c24 ((endsL ql K).map Value.bool) * ((RcB g k m.next m.arr m.iss m.pen m.done * (MapAt k.mb (rowsP L8) * (BitAt k.bb V8 k.win ba8 * (JoinAt k.jb j8 * P)))) * (sl 22 1 A15 tr.length c15 (hds tr) * (sl 4 1 (some ⟨zc, 0, none⟩) L L (came.map Value.bool) * (Asn.blk z 72 (confC win') * (sl 79 9 (some ⟨pb, po, none⟩) L c11 (pkC (pksR 0 ps)) * (Y * Asn.exact W0))))))))) A15 A2 T c15 T c2 told told hs9 (unhide HRT).right hr9 (by omega) (by omega)
        rw [decide_eq_true rfl] at hsame
        have HSAME := hide hsame
        have HS9 := hide hs9
        clear hsame hs9 hr9 HALL HRT
        go_wp2_with fail
        refine (unhide HSAME).mono ?_
        rintro e w2 ⟨rfl, hb2⟩
        have hs10 := (unhide HS9).under hb2
        have hd := rc_done (hs10.perm (show _ = RcB g k m.next m.arr m.iss m.pen m.done * (X2 * (sl 22 1 A23 K c23 (hds pr) * (sl 4 1 A24 K c24 ((endsL ql K).map Value.bool) * ((MapAt k.mb (rowsP L8) * (BitAt k.bb V8 k.win ba8 * (JoinAt k.jb j8 * P))) * (sl 22 1 A15 tr.length c15 (hds tr) * (sl 4 1 (some ⟨zc, 0, none⟩) L L (came.map Value.bool) * (Asn.blk z 72 (confC win') * (sl 79 9 (some ⟨pb, po, none⟩) L c11 (pkC (pksR 0 ps)) * (Y * Asn.exact W0))))))))) by ac_rfl))
        have hbel := hide (Sat.below (hs10.perm (show _ = Asn.exact W0 * (X2 * (sl 22 1 A23 K c23 (hds pr) * (sl 4 1 A24 K c24 ((endsL ql K).map Value.bool) * ((RcB g k m.next m.arr m.iss m.pen m.done * (MapAt k.mb (rowsP L8) * (BitAt k.bb V8 k.win ba8 * (JoinAt k.jb j8 * P)))) * (sl 22 1 A15 tr.length c15 (hds tr) * (sl 4 1 (some ⟨zc, 0, none⟩) L L (came.map Value.bool) * (Asn.blk z 72 (confC win') * (sl 79 9 (some ⟨pb, po, none⟩) L c11 (pkC (pksR 0 ps)) * Y)))))))) by ac_rfl)))
        rw [unhide HDN] at hd
        clear hs10 HSAME HS9 hb2
        by_cases hnl : next = L
        · rw [decide_eq_true hnl] at hd
          have hz : ((next : Int) == (L : Int)) = true := by simp; omega
          have HD := hide hd
          clear hd
          go_wp2_with (go_at_call 43; refine (unhide HD).mono ?_; rintro e w' ⟨rfl, rfl⟩)
          go_ret
          exact ⟨rfl, unhide hbel⟩
        · rw [decide_eq_false hnl] at hd
          have hz : ((next : Int) == (L : Int)) = false := by simp; omega
          have HD := hide hd
          clear hd
          go_wp2_with (go_at_call 43; refine (unhide HD).mono ?_; rintro e w' ⟨rfl, rfl⟩)
          go_ret
          exact ⟨rfl, unhide hbel⟩
end Go.Proofs.Ytdfidijlconhnaa
