/- The reference's cut: Pieces; the law's row of packets. -/
import Derived.Test.YtdfidijlconhnaaR11
import Derived.Test.YtdfidijlconhnaaRcAw
namespace Go.Proofs.Ytdfidijlconhnaa
open Go.RowKit Asn

/-- Rows of bytes, as a slice holds them: nothing empty, nothing long. -/
def MsgOk (F : Asn) (A : Option Addr) (n : Nat) (ls : List (List UInt8)) : Prop :=
  ∃ rs : List (Option Addr × Nat × Nat), rs.length = n ∧ rd F 1 A n (hds rs) ∧ rowsOk F rs ls ∧ ∀ r ∈ rs, 1 ≤ r.2.1 ∧ r.2.1 ≤ 60 ∧ r.2.1 ≤ r.2.2 ∧ r.2.2 ≤ maxLen
theorem MsgOk.at_ {F : Asn} {A : Option Addr} {n i : Nat} {ls : List (List UInt8)} (h : MsgOk F A n ls) (hi : i < n) :
    ∃ (B : Option Addr) (m c : Nat) (l : List UInt8), ls[i]? = some l ∧ 1 ≤ m ∧ m ≤ 60 ∧ m ≤ c ∧ c ≤ maxLen ∧ rd F 1 B m (bytes l) ∧ (∀ E w, Sat E w F → ∃ ad, A = some ad ∧ w.cell? (ad.add i) = some (.slice B m c)) := by
  obtain ⟨rs, h1, h2, h3, h4⟩ := h
  have hr : rs[i]? = some rs[i] := List.getElem?_eq_getElem (by omega)
  have hl : ls[i]? = some (ls[i]'(by have := h3.1; omega)) := List.getElem?_eq_getElem _
  obtain ⟨h5, _⟩ := h3.2 i _ _ hr hl
  obtain ⟨a1, a2, a3, a4⟩ := h4 _ (List.mem_of_getElem? hr)
  exact ⟨_, _, _, _, hl, a1, a2, a3, a4, h5, fun E w hs => (RdW.of_rd h2 hs).at_ (by rw [hds, List.getElem?_map, hr]; rfl)⟩
theorem MsgOk.len {F : Asn} {A : Option Addr} {n : Nat} {ls : List (List UInt8)} (h : MsgOk F A n ls) : ls.length = n := by
  obtain ⟨rs, h1, h2, h3, h4⟩ := h
  rw [← h3.1, h1]
/-- All messages, cut. -/
def piecesL (ls : List (List UInt8)) (mtu : Nat) : List (List UInt8 × Bool × Bool) := ls.flatMap fun m => cutL m mtu
theorem cutL_len {m : List UInt8} {mtu : Nat} (h2 : m.length ≤ 60) (h4 : mtu ≤ 20) : (cutL m mtu).length ≤ 80 := by
  unfold cutL cntP
  rw [List.length_map, List.length_range]
  exact Nat.le_trans (Nat.div_le_self _ _) (by omega)
theorem piecesL_take (ls : List (List UInt8)) (mtu i : Nat) (l : List UInt8) (h : ls[i]? = some l) : piecesL (ls.take (i + 1)) mtu = piecesL (ls.take i) mtu ++ cutL l mtu := by
  unfold piecesL
  rw [List.take_add_one, h, List.flatMap_append]
  simp
set_option maxHeartbeats 2000000 in
set_option maxRecDepth 100000 in
theorem pieces11 {E w : World} {F : Asn} (A : Option Addr) (n c mtu : Nat) (ls : List (List UInt8)) (hs : Sat E w F) (hm : MsgOk F A n ls) (hn : n ≤ 6) (h3 : 1 ≤ mtu) (h4 : mtu ≤ 20) :
    Calls Try.prog 69 #[.int .i64 mtu, .slice A n c] w fun e w' => ∃ X A2 c2 ps, e = .returned (.slice A2 (ps : List PcR).length c2) ∧ Sat E w' (sl 52 3 A2 ps.length c2 (pcC ps) * (X * F)) ∧ (∀ p ∈ ps, PcOk X p) ∧ ps.map PcR.abs = piecesL ls mtu ∧ ps.length ≤ 480 := by
  have HM := hide hm
  have HLL := hide hm.len
  clear hm
  go_enter Try.func69, Try.ntmps69
  go_wp2_with fail
  go_loopw [5, 6] (fun s5 s6 wr => ∃ (i : Nat) (A2 : Option Addr) (c2 : Nat) (ps : List PcR) (X : Asn), s5 = .slice A2 ps.length c2 ∧ s6 = .int .i64 i ∧ i ≤ n ∧ Hid (∀ p ∈ ps, PcOk X p) ∧ Hid (ps.map PcR.abs = piecesL (ls.take i) mtu) ∧ ps.length ≤ i * 80 ∧ Sat E wr (sl 52 3 A2 ps.length c2 (pcC ps) * (X * F)))
    (fun _ s6 _ => n - (intOf s6).toNat)
  case atStart => exact ⟨0, none, 0, [], 1, rfl, rfl, Nat.zero_le _, fun p hp => by simp at hp, rfl, Nat.zero_le _, (Sat.slNil (e := 52) (z := 3) hs).perm (by rw [one_sep]; rfl)⟩
  case round =>
    obtain ⟨i, A2, c2, ps, X, rfl, rfl, hin, HOK, HMAP, hpl, hsr⟩ := hrel
    clear hs
    by_cases hlt : i < n
    · obtain ⟨B, m, d, l, hl, m1, m60, hmd, hdm, hrd, hat⟩ := (unhide HM).at_ hlt
      obtain ⟨ad, rfl, hcell⟩ := hat E wr hsr.right.right
      have hll : l.length = m := rdlen hsr.right.right hrd
      have HC := hide (cut11 (F := sl 52 3 A2 ps.length c2 (pcC ps) * (X * F)) B m d mtu l hsr hrd.right.right m1 m60 hmd h3 h4 hdm)
      have hcl := cutL_len (m := l) (mtu := mtu) (by omega) h4
      have HT := hide (piecesL_take ls mtu i l hl)
      clear hat hrd hl hsr
      go_wp2_with fail
      refine (unhide HC).mono ?_
      rintro e w2 ⟨Y, A4, c4, qs, rfl, hs2, hok2, hmap2⟩
      have hql : qs.length ≤ 80 := by
        have := congrArg List.length hmap2
        rw [List.length_map] at this
        omega
      obtain ⟨A5, c5, w5, run5, hs5⟩ := Sat.append (P := Try.prog) (t := 28) (ty := 28) (d := c4) elt_pieces (hs2.f3) (Sat.slRd (e := 52) (c := c4) hs2) pcC_one (by unfold maxLen; omega) (by omega)
      have R5 := Lib.hid run5
      have hnew : ∀ p ∈ ps ++ qs, PcOk (Y * X) p := by
        intro p hp
        rcases List.mem_append.1 hp with hp | hp
        · exact rd.right ((unhide HOK) p hp)
        · exact rd.left (hok2 p hp)
      have hmap3 : (ps ++ qs).map PcR.abs = piecesL (ls.take (i + 1)) mtu := by rw [List.map_append, unhide HMAP, hmap2, unhide HT]
      have HNEW := hide hnew
      have HMAP3 := hide hmap3
      have HS5 := hide ((hs5.perm (show _ = sl 52 3 A4 qs.length c4 (pcC qs) * (sl 52 3 A5 (ps.length + qs.length) c5 (pcC (ps ++ qs)) * ((Y * X) * F)) by rw [pcC_app]; ac_rfl)).right)
      obtain ⟨N, hN⟩ : ∃ N, N = ps.length := ⟨_, rfl⟩
      obtain ⟨M, hMq⟩ : ∃ M, M = qs.length := ⟨_, rfl⟩
      rw [← hN, ← hMq] at R5 HS5
      rw [← hMq] at hql ⊢
      rw [← hN] at hpl ⊢
      have HN := hide hN
      have HMq := hide hMq
      clear run5 hs5 hs2 hok2 hmap2 hmap3 hnew HC HT HOK HMAP hN hMq hcl hll
      go_wp2_with (at_builtin; refine wpList_appendR rfl (.tmp 24) (.tmp 25) rfl rfl rfl R5.out ?_)
      go_roundw
      case rel =>
        have hl1 : (ps ++ qs).length = N + M := by rw [List.length_append, ← unhide HN, ← unhide HMq]
        refine ⟨i + 1, A5, c5, ps ++ qs, Y * X, by rw [hl1], by push_cast; rfl, by omega, HNEW, HMAP3, ?_, ?_⟩
        · rw [hl1]; omega
        · rw [hl1]
          exact unhide HS5
      case measure => simp [intOf]; omega
    · obtain rfl : i = n := by omega
      have hfin : ps.map PcR.abs = piecesL ls mtu := by rw [unhide HMAP, List.take_of_length_le (by rw [unhide HLL]; exact Nat.le_refl _)]
      have HF := hide hfin
      have HS := hide hsr
      have HPL := hide (show ps.length ≤ 480 by omega)
      obtain ⟨N, hN⟩ : ∃ N, N = ps.length := ⟨_, rfl⟩
      rw [← hN] at hpl ⊢
      have HN := hide hN
      clear hfin hsr hN
      go_wp2_with fail
      go_ret
      exact ⟨X, A2, c2, ps, by rw [← unhide HN]; rfl, unhide HS, unhide HOK, unhide HF, unhide HPL⟩
end Go.Proofs.Ytdfidijlconhnaa
