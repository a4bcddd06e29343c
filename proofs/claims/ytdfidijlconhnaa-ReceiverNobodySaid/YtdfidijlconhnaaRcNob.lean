/- ReceiverNobody: receivers that nobody made. -/
import Derived.Test.YtdfidijlconhnaaRcAw
namespace Go.Proofs.Ytdfidijlconhnaa
open Go.RowKit Asn
attribute [local go_sem] Oper.semAt_some
set_option maxHeartbeats 4000000 in
set_option maxRecDepth 100000 in
theorem receiverNobody_walk (W : World) (p : Pk) : Calls Try.prog 8 #[p.val] W fun e w' => e = .returned (.bool true) ∧ Below W.heap.size W w' := by
  obtain ⟨pk, fl, pa, sr, ds, co, q, pu, A, n, c, b⟩ := p
  obtain ⟨px, hpx⟩ : ∃ px : Pk, px = ⟨pk, fl, pa, sr, ds, co, q, pu, A, n, c, b⟩ := ⟨_, rfl⟩
  have hpv : px.val = .agg #[.int .i64 pk, .int .i64 fl, .int .i64 pa, .int .i64 sr, .int .i64 ds, .int .i64 co, .int .i64 q, .int .i64 pu, .slice A n c] := by rw [hpx]; rfl
  have hs1 := (((Sat.start W).alloc #[.int .i64 pk, .int .i64 fl, .int .i64 pa, .int .i64 sr, .int .i64 ds, .int .i64 co, .int .i64 q, .int .i64 pu, .slice A n c] 79).alloc #[.pointer none, .pointer none, .map none, .int .i64 0, .int .i64 0, .int .i64 0, .int .i64 0, .int .i64 0, .int .i64 0, .int .i64 0, .int .i64 0, .int .i64 0, .int .i64 0, .bool false] 119).alloc #[.pointer none, .pointer (some ⟨W.heap.size + 1, 0, none⟩)] 74
  rw [World.size_alloc, World.size_alloc] at hs1
  have HPV := hide hpv
  show Calls _ _ #[.agg #[.int .i64 pk, .int .i64 fl, .int .i64 pa, .int .i64 sr, .int .i64 ds, .int .i64 co, .int .i64 q, .int .i64 pu, .slice A n c]] _ _
  clear hpx hpv
  go_enter Try.func8, Try.ntmps8
  go_wp2_with fail
  obtain ⟨s, hss⟩ : ∃ s, s = W.heap.size := ⟨_, rfl⟩
  rw [← hss] at hs1 ⊢
  have HSS := hide hss
  clear hss
  have hs2 := hs1.perm (show _ = Asn.blk s 79 #[.int .i64 pk, .int .i64 fl, .int .i64 pa, .int .i64 sr, .int .i64 ds, .int .i64 co, .int .i64 q, .int .i64 pu, .slice A n c] * (Asn.blk (s + 2) 74 #[.pointer none, .pointer (some ⟨s + 1, 0, none⟩)] * (Asn.blk (s + 1) 119 #[.pointer none, .pointer none, .map none, .int .i64 0, .int .i64 0, .int .i64 0, .int .i64 0, .int .i64 0, .int .i64 0, .int .i64 0, .int .i64 0, .int .i64 0, .int .i64 0, .bool false] * Asn.exact W)) by ac_rfl)
  clear hs1
  go_loopw [15] (fun i wr => ∃ k : Nat, k ≤ 2 ∧ i = .int .i64 k ∧ Sat W wr (Asn.blk s 79 #[.int .i64 pk, .int .i64 fl, .int .i64 pa, .int .i64 sr, .int .i64 ds, .int .i64 co, .int .i64 q, .int .i64 pu, .slice A n c] * (Asn.blk (s + 2) 74 #[.pointer none, .pointer (some ⟨s + 1, 0, none⟩)] * (Asn.blk (s + 1) 119 #[.pointer none, .pointer none, .map none, .int .i64 0, .int .i64 0, .int .i64 0, .int .i64 0, .int .i64 0, .int .i64 0, .int .i64 0, .int .i64 0, .int .i64 0, .int .i64 0, .bool false] * Asn.exact W)))) (fun i _ => 2 - (intOf i).toNat)
  case atStart => exact ⟨0, by omega, rfl, hs2⟩
  case round =>
    obtain ⟨k, hk, rfl, hsr⟩ := hrel
    clear hs2
    by_cases hlt : k < 2
    · obtain ⟨p, hc, hno⟩ : ∃ p : Option Addr, wr.cell? ⟨s + 2, k, none⟩ = some (.pointer p) ∧ NoRc p wr := by
        rcases (by omega : k = 0 ∨ k = 1) with rfl | rfl
        · exact ⟨_, hsr.f2.cell 0, .inl rfl⟩
        · exact ⟨_, hsr.f2.cell 1, .inr ⟨_, rfl, hsr.f3.cell 0⟩⟩
      have HB := Lib.hid hsr.blk
      have HS := hide hsr
      have HN := hide hno
      have h1 := rcn_take hno px
      rw [unhide HPV] at h1
      have H1 := hide h1
      clear hsr hno h1
      go_wp2_with (refine wpList_load_row rfl 79 (.tmp 1) rfl s rfl 79 _ (0, 0) _ HB.out Try.underlying79 rfl (by kernel_rfl) ?_)
      refine (unhide H1).mono ?_
      rintro e w2 ⟨rfl, hb2⟩
      have hs2 := (unhide HS).under hb2
      have hn2 := (unhide HN).below hb2
      have H2 := hide (rcn_issue hn2)
      have HS2 := hide hs2
      have HN2 := hide hn2
      clear hs2 hn2 hb2 HS HN H1 HB hc
      go_wp2_with fail
      refine (unhide H2).mono ?_
      rintro e w3 ⟨rfl, hb3⟩
      have hs3 := ((unhide HS2).under hb3).allocKeep (.cells #[.int .i64 0, .int .i64 0, .int .i64 0, .int .i64 0, .int .i64 0, .int .i64 0, .int .i64 0, .int .i64 0, .slice none 0 0] 79)
      have hn3 := ((unhide HN2).below hb3).below ((Below.refl _ _).alloc (Nat.le_refl _) (.cells #[.int .i64 0, .int .i64 0, .int .i64 0, .int .i64 0, .int .i64 0, .int .i64 0, .int .i64 0, .int .i64 0, .slice none 0 0] 79))
      obtain ⟨w4, hw4⟩ : ∃ w4, w4 = w3.alloc (.cells #[.int .i64 0, .int .i64 0, .int .i64 0, .int .i64 0, .int .i64 0, .int .i64 0, .int .i64 0, .int .i64 0, .slice none 0 0] 79) := ⟨_, rfl⟩
      have H3 := hide (rcn_pending hn3)
      have HS3 := hide hs3
      have HN3 := hide hn3
      clear hs3 hn3 hb3 HS2 HN2 H2 hw4 w4
      go_wp2_with fail
      refine (unhide H3).mono ?_
      rintro e w5 ⟨rfl, hb5⟩
      have hs5 := (unhide HS3).under hb5
      have hn5 := (unhide HN3).below hb5
      have H5 := hide (rcn_kept hn5)
      have HS5 := hide hs5
      have HN5 := hide hn5
      clear hs5 hn5 hb5 HS3 HN3 H3
      go_wp2_with fail
      refine (unhide H5).mono ?_
      rintro e w6 ⟨rfl, hb6⟩
      have hs6 := (unhide HS5).under hb6
      have hn6 := (unhide HN5).below hb6
      have H6 := hide (rcn_done hn6)
      have HS6 := hide hs6
      have HN6 := hide hn6
      clear hs6 hn6 hb6 HS5 HN5 H5
      go_wp2_with fail
      refine (unhide H6).mono ?_
      rintro e w7 ⟨rfl, hb7⟩
      have hs7 := (unhide HS6).under hb7
      have hn7 := (unhide HN6).below hb7
      have H7 := hide (rcn_line hn7)
      have HS7 := hide hs7
      have HN7 := hide hn7
      clear hs7 hn7 hb7 HS6 HN6 H6
      go_wp2_with fail
      refine (unhide H7).mono ?_
      rintro e w8 ⟨rfl, hb8⟩
      have hs8 := (unhide HS7).under hb8
      have hn8 := (unhide HN7).below hb8
      have H8 := hide (rcn_fork hn8)
      have HS8 := hide hs8
      have HN8 := hide hn8
      clear hs8 hn8 hb8 HS7 HN7 H7
      go_wp2_with fail
      refine (unhide H8).mono ?_
      rintro e w9 ⟨rfl, hb9⟩
      have HS9 := hide ((unhide HS8).under hb9)
      clear hb9 HS8 HN8 H8
      go_wp2_with fail
      go_roundw
      case rel => exact ⟨k + 1, by omega, by go_num, unhide HS9⟩
      case measure => simp [intOf]; omega
    · have HA := hide (rc_awake (hsr.perm (show _ = Asn.exact W * (Asn.blk s 79 #[.int .i64 pk, .int .i64 fl, .int .i64 pa, .int .i64 sr, .int .i64 ds, .int .i64 co, .int .i64 q, .int .i64 pu, .slice A n c] * (Asn.blk (s + 2) 74 #[.pointer none, .pointer (some ⟨s + 1, 0, none⟩)] * Asn.blk (s + 1) 119 #[.pointer none, .pointer none, .map none, .int .i64 0, .int .i64 0, .int .i64 0, .int .i64 0, .int .i64 0, .int .i64 0, .int .i64 0, .int .i64 0, .int .i64 0, .int .i64 0, .bool false])) by ac_rfl)))
      clear hsr
      go_wp2_with fail
      refine (unhide HA).mono ?_
      rintro e w2 ⟨rfl, hs2⟩
      have HB := hide (Sat.below hs2)
      clear hs2 HA
      go_wp2_with fail
      go_ret
      exact ⟨rfl, unhide HB⟩
end Go.Proofs.Ytdfidijlconhnaa
