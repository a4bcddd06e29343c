/- The receiver: the iterator of what is next. -/
import Derived.Test.YtdfidijlconhnaaRcL
import Derived.Test.YtdfidijlconhnaaRegI
import Derived.Sort.CutIn
namespace Go.Proofs.Ytdfidijlconhnaa
open Go.RowKit Asn
attribute [local go_sem] Oper.semAt_some

/-- What the iterator holds when i of them came. -/
def OrdM (a g : Nat) (k : RcK) (L : List Pk) (n0 arr iss pen : Nat) (don : Bool) (i : Nat) : Asn :=
  Asn.blk a 74 #[.pointer (some ⟨g, 0, none⟩)] * (RcB g k (n0 + i) arr iss pen don * MapAt k.mb (rowsP (restR L n0 i)))
/-- How far it is, by the world. -/
def ordMeas (g n : Nat) (w : World) : Nat := match w.cell? ⟨g, 9, none⟩ with
  | some (.int _ x) => n - x.toNat
  | _ => 0
theorem lookup_pk {E w : World} {F : Asn} {g : Nat} {L : List Pk} (hs : Sat E w (MapAt g (rowsP L) * F)) (n : Int) :
    (Instr.lookup 117 (.map (some g)) (.int .i64 n) true).run Try.prog w = .ok (.tuple #[((getP L n).getD noPk).val, .bool (getP L n).isSome]) w := by
  have h := hs.lookupI (P := Try.prog) (T := 117) (kt := 3) (et := 79) (zv := noPk.val) Try.underlying117 Try.underlying3 (zero_run (by kernel_rfl)) n
  rw [mget_rows] at h
  rw [h]
  cases getP L n <;> rfl
theorem del_pk {E w : World} {F : Asn} {g : Nat} {L : List Pk} (hs : Sat E w (MapAt g (rowsP L) * F)) (n : Int) (ty : TypeId) :
    ∃ w', (Builtin.delete_ #[117, 3] ty #[.map (some g), .int .i64 n]).run Try.prog w = .ok (.tuple #[]) w' ∧ Sat E w' (MapAt g (rowsP (delP L n)) * F) := by
  obtain ⟨w', h1, h2⟩ := hs.deleteI (P := Try.prog) (T := 117) (kt := 3) (et := 79) Try.underlying117 Try.underlying3 n ty
  rw [mdel_rows] at h2
  exact ⟨w', h1, h2⟩
set_option maxHeartbeats 4000000 in
set_option maxRecDepth 100000 in
theorem ord_seq (E : World) (a g : Nat) (k : RcK) (L : List Pk) (n0 arr iss pen : Nat) (don : Bool) (hb : n0 + L.length ≤ 4611686018427387904) :
    SeqSM E Try.prog 109 #[.pointer (some ⟨a, 0, none⟩)] (fun p : Pk => #[p.val]) (fun pre _ => OrdM a g k L n0 arr iss pen don (pre.length + 1)) (fun pre => OrdM a g k L n0 arr iss pen don pre.length) (fun _ => 1)
      (fun xs => xs = runP L n0) (fun pre => ∃ t, runP L n0 = pre ++ t) (fun pre x => ∃ t, runP L n0 = pre ++ x :: t) := by
  intro l J Jx W hY hsat
  refine callsIn_wide.1 (callsIn_of_wp (F := Fence.wide) (n := 0) Try.func109 rfl trivial ?_ rfl)
  simp only [Try.ntmps109, List.size_toArray, List.length_cons, List.length_nil, Nat.reduceAdd, Nat.reduceSub, Array.replicate_succ, Array.replicate_zero, List.push_toArray, List.append_toArray, List.nil_append, List.cons_append]
  gi_wp2
  gi_loopw [3, 4] (fun _ _ wr => ∃ pre : List Pk, pre.length ≤ L.length ∧ Hid (runP L n0 = pre ++ runP (restR L n0 pre.length) (n0 + pre.length)) ∧ Sat E wr (OrdM a g k L n0 arr iss pen don pre.length * J pre)) (fun _ _ wr => ordMeas g (n0 + L.length + 1) wr)
  case atStart => exact ⟨[], Nat.zero_le _, by show _ = _; simp [restR], hsat⟩
  case round =>
    obtain ⟨pre, hle, HR, hsr⟩ := hrel
    obtain ⟨m, hm⟩ : ∃ m, m = n0 + pre.length := ⟨_, rfl⟩
    obtain ⟨M, hM⟩ : ∃ M, M = restR L n0 pre.length := ⟨_, rfl⟩
    have hm2 : (n0 : Int) + pre.length = m := by omega
    have hmb : m ≤ 4611686018427387904 := by omega
    have hmeas : ordMeas g (n0 + L.length + 1) wr = n0 + L.length + 1 - m := by
      have := hsr.asc.f2.asc.cell 9
      unfold ordMeas
      rw [this]
      show n0 + L.length + 1 - (((n0 + pre.length : Nat) : Int)).toNat = _
      rw [Int.toNat_natCast, hm]
    have hgp : ∃ o, o = getP M m := ⟨_, rfl⟩
    obtain ⟨o, ho⟩ := hgp
    obtain ⟨p, hp⟩ : ∃ p, p = o.getD noPk := ⟨_, rfl⟩
    obtain ⟨⟨pk, fl, pa, sr, ds, co, q, pu, A, n, c, b⟩, hpp⟩ : ∃ p', p' = p := ⟨_, rfl⟩
    have HK1 := hide (hsr.perm (show _ = (Asn.blk a 74 #[.pointer (some ⟨g, 0, none⟩)] * (RcB g k m arr iss pen don * (MapAt k.mb (rowsP M) * J pre))) * (1 : Asn) by unfold OrdM; rw [hM, hm, sep_one]; ac_rfl))
    have HLK : Hid (∀ (W : World) (R : Asn), Sat E W (MapAt k.mb (rowsP M) * R) → (Instr.lookup 117 (.map (some k.mb)) (.int .i64 m) true).run Try.prog W = .ok (.tuple #[.agg #[.int .i64 pk, .int .i64 fl, .int .i64 pa, .int .i64 sr, .int .i64 ds, .int .i64 co, .int .i64 q, .int .i64 pu, .slice A n c], .bool o.isSome]) W) := by
      intro W R h
      rw [lookup_pk h, ← ho, ← hp, ← hpp]
      rfl
    have HO := hide ho
    have HP := hide hp
    have HPP := hide hpp
    have HM := hide hM
    have HMM := hide hm
    have HMEAS := hide hmeas
    clear hsr ho hp hpp hM hm hm2 hmeas hsat
    gi_wp2
    refine wpIn_wide.2 ?_
    refine wp_region_slr (Q := _) (E := E) (fun W => ∃ R, Sat E W ((Asn.blk a 74 #[.pointer (some ⟨g, 0, none⟩)] * (RcB g k m arr iss pen don * (MapAt k.mb (rowsP M) * J pre))) * R)) [13] [] [12] [] (fun i_ => (79, noPk.cells, fun g_ => .pointer (some ⟨g_, 0, none⟩))) [0, 1, 2, 3, 4, 5, 6, 7, 8, 9, 10, 11, 12, 13, 14] (by kernel_rfl) (by kernel_rfl) (unhide HK1) (fun W R h => ⟨_, h.asc⟩) ?_
    iterate 8
      refine wpS_f _ rfl rfl (v := ?_) ?_ ?_
      rotate_left
      · rintro W ⟨R, hW⟩
        have f0 : W.cell? ⟨a, 0, none⟩ = some (.pointer (some ⟨g, 0, none⟩)) := hW.asc.cell 0
        have f1 : W.cell? ⟨g, 2, none⟩ = some (.map (some k.mb)) := hW.asc.f2.asc.cell 2
        have f2 : W.cell? ⟨g, 9, none⟩ = some (.int .i64 m) := hW.asc.f2.asc.cell 9
        go_simp
        first | rfl | (rw [IntKind.wrap_i64]; omega)
      go_simp
    refine wpS_f _ rfl rfl (v := .tuple #[.agg #[.int .i64 pk, .int .i64 fl, .int .i64 pa, .int .i64 sr, .int .i64 ds, .int .i64 co, .int .i64 q, .int .i64 pu, .slice A n c], .bool o.isSome]) (freeS_lookup rfl 117 _ _ rfl (.map (some k.mb)) (.int .i64 m) _ rfl rfl (fun W ⟨R, hW⟩ => unhide HLK W _ hW.asc.f2.asc.f2.asc)) ?_
    go_simp
    iterate 3
      refine wpS_f _ rfl rfl (v := ?_) ?_ ?_
      rotate_left
      · rintro W ⟨R, hW⟩
        have f0 : W.cell? ⟨a, 0, none⟩ = some (.pointer (some ⟨g, 0, none⟩)) := hW.asc.cell 0
        have f1 : W.cell? ⟨g, 2, none⟩ = some (.map (some k.mb)) := hW.asc.f2.asc.cell 2
        have f2 : W.cell? ⟨g, 9, none⟩ = some (.int .i64 m) := hW.asc.f2.asc.cell 9
        go_simp
        first | rfl | (rw [IntKind.wrap_i64]; omega)
      go_simp
    refine wpS_a _ rfl rfl (fun W => by unfold stp; go_simp; exact ⟨rfl, rfl⟩) (fun g_3 => ?_)
    go_simp
    refine wpS_e _ rfl rfl (fun W R hW => ?_)
    have hr_ := hW.asc
    refine stp_store_row rfl 79 _ _ rfl (g_3) (#[.int .i64 pk, .int .i64 fl, .int .i64 pa, .int .i64 sr, .int .i64 ds, .int .i64 co, .int .i64 q, .int .i64 pu, .slice A n c]) rfl rfl 79 _ hr_.blk (by kernel_rfl) rfl (by first | rfl | simp [Value.oneCell']) ?_
    refine ⟨(Asn.blk a 74 #[.pointer (some ⟨g, 0, none⟩)] * (RcB g k m arr iss pen don * (MapAt k.mb (rowsP M) * J pre))) * (Asn.blk g_3 79 #[.int .i64 pk, .int .i64 fl, .int .i64 pa, .int .i64 sr, .int .i64 ds, .int .i64 co, .int .i64 q, .int .i64 pu, .slice A n c] * (1 : Asn)), fun W R h => ⟨_, h.asc⟩, (hr_.row _).perm (by first | ac_rfl | (simp only [Asn.one_sep, Asn.sep_one]; ac_rfl)), ?_⟩
    clear hW hr_
    go_simp
    iterate 1
      refine wpS_f _ rfl rfl (v := ?_) ?_ ?_
      rotate_left
      · rintro W ⟨R, hW⟩
        have f0 : W.cell? ⟨a, 0, none⟩ = some (.pointer (some ⟨g, 0, none⟩)) := hW.asc.cell 0
        have f1 : W.cell? ⟨g, 2, none⟩ = some (.map (some k.mb)) := hW.asc.f2.asc.cell 2
        have f2 : W.cell? ⟨g, 9, none⟩ = some (.int .i64 m) := hW.asc.f2.asc.cell 9
        go_simp
        first | rfl | (rw [IntKind.wrap_i64]; omega)
      go_simp
    refine wpS_n (fun w2 hs2 => ?_)
    rw [sep_one] at hs2
    clear HK1 HLK
    cases o with
    | none =>
      have HS2 := hide hs2
      clear hs2
      gi_wp2
      refine bodyPost_ret (results_none rfl _ _ _) rfl ?_
      refine ⟨⟨_, rfl⟩, .inl ⟨pre, ?_, ?_⟩⟩
      · have h1 := unhide HR
        have h2 := unhide HM
        have h3 : ((n0 : Int) + pre.length) = m := by have := unhide HMM; omega
        rw [h1, ← h2, h3, runP_none (unhide HO).symm, List.append_nil]
      · rw [unhide HMM, unhide HM] at HS2
        exact ((unhide HS2).perm (show _ = Asn.blk g_3 79 #[.int .i64 pk, .int .i64 fl, .int .i64 pa, .int .i64 sr, .int .i64 ds, .int .i64 co, .int .i64 q, .int .i64 pu, .slice A n c] * (OrdM a g k L n0 arr iss pen don pre.length * J pre) by unfold OrdM; ac_rfl)).right
    | some p0 =>
      obtain rfl : p = p0 := unhide HP
      have HS2 := hide (hs2.perm (show _ = (Asn.blk a 74 #[.pointer (some ⟨g, 0, none⟩)] * (RcB g k m arr iss pen don * (J pre * Asn.blk g_3 79 #[.int .i64 pk, .int .i64 fl, .int .i64 pa, .int .i64 sr, .int .i64 ds, .int .i64 co, .int .i64 q, .int .i64 pu, .slice A n c]))) * MapAt k.mb (rowsP M) by ac_rfl))
      clear hs2
      gi_wp2
      refine wpIn_wide.2 ?_
      refine wp_region_slr (Q := _) (E := E) (fun W => ∃ R, Sat E W ((Asn.blk a 74 #[.pointer (some ⟨g, 0, none⟩)] * (RcB g k m arr iss pen don * (J pre * Asn.blk g_3 79 #[.int .i64 pk, .int .i64 fl, .int .i64 pa, .int .i64 sr, .int .i64 ds, .int .i64 co, .int .i64 q, .int .i64 pu, .slice A n c]))) * R)) [8] [] [] [] (fun _ => (0, #[], fun _ => undef)) [0, 1, 2, 3, 4, 5, 6, 7, 8] (by kernel_rfl) (by kernel_rfl) (unhide HS2) (fun W R h => ⟨_, h.asc⟩) ?_
      iterate 8
        refine wpS_f _ rfl rfl (v := ?_) ?_ ?_
        rotate_left
        · rintro W ⟨R, hW⟩
          have f0 : W.cell? ⟨a, 0, none⟩ = some (.pointer (some ⟨g, 0, none⟩)) := hW.asc.cell 0
          have f1 : W.cell? ⟨g, 2, none⟩ = some (.map (some k.mb)) := hW.asc.f2.asc.cell 2
          have f2 : W.cell? ⟨g, 9, none⟩ = some (.int .i64 m) := hW.asc.f2.asc.cell 9
          go_simp
          first | rfl | (rw [IntKind.wrap_i64]; omega)
        go_simp
      refine wpS_e _ rfl rfl (fun W R hW => ?_)
      obtain ⟨w_, r_, s_⟩ := del_pk (hW.perm (show _ = MapAt k.mb (rowsP M) * (Asn.blk a 74 #[.pointer (some ⟨g, 0, none⟩)] * (RcB g k m arr iss pen don * (J pre * Asn.blk g_3 79 #[.int .i64 pk, .int .i64 fl, .int .i64 pa, .int .i64 sr, .int .i64 ds, .int .i64 co, .int .i64 q, .int .i64 pu, .slice A n c])) * R) by ac_rfl)) m _
      refine stp_delete rfl _ _ rfl rfl rfl r_ ?_
      refine ⟨(Asn.blk a 74 #[.pointer (some ⟨g, 0, none⟩)] * (RcB g k m arr iss pen don * (J pre * Asn.blk g_3 79 #[.int .i64 pk, .int .i64 fl, .int .i64 pa, .int .i64 sr, .int .i64 ds, .int .i64 co, .int .i64 q, .int .i64 pu, .slice A n c]))) * (MapAt k.mb (rowsP (delP M m))), fun W R h => ⟨_, h.asc⟩, s_.perm (by first | ac_rfl | (simp only [Asn.one_sep, Asn.sep_one]; ac_rfl)), ?_⟩
      clear hW r_ s_
      go_simp
      refine wpS_n (fun w3 hs3 => ?_)
      have hs4 := hs3.perm (show _ = RcB g k m arr iss pen don * (Asn.blk a 74 #[.pointer (some ⟨g, 0, none⟩)] * (MapAt k.mb (rowsP (delP M m)) * (J pre * Asn.blk g_3 79 #[.int .i64 pk, .int .i64 fl, .int .i64 pa, .int .i64 sr, .int .i64 ds, .int .i64 co, .int .i64 q, .int .i64 pu, .slice A n c]))) by ac_rfl)
      have d0 : w3.cell? ⟨a, 0, none⟩ = some (.pointer (some ⟨g, 0, none⟩)) := hs4.f2.cell 0
      have d1 : w3.cell? ⟨g, 9, none⟩ = some (.int .i64 m) := hs4.cell 9
      have d2 : w3.frozen? ⟨g, 9, none⟩ = false := hs4.frozen 9
      have HS4 := hide (hs4.set 9 (.int .i64 ((m : Int) + 1)))
      clear hs3 hs4 HS2
      gi_upto_region 4 with (fail)
      obtain ⟨w4, hw4⟩ : ∃ w4, w4 = w3.setCell ⟨g, 9, none⟩ (.int .i64 ((m : Int) + 1)) := ⟨_, rfl⟩
      rw [← hw4] at HS4 ⊢
      clear hw4 d0 d1 d2
      have hnext : getP (restR L n0 pre.length) ((n0 : Int) + pre.length) = some p := by
        have h3 : ((n0 : Int) + pre.length) = m := by have := unhide HMM; omega
        rw [h3, ← unhide HM]
        exact (unhide HO).symm
      have hmore := runP_more (unhide HR) hnext
      have hs5 := (unhide HS4).perm (show _ = Asn.blk g_3 79 #[.int .i64 pk, .int .i64 fl, .int .i64 pa, .int .i64 sr, .int .i64 ds, .int .i64 co, .int .i64 q, .int .i64 pu, .slice A n c] * (OrdM a g k L n0 arr iss pen don (pre.length + 1) * J pre) by
        have h3 : ((n0 : Int) + pre.length) = m := by have := unhide HMM; omega
        unfold OrdM RcB
        rw [restR, ← unhide HM, h3, show n0 + (pre.length + 1) = m + 1 by have := unhide HMM; omega]
        show Asn.blk _ _ #[_, _, _, _, _, _, _, _, _, _, _, _, _, _] * _ = _
        unfold rcC
        push_cast
        ac_rfl)
      have hblk := hs5.blk
      have HBK := Lib.hid hblk
      obtain ⟨fn, tmps, assign, body, hy, hR⟩ := hY pre p w4 ⟨_, by rw [hmore, List.append_assoc]; rfl⟩ hs5.right
      rw [← unhide HPP] at hy
      unfold Pk.val Pk.cells at hy
      dsimp only at hy
      have HMORE := hide hmore
      have hln : (pre ++ [p]).length ≤ L.length := by
        have := runP_len L n0
        rw [hmore, List.length_append] at this
        omega
      have HLN := hide hln
      clear HS4 hs5 hblk hmore hnext hln
      gi_wp2_with (refine wpListIn_load_row rfl 79 (.tmp 3) rfl g_3 rfl 79 _ (0, 0) _ HBK.out Try.underlying79 rfl (by kernel_rfl) ?_)
      refine hR.mono ?_
      rintro e w5 (⟨rfl, hs6⟩ | ⟨rfl, hs6⟩)
      · have hm6 : ordMeas g (n0 + L.length + 1) w5 = n0 + L.length + 1 - (m + 1) := by
          have h1 := hs6.asc.f2.asc.cell 9
          have h2 : (pre ++ [p]).length = pre.length + 1 := by simp
          rw [h2] at h1
          unfold ordMeas
          rw [h1]
          show n0 + L.length + 1 - (((n0 + (pre.length + 1) : Nat) : Int)).toNat = _
          rw [Int.toNat_natCast, unhide HMM]
          rfl
        have hlt : m + 1 ≤ n0 + L.length := by
          have h1 := unhide HLN
          have h2 := unhide HMM
          rw [List.length_append] at h1
          simp only [List.length_cons, List.length_nil] at h1
          omega
        have HM6 := hide hm6
        have hs7 := hide hs6
        clear hs6 hR hy hm6
        gi_wp2
        refine ⟨⟨pre ++ [p], unhide HLN, HMORE, unhide hs7⟩, ?_⟩
        rw [unhide HM6, unhide HMEAS]
        omega
      · have hs7 := hide hs6
        clear hs6 hR hy
        gi_wp2
        refine bodyPost_ret (results_none rfl _ _ _) rfl ?_
        exact ⟨⟨_, rfl⟩, .inr ⟨_, ⟨_, unhide HMORE⟩, unhide hs7⟩⟩
end Go.Proofs.Ytdfidijlconhnaa
