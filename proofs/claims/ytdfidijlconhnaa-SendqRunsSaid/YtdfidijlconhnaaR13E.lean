/- The document's queue of pieces: Ack, Again. -/
import Derived.Test.YtdfidijlconhnaaR13D
namespace Go.Proofs.Ytdfidijlconhnaa
open Go.RowKit Asn
section
variable {E w : World} {X F : Asn} {most : Nat} {la : Option Addr} {ln lc : Nat} {aa : Option Addr} {an ac next : Nat} {ra : Option Addr} {rn rc : Nat} {ak : List Bool}
set_option maxHeartbeats 1000000 in
set_option maxRecDepth 100000 in
theorem ackR13_no {seq : Int} (hs : Sat E w F) (ha : rd F 1 aa an (bools ak)) (hn : next ≤ an) (hal : an ≤ 60000) (hx : -9223372036854775808 ≤ seq ∧ seq ≤ 9223372036854775807) (hno : lacksD ak next seq = false) :
    Calls Try.prog 21 #[.agg (q13 most la ln lc aa an ac next ra rn rc), .int .i64 seq] w fun e w' => e = .returned (.tuple #[.agg (q13 most la ln lc aa an ac next ra rn rc), .bool false]) ∧ Sat E w' F := by
  have hs1 := (hs.alloc (q13 most la ln lc aa an ac next ra rn rc) 41).alloc (q13 0 none 0 0 none 0 0 0 none 0 0) 41
  rw [World.size_alloc] at hs1
  have hlk := lacks13 (most := most) (la := la) (ln := ln) (lc := lc) (ac := ac) (ra := ra) (rn := rn) (rc := rc) (seq := seq) (RdW.of_rd ha hs1.right.right) hn hal hx
  rw [hno] at hlk
  have HLK := hide hlk
  have HS1 := hide hs1
  have COPY := hide (fun w F g h => @Sat.copy13 E w F most la ln lc aa an ac next ra rn rc g #[] h)
  obtain ⟨b0, hb0⟩ : ∃ b0, b0 = w.heap.size := ⟨_, rfl⟩
  clear hs hs1 ha hn hlk
  unfold q13 at HS1 HLK COPY ⊢
  go_enter Try.func21, Try.ntmps21
  go_wp2_with fail
  refine (unhide HLK).mono ?_
  rintro e w3 ⟨rfl, hb⟩
  have hs4 := (unhide HS1).under hb
  rw [← hb0] at hs4 ⊢
  clear hb0 hb HS1 HLK
  have p0 : w3.cell? ⟨b0, 0, none⟩ = some (.int .i64 most) := hs4.f2.cell 0
  have p1 : w3.cell? ⟨b0, 1, none⟩ = some (.slice la ln lc) := hs4.f2.cell 1
  have p2 : w3.cell? ⟨b0, 2, none⟩ = some (.slice aa an ac) := hs4.f2.cell 2
  have p3 : w3.cell? ⟨b0, 3, none⟩ = some (.int .i64 next) := hs4.f2.cell 3
  have p4 : w3.cell? ⟨b0, 4, none⟩ = some (.slice ra rn rc) := hs4.f2.cell 4
  have t0 : w3.cell? ⟨b0 + 1, 0, none⟩ = some (.int .i64 0) := hs4.cell 0
  have t1 : w3.cell? ⟨b0 + 1, 1, none⟩ = some (.slice none 0 0) := hs4.cell 1
  have t2 : w3.cell? ⟨b0 + 1, 2, none⟩ = some (.slice none 0 0) := hs4.cell 2
  have t3 : w3.cell? ⟨b0 + 1, 3, none⟩ = some (.int .i64 0) := hs4.cell 3
  have t4 : w3.cell? ⟨b0 + 1, 4, none⟩ = some (.slice none 0 0) := hs4.cell 4
  have t5 : ∀ j, w3.frozen? ⟨b0 + 1, j, none⟩ = false := fun j => hs4.frozen j
  have t6 : b0 + 1 < w3.heap.size := Sat.lt (o := .cells _ _ (0, 0)) hs4
  have hs5 := unhide COPY w3 _ (b0 + 1) hs4
  have HB := Lib.hid hs5.blk
  have HS5 := hide hs5.right.right
  clear hs4 hs5
  go_wp2_with fail
  exact bodyPost_ret (results_cell2 (p := 4) (u1 := 5) rfl _ _ _ _ _ _ _ rfl HB.out Try.underlying41 rfl (by kernel_rfl)) rfl ⟨rfl, unhide HS5⟩
def Ack13 (E : World) (X F : Asn) (most : Nat) (la : Option Addr) (ln lc an next : Nat) (ak : List Bool) (row : List Int) (seq : Int) (e : Ending) (w' : World) : Prop :=
  ∃ (G : Asn) (aa : Option Addr) (ac : Nat) (ra : Option Addr) (rc : Nat), e = .returned (.tuple #[.agg (q13 most la ln lc aa an ac next ra (row.filter fun y => decide (y ≠ seq)).length rc), .bool true]) ∧ Sat E w' (G * (X * F)) ∧
    rd (G * X) 1 aa an (bools (ak.set seq.toNat true)) ∧ RS (G * X) ra (row.filter fun y => decide (y ≠ seq)).length rc (row.filter fun y => decide (y ≠ seq))
set_option maxHeartbeats 4000000 in
set_option maxRecDepth 100000 in
theorem ackR13 {i : Nat} {row : List Int} (hs : Sat E w (X * F)) (ha : rd X 1 aa an (bools ak)) (hr : RS X ra row.length rc row) (hn : next ≤ an) (hal : an ≤ 30000) (hrl : row.length ≤ 30000) (hi : i < next) (hyes : lacksD ak next i = true) :
    Calls Try.prog 21 #[.agg (q13 most la ln lc aa an ac next ra row.length rc), .int .i64 i] w (Ack13 E X F most la ln lc an next ak row i) := by
  have hs1 := (hs.alloc (q13 most la ln lc aa an ac next ra row.length rc) 41).alloc (q13 0 none 0 0 none 0 0 0 none 0 0) 41
  rw [World.size_alloc] at hs1
  have hlk := lacks13 (most := most) (la := la) (ln := ln) (lc := lc) (ac := ac) (ra := ra) (rn := row.length) (rc := rc) (seq := (i : Int)) (RdW.of_rd ha hs1.right.right.left) hn (by omega) (by omega)
  rw [hyes] at hlk
  have hian : i < an := by omega
  have hakl : ak.length = an := by have := (RdW.of_rd ha hs.left).1; rw [bools_len] at this; omega
  obtain ⟨q, hq⟩ : ∃ q, q = row.length := ⟨_, rfl⟩
  have HQ := hide hq
  rw [← hq] at hs1 hlk hrl ⊢
  have HLK := hide hlk
  have HS1 := hide hs1
  have HA := hide ha
  have HRR := hide hr
  have HAKL := hide hakl
  obtain ⟨b0, hb0⟩ : ∃ b0, b0 = w.heap.size := ⟨_, rfl⟩
  clear hs hs1 ha hr hn hlk hq hyes hakl
  unfold q13 at HS1 HLK ⊢
  go_enter Try.func21, Try.ntmps21
  go_wp2_with fail
  refine (unhide HLK).mono ?_
  rintro e w3 ⟨rfl, hb⟩
  have hs4 := (unhide HS1).under hb
  rw [← hb0] at hs4 ⊢
  clear hb0 hb HS1 HLK
  have f2 : w3.cell? ⟨b0, 2, none⟩ = some (.slice aa an ac) := hs4.f2.cell 2
  have k0 : b0 < w3.heap.size := Sat.lt (o := .cells _ _ (0, 0)) hs4.f2
  have hs5 : Sat E (w3.alloc (.cells #[] 4)) (sl 4 1 (some ⟨w3.heap.size, 0, none⟩) 0 0 [] * _) := Sat.slMk (hs4.alloc #[] 4) (by simp) (Nat.le_refl _) (Nat.zero_le _) (by simp) (by intro j u hu; simp at hu)
  obtain ⟨A3, c3, w8, r3, hs10⟩ := Sat.append (P := Try.prog) (t := 39) (ty := 39) (d := ac) (m := an) elt_bools hs5 (RdW.of_rd (unhide HA) hs5.right.right.right.left) bools_one (by unfold maxLen; omega) (by omega)
  rw [Nat.zero_add] at r3 hs10
  rw [List.nil_append] at hs10
  obtain ⟨b, off, rfl⟩ : ∃ b off, A3 = some ⟨b, off, none⟩ := by
    rcases hs10.slOpen with ⟨_, h0, _⟩ | ⟨b, off, _, hA, _⟩
    · omega
    · exact ⟨b, off, hA⟩
  have R3 := Lib.hid r3
  have g1 : w8.cell? ⟨b0, 2, none⟩ = some (.slice aa an ac) := hs10.f3.cell 2
  have g2 : ∀ j, w8.frozen? ⟨b0, j, none⟩ = false := fun j => hs10.f3.frozen j
  have g3 : b0 < w8.heap.size := Sat.lt (o := .cells _ _ (0, 0)) hs10.f3
  have hs11 := (hs10.f3.set 2 (.slice (some ⟨b, off, none⟩) an c3)).perm (show _ = sl 4 1 (some ⟨b, off, none⟩) an c3 (bools ak) * (Asn.blk b0 41 #[.int .i64 most, .slice la ln lc, .slice (some ⟨b, off, none⟩) an c3, .int .i64 next, .slice ra q rc] * (Asn.blk (b0 + 1) 41 #[.int .i64 0, .slice none 0 0, .slice none 0 0, .int .i64 0, .slice none 0 0] * (X * F))) by show Asn.blk _ _ #[_, _, _, _, _] * _ = _; ac_rfl)
  go_upto_region 4 with (at_builtin; refine wpList_appendR rfl (.tmp 13) (.tmp 15) rfl rfl rfl R3.out ?_)
  obtain ⟨w9, hw9⟩ : ∃ w9, w9 = w8.setCell ⟨b0, 2, none⟩ (.slice (some ⟨b, off, none⟩) an c3) := ⟨_, rfl⟩
  rw [← hw9] at hs11 ⊢
  clear hw9 g1 g2 g3 hs10 r3 R3 hs5 hs4 f2 k0
  have f2 : w9.cell? ⟨b0, 2, none⟩ = some (.slice (some ⟨b, off, none⟩) an c3) := hs11.f2.cell 2
  have f5 := hs11.slFro
  have f6 := hs11.slIn
  obtain ⟨ad, had, hc⟩ := hs11.slRd.bool_at hian
  obtain rfl : ad = ⟨b, off, none⟩ := by simpa using had.symm
  rw [add_lit'] at hc
  have hs12 := hs11.slSet (i := i) (v := .bool true) (by omega)
  have e1 : (bools ak).set i (.bool true) = bools (ak.set i true) := by unfold bools; rw [List.map_set]
  rw [e1] at hs12
  have hs13 := hide ((hs12.slNil (e := 3) (z := 1)).perm (show _ = sl 3 1 none 0 0 [] * (Asn.blk b0 41 #[.int .i64 most, .slice la ln lc, .slice (some ⟨b, off, none⟩) an c3, .int .i64 next, .slice ra q rc] * (sl 4 1 (some ⟨b, off, none⟩) an c3 (bools (ak.set i true)) * (Asn.blk (b0 + 1) 41 #[.int .i64 0, .slice none 0 0, .slice none 0 0, .int .i64 0, .slice none 0 0] * (X * F)))) by ac_rfl))
  clear hs11 hs12 e1 had
  go_wp2_with fail
  clear f2 f5 f6 hc
  go_loopw [6, 7] (fun s6 s7 wr => ∃ (k m lc' : Nat) (lA : Option Addr) (M : List Int), s7 = .int .i64 k ∧ s6 = .slice lA m lc' ∧ k ≤ q ∧ m ≤ k ∧ Hid (m = M.length ∧ M = (row.take k).filter (fun y => decide (y ≠ (i : Int)))) ∧ Sat E wr (sl 3 1 lA m lc' (ints M) * (Asn.blk b0 41 #[.int .i64 most, .slice la ln lc, .slice (some ⟨b, off, none⟩) an c3, .int .i64 next, .slice ra q rc] * (sl 4 1 (some ⟨b, off, none⟩) an c3 (bools (ak.set i true)) * (Asn.blk (b0 + 1) 41 #[.int .i64 0, .slice none 0 0, .slice none 0 0, .int .i64 0, .slice none 0 0] * (X * F)))))) (fun _ s7 _ => q - (intOf s7).toNat)
  case atStart => exact ⟨0, 0, 0, none, [], rfl, rfl, Nat.zero_le _, Nat.le_refl _, hide ⟨rfl, by simp⟩, unhide hs13⟩
  case round =>
    obtain ⟨k, m, lc', lA, M, rfl, rfl, hk, hmk, HM, hsr⟩ := hrel
    clear hs13
    have f4 : wr.cell? ⟨b0, 4, none⟩ = some (.slice ra q rc) := hsr.f2.cell 4
    by_cases hlt : k < q
    · have hlt2 : (k : Int) < q := by omega
      obtain ⟨ad, rfl, hc⟩ := (RdW.of_rd (unhide HRR).rd hsr.right.right.right.right.left).int_at (i := k) (by have := unhide HQ; omega)
      have hts := take_snocI row (k := k) (by have := unhide HQ; omega)
      obtain ⟨y, hy⟩ : ∃ y, y = row.getD k 0 := ⟨_, rfl⟩
      rw [← hy] at hc hts
      have hnx : (row.take (k + 1)).filter (fun y => decide (y ≠ (i : Int))) = M ++ (if y ≠ (i : Int) then [y] else []) := by
        rw [hts, List.filter_append, ← HM.out.2]
        by_cases h : y = (i : Int) <;> simp [h]
      by_cases hyi : y = (i : Int)
      · rw [if_neg (by simp [hyi])] at hnx
        have HNX := hide hnx
        have HS := hide hsr
        have hyb : (y != (i : Int)) = false := by simp [hyi]
        clear hsr hts hy hnx hyi
        go_wp2_with fail
        go_roundw
        case rel => exact ⟨k + 1, m, lc', lA, M, by go_num, rfl, by omega, by omega, hide ⟨HM.out.1, by rw [unhide HNX, List.append_nil]⟩, unhide HS⟩
        case measure => simp [intOf]; omega
      · rw [if_pos hyi] at hnx
        have HNX := hide hnx
        have hyb : (y != (i : Int)) = true := by simp [hyi]
        obtain ⟨A4, c4, w5, run4, hs5⟩ := Sat.app1 (t := 34) (ty := 34) hsr elt_ints (.int .i64 y) rfl (by unfold maxLen; omega) (by omega)
        have R4 := Lib.hid run4
        have HS := hide hs5
        clear hsr hts hy hnx hyi run4 hs5
        go_wp2_with (at_builtin; refine wpList_appendR rfl (.tmp 36) (.tmp 42) rfl rfl rfl R4.out ?_)
        go_roundw
        case rel => exact ⟨k + 1, m + 1, c4, A4, M ++ [y], by go_num, rfl, by omega, by omega, hide ⟨by rw [List.length_append, ← HM.out.1]; rfl, (unhide HNX).symm⟩, by rw [ints_append]; exact unhide HS⟩
        case measure => simp [intOf]; omega
    · obtain rfl : k = q := by omega
      have hk0 : ¬ (k : Int) < k := by omega
      have hM : M = row.filter (fun y => decide (y ≠ (i : Int))) := by rw [HM.out.2, List.take_of_length_le (by rw [unhide HQ]; exact Nat.le_refl _)]
      obtain ⟨hm1, -⟩ := HM.out
      have HM1 := hide hm1
      have HMM := hide hM
      have q2 : ∀ j, wr.frozen? ⟨b0, j, none⟩ = false := fun j => hsr.f2.frozen j
      have q3 : b0 < wr.heap.size := Sat.lt (o := .cells _ _ (0, 0)) hsr.f2
      have p0 : wr.cell? ⟨b0, 0, none⟩ = some (.int .i64 most) := hsr.f2.cell 0
      have p1 : wr.cell? ⟨b0, 1, none⟩ = some (.slice la ln lc) := hsr.f2.cell 1
      have p2 : wr.cell? ⟨b0, 2, none⟩ = some (.slice (some ⟨b, off, none⟩) an c3) := hsr.f2.cell 2
      have p3 : wr.cell? ⟨b0, 3, none⟩ = some (.int .i64 next) := hsr.f2.cell 3
      have t0 : wr.cell? ⟨b0 + 1, 0, none⟩ = some (.int .i64 0) := hsr.f4.cell 0
      have t1 : wr.cell? ⟨b0 + 1, 1, none⟩ = some (.slice none 0 0) := hsr.f4.cell 1
      have t2 : wr.cell? ⟨b0 + 1, 2, none⟩ = some (.slice none 0 0) := hsr.f4.cell 2
      have t3 : wr.cell? ⟨b0 + 1, 3, none⟩ = some (.int .i64 0) := hsr.f4.cell 3
      have t4 : wr.cell? ⟨b0 + 1, 4, none⟩ = some (.slice none 0 0) := hsr.f4.cell 4
      have t5 : ∀ j, wr.frozen? ⟨b0 + 1, j, none⟩ = false := fun j => hsr.f4.frozen j
      have t6 : b0 + 1 < wr.heap.size := Sat.lt (o := .cells _ _ (0, 0)) hsr.f4
      have hs12 := (((((hsr.f2.set 4 (.slice lA m lc')).f4.set 0 (.int .i64 most)).set 1 (.slice la ln lc)).set 2 (.slice (some ⟨b, off, none⟩) an c3)).set 3 (.int .i64 next)).set 4 (.slice lA m lc')
      have HB := Lib.hid hs12.blk
      obtain ⟨GB, hGB⟩ : ∃ GB, GB = sl 4 1 (some ⟨b, off, none⟩) an c3 (bools (ak.set i true)) := ⟨_, rfl⟩
      obtain ⟨GP, hGP⟩ : ∃ GP, GP = sl 3 1 lA m lc' (ints M) := ⟨_, rfl⟩
      have HGB : Hid (rd ((GB * GP) * X) 1 (some ⟨b, off, none⟩) an (bools (ak.set i true))) := by rw [hGB]; exact rd_sl.left.left
      have HGP : Hid (RS ((GB * GP) * X) lA m lc' M) := by rw [hGP]; exact (Sat.slRS hsr).right.left
      rw [← hGB, ← hGP] at hs12
      have HS12 := hide ((hs12.right.perm (show _ = Asn.blk b0 41 #[.int .i64 most, .slice la ln lc, .slice (some ⟨b, off, none⟩) an c3, .int .i64 next, .slice lA m lc'] * ((GB * GP) * (X * F)) by show Asn.blk _ _ #[_, _, _, _, _] * _ = _; ac_rfl)).right)
      clear hsr hs12 hGB hGP hm1 hM hlt
      go_wp2_with fail
      exact bodyPost_ret (results_cell2 (p := 4) (u1 := 5) rfl _ _ _ _ _ _ _ rfl HB.out Try.underlying41 rfl (by kernel_rfl)) rfl ⟨GB * GP, some ⟨b, off, none⟩, c3, lA, lc', by rw [← unhide HMM, ← unhide HM1]; rfl, unhide HS12, unhide HGB, by rw [← unhide HMM, ← unhide HM1]; exact unhide HGP⟩
end
end Go.Proofs.Ytdfidijlconhnaa
