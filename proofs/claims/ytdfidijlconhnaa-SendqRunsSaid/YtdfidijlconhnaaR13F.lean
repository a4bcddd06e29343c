/- The document's queue of pieces: Again. -/
import Derived.Test.YtdfidijlconhnaaR13E
namespace Go.Proofs.Ytdfidijlconhnaa
open Go.RowKit Asn
section
variable {E w : World} {X F : Asn} {most : Nat} {la : Option Addr} {ln lc : Nat} {aa : Option Addr} {an ac next : Nat} {ra : Option Addr} {rn rc : Nat} {ak : List Bool}
set_option maxHeartbeats 2000000 in
set_option maxRecDepth 100000 in
theorem againR13_no {seq : Int} {row : List Int} (hs : Sat E w F) (ha : rd F 1 aa an (bools ak)) (hr : RS F ra row.length rc row) (hn : next ≤ an) (hal : an ≤ 60000) (hrl : row.length ≤ 60000) (hx : -9223372036854775808 ≤ seq ∧ seq ≤ 9223372036854775807) (hno : (lacksD ak next seq && !decide (seq ∈ row)) = false) :
    Calls Try.prog 22 #[.agg (q13 most la ln lc aa an ac next ra row.length rc), .int .i64 seq] w fun e w' => e = .returned (.tuple #[.agg (q13 most la ln lc aa an ac next ra row.length rc), .bool false]) ∧ Sat E w' F := by
  have hs1 := (hs.alloc (q13 most la ln lc aa an ac next ra row.length rc) 41).alloc (q13 0 none 0 0 none 0 0 0 none 0 0) 41
  rw [World.size_alloc] at hs1
  have HLK : Hid (∀ W, Sat E W F → Calls Try.prog 62 #[.agg (q13 most la ln lc aa an ac next ra row.length rc), .int .i64 seq] W fun e w' => e = .returned (.bool (lacksD ak next seq)) ∧ Below W.heap.size W w') := fun W h => lacks13 (RdW.of_rd ha h) hn hal hx
  obtain ⟨q, hq⟩ : ∃ q, q = row.length := ⟨_, rfl⟩
  have HQ := hide hq
  obtain ⟨b0, hb0⟩ : ∃ b0, b0 = w.heap.size := ⟨_, rfl⟩
  rw [← hq, ← hb0] at hs1
  rw [← hq] at hrl HLK ⊢
  have HS1 := hide hs1
  have HRR := hide hr
  have HNO := hide hno
  have COPY := hide (fun w F g h => @Sat.copy13 E w F most la ln lc aa an ac next ra q rc g #[] h)
  clear hs hs1 ha hr hn hq hno
  unfold q13 at HS1 HLK COPY ⊢
  go_enter Try.func22, Try.ntmps22
  go_upto_region 1 with (fail)
  rw [← hb0]
  clear hb0
  go_wp2_with fail
  go_loopw [6] (fun s6 wr => ∃ k : Nat, s6 = .int .i64 k ∧ k ≤ q ∧ Hid (∀ j, j < k → row.getD j 0 ≠ seq) ∧ Sat E wr (Asn.blk (b0 + 1) 41 #[.int .i64 0, .slice none 0 0, .slice none 0 0, .int .i64 0, .slice none 0 0] * (Asn.blk b0 41 #[.int .i64 most, .slice la ln lc, .slice aa an ac, .int .i64 next, .slice ra q rc] * F))) (fun s6 _ => q - (intOf s6).toNat)
  case atStart => exact ⟨0, rfl, Nat.zero_le _, hide (fun j hj => absurd hj (by omega)), unhide HS1⟩
  case round =>
    obtain ⟨k, rfl, hk, HN, hsr⟩ := hrel
    clear HS1
    have f4 : wr.cell? ⟨b0, 4, none⟩ = some (.slice ra q rc) := hsr.f2.cell 4
    by_cases hlt : k < q
    · have hlt2 : (k : Int) < q := by omega
      obtain ⟨ad, rfl, hc⟩ := (RdW.of_rd (unhide HRR).rd hsr.right.right).int_at (i := k) (by have := unhide HQ; omega)
      obtain ⟨y, hy⟩ : ∃ y, y = row.getD k 0 := ⟨_, rfl⟩
      rw [← hy] at hc
      have HY := hide hy
      clear hy
      by_cases hys : y = seq
      · subst hys
        have p0 : wr.cell? ⟨b0, 0, none⟩ = some (.int .i64 most) := hsr.f2.cell 0
        have p1 : wr.cell? ⟨b0, 1, none⟩ = some (.slice la ln lc) := hsr.f2.cell 1
        have p2 : wr.cell? ⟨b0, 2, none⟩ = some (.slice aa an ac) := hsr.f2.cell 2
        have p3 : wr.cell? ⟨b0, 3, none⟩ = some (.int .i64 next) := hsr.f2.cell 3
        have p4 : wr.cell? ⟨b0, 4, none⟩ = some (.slice (some ad) q rc) := hsr.f2.cell 4
        have t0 : wr.cell? ⟨b0 + 1, 0, none⟩ = some (.int .i64 0) := hsr.cell 0
        have t1 : wr.cell? ⟨b0 + 1, 1, none⟩ = some (.slice none 0 0) := hsr.cell 1
        have t2 : wr.cell? ⟨b0 + 1, 2, none⟩ = some (.slice none 0 0) := hsr.cell 2
        have t3 : wr.cell? ⟨b0 + 1, 3, none⟩ = some (.int .i64 0) := hsr.cell 3
        have t4 : wr.cell? ⟨b0 + 1, 4, none⟩ = some (.slice none 0 0) := hsr.cell 4
        have t5 : ∀ j, wr.frozen? ⟨b0 + 1, j, none⟩ = false := fun j => hsr.frozen j
        have t6 : b0 + 1 < wr.heap.size := Sat.lt (o := .cells _ _ (0, 0)) hsr
        have hs5 := unhide COPY wr _ (b0 + 1) hsr
        have HB := Lib.hid hs5.blk
        have HS5 := hide hs5.right.right
        clear hsr hs5
        go_wp2_with fail
        exact bodyPost_ret (results_cell2 (p := 4) (u1 := 5) rfl _ _ _ _ _ _ _ rfl HB.out Try.underlying41 rfl (by kernel_rfl)) rfl ⟨rfl, unhide HS5⟩
      · have hyb : (y == seq) = false := beq_eq_false_iff_ne.2 hys
        have HS := hide hsr
        clear hsr
        go_wp2_with fail
        go_roundw
        case rel => exact ⟨k + 1, by go_num, by omega, hide (fun j hj => by rcases Nat.lt_succ_iff_lt_or_eq.1 hj with h | h; exact unhide HN j h; rw [h, ← unhide HY]; exact hys), unhide HS⟩
        case measure => simp [intOf]; omega
    · obtain rfl : k = q := by omega
      have hk0 : ¬ (k : Int) < k := by omega
      have hnm : seq ∉ row := by
        intro hm
        obtain ⟨j, hj, rfl⟩ := List.getElem_of_mem hm
        exact unhide HN j (by have := unhide HQ; omega) (getD_lt hj)
      have hlv : lacksD ak next seq = false := by
        have := unhide HNO
        rw [decide_eq_false hnm] at this
        simpa using this
      have hlk := unhide HLK wr hsr.right.right
      rw [hlv] at hlk
      have HLK2 := hide hlk
      have HS := hide hsr
      have p0 : wr.cell? ⟨b0, 0, none⟩ = some (.int .i64 most) := hsr.f2.cell 0
      have p1 : wr.cell? ⟨b0, 1, none⟩ = some (.slice la ln lc) := hsr.f2.cell 1
      have p2 : wr.cell? ⟨b0, 2, none⟩ = some (.slice aa an ac) := hsr.f2.cell 2
      have p3 : wr.cell? ⟨b0, 3, none⟩ = some (.int .i64 next) := hsr.f2.cell 3
      have p4 : wr.cell? ⟨b0, 4, none⟩ = some (.slice ra k rc) := hsr.f2.cell 4
      have t0 : wr.cell? ⟨b0 + 1, 0, none⟩ = some (.int .i64 0) := hsr.cell 0
      have t1 : wr.cell? ⟨b0 + 1, 1, none⟩ = some (.slice none 0 0) := hsr.cell 1
      have t2 : wr.cell? ⟨b0 + 1, 2, none⟩ = some (.slice none 0 0) := hsr.cell 2
      have t3 : wr.cell? ⟨b0 + 1, 3, none⟩ = some (.int .i64 0) := hsr.cell 3
      have t4 : wr.cell? ⟨b0 + 1, 4, none⟩ = some (.slice none 0 0) := hsr.cell 4
      have t5 : ∀ j, wr.frozen? ⟨b0 + 1, j, none⟩ = false := fun j => hsr.frozen j
      have t6 : b0 + 1 < wr.heap.size := Sat.lt (o := .cells _ _ (0, 0)) hsr
      clear hsr hlk hlv hnm hlt HLK
      go_wp2_with fail
      refine (unhide HLK2).mono ?_
      rintro e w3 ⟨rfl, hb⟩
      have hs4 := (unhide HS).under hb
      clear p0 p1 p2 p3 p4 t0 t1 t2 t3 t4 t5 t6 hb HS HLK2 f4
      have p0 : w3.cell? ⟨b0, 0, none⟩ = some (.int .i64 most) := hs4.f2.cell 0
      have p1 : w3.cell? ⟨b0, 1, none⟩ = some (.slice la ln lc) := hs4.f2.cell 1
      have p2 : w3.cell? ⟨b0, 2, none⟩ = some (.slice aa an ac) := hs4.f2.cell 2
      have p3 : w3.cell? ⟨b0, 3, none⟩ = some (.int .i64 next) := hs4.f2.cell 3
      have p4 : w3.cell? ⟨b0, 4, none⟩ = some (.slice ra k rc) := hs4.f2.cell 4
      have t0 : w3.cell? ⟨b0 + 1, 0, none⟩ = some (.int .i64 0) := hs4.cell 0
      have t1 : w3.cell? ⟨b0 + 1, 1, none⟩ = some (.slice none 0 0) := hs4.cell 1
      have t2 : w3.cell? ⟨b0 + 1, 2, none⟩ = some (.slice none 0 0) := hs4.cell 2
      have t3 : w3.cell? ⟨b0 + 1, 3, none⟩ = some (.int .i64 0) := hs4.cell 3
      have t4 : w3.cell? ⟨b0 + 1, 4, none⟩ = some (.slice none 0 0) := hs4.cell 4
      have t5 : ∀ j, w3.frozen? ⟨b0 + 1, j, none⟩ = false := fun j => hs4.frozen j
      have t6 : b0 + 1 < w3.heap.size := Sat.lt (o := .cells _ _ (0, 0)) hs4
      have hs5 := unhide COPY w3 _ (b0 + 1) hs4
      have HB := Lib.hid hs5.blk
      have HS5 := hide hs5.right.right
      clear hs4 hs5
      go_wp2_with fail
      exact bodyPost_ret (results_cell2 (p := 4) (u1 := 5) rfl _ _ _ _ _ _ _ rfl HB.out Try.underlying41 rfl (by kernel_rfl)) rfl ⟨rfl, unhide HS5⟩
def Again13 (E : World) (X F : Asn) (most : Nat) (la : Option Addr) (ln lc : Nat) (aa : Option Addr) (an ac next : Nat) (row : List Int) (seq : Int) (e : Ending) (w' : World) : Prop :=
  ∃ (G : Asn) (ra : Option Addr) (rc : Nat), e = .returned (.tuple #[.agg (q13 most la ln lc aa an ac next ra (row ++ [seq]).length rc), .bool true]) ∧ Sat E w' (G * (X * F)) ∧ RS (G * X) ra (row ++ [seq]).length rc (row ++ [seq])
set_option maxHeartbeats 4000000 in
set_option maxRecDepth 100000 in
theorem againR13 {seq : Int} {row : List Int} (hs : Sat E w (X * F)) (ha : rd X 1 aa an (bools ak)) (hr : RS X ra row.length rc row) (hn : next ≤ an) (hal : an ≤ 60000) (hrl : row.length ≤ 30000) (hx : -9223372036854775808 ≤ seq ∧ seq ≤ 9223372036854775807) (hyes : (lacksD ak next seq && !decide (seq ∈ row)) = true) :
    Calls Try.prog 22 #[.agg (q13 most la ln lc aa an ac next ra row.length rc), .int .i64 seq] w (Again13 E X F most la ln lc aa an ac next row seq) := by
  simp only [Bool.and_eq_true, Bool.not_eq_true', decide_eq_false_iff_not] at hyes
  obtain ⟨hlv, hnm⟩ := hyes
  have hs1 := (hs.alloc (q13 most la ln lc aa an ac next ra row.length rc) 41).alloc (q13 0 none 0 0 none 0 0 0 none 0 0) 41
  rw [World.size_alloc] at hs1
  have HLK : Hid (∀ W, Sat E W (X * F) → Calls Try.prog 62 #[.agg (q13 most la ln lc aa an ac next ra row.length rc), .int .i64 seq] W fun e w' => e = .returned (.bool true) ∧ Below W.heap.size W w') := fun W h => by have := lacks13 (most := most) (la := la) (ln := ln) (lc := lc) (ac := ac) (ra := ra) (rn := row.length) (rc := rc) (RdW.of_rd ha h.left) hn hal hx; rwa [hlv] at this
  obtain ⟨q, hq⟩ : ∃ q, q = row.length := ⟨_, rfl⟩
  have HQ := hide hq
  obtain ⟨b0, hb0⟩ : ∃ b0, b0 = w.heap.size := ⟨_, rfl⟩
  rw [← hq, ← hb0] at hs1
  rw [← hq] at hrl HLK ⊢
  have HS1 := hide hs1
  have HRR := hide hr
  have HNM := hide hnm
  clear hs hs1 ha hr hn hq hlv hnm
  unfold q13 at HS1 HLK ⊢
  go_enter Try.func22, Try.ntmps22
  go_upto_region 1 with (fail)
  rw [← hb0]
  clear hb0
  go_wp2_with fail
  go_loopw [6] (fun s6 wr => ∃ k : Nat, s6 = .int .i64 k ∧ k ≤ q ∧ Hid (∀ j, j < k → row.getD j 0 ≠ seq) ∧ Sat E wr (Asn.blk (b0 + 1) 41 #[.int .i64 0, .slice none 0 0, .slice none 0 0, .int .i64 0, .slice none 0 0] * (Asn.blk b0 41 #[.int .i64 most, .slice la ln lc, .slice aa an ac, .int .i64 next, .slice ra q rc] * (X * F)))) (fun s6 _ => q - (intOf s6).toNat)
  case atStart => exact ⟨0, rfl, Nat.zero_le _, hide (fun j hj => absurd hj (by omega)), unhide HS1⟩
  case round =>
    obtain ⟨k, rfl, hk, HN, hsr⟩ := hrel
    clear HS1
    have f4 : wr.cell? ⟨b0, 4, none⟩ = some (.slice ra q rc) := hsr.f2.cell 4
    by_cases hlt : k < q
    · have hlt2 : (k : Int) < q := by omega
      obtain ⟨ad, rfl, hc⟩ := (RdW.of_rd (unhide HRR).rd hsr.right.right.left).int_at (i := k) (by have := unhide HQ; omega)
      obtain ⟨y, hy⟩ : ∃ y, y = row.getD k 0 := ⟨_, rfl⟩
      rw [← hy] at hc
      have HY := hide hy
      clear hy
      have hys : ¬ y = seq := fun h => unhide HNM (by rw [← h, unhide HY, getD_lt (by have := unhide HQ; omega)]; exact List.getElem_mem _)
      have hyb : (y == seq) = false := beq_eq_false_iff_ne.2 hys
      have HS := hide hsr
      clear hsr
      go_wp2_with fail
      go_roundw
      case rel => exact ⟨k + 1, by go_num, by omega, hide (fun j hj => by rcases Nat.lt_succ_iff_lt_or_eq.1 hj with h | h; exact unhide HN j h; rw [h, ← unhide HY]; exact hys), unhide HS⟩
      case measure => simp [intOf]; omega
    · obtain rfl : k = q := by omega
      have hk0 : ¬ (k : Int) < k := by omega
      have hlk := hide (unhide HLK wr hsr.right.right)
      have HS := hide hsr
      have p0 : wr.cell? ⟨b0, 0, none⟩ = some (.int .i64 most) := hsr.f2.cell 0
      have p1 : wr.cell? ⟨b0, 1, none⟩ = some (.slice la ln lc) := hsr.f2.cell 1
      have p2 : wr.cell? ⟨b0, 2, none⟩ = some (.slice aa an ac) := hsr.f2.cell 2
      have p3 : wr.cell? ⟨b0, 3, none⟩ = some (.int .i64 next) := hsr.f2.cell 3
      have p4 : wr.cell? ⟨b0, 4, none⟩ = some (.slice ra k rc) := hsr.f2.cell 4
      have t0 : wr.cell? ⟨b0 + 1, 0, none⟩ = some (.int .i64 0) := hsr.cell 0
      have t1 : wr.cell? ⟨b0 + 1, 1, none⟩ = some (.slice none 0 0) := hsr.cell 1
      have t2 : wr.cell? ⟨b0 + 1, 2, none⟩ = some (.slice none 0 0) := hsr.cell 2
      have t3 : wr.cell? ⟨b0 + 1, 3, none⟩ = some (.int .i64 0) := hsr.cell 3
      have t4 : wr.cell? ⟨b0 + 1, 4, none⟩ = some (.slice none 0 0) := hsr.cell 4
      have t5 : ∀ j, wr.frozen? ⟨b0 + 1, j, none⟩ = false := fun j => hsr.frozen j
      have t6 : b0 + 1 < wr.heap.size := Sat.lt (o := .cells _ _ (0, 0)) hsr
      clear hsr hlt HLK
      go_wp2_with fail
      refine (unhide hlk).mono ?_
      rintro e w3 ⟨rfl, hb⟩
      have hs4 := (unhide HS).under hb
      clear p0 p1 p2 p3 p4 t0 t1 t2 t3 t4 t5 t6 hb HS hlk f4
      have f4 : w3.cell? ⟨b0, 4, none⟩ = some (.slice ra k rc) := hs4.f2.cell 4
      have k0 : b0 < w3.heap.size := Sat.lt (o := .cells _ _ (0, 0)) hs4.f2
      go_upto_region 8 with (fail)
      have hs5 : Sat E (w3.alloc (.cells #[] 3)) (sl 3 1 (some ⟨w3.heap.size, 0, none⟩) 0 0 [] * _) := Sat.slMk (hs4.alloc #[] 3) (by simp) (Nat.le_refl _) (Nat.zero_le _) (by simp) (by intro j u hu; simp at hu)
      obtain ⟨A3, c3, w8, r3, hs10⟩ := Sat.append (P := Try.prog) (t := 34) (ty := 34) (d := rc) (m := k) elt_ints hs5 (by rw [unhide HQ]; exact RdW.of_rd (unhide HRR).rd hs5.right.right.right.left) oneCell_ints (by unfold maxLen; omega) (by omega)
      rw [Nat.zero_add] at r3 hs10
      rw [List.nil_append] at hs10
      obtain ⟨A4, c4, w9, r4, hs11⟩ := Sat.app1 (t := 34) (ty := 34) hs10 elt_ints (.int .i64 seq) rfl (by unfold maxLen; omega) (by omega)
      have e4 : ints row ++ [.int .i64 seq] = ints (row ++ [seq]) := by rw [ints_append]; rfl
      rw [e4] at hs11
      have hlen : (row ++ [seq]).length = k + 1 := by rw [List.length_append, ← unhide HQ]; rfl
      have HLEN := hide hlen
      have R3 := Lib.hid r3
      have R4 := Lib.hid r4
      have q2 : ∀ j, w9.frozen? ⟨b0, j, none⟩ = false := fun j => hs11.f3.frozen j
      have q3 : b0 < w9.heap.size := Sat.lt (o := .cells _ _ (0, 0)) hs11.f3
      have p0 : w9.cell? ⟨b0, 0, none⟩ = some (.int .i64 most) := hs11.f3.cell 0
      have p1 : w9.cell? ⟨b0, 1, none⟩ = some (.slice la ln lc) := hs11.f3.cell 1
      have p2 : w9.cell? ⟨b0, 2, none⟩ = some (.slice aa an ac) := hs11.f3.cell 2
      have p3 : w9.cell? ⟨b0, 3, none⟩ = some (.int .i64 next) := hs11.f3.cell 3
      have p4 : w9.cell? ⟨b0, 4, none⟩ = some (.slice ra k rc) := hs11.f3.cell 4
      have t0 : w9.cell? ⟨b0 + 1, 0, none⟩ = some (.int .i64 0) := hs11.f2.cell 0
      have t1 : w9.cell? ⟨b0 + 1, 1, none⟩ = some (.slice none 0 0) := hs11.f2.cell 1
      have t2 : w9.cell? ⟨b0 + 1, 2, none⟩ = some (.slice none 0 0) := hs11.f2.cell 2
      have t3 : w9.cell? ⟨b0 + 1, 3, none⟩ = some (.int .i64 0) := hs11.f2.cell 3
      have t4 : w9.cell? ⟨b0 + 1, 4, none⟩ = some (.slice none 0 0) := hs11.f2.cell 4
      have t5 : ∀ j, w9.frozen? ⟨b0 + 1, j, none⟩ = false := fun j => hs11.f2.frozen j
      have t6 : b0 + 1 < w9.heap.size := Sat.lt (o := .cells _ _ (0, 0)) hs11.f2
      have hs12 := (((((hs11.f3.set 4 (.slice A4 (k + 1) c4)).f3.set 0 (.int .i64 most)).set 1 (.slice la ln lc)).set 2 (.slice aa an ac)).set 3 (.int .i64 next)).set 4 (.slice A4 (k + 1) c4)
      have HB := Lib.hid hs12.blk
      obtain ⟨GP, hGP⟩ : ∃ GP, GP = sl 3 1 A4 (k + 1) c4 (ints (row ++ [seq])) := ⟨_, rfl⟩
      have HGP : Hid (RS (GP * X) A4 (k + 1) c4 (row ++ [seq])) := by rw [hGP]; exact (Sat.slRS hs11).left
      rw [← hGP] at hs12
      have HS12 := hide ((hs12.right.perm (show _ = Asn.blk b0 41 #[.int .i64 most, .slice la ln lc, .slice aa an ac, .int .i64 next, .slice A4 (k + 1) c4] * (GP * (X * F)) by show Asn.blk _ _ #[_, _, _, _, _] * _ = _; ac_rfl)).right)
      clear hs4 hs5 hs10 hs11 hs12 r3 r4 hGP e4 hlen
      go_wp2_with (first
        | (at_builtin; refine wpList_appendR rfl (.tmp 27) (.tmp 29) rfl rfl rfl R3.out ?_)
        | (at_builtin; refine wpList_appendR rfl (.tmp 30) (.tmp 32) rfl rfl rfl R4.out ?_))
      exact bodyPost_ret (results_cell2 (p := 4) (u1 := 5) rfl _ _ _ _ _ _ _ rfl HB.out Try.underlying41 rfl (by kernel_rfl)) rfl ⟨GP, A4, c4, by rw [unhide HLEN]; rfl, unhide HS12, by rw [unhide HLEN]; exact unhide HGP⟩
end
end Go.Proofs.Ytdfidijlconhnaa
