/- The queue of pieces: Ack. -/
import Derived.Test.YtdfidijlconhnaaSqM
namespace Go.Proofs.Ytdfidijlconhnaa
open Go.RowKit Asn
attribute [local go_sem] Oper.semAt_some
theorem headN_bd (low next : Nat) (H : List HR) (h : low ≤ next) : low ≤ ((lackN low next H).head?).getD next ∧ ((lackN low next H).head?).getD next ≤ next := by
  cases e : lackN low next H with
  | nil => exact ⟨h, Nat.le_refl _⟩
  | cons x l =>
    have hx : x ∈ lackN low next H := by rw [e]; exact List.mem_cons_self
    unfold lackN at hx
    rw [List.mem_filter, List.mem_range'_1] at hx
    simp only [List.head?_cons, Option.getD_some]
    omega
/-- What Ack leaves. -/
def AckP (E : World) (F : Asn) (g most low next : Nat) (H1 : List HR) (R1 : List Int) (B : Option Addr) (e : Ending) (w' : World) : Prop :=
  e = .returned (.bool true) ∧ ∃ A2 c2 d2, Sat E w' (QAt g most (((lackN low next H1).head?).getD next) next (H1.drop (((lackN low next H1).head?).getD next - low)) R1 A2 c2 B d2 * F)
theorem ackAt_len (H : List HR) (i : Nat) : (ackAt H i).length = H.length := by unfold ackAt; split <;> simp
section
variable {E w : World} {F : Asn} {g most low next : Nat} {H : List HR} {row : List Int} {A B : Option Addr} {c d : Nat}
theorem sq_ack_no {seq : Int} (hs : Sat E w (QAt g most low next H row A c B d * F)) (h1 : 1 ≤ most) (hl : next ≤ low + H.length) (hb : low ≤ 100000) (hh : H.length ≤ 100000) (hx : -9223372036854775808 ≤ seq ∧ seq ≤ 9223372036854775807) (hno : lacksB low next H seq = false) :
    Calls Try.prog 14 #[.pointer (some ⟨g, 0, none⟩), .int .i64 seq] w fun e w' => e = .returned (.bool false) ∧ Sat E w' (QAt g most low next H row A c B d * F) := by
  have hlk := sq_lacks hs h1 hl hb hh hx
  rw [hno] at hlk
  have HLK := hide hlk
  clear hlk hs
  refine callsIn_wide.1 (callsIn_of_wp_marks (F := Fence.wide) (n := 0) Try.func14 rfl trivial (wpIn_wide.2 ?_) rfl)
  simp only [Try.ntmps14, List.size_toArray, List.length_cons, List.length_nil, Nat.reduceAdd, Nat.reduceSub, Array.replicate_succ, Array.replicate_zero, List.push_toArray, List.append_toArray, List.nil_append, List.cons_append]
  go_wp2_with fail
  refine (unhide HLK).mono ?_
  rintro e w2 ⟨rfl, hs2⟩
  have HS := hide hs2
  clear hs2 HLK
  go_wp2_with fail
  refine ⟨_, results_tmp rfl _ _ _, rfl, unhide HS⟩
set_option maxHeartbeats 4000000 in
set_option maxRecDepth 100000 in
theorem sq_ack {i : Nat} {h : HR} (hs : Sat E w (QAt g most low next H row A c B d * F)) (h1 : 1 ≤ most) (hl : next ≤ low + H.length) (hb : low ≤ 100000) (hh : H.length ≤ 60000) (hr : row.length ≤ 60000) (hi : H[i]? = some h) (hk : h.k = false) (hin : low + i < next) :
    Calls Try.prog 14 #[.pointer (some ⟨g, 0, none⟩), .int .i64 ((low : Int) + i)] w (AckP E F g most low next (ackAt H i) (row.filter fun y => decide (y ≠ (low : Int) + i)) B) := by
  have hln : low ≤ next := by omega
  have hil : i < H.length := (List.getElem?_eq_some_iff.1 hi).1
  have hlk := sq_lacks (seq := (low : Int) + i) hs h1 hl hb (by omega) (by omega)
  have hlv : lacksB low next H ((low : Int) + i) = true := by
    unfold lacksB
    have e : ((low : Int) + i - low).toNat = i := by omega
    rw [e, hi, decide_eq_true (show (low : Int) ≤ (low : Int) + i by omega), decide_eq_true (show (low : Int) + i < next by omega)]
    simp [hk]
  rw [hlv] at hlk
  have HLK := hide hlk
  obtain ⟨b, off, rfl, -⟩ := hs.heldAt hi
  have hll := ackAt_len H i
  have hac := heldC_ack H i hil
  obtain ⟨H1, hH1⟩ : ∃ H1, H1 = ackAt H i := ⟨_, rfl⟩
  rw [← hH1] at hll hac ⊢
  have HHAT : Hid (∀ W R, Sat E W (QAt g most low next H row (some ⟨b, off, none⟩) c B d * R) → W.cell? ⟨b, off + i * 4 + 3, none⟩ = some (.bool false)) := fun W R hW => by
    obtain ⟨b', off', hA, -, -, -, h4⟩ := hW.heldAt hi
    simp only [Option.some.injEq, Addr.mk.injEq, and_true] at hA
    obtain ⟨rfl, rfl⟩ := hA
    rw [h4, hk]
  obtain ⟨R1, hR1⟩ : ∃ R1, R1 = row.filter fun y => decide (y ≠ (low : Int) + i) := ⟨_, rfl⟩
  rw [← hR1]
  have HR1 := hide hR1
  have HAC := hide hac
  have HLL := hide hll
  have HW : Hid (IntKind.i64.wrap ((low : Int) + i - low) = (i : Int)) := by show _ = _; rw [IntKind.wrap_i64]; omega
  have hl1 : next ≤ low + H1.length := by omega
  have hh1 : H1.length ≤ 60000 := by omega
  clear hs hlk hlv hi hk hll hac hH1 hR1
  refine callsIn_wide.1 (callsIn_of_wp_marks (F := Fence.wide) (n := 0) Try.func14 rfl trivial (wpIn_wide.2 ?_) rfl)
  simp only [Try.ntmps14, List.size_toArray, List.length_cons, List.length_nil, Nat.reduceAdd, Nat.reduceSub, Array.replicate_succ, Array.replicate_zero, List.push_toArray, List.append_toArray, List.nil_append, List.cons_append]
  go_wp2_with fail
  refine (unhide HLK).mono ?_
  rintro e w2 ⟨rfl, hs2⟩
  obtain ⟨q, hq⟩ : ∃ q, q = H.length := ⟨_, rfl⟩
  have HQ := hide hq
  have HS2 := hide (hs2.perm (show _ = (Asn.blk g 65 (queueC most low next (some ⟨b, off, none⟩) q c B row.length d) * (sl 3 1 B row.length d (ints row) * F)) * sl 124 4 (some ⟨b, off, none⟩) q c (heldC H) by unfold QAt; rw [hq]; ac_rfl))
  have hilq : i < q := by omega
  clear hs2 HLK hq
  go_wp2_with fail
  refine wp_region_slr (Q := _) (E := E) (fun W => ∃ R, Sat E W ((Asn.blk g 65 (queueC most low next (some ⟨b, off, none⟩) q c B row.length d) * (sl 3 1 B row.length d (ints row) * F)) * R)) [12] [] [] [] (fun _ => (0, #[], fun _ => undef)) [0, 1, 2, 3, 4, 5, 6, 7, 8, 9, 10, 11, 12] (by kernel_rfl) (by kernel_rfl) (unhide HS2) (fun W R h => ⟨_, h.asc⟩) ?_
  iterate 12
    refine wpS_f _ rfl rfl (v := ?_) ?_ ?_
    rotate_left
    · rintro W ⟨R, hW⟩
      have f1 : W.cell? ⟨g, 1, none⟩ = some (.int .i64 low) := hW.asc.cell 1
      have f3 : W.cell? ⟨g, 3, none⟩ = some (.slice (some ⟨b, off, none⟩) q c) := hW.asc.cell 3
      have f5 : IntKind.i64.wrap ((low : Int) + i - low) = (i : Int) := HW.out
      go_simp
      first | rfl | (rw [IntKind.wrap_i64]; omega)
    go_simp
  refine wpS_e _ rfl rfl (fun W R hW => ?_)
  have u0 : W.cell? ⟨b, off + i * 4 + 3, none⟩ = some (.bool false) := unhide HHAT W (F * R) (hW.perm (by unfold QAt; rw [← unhide HQ]; ac_rfl))
  have u1 : W.frozen? ⟨b, off + i * 4 + 3, none⟩ = false := (hW.perm (show _ = sl 124 4 (some ⟨b, off, none⟩) q c (heldC H) * (Asn.blk g 65 (queueC most low next (some ⟨b, off, none⟩) q c B row.length d) * (sl 3 1 B row.length d (ints row) * F) * R) by ac_rfl)).slFro _
  have hst := hide (show Sat E _ ((Asn.blk g 65 (queueC most low next (some ⟨b, off, none⟩) q c B row.length d) * (sl 3 1 B row.length d (ints row) * F)) * (sl 124 4 (some ⟨b, off, none⟩) q c ((heldC H).set (i * 4 + 3) (.bool true))) * R) from ((hW.perm (show _ = sl 124 4 (some ⟨b, off, none⟩) q c (heldC H) * (Asn.blk g 65 (queueC most low next (some ⟨b, off, none⟩) q c B row.length d) * (sl 3 1 B row.length d (ints row) * F) * R) by ac_rfl)).slSet (i := i * 4 + 3) (v := .bool true) (by omega)).perm (by first | ac_rfl | (simp only [Asn.one_sep, Asn.sep_one]; ac_rfl)))
  unfold stp
  go_simp
  refine (show ∃ F', _ from ⟨(Asn.blk g 65 (queueC most low next (some ⟨b, off, none⟩) q c B row.length d) * (sl 3 1 B row.length d (ints row) * F)) * (sl 124 4 (some ⟨b, off, none⟩) q c ((heldC H).set (i * 4 + 3) (.bool true))), fun W R h => ⟨_, h.asc⟩, unhide hst, ?_⟩)
  clear hst hW u0 u1
  go_simp
  refine wpS_n (fun w3 hs3 => ?_)
  have hs4 := hs3.perm (show _ = Asn.blk g 65 (queueC most low next (some ⟨b, off, none⟩) q c B row.length d) * (sl 3 1 B row.length d (ints row) * (sl 124 4 (some ⟨b, off, none⟩) q c (heldC H1) * F)) by rw [← unhide HAC]; ac_rfl)
  have hg : g < w3.heap.size := Sat.lt (o := .cells _ _ (0, 0)) hs4
  have hdr := row_drop (i := 4) ((low : Int) + i) hs4 rfl (by omega)
  rw [← unhide HR1] at hdr
  have HDR := hide hdr
  clear hs3 hs4 hdr HS2
  go_wp2_with fail
  refine (unhide HDR).mono ?_
  rintro e w4 ⟨rfl, hs5⟩
  have hq1 : q = H1.length := by rw [unhide HLL, unhide HQ]
  have d2 : w4.cell? ⟨g, 2, none⟩ = some (.int .i64 next) := hs5.cell 2
  have hs6 := (hs5.perm (show _ = QAt g most low next H1 R1 (some ⟨b, off, none⟩) c B d * F by unfold QAt; rw [← hq1]; show Asn.blk _ _ #[_, _, _, _, _] * _ = _ ; unfold queueC; ac_rfl)).alloc #[.int .i64 next] 3
  have hs7 := hs6.alloc #[.pointer (some ⟨g, 0, none⟩)] 23
  rw [World.size_alloc] at hs7
  have HS7 := hide hs7
  clear hs5 hs6 hs7 HDR hq1 hg
  go_wp2_with (go_at_call 60; refine (sq_lacking _ _ (.inr ⟨g, rfl⟩)).mono ?_; rintro e w' ⟨rfl, rfl⟩)
  obtain ⟨z, hz⟩ : ∃ z, z = w4.heap.size := ⟨_, rfl⟩
  rw [← hz] at HS7 ⊢
  clear hz d2
  refine wpIn_wide.1 (wpIn_rangeFunc_sl (E := E) (α := Nat) (R := F) (sq_seq E (z + 1) g most low next H1 R1 (some ⟨b, off, none⟩) B c d h1 hl1 hb (by omega) hln) rfl (enters_of Try.func93 (by kernel_rfl) rfl) (fun _ => by rfl)
    (fun pre => Asn.fact (pre = []) * Asn.blk z 3 #[.int .i64 next]) (fun c _ => Asn.fact (c = .exit 0) * Asn.blk z 3 #[.int .i64 (((lackN low next H1).head?).getD next : Nat)]) ?h0 ?round ?done ?stop)
  case h0 => exact (Sat.mkFact (p := ([] : List Nat) = []) rfl (unhide HS7)).perm (by unfold SeqM; ac_rfl)
  case round =>
    rintro l pre x ⟨t, ht⟩ T W hsW
    have HT := Lib.hid ht
    clear ht HS7
    gi_wp2
    refine ⟨_, hsW, ?_⟩
    intro W2 T3 rec hs2
    obtain ⟨rfl, hs3⟩ := Sat.fact (p := pre = []) (F := Asn.blk z 3 #[.int .i64 next] * (SeqM (z + 1) g most low next H1 R1 (some ⟨b, off, none⟩) c B d * (Asn.obj l (.loop rec) * T3))) (hs2.perm (by ac_rfl))
    have d0 : W2.cell? ⟨z, 0, none⟩ = some (.int .i64 next) := hs3.cell 0
    have d1 : W2.frozen? ⟨z, 0, none⟩ = false := hs3.frozen 0
    have hhd : ((lackN low next H1).head?).getD next = x := by rw [HT.out]; rfl
    have HHD := hide hhd
    have HS3 := hide (hs3.set 0 (.int .i64 x))
    clear hs2 hs3 hsW hhd
    gi_wp2
    exact (Sat.mkFact (p := Code.exit 0 = Code.exit 0) rfl (unhide HS3)).perm (by show _ = (SeqM (z + 1) g most low next H1 R1 (some ⟨b, off, none⟩) c B d * (Asn.fact _ * Asn.blk z _ _)) * (Asn.obj l (.loop rec) * T3); rw [unhide HHD]; show _ * (Asn.blk z 3 #[_] * _) = _; ac_rfl)
  case done =>
    rintro D xs W hx hsW
    obtain ⟨rfl, hs3⟩ := Sat.fact (p := xs = []) (F := Asn.blk z 3 #[.int .i64 next] * (SeqM (z + 1) g most low next H1 R1 (some ⟨b, off, none⟩) c B d * (Asn.obj D (.deferred (some [])) * F))) (hsW.perm (by ac_rfl))
    have hhd : ((lackN low next H1).head?).getD next = next := by rw [← hx]; rfl
    have hs3 := hs3.perm (show _ = Asn.blk z 3 #[.int .i64 (((lackN low next H1).head?).getD next : Nat)] * (SeqM (z + 1) g most low next H1 R1 (some ⟨b, off, none⟩) c B d * (Asn.obj D (.deferred (some [])) * F)) by rw [hhd])
    obtain ⟨lo, hlo⟩ : ∃ lo, lo = ((lackN low next H1).head?).getD next := ⟨_, rfl⟩
    have hlo1 : low ≤ lo ∧ lo ≤ next := by rw [hlo]; exact headN_bd low next H1 hln
    have HLO := hide hlo
    rw [← hlo] at hs3
    obtain ⟨k, hk⟩ : ∃ k, k = lo - low := ⟨_, rfl⟩
    have hkl : k ≤ H1.length := by omega
    have HW2 : Hid (IntKind.i64.wrap ((lo : Int) - low) = (k : Int)) := by show _ = _; rw [IntKind.wrap_i64]; omega
    have HKK := hide hk
    have hs4 := hs3.perm (show _ = (Asn.blk z 3 #[.int .i64 lo] * (sl 3 1 B R1.length d (ints R1) * (Asn.blk (z + 1) 23 #[.pointer (some ⟨g, 0, none⟩)] * (Asn.obj D (.deferred (some [])) * F)))) * (Asn.blk g 65 (queueC most low next (some ⟨b, off, none⟩) H1.length c B R1.length d) * sl 124 4 (some ⟨b, off, none⟩) H1.length c (heldC H1)) by unfold SeqM QAt; ac_rfl)
    have hcap := (hs4.perm (show _ = sl 124 4 (some ⟨b, off, none⟩) H1.length c (heldC H1) * ((Asn.blk z 3 #[.int .i64 lo] * (sl 3 1 B R1.length d (ints R1) * (Asn.blk (z + 1) 23 #[.pointer (some ⟨g, 0, none⟩)] * (Asn.obj D (.deferred (some [])) * F)))) * Asn.blk g 65 (queueC most low next (some ⟨b, off, none⟩) H1.length c B R1.length d)) by ac_rfl)).slLen.2
    obtain ⟨qq, hqq⟩ : ∃ qq, qq = H1.length := ⟨_, rfl⟩
    have HQQ := hide hqq
    rw [← hqq] at hs4 hkl hcap
    obtain ⟨rq, hrq⟩ : ∃ rq, rq = R1.length := ⟨_, rfl⟩
    have HRQ := hide hrq
    rw [← hrq] at hs4
    obtain ⟨A2, hA2⟩ : ∃ A2, A2 = if c = k then (some ⟨b, off, none⟩ : Option Addr) else (some ⟨b, off, none⟩ : Option Addr).map (·.add (k * 4)) := ⟨_, rfl⟩
    have HA2 := hide hA2
    have HS4 := hide hs4
    clear hsW hs3 hs4 hlo hk hqq hrq hx hhd HS7
    go_wp2_with fail
    by_cases hck : c = k
    · obtain rfl : k = c := hck.symm
      rw [if_pos rfl] at hA2
      subst hA2
      refine wp_region_slr (Q := _) (E := E) (fun W => ∃ R, Sat E W ((Asn.blk z 3 #[.int .i64 lo] * (sl 3 1 B rq d (ints R1) * (Asn.blk (z + 1) 23 #[.pointer (some ⟨g, 0, none⟩)] * (Asn.obj D (.deferred (some [])) * F)))) * R)) [14] [] [] [4, 9] (fun _ => (0, #[], fun _ => undef)) [0, 1, 2, 3, 4, 5, 6, 7, 8, 9, 10, 11, 12, 13, 14] (by kernel_rfl) (by kernel_rfl) (unhide HS4) (fun W R h => ⟨_, h.asc⟩) ?_
      iterate 4
        refine wpS_f _ rfl rfl (v := ?_) ?_ ?_
        rotate_left
        · rintro W ⟨R, hW⟩
          have f1 : W.cell? ⟨z, 0, none⟩ = some (.int .i64 lo) := hW.asc.cell 0
          have f2 : IntKind.i64.wrap ((lo : Int) - low) = (k : Int) := HW2.out
          go_simp
          first | rfl | (rw [IntKind.wrap_i64]; omega)
        go_simp
      refine wpS_r _ rfl rfl (v := ?_) ?_ ?_
      rotate_left
      · rintro W ⟨R, hW⟩
        have h0 : W.cell? ⟨g, 3, none⟩ = some (.slice (some ⟨b, off, none⟩) qq k) := (hW.perm (show _ = Asn.blk g 65 (queueC most low next (some ⟨b, off, none⟩) qq k B rq d) * (sl 124 4 (some ⟨b, off, none⟩) qq k (heldC H1) * (Asn.blk z 3 #[.int .i64 lo] * (sl 3 1 B rq d (ints R1) * (Asn.blk (z + 1) 23 #[.pointer (some ⟨g, 0, none⟩)] * (Asn.obj D (.deferred (some [])) * F)))) * R) by ac_rfl)).cell 3
        go_simp
        first | rfl | (rw [IntKind.wrap_i64]; omega)
      go_simp
      iterate 4
        refine wpS_f _ rfl rfl (v := ?_) ?_ ?_
        rotate_left
        · rintro W ⟨R, hW⟩
          have f1 : W.cell? ⟨z, 0, none⟩ = some (.int .i64 lo) := hW.asc.cell 0
          have f2 : IntKind.i64.wrap ((lo : Int) - low) = (k : Int) := HW2.out
          go_simp
          first | rfl | (rw [IntKind.wrap_i64]; omega)
        go_simp
      refine wpS_r _ rfl rfl (v := ?_) ?_ ?_
      rotate_left
      · rintro W ⟨R, hW⟩
        have h0 : W.cell? ⟨g, 1, none⟩ = some (.int .i64 low) := (hW.perm (show _ = Asn.blk g 65 (queueC most low next (some ⟨b, off, none⟩) qq k B rq d) * (sl 124 4 (some ⟨b, off, none⟩) qq k (heldC H1) * (Asn.blk z 3 #[.int .i64 lo] * (sl 3 1 B rq d (ints R1) * (Asn.blk (z + 1) 23 #[.pointer (some ⟨g, 0, none⟩)] * (Asn.obj D (.deferred (some [])) * F)))) * R) by ac_rfl)).cell 1
        go_simp
        first | rfl | (rw [IntKind.wrap_i64]; omega)
      go_simp
      iterate 4
        refine wpS_f _ rfl rfl (v := ?_) ?_ ?_
        rotate_left
        · rintro W ⟨R, hW⟩
          have f1 : W.cell? ⟨z, 0, none⟩ = some (.int .i64 lo) := hW.asc.cell 0
          have f2 : IntKind.i64.wrap ((lo : Int) - low) = (k : Int) := HW2.out
          go_simp
          first | rfl | (rw [IntKind.wrap_i64]; omega)
        go_simp
      refine wpS_e _ rfl rfl (fun W R hW => ?_)
      have u0 : W.cell? ⟨g, 3, none⟩ = some (.slice (some ⟨b, off, none⟩) qq k) := (hW.perm (show _ = Asn.blk g 65 (queueC most low next (some ⟨b, off, none⟩) qq k B rq d) * (sl 124 4 (some ⟨b, off, none⟩) qq k (heldC H1) * (Asn.blk z 3 #[.int .i64 lo] * (sl 3 1 B rq d (ints R1) * (Asn.blk (z + 1) 23 #[.pointer (some ⟨g, 0, none⟩)] * (Asn.obj D (.deferred (some [])) * F)))) * R) by ac_rfl)).cell 3
      have u1 : W.frozen? ⟨g, 3, none⟩ = false := (hW.perm (show _ = Asn.blk g 65 (queueC most low next (some ⟨b, off, none⟩) qq k B rq d) * (sl 124 4 (some ⟨b, off, none⟩) qq k (heldC H1) * (Asn.blk z 3 #[.int .i64 lo] * (sl 3 1 B rq d (ints R1) * (Asn.blk (z + 1) 23 #[.pointer (some ⟨g, 0, none⟩)] * (Asn.obj D (.deferred (some [])) * F)))) * R) by ac_rfl)).frozen 3
      have hst := hide (show Sat E _ ((Asn.blk z 3 #[.int .i64 lo] * (sl 3 1 B rq d (ints R1) * (Asn.blk (z + 1) 23 #[.pointer (some ⟨g, 0, none⟩)] * (Asn.obj D (.deferred (some [])) * F)))) * (Asn.blk g 65 #[.int .i64 most, .int .i64 low, .int .i64 next, .slice (some ⟨b, off, none⟩) 0 0, .slice B rq d] * sl 124 4 (some ⟨b, off, none⟩) qq k (heldC H1)) * R) from ((hW.perm (show _ = Asn.blk g 65 (queueC most low next (some ⟨b, off, none⟩) qq k B rq d) * (sl 124 4 (some ⟨b, off, none⟩) qq k (heldC H1) * (Asn.blk z 3 #[.int .i64 lo] * (sl 3 1 B rq d (ints R1) * (Asn.blk (z + 1) 23 #[.pointer (some ⟨g, 0, none⟩)] * (Asn.obj D (.deferred (some [])) * F)))) * R) by ac_rfl)).set 3 (.slice (some ⟨b, off, none⟩) 0 0)).perm (by first | ac_rfl | (simp only [Asn.one_sep, Asn.sep_one]; ac_rfl)))
      unfold stp
      go_simp
      refine (show ∃ F', _ from ⟨(Asn.blk z 3 #[.int .i64 lo] * (sl 3 1 B rq d (ints R1) * (Asn.blk (z + 1) 23 #[.pointer (some ⟨g, 0, none⟩)] * (Asn.obj D (.deferred (some [])) * F)))) * (Asn.blk g 65 #[.int .i64 most, .int .i64 low, .int .i64 next, .slice (some ⟨b, off, none⟩) 0 0, .slice B rq d] * sl 124 4 (some ⟨b, off, none⟩) qq k (heldC H1)), fun W R h => ⟨_, h.asc⟩, unhide hst, ?_⟩)
      clear hst hW u0 u1
      go_simp
      refine wpS_n (fun w6 hs8 => ?_)
      have hs9 := hs8.perm (show _ = Asn.blk g 65 #[.int .i64 most, .int .i64 low, .int .i64 next, .slice (some ⟨b, off, none⟩) 0 0, .slice B rq d] * (sl 124 4 (some ⟨b, off, none⟩) qq k (heldC H1) * (Asn.blk z 3 #[.int .i64 lo] * (sl 3 1 B rq d (ints R1) * (Asn.blk (z + 1) 23 #[.pointer (some ⟨g, 0, none⟩)] * (Asn.obj D (.deferred (some [])) * F))))) by ac_rfl)
      have e1 : w6.cell? ⟨z, 0, none⟩ = some (.int .i64 lo) := hs9.f3.cell 0
      have e2 : w6.cell? ⟨g, 1, none⟩ = some (.int .i64 low) := hs9.cell 1
      have e3 : w6.frozen? ⟨g, 1, none⟩ = false := hs9.frozen 1
      have e4 : g < w6.heap.size := Sat.lt (o := .cells _ _ (0, 0)) hs9
      have hs10 := (hs9.set 1 (.int .i64 lo)).f2.slDrop (k := k) hkl (unhide HA2)
      rw [Nat.sub_self, show qq - k = 0 by omega] at hs10
      rw [heldC_drop] at hs10
      have hlen : (H1.drop k).length = 0 := by rw [List.length_drop, ← unhide HQQ]; omega
      have hs11 := hs10.perm (show _ = Asn.obj D (.deferred (some [])) * (QAt g most lo next (H1.drop k) R1 (some ⟨b, off, none⟩) 0 B d * (Asn.blk z 3 #[.int .i64 lo] * (Asn.blk (z + 1) 23 #[.pointer (some ⟨g, 0, none⟩)] * F))) by unfold QAt queueC; rw [hlen, ← unhide HRQ]; show sl _ _ _ _ _ _ * (Asn.blk _ _ #[_, _, _, _, _] * _) = _; ac_rfl)
      have HK := hide hs11.obj
      have HS := hide (sat_putObj (o' := .deferred none) hs11)
      clear hs8 hs9 hs10 hs11 HS4
      go_wp2_with fail
      refine ⟨by simp, .inl ⟨_, _, rfl, run_takeDeferred HK.out, ?_⟩⟩
      refine ⟨_, results_tmp rfl _ _ _, rfl, some ⟨b, off, none⟩, 0, d, ?_⟩
      rw [← unhide HLO, ← unhide HKK]
      exact ((unhide HS).right.perm (show _ = (Asn.blk z 3 #[.int .i64 lo] * Asn.blk (z + 1) 23 #[.pointer (some ⟨g, 0, none⟩)]) * (QAt g most lo next (H1.drop k) R1 (some ⟨b, off, none⟩) 0 B d * F) by ac_rfl)).right
    · rw [if_neg hck] at hA2
      simp only [Option.map_some, add_lit'] at hA2
      subst hA2
      refine wp_region_slr (Q := _) (E := E) (fun W => ∃ R, Sat E W ((Asn.blk z 3 #[.int .i64 lo] * (sl 3 1 B rq d (ints R1) * (Asn.blk (z + 1) 23 #[.pointer (some ⟨g, 0, none⟩)] * (Asn.obj D (.deferred (some [])) * F)))) * R)) [14] [] [] [4, 9] (fun _ => (0, #[], fun _ => undef)) [0, 1, 2, 3, 4, 5, 6, 7, 8, 9, 10, 11, 12, 13, 14] (by kernel_rfl) (by kernel_rfl) (unhide HS4) (fun W R h => ⟨_, h.asc⟩) ?_
      iterate 4
        refine wpS_f _ rfl rfl (v := ?_) ?_ ?_
        rotate_left
        · rintro W ⟨R, hW⟩
          have f1 : W.cell? ⟨z, 0, none⟩ = some (.int .i64 lo) := hW.asc.cell 0
          have f2 : IntKind.i64.wrap ((lo : Int) - low) = (k : Int) := HW2.out
          go_simp
          first | rfl | (rw [IntKind.wrap_i64]; omega)
        go_simp
      refine wpS_r _ rfl rfl (v := ?_) ?_ ?_
      rotate_left
      · rintro W ⟨R, hW⟩
        have h0 : W.cell? ⟨g, 3, none⟩ = some (.slice (some ⟨b, off, none⟩) qq c) := (hW.perm (show _ = Asn.blk g 65 (queueC most low next (some ⟨b, off, none⟩) qq c B rq d) * (sl 124 4 (some ⟨b, off, none⟩) qq c (heldC H1) * (Asn.blk z 3 #[.int .i64 lo] * (sl 3 1 B rq d (ints R1) * (Asn.blk (z + 1) 23 #[.pointer (some ⟨g, 0, none⟩)] * (Asn.obj D (.deferred (some [])) * F)))) * R) by ac_rfl)).cell 3
        go_simp
        first | rfl | (rw [IntKind.wrap_i64]; omega)
      go_simp
      iterate 4
        refine wpS_f _ rfl rfl (v := ?_) ?_ ?_
        rotate_left
        · rintro W ⟨R, hW⟩
          have f1 : W.cell? ⟨z, 0, none⟩ = some (.int .i64 lo) := hW.asc.cell 0
          have f2 : IntKind.i64.wrap ((lo : Int) - low) = (k : Int) := HW2.out
          go_simp
          first | rfl | (rw [IntKind.wrap_i64]; omega)
        go_simp
      refine wpS_r _ rfl rfl (v := ?_) ?_ ?_
      rotate_left
      · rintro W ⟨R, hW⟩
        have h0 : W.cell? ⟨g, 1, none⟩ = some (.int .i64 low) := (hW.perm (show _ = Asn.blk g 65 (queueC most low next (some ⟨b, off, none⟩) qq c B rq d) * (sl 124 4 (some ⟨b, off, none⟩) qq c (heldC H1) * (Asn.blk z 3 #[.int .i64 lo] * (sl 3 1 B rq d (ints R1) * (Asn.blk (z + 1) 23 #[.pointer (some ⟨g, 0, none⟩)] * (Asn.obj D (.deferred (some [])) * F)))) * R) by ac_rfl)).cell 1
        go_simp
        first | rfl | (rw [IntKind.wrap_i64]; omega)
      go_simp
      iterate 4
        refine wpS_f _ rfl rfl (v := ?_) ?_ ?_
        rotate_left
        · rintro W ⟨R, hW⟩
          have f1 : W.cell? ⟨z, 0, none⟩ = some (.int .i64 lo) := hW.asc.cell 0
          have f2 : IntKind.i64.wrap ((lo : Int) - low) = (k : Int) := HW2.out
          go_simp
          first | rfl | (rw [IntKind.wrap_i64]; omega)
        go_simp
      refine wpS_e _ rfl rfl (fun W R hW => ?_)
      have u0 : W.cell? ⟨g, 3, none⟩ = some (.slice (some ⟨b, off, none⟩) qq c) := (hW.perm (show _ = Asn.blk g 65 (queueC most low next (some ⟨b, off, none⟩) qq c B rq d) * (sl 124 4 (some ⟨b, off, none⟩) qq c (heldC H1) * (Asn.blk z 3 #[.int .i64 lo] * (sl 3 1 B rq d (ints R1) * (Asn.blk (z + 1) 23 #[.pointer (some ⟨g, 0, none⟩)] * (Asn.obj D (.deferred (some [])) * F)))) * R) by ac_rfl)).cell 3
      have u1 : W.frozen? ⟨g, 3, none⟩ = false := (hW.perm (show _ = Asn.blk g 65 (queueC most low next (some ⟨b, off, none⟩) qq c B rq d) * (sl 124 4 (some ⟨b, off, none⟩) qq c (heldC H1) * (Asn.blk z 3 #[.int .i64 lo] * (sl 3 1 B rq d (ints R1) * (Asn.blk (z + 1) 23 #[.pointer (some ⟨g, 0, none⟩)] * (Asn.obj D (.deferred (some [])) * F)))) * R) by ac_rfl)).frozen 3
      have hst := hide (show Sat E _ ((Asn.blk z 3 #[.int .i64 lo] * (sl 3 1 B rq d (ints R1) * (Asn.blk (z + 1) 23 #[.pointer (some ⟨g, 0, none⟩)] * (Asn.obj D (.deferred (some [])) * F)))) * (Asn.blk g 65 #[.int .i64 most, .int .i64 low, .int .i64 next, .slice (some ⟨b, off + k * 4, none⟩) (qq - k) (c - k), .slice B rq d] * sl 124 4 (some ⟨b, off, none⟩) qq c (heldC H1)) * R) from ((hW.perm (show _ = Asn.blk g 65 (queueC most low next (some ⟨b, off, none⟩) qq c B rq d) * (sl 124 4 (some ⟨b, off, none⟩) qq c (heldC H1) * (Asn.blk z 3 #[.int .i64 lo] * (sl 3 1 B rq d (ints R1) * (Asn.blk (z + 1) 23 #[.pointer (some ⟨g, 0, none⟩)] * (Asn.obj D (.deferred (some [])) * F)))) * R) by ac_rfl)).set 3 (.slice (some ⟨b, off + k * 4, none⟩) (qq - k) (c - k))).perm (by first | ac_rfl | (simp only [Asn.one_sep, Asn.sep_one]; ac_rfl)))
      unfold stp
      go_simp
      refine (show ∃ F', _ from ⟨(Asn.blk z 3 #[.int .i64 lo] * (sl 3 1 B rq d (ints R1) * (Asn.blk (z + 1) 23 #[.pointer (some ⟨g, 0, none⟩)] * (Asn.obj D (.deferred (some [])) * F)))) * (Asn.blk g 65 #[.int .i64 most, .int .i64 low, .int .i64 next, .slice (some ⟨b, off + k * 4, none⟩) (qq - k) (c - k), .slice B rq d] * sl 124 4 (some ⟨b, off, none⟩) qq c (heldC H1)), fun W R h => ⟨_, h.asc⟩, unhide hst, ?_⟩)
      clear hst hW u0 u1
      go_simp
      refine wpS_n (fun w6 hs8 => ?_)
      have hs9 := hs8.perm (show _ = Asn.blk g 65 #[.int .i64 most, .int .i64 low, .int .i64 next, .slice (some ⟨b, off + k * 4, none⟩) (qq - k) (c - k), .slice B rq d] * (sl 124 4 (some ⟨b, off, none⟩) qq c (heldC H1) * (Asn.blk z 3 #[.int .i64 lo] * (sl 3 1 B rq d (ints R1) * (Asn.blk (z + 1) 23 #[.pointer (some ⟨g, 0, none⟩)] * (Asn.obj D (.deferred (some [])) * F))))) by ac_rfl)
      have e1 : w6.cell? ⟨z, 0, none⟩ = some (.int .i64 lo) := hs9.f3.cell 0
      have e2 : w6.cell? ⟨g, 1, none⟩ = some (.int .i64 low) := hs9.cell 1
      have e3 : w6.frozen? ⟨g, 1, none⟩ = false := hs9.frozen 1
      have e4 : g < w6.heap.size := Sat.lt (o := .cells _ _ (0, 0)) hs9
      have hs10 := (hs9.set 1 (.int .i64 lo)).f2.slDrop (k := k) hkl (unhide HA2)
      rw [heldC_drop] at hs10
      have hlen : (H1.drop k).length = qq - k := by rw [List.length_drop, ← unhide HQQ]
      have hs11 := hs10.perm (show _ = Asn.obj D (.deferred (some [])) * (QAt g most lo next (H1.drop k) R1 (some ⟨b, off + k * 4, none⟩) (c - k) B d * (Asn.blk z 3 #[.int .i64 lo] * (Asn.blk (z + 1) 23 #[.pointer (some ⟨g, 0, none⟩)] * F))) by unfold QAt queueC; rw [hlen, ← unhide HRQ]; show sl _ _ _ _ _ _ * (Asn.blk _ _ #[_, _, _, _, _] * _) = _; ac_rfl)
      have HK := hide hs11.obj
      have HS := hide (sat_putObj (o' := .deferred none) hs11)
      clear hs8 hs9 hs10 hs11 HS4
      go_wp2_with fail
      refine ⟨by simp, .inl ⟨_, _, rfl, run_takeDeferred HK.out, ?_⟩⟩
      refine ⟨_, results_tmp rfl _ _ _, rfl, some ⟨b, off + k * 4, none⟩, c - k, d, ?_⟩
      rw [← unhide HLO, ← unhide HKK]
      exact ((unhide HS).right.perm (show _ = (Asn.blk z 3 #[.int .i64 lo] * Asn.blk (z + 1) 23 #[.pointer (some ⟨g, 0, none⟩)]) * (QAt g most lo next (H1.drop k) R1 (some ⟨b, off + k * 4, none⟩) (c - k) B d * F) by ac_rfl)).right
  case stop =>
    rintro D c' pre W _ hsW
    obtain ⟨rfl, hs3⟩ := Sat.fact (p := c' = .exit 0) (F := Asn.blk z 3 #[.int .i64 (((lackN low next H1).head?).getD next : Nat)] * (SeqM (z + 1) g most low next H1 R1 (some ⟨b, off, none⟩) c B d * (Asn.obj D (.deferred (some [])) * F))) (hsW.perm (by ac_rfl))
    obtain ⟨lo, hlo⟩ : ∃ lo, lo = ((lackN low next H1).head?).getD next := ⟨_, rfl⟩
    have hlo1 : low ≤ lo ∧ lo ≤ next := by rw [hlo]; exact headN_bd low next H1 hln
    have HLO := hide hlo
    rw [← hlo] at hs3
    obtain ⟨k, hk⟩ : ∃ k, k = lo - low := ⟨_, rfl⟩
    have hkl : k ≤ H1.length := by omega
    have HW2 : Hid (IntKind.i64.wrap ((lo : Int) - low) = (k : Int)) := by show _ = _; rw [IntKind.wrap_i64]; omega
    have HKK := hide hk
    have hs4 := hs3.perm (show _ = (Asn.blk z 3 #[.int .i64 lo] * (sl 3 1 B R1.length d (ints R1) * (Asn.blk (z + 1) 23 #[.pointer (some ⟨g, 0, none⟩)] * (Asn.obj D (.deferred (some [])) * F)))) * (Asn.blk g 65 (queueC most low next (some ⟨b, off, none⟩) H1.length c B R1.length d) * sl 124 4 (some ⟨b, off, none⟩) H1.length c (heldC H1)) by unfold SeqM QAt; ac_rfl)
    have hcap := (hs4.perm (show _ = sl 124 4 (some ⟨b, off, none⟩) H1.length c (heldC H1) * ((Asn.blk z 3 #[.int .i64 lo] * (sl 3 1 B R1.length d (ints R1) * (Asn.blk (z + 1) 23 #[.pointer (some ⟨g, 0, none⟩)] * (Asn.obj D (.deferred (some [])) * F)))) * Asn.blk g 65 (queueC most low next (some ⟨b, off, none⟩) H1.length c B R1.length d)) by ac_rfl)).slLen.2
    obtain ⟨qq, hqq⟩ : ∃ qq, qq = H1.length := ⟨_, rfl⟩
    have HQQ := hide hqq
    rw [← hqq] at hs4 hkl hcap
    obtain ⟨rq, hrq⟩ : ∃ rq, rq = R1.length := ⟨_, rfl⟩
    have HRQ := hide hrq
    rw [← hrq] at hs4
    obtain ⟨A2, hA2⟩ : ∃ A2, A2 = if c = k then (some ⟨b, off, none⟩ : Option Addr) else (some ⟨b, off, none⟩ : Option Addr).map (·.add (k * 4)) := ⟨_, rfl⟩
    have HA2 := hide hA2
    have HS4 := hide hs4
    clear hsW hs3 hs4 hlo hk hqq hrq HS7
    gi_wp2
    go_wp2_with fail
    by_cases hck : c = k
    · obtain rfl : k = c := hck.symm
      rw [if_pos rfl] at hA2
      subst hA2
      refine wp_region_slr (Q := _) (E := E) (fun W => ∃ R, Sat E W ((Asn.blk z 3 #[.int .i64 lo] * (sl 3 1 B rq d (ints R1) * (Asn.blk (z + 1) 23 #[.pointer (some ⟨g, 0, none⟩)] * (Asn.obj D (.deferred (some [])) * F)))) * R)) [14] [] [] [4, 9] (fun _ => (0, #[], fun _ => undef)) [0, 1, 2, 3, 4, 5, 6, 7, 8, 9, 10, 11, 12, 13, 14] (by kernel_rfl) (by kernel_rfl) (unhide HS4) (fun W R h => ⟨_, h.asc⟩) ?_
      iterate 4
        refine wpS_f _ rfl rfl (v := ?_) ?_ ?_
        rotate_left
        · rintro W ⟨R, hW⟩
          have f1 : W.cell? ⟨z, 0, none⟩ = some (.int .i64 lo) := hW.asc.cell 0
          have f2 : IntKind.i64.wrap ((lo : Int) - low) = (k : Int) := HW2.out
          go_simp
          first | rfl | (rw [IntKind.wrap_i64]; omega)
        go_simp
      refine wpS_r _ rfl rfl (v := ?_) ?_ ?_
      rotate_left
      · rintro W ⟨R, hW⟩
        have h0 : W.cell? ⟨g, 3, none⟩ = some (.slice (some ⟨b, off, none⟩) qq k) := (hW.perm (show _ = Asn.blk g 65 (queueC most low next (some ⟨b, off, none⟩) qq k B rq d) * (sl 124 4 (some ⟨b, off, none⟩) qq k (heldC H1) * (Asn.blk z 3 #[.int .i64 lo] * (sl 3 1 B rq d (ints R1) * (Asn.blk (z + 1) 23 #[.pointer (some ⟨g, 0, none⟩)] * (Asn.obj D (.deferred (some [])) * F)))) * R) by ac_rfl)).cell 3
        go_simp
        first | rfl | (rw [IntKind.wrap_i64]; omega)
      go_simp
      iterate 4
        refine wpS_f _ rfl rfl (v := ?_) ?_ ?_
        rotate_left
        · rintro W ⟨R, hW⟩
          have f1 : W.cell? ⟨z, 0, none⟩ = some (.int .i64 lo) := hW.asc.cell 0
          have f2 : IntKind.i64.wrap ((lo : Int) - low) = (k : Int) := HW2.out
          go_simp
          first | rfl | (rw [IntKind.wrap_i64]; omega)
        go_simp
      refine wpS_r _ rfl rfl (v := ?_) ?_ ?_
      rotate_left
      · rintro W ⟨R, hW⟩
        have h0 : W.cell? ⟨g, 1, none⟩ = some (.int .i64 low) := (hW.perm (show _ = Asn.blk g 65 (queueC most low next (some ⟨b, off, none⟩) qq k B rq d) * (sl 124 4 (some ⟨b, off, none⟩) qq k (heldC H1) * (Asn.blk z 3 #[.int .i64 lo] * (sl 3 1 B rq d (ints R1) * (Asn.blk (z + 1) 23 #[.pointer (some ⟨g, 0, none⟩)] * (Asn.obj D (.deferred (some [])) * F)))) * R) by ac_rfl)).cell 1
        go_simp
        first | rfl | (rw [IntKind.wrap_i64]; omega)
      go_simp
      iterate 4
        refine wpS_f _ rfl rfl (v := ?_) ?_ ?_
        rotate_left
        · rintro W ⟨R, hW⟩
          have f1 : W.cell? ⟨z, 0, none⟩ = some (.int .i64 lo) := hW.asc.cell 0
          have f2 : IntKind.i64.wrap ((lo : Int) - low) = (k : Int) := HW2.out
          go_simp
          first | rfl | (rw [IntKind.wrap_i64]; omega)
        go_simp
      refine wpS_e _ rfl rfl (fun W R hW => ?_)
      have u0 : W.cell? ⟨g, 3, none⟩ = some (.slice (some ⟨b, off, none⟩) qq k) := (hW.perm (show _ = Asn.blk g 65 (queueC most low next (some ⟨b, off, none⟩) qq k B rq d) * (sl 124 4 (some ⟨b, off, none⟩) qq k (heldC H1) * (Asn.blk z 3 #[.int .i64 lo] * (sl 3 1 B rq d (ints R1) * (Asn.blk (z + 1) 23 #[.pointer (some ⟨g, 0, none⟩)] * (Asn.obj D (.deferred (some [])) * F)))) * R) by ac_rfl)).cell 3
      have u1 : W.frozen? ⟨g, 3, none⟩ = false := (hW.perm (show _ = Asn.blk g 65 (queueC most low next (some ⟨b, off, none⟩) qq k B rq d) * (sl 124 4 (some ⟨b, off, none⟩) qq k (heldC H1) * (Asn.blk z 3 #[.int .i64 lo] * (sl 3 1 B rq d (ints R1) * (Asn.blk (z + 1) 23 #[.pointer (some ⟨g, 0, none⟩)] * (Asn.obj D (.deferred (some [])) * F)))) * R) by ac_rfl)).frozen 3
      have hst := hide (show Sat E _ ((Asn.blk z 3 #[.int .i64 lo] * (sl 3 1 B rq d (ints R1) * (Asn.blk (z + 1) 23 #[.pointer (some ⟨g, 0, none⟩)] * (Asn.obj D (.deferred (some [])) * F)))) * (Asn.blk g 65 #[.int .i64 most, .int .i64 low, .int .i64 next, .slice (some ⟨b, off, none⟩) 0 0, .slice B rq d] * sl 124 4 (some ⟨b, off, none⟩) qq k (heldC H1)) * R) from ((hW.perm (show _ = Asn.blk g 65 (queueC most low next (some ⟨b, off, none⟩) qq k B rq d) * (sl 124 4 (some ⟨b, off, none⟩) qq k (heldC H1) * (Asn.blk z 3 #[.int .i64 lo] * (sl 3 1 B rq d (ints R1) * (Asn.blk (z + 1) 23 #[.pointer (some ⟨g, 0, none⟩)] * (Asn.obj D (.deferred (some [])) * F)))) * R) by ac_rfl)).set 3 (.slice (some ⟨b, off, none⟩) 0 0)).perm (by first | ac_rfl | (simp only [Asn.one_sep, Asn.sep_one]; ac_rfl)))
      unfold stp
      go_simp
      refine (show ∃ F', _ from ⟨(Asn.blk z 3 #[.int .i64 lo] * (sl 3 1 B rq d (ints R1) * (Asn.blk (z + 1) 23 #[.pointer (some ⟨g, 0, none⟩)] * (Asn.obj D (.deferred (some [])) * F)))) * (Asn.blk g 65 #[.int .i64 most, .int .i64 low, .int .i64 next, .slice (some ⟨b, off, none⟩) 0 0, .slice B rq d] * sl 124 4 (some ⟨b, off, none⟩) qq k (heldC H1)), fun W R h => ⟨_, h.asc⟩, unhide hst, ?_⟩)
      clear hst hW u0 u1
      go_simp
      refine wpS_n (fun w6 hs8 => ?_)
      have hs9 := hs8.perm (show _ = Asn.blk g 65 #[.int .i64 most, .int .i64 low, .int .i64 next, .slice (some ⟨b, off, none⟩) 0 0, .slice B rq d] * (sl 124 4 (some ⟨b, off, none⟩) qq k (heldC H1) * (Asn.blk z 3 #[.int .i64 lo] * (sl 3 1 B rq d (ints R1) * (Asn.blk (z + 1) 23 #[.pointer (some ⟨g, 0, none⟩)] * (Asn.obj D (.deferred (some [])) * F))))) by ac_rfl)
      have e1 : w6.cell? ⟨z, 0, none⟩ = some (.int .i64 lo) := hs9.f3.cell 0
      have e2 : w6.cell? ⟨g, 1, none⟩ = some (.int .i64 low) := hs9.cell 1
      have e3 : w6.frozen? ⟨g, 1, none⟩ = false := hs9.frozen 1
      have e4 : g < w6.heap.size := Sat.lt (o := .cells _ _ (0, 0)) hs9
      have hs10 := (hs9.set 1 (.int .i64 lo)).f2.slDrop (k := k) hkl (unhide HA2)
      rw [Nat.sub_self, show qq - k = 0 by omega] at hs10
      rw [heldC_drop] at hs10
      have hlen : (H1.drop k).length = 0 := by rw [List.length_drop, ← unhide HQQ]; omega
      have hs11 := hs10.perm (show _ = Asn.obj D (.deferred (some [])) * (QAt g most lo next (H1.drop k) R1 (some ⟨b, off, none⟩) 0 B d * (Asn.blk z 3 #[.int .i64 lo] * (Asn.blk (z + 1) 23 #[.pointer (some ⟨g, 0, none⟩)] * F))) by unfold QAt queueC; rw [hlen, ← unhide HRQ]; show sl _ _ _ _ _ _ * (Asn.blk _ _ #[_, _, _, _, _] * _) = _; ac_rfl)
      have HK := hide hs11.obj
      have HS := hide (sat_putObj (o' := .deferred none) hs11)
      clear hs8 hs9 hs10 hs11 HS4
      go_wp2_with fail
      refine ⟨by simp, .inl ⟨_, _, rfl, run_takeDeferred HK.out, ?_⟩⟩
      refine ⟨_, results_tmp rfl _ _ _, rfl, some ⟨b, off, none⟩, 0, d, ?_⟩
      rw [← unhide HLO, ← unhide HKK]
      exact ((unhide HS).right.perm (show _ = (Asn.blk z 3 #[.int .i64 lo] * Asn.blk (z + 1) 23 #[.pointer (some ⟨g, 0, none⟩)]) * (QAt g most lo next (H1.drop k) R1 (some ⟨b, off, none⟩) 0 B d * F) by ac_rfl)).right
    · rw [if_neg hck] at hA2
      simp only [Option.map_some, add_lit'] at hA2
      subst hA2
      refine wp_region_slr (Q := _) (E := E) (fun W => ∃ R, Sat E W ((Asn.blk z 3 #[.int .i64 lo] * (sl 3 1 B rq d (ints R1) * (Asn.blk (z + 1) 23 #[.pointer (some ⟨g, 0, none⟩)] * (Asn.obj D (.deferred (some [])) * F)))) * R)) [14] [] [] [4, 9] (fun _ => (0, #[], fun _ => undef)) [0, 1, 2, 3, 4, 5, 6, 7, 8, 9, 10, 11, 12, 13, 14] (by kernel_rfl) (by kernel_rfl) (unhide HS4) (fun W R h => ⟨_, h.asc⟩) ?_
      iterate 4
        refine wpS_f _ rfl rfl (v := ?_) ?_ ?_
        rotate_left
        · rintro W ⟨R, hW⟩
          have f1 : W.cell? ⟨z, 0, none⟩ = some (.int .i64 lo) := hW.asc.cell 0
          have f2 : IntKind.i64.wrap ((lo : Int) - low) = (k : Int) := HW2.out
          go_simp
          first | rfl | (rw [IntKind.wrap_i64]; omega)
        go_simp
      refine wpS_r _ rfl rfl (v := ?_) ?_ ?_
      rotate_left
      · rintro W ⟨R, hW⟩
        have h0 : W.cell? ⟨g, 3, none⟩ = some (.slice (some ⟨b, off, none⟩) qq c) := (hW.perm (show _ = Asn.blk g 65 (queueC most low next (some ⟨b, off, none⟩) qq c B rq d) * (sl 124 4 (some ⟨b, off, none⟩) qq c (heldC H1) * (Asn.blk z 3 #[.int .i64 lo] * (sl 3 1 B rq d (ints R1) * (Asn.blk (z + 1) 23 #[.pointer (some ⟨g, 0, none⟩)] * (Asn.obj D (.deferred (some [])) * F)))) * R) by ac_rfl)).cell 3
        go_simp
        first | rfl | (rw [IntKind.wrap_i64]; omega)
      go_simp
      iterate 4
        refine wpS_f _ rfl rfl (v := ?_) ?_ ?_
        rotate_left
        · rintro W ⟨R, hW⟩
          have f1 : W.cell? ⟨z, 0, none⟩ = some (.int .i64 lo) := hW.asc.cell 0
          have f2 : IntKind.i64.wrap ((lo : Int) - low) = (k : Int) := HW2.out
          go_simp
          first | rfl | (rw [IntKind.wrap_i64]; omega)
        go_simp
      refine wpS_r _ rfl rfl (v := ?_) ?_ ?_
      rotate_left
      · rintro W ⟨R, hW⟩
        have h0 : W.cell? ⟨g, 1, none⟩ = some (.int .i64 low) := (hW.perm (show _ = Asn.blk g 65 (queueC most low next (some ⟨b, off, none⟩) qq c B rq d) * (sl 124 4 (some ⟨b, off, none⟩) qq c (heldC H1) * (Asn.blk z 3 #[.int .i64 lo] * (sl 3 1 B rq d (ints R1) * (Asn.blk (z + 1) 23 #[.pointer (some ⟨g, 0, none⟩)] * (Asn.obj D (.deferred (some [])) * F)))) * R) by ac_rfl)).cell 1
        go_simp
        first | rfl | (rw [IntKind.wrap_i64]; omega)
      go_simp
      iterate 4
        refine wpS_f _ rfl rfl (v := ?_) ?_ ?_
        rotate_left
        · rintro W ⟨R, hW⟩
          have f1 : W.cell? ⟨z, 0, none⟩ = some (.int .i64 lo) := hW.asc.cell 0
          have f2 : IntKind.i64.wrap ((lo : Int) - low) = (k : Int) := HW2.out
          go_simp
          first | rfl | (rw [IntKind.wrap_i64]; omega)
        go_simp
      refine wpS_e _ rfl rfl (fun W R hW => ?_)
      have u0 : W.cell? ⟨g, 3, none⟩ = some (.slice (some ⟨b, off, none⟩) qq c) := (hW.perm (show _ = Asn.blk g 65 (queueC most low next (some ⟨b, off, none⟩) qq c B rq d) * (sl 124 4 (some ⟨b, off, none⟩) qq c (heldC H1) * (Asn.blk z 3 #[.int .i64 lo] * (sl 3 1 B rq d (ints R1) * (Asn.blk (z + 1) 23 #[.pointer (some ⟨g, 0, none⟩)] * (Asn.obj D (.deferred (some [])) * F)))) * R) by ac_rfl)).cell 3
      have u1 : W.frozen? ⟨g, 3, none⟩ = false := (hW.perm (show _ = Asn.blk g 65 (queueC most low next (some ⟨b, off, none⟩) qq c B rq d) * (sl 124 4 (some ⟨b, off, none⟩) qq c (heldC H1) * (Asn.blk z 3 #[.int .i64 lo] * (sl 3 1 B rq d (ints R1) * (Asn.blk (z + 1) 23 #[.pointer (some ⟨g, 0, none⟩)] * (Asn.obj D (.deferred (some [])) * F)))) * R) by ac_rfl)).frozen 3
      have hst := hide (show Sat E _ ((Asn.blk z 3 #[.int .i64 lo] * (sl 3 1 B rq d (ints R1) * (Asn.blk (z + 1) 23 #[.pointer (some ⟨g, 0, none⟩)] * (Asn.obj D (.deferred (some [])) * F)))) * (Asn.blk g 65 #[.int .i64 most, .int .i64 low, .int .i64 next, .slice (some ⟨b, off + k * 4, none⟩) (qq - k) (c - k), .slice B rq d] * sl 124 4 (some ⟨b, off, none⟩) qq c (heldC H1)) * R) from ((hW.perm (show _ = Asn.blk g 65 (queueC most low next (some ⟨b, off, none⟩) qq c B rq d) * (sl 124 4 (some ⟨b, off, none⟩) qq c (heldC H1) * (Asn.blk z 3 #[.int .i64 lo] * (sl 3 1 B rq d (ints R1) * (Asn.blk (z + 1) 23 #[.pointer (some ⟨g, 0, none⟩)] * (Asn.obj D (.deferred (some [])) * F)))) * R) by ac_rfl)).set 3 (.slice (some ⟨b, off + k * 4, none⟩) (qq - k) (c - k))).perm (by first | ac_rfl | (simp only [Asn.one_sep, Asn.sep_one]; ac_rfl)))
      unfold stp
      go_simp
      refine (show ∃ F', _ from ⟨(Asn.blk z 3 #[.int .i64 lo] * (sl 3 1 B rq d (ints R1) * (Asn.blk (z + 1) 23 #[.pointer (some ⟨g, 0, none⟩)] * (Asn.obj D (.deferred (some [])) * F)))) * (Asn.blk g 65 #[.int .i64 most, .int .i64 low, .int .i64 next, .slice (some ⟨b, off + k * 4, none⟩) (qq - k) (c - k), .slice B rq d] * sl 124 4 (some ⟨b, off, none⟩) qq c (heldC H1)), fun W R h => ⟨_, h.asc⟩, unhide hst, ?_⟩)
      clear hst hW u0 u1
      go_simp
      refine wpS_n (fun w6 hs8 => ?_)
      have hs9 := hs8.perm (show _ = Asn.blk g 65 #[.int .i64 most, .int .i64 low, .int .i64 next, .slice (some ⟨b, off + k * 4, none⟩) (qq - k) (c - k), .slice B rq d] * (sl 124 4 (some ⟨b, off, none⟩) qq c (heldC H1) * (Asn.blk z 3 #[.int .i64 lo] * (sl 3 1 B rq d (ints R1) * (Asn.blk (z + 1) 23 #[.pointer (some ⟨g, 0, none⟩)] * (Asn.obj D (.deferred (some [])) * F))))) by ac_rfl)
      have e1 : w6.cell? ⟨z, 0, none⟩ = some (.int .i64 lo) := hs9.f3.cell 0
      have e2 : w6.cell? ⟨g, 1, none⟩ = some (.int .i64 low) := hs9.cell 1
      have e3 : w6.frozen? ⟨g, 1, none⟩ = false := hs9.frozen 1
      have e4 : g < w6.heap.size := Sat.lt (o := .cells _ _ (0, 0)) hs9
      have hs10 := (hs9.set 1 (.int .i64 lo)).f2.slDrop (k := k) hkl (unhide HA2)
      rw [heldC_drop] at hs10
      have hlen : (H1.drop k).length = qq - k := by rw [List.length_drop, ← unhide HQQ]
      have hs11 := hs10.perm (show _ = Asn.obj D (.deferred (some [])) * (QAt g most lo next (H1.drop k) R1 (some ⟨b, off + k * 4, none⟩) (c - k) B d * (Asn.blk z 3 #[.int .i64 lo] * (Asn.blk (z + 1) 23 #[.pointer (some ⟨g, 0, none⟩)] * F))) by unfold QAt queueC; rw [hlen, ← unhide HRQ]; show sl _ _ _ _ _ _ * (Asn.blk _ _ #[_, _, _, _, _] * _) = _; ac_rfl)
      have HK := hide hs11.obj
      have HS := hide (sat_putObj (o' := .deferred none) hs11)
      clear hs8 hs9 hs10 hs11 HS4
      go_wp2_with fail
      refine ⟨by simp, .inl ⟨_, _, rfl, run_takeDeferred HK.out, ?_⟩⟩
      refine ⟨_, results_tmp rfl _ _ _, rfl, some ⟨b, off + k * 4, none⟩, c - k, d, ?_⟩
      rw [← unhide HLO, ← unhide HKK]
      exact ((unhide HS).right.perm (show _ = (Asn.blk z 3 #[.int .i64 lo] * Asn.blk (z + 1) 23 #[.pointer (some ⟨g, 0, none⟩)]) * (QAt g most lo next (H1.drop k) R1 (some ⟨b, off + k * 4, none⟩) (c - k) B d * F) by ac_rfl)).right
end
end Go.Proofs.Ytdfidijlconhnaa
