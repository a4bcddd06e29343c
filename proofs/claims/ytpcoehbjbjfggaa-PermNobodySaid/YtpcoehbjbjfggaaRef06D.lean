/- The document's perm: Renew. -/
import Derived.Test.YtpcoehbjbjfggaaRef06C
namespace Go.Proofs.Ytpcoehbjbjfggaa
open Go.RowKit Asn
set_option maxHeartbeats 4000000 in
set_option maxRecDepth 100000 in
theorem rrenew_bad (E w : World) (F : Asn) (s i : Int) (A0 B : Option Addr) (n0 c0 m d : Nat) (rn : Int) (td : Nat → Int) (A : Option Addr) (n c : Nat) (L : List Int) (hs : Sat E w F) (hr : rd F 1 A n (ints L)) (hn : n ≤ 60000) (hbad : ¬ (Good L ∧ L ≠ [])) :
    Calls Try.prog 71 #[.agg (refC s i (.slice A0 n0 c0) (.slice B m d) rn td), .slice A n c] w fun e w' => e = .returned (.tuple #[.agg (refC s i (.slice A0 n0 c0) (.slice B m d) rn td), .int .i64 60]) ∧ Sat E w' F := by
  have hz := (hs.alloc (refC s i (.slice A0 n0 c0) (.slice B m d) rn td) 122).alloc refZ 122
  rw [World.size_alloc] at hz
  have hri := hide (rise_call E _ _ A n c L hz hr.right.right hn)
  unfold refZ refC at hri
  clear hs hr hz
  go_enter Try.func71, Try.ntmps71
  unfold refC
  go_wp2_with fail
  refine (unhide hri).mono ?_
  rintro e w2 ⟨A2, c2, M, ok, rfl, hok, -, -, hs2⟩
  have hokf : ok = false := by cases ok; rfl; exact absurd (hok.1 rfl) hbad
  subst hokf
  have HB := Lib.hid (show Sat E w2 (Asn.blk w.heap.size 122 (refC s i (.slice A0 n0 c0) (.slice B m d) rn td) * _) from hs2.f3).blk
  have hb : Sat E w2 (Asn.blk (w.heap.size + 1) 122 refZ * _) := hs2.f2
  have HZ := Lib.hid hb.blk
  have hs3 := hb.row (refC s i (.slice A0 n0 c0) (.slice B m d) rn td)
  have HF := Lib.hid hs3.blk
  have HS := hide hs3.right.right.right
  clear hs2 hb hs3 hok hri
  go_upto_region 3 with (fail)
  go_wp2_with (first
    | (refine wpList_load_row rfl 122 (.tmp 2) rfl w.heap.size rfl 122 _ (0, 0) _ HB.out Try.underlying122 rfl (by kernel_rfl) ?_)
    | (refine wpList_store_row rfl 122 (.tmp 4) (.tmp 15) rfl (w.heap.size + 1) _ rfl rfl 122 _ HZ.out (by kernel_rfl) rfl (refC_one _ _ _ _ _ _ _ _ _ _) ?_))
  exact bodyPost_ret (results_cell2 (p := 4) (u1 := 5) rfl _ _ _ _ _ _ _ rfl HF.out Try.underlying122 rfl (by kernel_rfl)) rfl ⟨rfl, unhide HS⟩
/-- What Renew leaves. -/
def RRen (E : World) (F : Asn) (s i : Int) (P R : List Int) (A0 B : Option Addr) (n0 c0 m d : Nat) (rn : Int) (td : Nat → Int) (same : Bool) (e : Ending) (w' : World) : Prop :=
  if same then e = .returned (.tuple #[.agg (refC s i (.slice A0 n0 c0) (.slice B m d) rn td), .int .i64 0]) ∧ Sat E w' F
  else ∃ A c D d3 M, e = .returned (.tuple #[.agg (refC s (i + (P.length - 1 : Nat)) (.slice A P.length c) (.slice D M.length d3) (wrap64 (rn + 1)) td), .int .i64 0]) ∧ ints M = shufL s (P.length - 1) i (ints P) ∧ M.Perm P ∧ Sat E w' (sl 3 1 A P.length c (ints P) * (sl 3 1 D M.length d3 (ints M) * F))
set_option maxHeartbeats 4000000 in
set_option maxRecDepth 100000 in
theorem rrenew_ok (E w : World) (F : Asn) (s i : Int) (R : List Int) (A0 B : Option Addr) (n0 c0 m d : Nat) (rn : Int) (td : Nat → Int) (A : Option Addr) (n c : Nat) (L : List Int) (hs : Sat E w F) (hr : rd F 1 A n (ints L)) (hR : RS F A0 n0 c0 R) (hn : n ≤ 60000) (hn0 : n0 ≤ 60000) (hg : Good L) (hL : L ≠ []) (h0 : 0 ≤ i) (hi : i ≤ 900000) :
    Calls Try.prog 71 #[.agg (refC s i (.slice A0 n0 c0) (.slice B m d) rn td), .slice A n c] w (RRen E F s i (riseL (memb L)) R A0 B n0 c0 m d rn td (decide (riseL (memb L) = R))) := by
  obtain ⟨P, hP⟩ : ∃ P, P = riseL (memb L) := ⟨_, rfl⟩
  obtain ⟨same, hsame⟩ : ∃ b, b = decide (P = R) := ⟨_, rfl⟩
  rw [← hP, ← hsame]
  have hz := (hs.alloc (refC s i (.slice A0 n0 c0) (.slice B m d) rn td) 122).alloc refZ 122
  rw [World.size_alloc] at hz
  have hri := hide (rise_call E _ _ A n c L hz hr.right.right hn)
  unfold refZ refC at hri
  have HOK := hide (And.intro hg hL)
  have HP := hide hP
  have HSAME := hide hsame
  have HR := hide hR
  have hP8 : P.length ≤ 8 := by rw [hP]; exact riseL_len _
  clear hs hr hz hg hL hP hsame hR
  go_enter Try.func71, Try.ntmps71
  unfold refC
  go_wp2_with fail
  refine (unhide hri).mono ?_
  rintro e w2 ⟨A2, c2, M, ok, rfl, hok, hM, -, hs2⟩
  obtain rfl : ok = true := hok.2 (unhide HOK)
  have hMP : M = P := by rw [hM (unhide HOK).1, unhide HP]
  subst hMP
  have hb : Sat E w2 (Asn.blk w.heap.size 122 (refC s i (.slice A0 n0 c0) (.slice B m d) rn td) * _) := hs2.f3
  have k2 : w2.cell? ⟨w.heap.size, 2, none⟩ = some (.slice A0 n0 c0) := hb.cell 2
  have kf : ∀ j, w2.frozen? ⟨w.heap.size, j, none⟩ = false := fun j => hb.frozen j
  have hsi := sameI05 E w2 _ A2 A0 M.length c2 n0 c0 M R hs2 rd_sl.left (unhide HR).rd.right.right.right (by omega) (by omega)
  rw [← unhide HSAME] at hsi
  have HSI := hide hsi
  obtain ⟨q, hq⟩ : ∃ q, q = M.length := ⟨_, rfl⟩
  rw [← hq] at HSI ⊢
  have HQ := hide hq
  clear hs2 hok hM hri hb hsi hq
  go_wp2_with fail
  refine (unhide HSI).mono ?_
  rintro e w3 ⟨rfl, hs3⟩
  clear HSI k2 kf
  have hb : Sat E w3 (Asn.blk w.heap.size 122 (refC s i (.slice A0 n0 c0) (.slice B m d) rn td) * _) := hs3.f3
  cases same
  · have k2 : w3.cell? ⟨w.heap.size, 2, none⟩ = some (.slice A0 n0 c0) := hb.cell 2
    have kf : ∀ j, w3.frozen? ⟨w.heap.size, j, none⟩ = false := fun j => hb.frozen j
    have hb2 := refPaths hb (.slice A2 q c2)
    have HB := Lib.hid hb2.blk
    have hbg := hide (rbegin E _ _ s i M A2 B q c2 m d rn td hb2 (Sat.slRS hs3).left.right hP8 h0 hi)
    clear hs3 hb hb2
    go_upto_region 7 with (fail)
    go_wp2_with (refine wpList_load_row rfl 122 (.tmp 2) rfl w.heap.size rfl 122 _ (0, 0) _ HB.out Try.underlying122 rfl (by kernel_rfl) ?_)
    refine (unhide hbg).mono ?_
    rintro e w4 ⟨D, d3, M3, rfl, h1, h2, hs4⟩
    clear hbg HB
    have hs4' : Sat E w4 (Asn.blk (w.heap.size + 1) 122 refZ * _) := hs4.f4
    have HZ := Lib.hid hs4'.blk
    have hs5 := hs4'.row (refC s (i + (M.length - 1 : Nat)) (.slice A2 q c2) (.slice D M3.length d3) (wrap64 (rn + 1)) td)
    have HF := Lib.hid hs5.blk
    have HS := hide ((hs5.right).perm (show _ = (sl 3 1 A2 q c2 (ints M) * (sl 3 1 D M3.length d3 (ints M3) * F)) * (Asn.blk w.heap.size 122 _) by ac_rfl)).left
    have H1 := hide h1
    have H2 := hide h2
    clear hs4 hs4' hs5 h1 h2
    go_wp2_with (refine wpList_store_row rfl 122 (.tmp 4) (.tmp 24) rfl (w.heap.size + 1) _ rfl rfl 122 _ HZ.out (by kernel_rfl) rfl (refC_one _ _ _ _ _ _ _ _ _ _) ?_)
    exact bodyPost_ret (results_cell2 (p := 4) (u1 := 5) rfl _ _ _ _ _ _ _ rfl HF.out Try.underlying122 rfl (by kernel_rfl)) rfl ⟨A2, c2, D, d3, M3, by rw [← unhide HQ]; rfl, unhide H1, unhide H2, by have h := unhide HS; rw [← unhide HQ] at h ⊢; exact h⟩
  · have HB := Lib.hid hb.blk
    have hb2 : Sat E w3 (Asn.blk (w.heap.size + 1) 122 refZ * _) := hs3.f2
    have HZ := Lib.hid hb2.blk
    have hs5 := hb2.row (refC s i (.slice A0 n0 c0) (.slice B m d) rn td)
    have HF := Lib.hid hs5.blk
    have HS := hide hs5.right.right.right
    clear hs3 hb hb2 hs5
    go_upto_region 5 with (fail)
    go_wp2_with (first
      | (refine wpList_load_row rfl 122 (.tmp 2) rfl w.heap.size rfl 122 _ (0, 0) _ HB.out Try.underlying122 rfl (by kernel_rfl) ?_)
      | (refine wpList_store_row rfl 122 (.tmp 4) (.tmp 20) rfl (w.heap.size + 1) _ rfl rfl 122 _ HZ.out (by kernel_rfl) rfl (refC_one _ _ _ _ _ _ _ _ _ _) ?_))
    exact bodyPost_ret (results_cell2 (p := 4) (u1 := 5) rfl _ _ _ _ _ _ _ rfl HF.out Try.underlying122 rfl (by kernel_rfl)) rfl ⟨rfl, unhide HS⟩
end Go.Proofs.Ytpcoehbjbjfggaa
