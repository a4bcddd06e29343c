/- The document's perm: New, Next, Renew. -/
import Derived.Test.YtpcoehbjbjfggaaRef06B
import Derived.Test.YtpcoehbjbjfggaaSameI
namespace Go.Proofs.Ytpcoehbjbjfggaa
open Go.RowKit Asn

/-- An unmade list. -/
def refZ : Array Value := refC 0 0 (.slice none 0 0) (.slice none 0 0) 0 fun _ => 0
theorem rnew_no (E w : World) (F : Asn) (A : Option Addr) (n c : Nat) (s : Int) (L : List Int) (hs : Sat E w F) (hr : rd F 1 A n (ints L)) (hn : n ≤ 60000) (hbad : ¬ (Good L ∧ L ≠ [])) :
    Calls Try.prog 68 #[.int .u64 s, .slice A n c] w fun e w' => e = .returned (.tuple #[.agg refZ, .int .i64 60]) ∧ Sat E w' F := by
  have hz := hs.alloc refZ 122
  have hri := hide (rise_call E _ _ A n c L hz hr.right hn)
  unfold refZ refC at hri
  clear hs hr hz
  go_enter Try.func68, Try.ntmps68
  go_wp2_with fail
  refine (unhide hri).mono ?_
  rintro e w2 ⟨A2, c2, M, ok, rfl, hok, -, -, hs2⟩
  have hokf : ok = false := by cases ok; rfl; exact absurd (hok.1 rfl) hbad
  subst hokf
  have hb := hs2.f2
  have hs3 := hb.row refZ
  have HZ := Lib.hid hb.blk
  have HF := Lib.hid hs3.blk
  have HS := hide hs3.right.right
  clear hs2 hb hs3 hok hri
  go_upto_region 3 with (fail)
  go_wp2_with (refine wpList_store_row rfl 122 (.tmp 4) (.tmp 15) rfl w.heap.size refZ rfl rfl 122 _ HZ.out (by kernel_rfl) rfl (refC_one _ _ _ _ _ _ _ _ _ _) ?_)
  exact bodyPost_ret (results_cell2 (p := 4) (u1 := 5) rfl _ _ _ _ _ _ _ rfl HF.out Try.underlying122 rfl (by kernel_rfl)) rfl ⟨rfl, unhide HS⟩
/-- What New leaves. -/
def RNewP (E : World) (F : Asn) (s : Int) (R : List Int) (e : Ending) (w' : World) : Prop :=
  ∃ A c B d M, e = .returned (.tuple #[.agg (refC s (R.length - 1 : Nat) (.slice A R.length c) (.slice B M.length d) 1 fun _ => 0), .int .i64 0]) ∧ ints M = shufL s (R.length - 1) 0 (ints R) ∧ M.Perm R ∧
    Sat E w' (sl 3 1 A R.length c (ints R) * (sl 3 1 B M.length d (ints M) * F))
set_option maxHeartbeats 4000000 in
set_option maxRecDepth 100000 in
theorem rnew_ok (E w : World) (F : Asn) (A : Option Addr) (n c : Nat) (s : Int) (L : List Int) (hs : Sat E w F) (hr : rd F 1 A n (ints L)) (hn : n ≤ 60000) (hg : Good L) (hL : L ≠ []) :
    Calls Try.prog 68 #[.int .u64 s, .slice A n c] w (RNewP E F s (riseL (memb L))) := by
  have hz := hs.alloc refZ 122
  have hri := hide (rise_call E _ _ A n c L hz hr.right hn)
  unfold refZ refC at hri
  have HG := hide hg
  have HL := hide hL
  clear hs hr hz hg hL
  go_enter Try.func68, Try.ntmps68
  go_wp2_with fail
  refine (unhide hri).mono ?_
  rintro e w2 ⟨A2, c2, M, ok, rfl, hok, hM, hM8, hs2⟩
  obtain rfl : ok = true := hok.2 ⟨unhide HG, unhide HL⟩
  have hMM := hM (unhide HG)
  have hbg := rbegin E w2 _ s 0 M A2 none M.length c2 0 0 0 (fun _ => 0) hs2 (Sat.slRS hs2).left hM8 (by omega) (by omega)
  rw [hMM] at hbg hs2 hM8
  obtain ⟨q, hq⟩ : ∃ q, q = M.length := ⟨_, rfl⟩
  have hql : q = (riseL (memb L)).length := by rw [hq, hMM]
  rw [← hql] at hbg hs2
  rw [← hq]
  have HBG := hide hbg
  have HQL := hide hql
  clear hs2 hok hM hMM hri hbg hq hql
  unfold refC at HBG
  go_wp2_with fail
  refine (unhide HBG).mono ?_
  rintro e w3 ⟨B, d, M3, rfl, h1, h2, hs3⟩
  simp only [Int.zero_add, show wrap64 1 = 1 from by unfold wrap64; omega] at *
  have hb := hs3.f3
  have hs4 := hb.row (refC s ((riseL (memb L)).length - 1 : Nat) (.slice A2 q c2) (.slice B M3.length d) 1 fun _ => 0)
  have HZ := Lib.hid hb.blk
  have HF := Lib.hid hs4.blk
  have HS := hide (hs4.right.perm (show _ = sl 3 1 A2 q c2 (ints (riseL (memb L))) * (sl 3 1 B M3.length d (ints M3) * F) by ac_rfl))
  have H1 := hide h1
  have H2 := hide h2
  clear hs3 hb hs4 h1 h2 HBG
  go_wp2_with (refine wpList_store_row rfl 122 (.tmp 4) (.tmp 20) rfl w.heap.size (refC s ((riseL (memb L)).length - 1 : Nat) (.slice A2 q c2) (.slice B M3.length d) 1 fun _ => 0) rfl rfl 122 _ HZ.out (by kernel_rfl) rfl (refC_one _ _ _ _ _ _ _ _ _ _) ?_)
  exact bodyPost_ret (results_cell2 (p := 4) (u1 := 5) rfl _ _ _ _ _ _ _ rfl HF.out Try.underlying122 rfl (by kernel_rfl)) rfl ⟨A2, c2, B, d, M3, by rw [← unhide HQL]; rfl, unhide H1, unhide H2, by rw [← unhide HQL]; have h := unhide HS; rw [← unhide HQL] at h; exact h⟩

/-- What Next leaves where some are left. -/
def RNextM (E : World) (X F : Asn) (s i : Int) (pv : Value) (rn : Int) (td : Nat → Int) (p : Nat) (l : List Int) (e : Ending) (w' : World) : Prop :=
  ∃ A n c, e = .returned (.tuple #[.agg (refC s i pv (.slice A n c) rn (addT td p (td p + 1))), .int .i64 p]) ∧ RS X A n c l ∧ Sat E w' (X * F)
/-- What Next leaves where it was the last one. -/
def RNextL (E : World) (X F : Asn) (s i : Int) (R : List Int) (pv : Value) (rn : Int) (td : Nat → Int) (p : Nat) (e : Ending) (w' : World) : Prop :=
  ∃ A c M, e = .returned (.tuple #[.agg (refC s (i + (R.length - 1 : Nat)) pv (.slice A M.length c) (wrap64 (rn + 1)) (addT td p (td p + 1))), .int .i64 p]) ∧ ints M = shufL s (R.length - 1) i (ints R) ∧ M.Perm R ∧
    Sat E w' (sl 3 1 A M.length c (ints M) * (X * F))
def RNextQ (E : World) (X F : Asn) (s i : Int) (R : List Int) (pv : Value) (rn : Int) (td : Nat → Int) (p : Nat) : List Int → Ending → World → Prop
  | [], e, w' => RNextL E X F s i R pv rn td p e w'
  | y :: l, e, w' => RNextM E X F s i pv rn td p (y :: l) e w'
set_option maxHeartbeats 4000000 in
set_option maxRecDepth 100000 in
theorem rnext (E w : World) (X F : Asn) (s i : Int) (R : List Int) (A B : Option Addr) (n c m d : Nat) (rn : Int) (td : Nat → Int) (p : Nat) (l : List Int) (hs : Sat E w (X * F)) (hr : RS X A n c R) (hl : RS X B m d ((p : Int) :: l)) (hR : R.length ≤ 8) (hp : p < 8) (ht : 0 ≤ td p ∧ td p ≤ 1000000) (h0 : 0 ≤ i) (hi : i ≤ 900000) :
    Calls Try.prog 73 #[.agg (refC s i (.slice A n c) (.slice B m d) rn td)] w (RNextQ E X F s i R (.slice A n c) rn td p l) := by
  have hln := hl.len hs.left
  simp at hln
  have hm0 : 0 < m := by omega
  obtain ⟨ad, rfl, hc⟩ := (RdW.of_rd hl.rd hs.left).int_at hm0
  have e0 : ad.add 0 = ad := by unfold Addr.add; simp
  rw [e0] at hc
  have hc2 : w.cell? ad = some (.int .i64 p) := hc
  have hadl : ad.block < w.heap.size := World.block_lt_of_cell? w _ hc2
  have hs1 := hs.alloc (refC s i (.slice A n c) (.slice (some ad) m d) rn td) 122
  have hs2 := hs1.alloc refZ 122
  rw [World.size_alloc] at hs2
  obtain ⟨B2, hB⟩ : ∃ B, B = if d = 1 then some ad else some (ad.add 1) := ⟨_, rfl⟩
  obtain ⟨d2, hd⟩ : ∃ d2, d2 = d - 1 := ⟨_, rfl⟩
  obtain ⟨m2, hm⟩ : ∃ m2, m2 = m - 1 := ⟨_, rfl⟩
  have hrt := hl.tail hm0 hB
  rw [← hd, ← hm] at hrt
  have hcap := hl.cap
  have hmax := hl.max
  unfold maxLen at hmax
  have hlm : l.length = m2 := by omega
  have hpi : (p : Int) < 8 := by omega
  have hwr : IntKind.i64.wrap (td p + 1) = td p + 1 := by rw [IntKind.wrap_i64]; omega
  obtain ⟨w1, hw1⟩ : ∃ w1, w1 = (w.alloc (.cells (refC s i (.slice A n c) (.slice (some ad) m d) rn td) 122)).alloc (.cells refZ 122) := ⟨_, rfl⟩
  rw [← hw1] at hs2
  simp only [refC, refZ] at hw1
  have hs3 : Sat E w1 (Asn.blk (w.heap.size + 1) 122 refZ * (Asn.blk w.heap.size 122 (refC s i (.slice A n c) (.slice (some ad) m d) rn td) * (X * F))) := hs2
  have hcw : w1.cell? ad = some (.int .i64 p) := by
    obtain ⟨ad', h1, h2⟩ := (RdW.of_rd hl.rd hs3.right.right.left).int_at hm0
    obtain rfl : ad = ad' := by simpa using h1
    rwa [e0] at h2
  have k3 : w1.cell? ⟨w.heap.size, 3, none⟩ = some (.slice (some ad) m d) := hs3.f2.cell 3
  have k5 : w1.cell? ⟨w.heap.size, 5 + p, none⟩ = some (.int .i64 (td p)) := by rw [hs3.f2.cell]; exact refC_get _ _ _ _ _ _ hp
  have kf : ∀ j, w1.frozen? ⟨w.heap.size, j, none⟩ = false := fun j => hs3.f2.frozen j
  have h35 : ¬ (5 + p = 3) := by omega
  have h53 : ¬ (3 = 5 + p) := by omega
  have HR := hide hr
  have HRT := hide hrt
  have HLE := hide (refLeft (refTd hs3.f2 hp (td p + 1)) (.slice B2 m2 d2))
  clear hs hr hl hc hc2 hs1 hs2 hs3 hrt e0 hln hadl
  cases l with
  | nil =>
    obtain rfl : m2 = 0 := hlm.symm
    obtain rfl : m = 1 := by omega
    clear hlm hm
    by_cases hc1 : d = 1
    all_goals
      first | (rw [if_pos hc1] at hB; subst hc1; obtain rfl : d2 = 0 := (by omega); clear hd) | (rw [if_neg hc1] at hB; subst hd)
      subst hB
      go_enter Try.func73, Try.ntmps73
      unfold refC
      go_upto_region 1 with (fail)
      rw [← hw1]
      clear hw1
      go_upto_region 5 with (fail)
      have hle := unhide HLE
      have HB := Lib.hid hle.blk
      have hbg := hide (fun (B : Option Addr) (m d : Nat) => rbegin E _ _ s i R A B n c m d rn (addT td p (td p + 1)) hle (unhide HR).left.right.right hR h0 hi)
      clear hle
      go_wp2_with (refine wpList_load_row rfl 122 (.tmp 1) rfl w.heap.size rfl 122 _ (0, 0) _ HB.out Try.underlying122 rfl (by kernel_rfl) ?_)
      refine (unhide hbg _ _ _).mono ?_
      rintro e w3 ⟨D, d3, M, rfl, h1, h2, hs4⟩
      clear hbg HB HLE
      have HZ := Lib.hid hs4.f2.blk
      have hs5 := hs4.f2.row (refC s (i + (R.length - 1 : Nat)) (.slice A n c) (.slice D M.length d3) (wrap64 (rn + 1)) (addT td p (td p + 1)))
      have HB2 := Lib.hid hs5.blk
      have HZ2 := Lib.hid hs5.f3.blk
      have hs6 := hs5.f3.row (refC s (i + (R.length - 1 : Nat)) (.slice A n c) (.slice D M.length d3) (wrap64 (rn + 1)) (addT td p (td p + 1)))
      have HF := Lib.hid hs6.blk
      have HS := hide hs6.right.right
      have H1 := hide h1
      have H2 := hide h2
      clear hs4 hs5 hs6 h1 h2
      go_wp2_with (first
        | (refine wpList_store_row rfl 122 (.tmp 1) (.tmp 26) rfl w.heap.size _ rfl rfl 122 _ HZ.out (by kernel_rfl) rfl (refC_one _ _ _ _ _ _ _ _ _ _) ?_)
        | (refine wpList_load_row rfl 122 (.tmp 1) rfl w.heap.size rfl 122 _ (0, 0) _ HB2.out Try.underlying122 rfl (by kernel_rfl) ?_)
        | (refine wpList_store_row rfl 122 (.tmp 2) (.tmp 27) rfl (w.heap.size + 1) _ rfl rfl 122 _ HZ2.out (by kernel_rfl) rfl (refC_one _ _ _ _ _ _ _ _ _ _) ?_))
      exact bodyPost_ret (results_cell2 (p := 2) (u1 := 3) rfl _ _ _ _ _ _ _ rfl HF.out Try.underlying122 rfl (by kernel_rfl)) rfl ⟨D, d3, M, rfl, unhide H1, unhide H2, unhide HS⟩
  | cons y l =>
    have hm1 : 0 < m2 := by rw [← hlm]; simp
    have hc1 : ¬ d = 1 := by omega
    have hm2 : 0 < m - 1 := by omega
    rw [if_neg hc1] at hB
    subst hd hB hm
    clear hlm
    go_enter Try.func73, Try.ntmps73
    unfold refC
    go_upto_region 1 with (fail)
    rw [← hw1]
    clear hw1
    go_upto_region 6 with (fail)
    have hle := unhide HLE
    have HB2 := Lib.hid hle.blk
    have HZ2 := Lib.hid hle.f2.blk
    have hs6 := hle.f2.row (refC s i (.slice A n c) (.slice (some (ad.add 1)) (m - 1) (d - 1)) rn (addT td p (td p + 1)))
    have HF := Lib.hid hs6.blk
    have HS := hide hs6.right.right
    clear hle hs6 HLE
    go_wp2_with (first
      | (refine wpList_load_row rfl 122 (.tmp 1) rfl w.heap.size rfl 122 _ (0, 0) _ HB2.out Try.underlying122 rfl (by kernel_rfl) ?_)
      | (refine wpList_store_row rfl 122 (.tmp 2) (.tmp 27) rfl (w.heap.size + 1) _ rfl rfl 122 _ HZ2.out (by kernel_rfl) rfl (refC_one _ _ _ _ _ _ _ _ _ _) ?_))
    exact bodyPost_ret (results_cell2 (p := 2) (u1 := 3) rfl _ _ _ _ _ _ _ rfl HF.out Try.underlying122 rfl (by kernel_rfl)) rfl ⟨_, _, _, rfl, unhide HRT, unhide HS⟩
end Go.Proofs.Ytpcoehbjbjfggaa
