/- The receiver: the page's example. -/
import Derived.Test.YtdfidijlconhnaaRcMI
namespace Go.Proofs.Ytdfidijlconhnaa
open Go.RowKit Asn
attribute [local go_sem] Oper.semAt_some

def awM1 : RM := ⟨1, [], ⟨[], 0, 1, 1⟩, 1, 0, 1, false⟩
def awP (z : Nat) : Pk := ⟨1, 3, 0, 0, 1, 1, 0, 0, some ⟨z, 0, none⟩, 1, 1, [97]⟩
theorem aw_bad (z : Nat) : ¬ badP (awP z).abs := by
  unfold badP
  show ¬ ((1 : Int) ≠ 1 ∨ hasF 3 4 = true ∨ ¬ ((0 : Int) ≤ 0 ∧ (0 : Int) ≤ 1152921504606846976))
  have : hasF 3 4 = false := by decide
  rw [this]
  simp
theorem aw_t1 (z : Nat) : takeM 8 rm0 (awP z).abs = (awM1, some 2, [[97]]) := by
  unfold takeM
  rw [if_neg (aw_bad z), if_neg (by unfold hadM; simp [rm0, awP, Pk.abs]), if_neg (by simp [rm0, awP, Pk.abs]), if_neg (by show ¬ hasF 3 3 = true; decide)]
  have h1 : insP rm0.K (awP z).abs = [(awP z).abs] := rfl
  rw [h1]
  have h2 : goesM [(awP z).abs] rm0.next (rm0.j, []) = (1, (⟨[], 0, 1, 1⟩, [[97]]), false, []) := by
    unfold goesM
    rw [if_pos (show (awP z).abs.q = (rm0.next : Int) from rfl), if_neg (by show ¬ hasF 3 2 = true; decide)]
    unfold goesM eatA
    have h3 : hasF (awP z).abs.fl 1 = true := by show hasF 3 1 = true; decide
    rw [h3]
    have h4 : RJ.add rm0.j (awP z).abs.b true = (⟨[], 0, 1, 1⟩, [97], true, 0) := by
      unfold RJ.add
      rw [if_neg (by simp [awP, Pk.abs]), if_neg (by simp [rm0, awP, Pk.abs]), if_pos rfl]
      simp [wrap64, rm0, awP, Pk.abs]
    rw [h4]
    rfl
  rw [h2]
  rfl
theorem aw_t2 (z : Nat) : takeM 8 awM1 (awP z).abs = (awM1, some 2, []) := by
  unfold takeM
  rw [if_neg (aw_bad z), if_pos (by unfold hadM; simp [awM1, awP, Pk.abs])]
set_option maxHeartbeats 2000000 in
set_option maxRecDepth 100000 in
theorem rc_awake {E w : World} {F : Asn} (hs : Sat E w F) : Calls Try.prog 37 #[] w fun e w' => e = .returned (.bool true) ∧ Sat E w' F := by
  have hconv := fun (w : World) (C : Array Value) (n c : Nat) => Lib.run_convert_bytes_const (P := Try.prog) w 22 5 C n c Try.underlying22 Try.underlying5
  go_enter Try.func37, Try.ntmps37
  go_wp2_with fail
  refine (conf_call w).mono ?_
  rintro e w1 ⟨rfl, hb⟩
  have hn := hide (rcm_new ⟨3, 2, 1, 2, 8, 4, 40, 4, 6, 20, 9, 6, 40, 0⟩ 0 1 1 0 (hs.under hb) (by decide))
  unfold Cf.cells at hn ⊢
  clear hs hb
  go_wp2_with fail
  refine (unhide hn).mono ?_
  rintro e w2 ⟨g, bb, jb, mb, win, hwin, rfl, h2⟩
  obtain rfl : win = 8 := by omega
  obtain ⟨k, hk⟩ : ∃ k : RcK, k = ⟨bb, jb, mb, 0, 1, 1, 0, 2, 8⟩ := ⟨_, rfl⟩
  rw [← hk] at h2
  obtain ⟨z, hz⟩ : ∃ z, z = w2.heap.size := ⟨_, rfl⟩
  have h3 := h2.grow (X := Asn.obj z (.cells #[.int .u8 97] 5 (1, 2))) (w' := w2.alloc (.cells #[.int .u8 97] 5 (1, 2))) (fun G hG => by rw [hz]; exact (hG.allocO _).f2)
  have h4 := h3.grow (X := Asn.blk (z + 1) 79 (awP z).cells) (w' := (w2.alloc (.cells #[.int .u8 97] 5 (1, 2))).alloc (.cells (awP z).cells 79)) (fun G hG => by
    have := hG.alloc (awP z).cells 79
    rw [World.size_alloc, ← hz] at this
    exact this.f2)
  have hrd : rd (Asn.blk (z + 1) 79 (awP z).cells * (Asn.obj z (.cells #[.int .u8 97] 5 (1, 2)) * F)) 1 (awP z).A (awP z).n (bytes (awP z).b) := (rd_objz (cs := #[.int .u8 97]) (fr := (1, 2)) (n := 1) (z := 1) (G := F) rfl).right
  have hkw : k.win = 8 := by rw [hk]
  have hT := rcm_take (awP z) h4 (by show (3 : Int) ≤ _; decide) (by decide) (by decide) (by show (1 : Nat) ≤ _; decide) hrd.right
  unfold TakeM at hT
  rw [hkw, aw_t1] at hT
  obtain ⟨X0, hsat⟩ := h4.sat
  have HB3 := Lib.hid hsat.f2.blk
  have HT := hide hT
  have HZ := hide hz
  have HK := hide hk
  unfold Pk.cells awP at HB3 HT
  clear hn h2 h3 h4 hT hk hwin hsat
  go_wp2_with (refine wpList_load_row rfl 79 (.tmp 3) rfl (w2.heap.size + 1) rfl 79 _ (0, 0) _ (by rw [← hz]; exact HB3.out) Try.underlying79 rfl (by kernel_rfl) ?_)
  rw [← hz]
  clear hz HZ
  refine (unhide HT).mono ?_
  rintro e w3 ⟨z1, A1, c1, X1, rfl, h5⟩
  rw [sep_one] at h5
  simp only [ansV, List.length_cons, List.length_nil, Nat.zero_add]
  obtain ⟨X5, hsat5⟩ := h5.sat
  have h6 := h5.perm (show _ = (Asn.blk z1 79 (ansC k 2 (awP z)) * (bbsl A1 1 c1 [[97]])) * (Asn.blk (z + 1) 79 #[.int .i64 1, .int .i64 3, .int .i64 0, .int .i64 0, .int .i64 1, .int .i64 1, .int .i64 0, .int .i64 0, .slice (some ⟨z, 0, none⟩) 1 1] * (Asn.obj z (.cells #[.int .u8 97] 5 (1, 2)) * F)) by show Asn.blk _ _ _ * (bbsl A1 1 c1 [[97]] * _) = _; ac_rfl)
  have hT2 := rcm_take (awP z) h6 (by show (3 : Int) ≤ _; decide) (by decide) (by decide) (by show (1 : Nat) ≤ _; decide) hrd.right.right
  unfold TakeM at hT2
  rw [unhide HK] at hT2
  dsimp only at hT2
  rw [← unhide HK, aw_t2] at hT2
  have HB5 := Lib.hid (hsat5.perm (show _ = Asn.blk (z + 1) 79 #[.int .i64 1, .int .i64 3, .int .i64 0, .int .i64 0, .int .i64 1, .int .i64 1, .int .i64 0, .int .i64 0, .slice (some ⟨z, 0, none⟩) 1 1] * (X5 * (Asn.blk z1 79 (ansC k 2 (awP z)) * (bbsl A1 1 c1 [[97]] * ((Asn.obj z (.cells #[.int .u8 97] 5 (1, 2)) * F))))) by show X5 * (Asn.blk _ _ _ * (bbsl A1 1 c1 [[97]] * ((Asn.blk _ _ #[_, _, _, _, _, _, _, _, _] * _)))) = _; ac_rfl)).blk
  have HT2 := hide hT2
  unfold Pk.cells awP at HT2
  clear h5 h6 hT2 HT hsat5
  go_wp2_with (refine wpList_load_row rfl 79 (.tmp 3) rfl (z + 1) rfl 79 _ (0, 0) _ HB5.out Try.underlying79 rfl (by kernel_rfl) ?_)
  refine (unhide HT2).mono ?_
  rintro e w4 ⟨z2, A2, c2, X2, rfl, h7⟩
  simp only [ansV, List.length_nil]
  have hI := rcm_issue (pp := 2) h7 (by rw [unhide HK]; rfl) (by decide) (by decide) (by decide) (by decide)
  have hiv : issueM k 2 awM1 = ({ awM1 with iss := 1, pen := 0 }, #[.int .i64 4, .int .i64 0, .int .i64 0, .int .i64 1, .int .i64 0, .int .i64 1, .int .i64 0, .int .i64 1, .slice none 0 0], true) := by
    rw [unhide HK]
    rfl
  rw [hiv] at hI
  have HI := hide hI
  clear h7 hI hiv HT2
  go_wp2_with fail
  refine (unhide HI).mono ?_
  rintro e w5 ⟨rfl, h8⟩
  have hP := hide (fun (cs : Array Value) (t : TypeId) => rcm_pending (h8.grow (X := Asn.blk w5.heap.size t cs) (w' := w5.alloc (.cells cs t)) (fun G hG => (hG.alloc cs t).f2)))
  obtain ⟨X8, hsat8⟩ := h8.sat
  have hs9 := hsat8.perm (show _ = bbsl A1 1 c1 [[97]] * (Asn.blk z1 79 (ansC k 2 (awP z)) * (Asn.blk z2 79 (ansC k 2 (awP z)) * (F * (X8 * (bbsl A2 0 c2 [] * (Asn.blk (z + 1) 79 #[.int .i64 1, .int .i64 3, .int .i64 0, .int .i64 0, .int .i64 1, .int .i64 1, .int .i64 0, .int .i64 0, .slice (some ⟨z, 0, none⟩) 1 1] * Asn.obj z (.cells #[.int .u8 97] 5 (1, 2)))))))) by show X8 * (Asn.blk _ _ _ * (bbsl A2 0 c2 [] * (_ * _))) = _; ac_rfl)
  obtain ⟨rs, hrs, hrl, _, hs10⟩ := hs9.bbslOpen
  obtain ⟨r0, rfl⟩ : ∃ r, rs = [r] := by
    match rs, hrl with
    | [r], _ => exact ⟨r, rfl⟩
  obtain ⟨rA, rc, rb⟩ := r0
  obtain rfl : rb = [97] := by simpa using hrs
  obtain ⟨ab, ao, rfl, hab, hac, haf⟩ := hs10.slAt (by omega)
  have e0 : w5.cell? ⟨ab, ao, none⟩ = some (.slice rA 1 rc) := by
    have := hac 0 _ (show (heads [(rA, rc, [97])])[0]? = some (.slice rA 1 rc) from rfl)
    rwa [Nat.add_zero] at this
  have hstr := fun (cs : Array Value) (t : TypeId) => (Sat.slRd (e := 5) (c := rc) (n := 1) ((((hs10.f2).perm (show _ = bsl rA 1 rc [97] * (sl 22 1 (some ⟨ab, ao, none⟩) 1 c1 (heads [(rA, rc, [97])]) * _) by show (bsl rA 1 rc [97] * (1 : Asn)) * _ = _; rw [sep_one])).allocKeep (.cells cs t)))).str (P := Try.prog) (l := [97]) Try.underlying22 Try.underlying5 Try.underlying9 rc
  have e1 : w5.cell? ⟨z1, 0, none⟩ = some (.int .i64 2) := hs10.f3.cell 0
  have e2 : w5.cell? ⟨z1, 3, none⟩ = some (.int .i64 1) := by
    have := hs10.f3.cell 3
    rw [show (ansC k 2 (awP z))[3]? = some (.int .i64 k.dst) from rfl, unhide HK] at this
    exact this
  have e3 : w5.cell? ⟨z2, 0, none⟩ = some (.int .i64 2) := hs10.f4.cell 0
  have l1 : z1 < w5.heap.size := Sat.lt (o := .cells _ _ (0, 0)) hs10.f3
  have l2 : z2 < w5.heap.size := Sat.lt (o := .cells _ _ (0, 0)) hs10.f4
  have hF := hide (fun (cs : Array Value) (t : TypeId) => (hs10.f5).left.allocKeep (.cells cs t))
  clear h8 hsat8 hs9 hs10 hrs hrl hac haf HI
  go_wp2_with (go_at_call 53; refine (unhide hP _ _).mono ?_; rintro e w' ⟨rfl, rfl⟩)
  go_ret
  exact ⟨rfl, unhide hF _ _⟩
end Go.Proofs.Ytdfidijlconhnaa
