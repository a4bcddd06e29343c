/- The program's perm: Next, Renew, Fork. -/
import Derived.Test.YtpcoehbjbjfggaaPermX
namespace Go.Proofs.Ytpcoehbjbjfggaa
open Go.RowKit Asn
/-- The rest of a row that may be read. -/
theorem RS.tail {X : Asn} {ad : Addr} {n c : Nat} {x : Int} {l : List Int} (h : RS X (some ad) n c (x :: l)) (hn : 0 < n) {B : Option Addr} (hB : B = if c = 1 then some ad else some (ad.add 1)) : RS X B (n - 1) (c - 1) l :=
  ⟨by have := h.rd.intsRest (q := 1) (B := B) (by omega) h.cap hB; simpa using this, by have := h.cap; omega, (fun h2 => by rw [h2] at hB; split at hB <;> cases hB), by have := h.max; unfold maxLen at *; omega⟩
section
variable {E w : World} {F X : Asn} {g gs n c : Nat} {s i : Int} {pb : Nat → Bool} {rd : Int} {td : Nat → Int} {A : Option Addr} {L : List Int}
/-- What Next leaves where some are left. -/
def NextM (E : World) (X F : Asn) (g gs : Nat) (s i : Int) (pb : Nat → Bool) (rd : Int) (td : Nat → Int) (p : Nat) (l : List Int) (e : Ending) (w' : World) : Prop :=
  ∃ A n c, e = .returned (.int .i64 p) ∧ RS X A n c l ∧ Sat E w' (PermAt g gs s i pb (.slice A n c) rd (addT td p (td p + 1)) * (X * F))
/-- What Next leaves where it was the last one. -/
def NextL (E : World) (X F : Asn) (g gs : Nat) (s i : Int) (pb : Nat → Bool) (rd : Int) (td : Nat → Int) (p : Nat) (e : Ending) (w' : World) : Prop :=
  ∃ A c M, e = .returned (.int .i64 p) ∧ ints M = shufL s ((riseL pb).length - 1) i (ints (riseL pb)) ∧ M.Perm (riseL pb) ∧
    Sat E w' (PermAt g gs s (i + ((riseL pb).length - 1 : Nat)) pb (.slice A M.length c) (wrap64 (rd + 1)) (addT td p (td p + 1)) * (sl 3 1 A M.length c (ints M) * (X * F)))
set_option maxHeartbeats 4000000 in
set_option maxRecDepth 100000 in
theorem next_call {p : Nat} {l : List Int} (hs : Sat E w (PermAt g gs s i pb (.slice A n c) rd td * (X * F))) (hr : RS X A n c ((p : Int) :: l)) (hp : p < 8) (ht : 0 ≤ td p ∧ td p ≤ 1000000) (h0 : 0 ≤ i) (hi : i ≤ 900000) :
    Calls Try.prog 66 #[.pointer (some ⟨g, 0, none⟩)] w fun e w' => (l ≠ [] → NextM E X F g gs s i pb rd td p l e w') ∧ (l = [] → NextL E X F g gs s i pb rd td p e w') := by
  have hln := hr.len hs.right.left
  simp at hln
  have hn0 : 0 < n := by omega
  obtain ⟨ad, rfl, hc⟩ := (RdW.of_rd hr.rd hs.right.left).int_at hn0
  have e0 : ad.add 0 = ad := by unfold Addr.add; simp
  rw [e0] at hc
  have hc2 : w.cell? ad = some (.int .i64 p) := hc
  have h9 : w.cell? ⟨g, 9, none⟩ = some (.slice (some ad) n c) := hs.asc.cell 9
  have hf9 : w.frozen? ⟨g, 9, none⟩ = false := hs.asc.frozen 9
  have hno := hide (perm_is hs)
  obtain ⟨B, hB⟩ : ∃ B, B = if c = 1 then some ad else some (ad.add 1) := ⟨_, rfl⟩
  obtain ⟨d, hd⟩ : ∃ d, d = c - 1 := ⟨_, rfl⟩
  obtain ⟨m, hm⟩ : ∃ m, m = n - 1 := ⟨_, rfl⟩
  have hrt := hr.tail hn0 hB
  rw [← hd, ← hm] at hrt
  have HRT := hide hrt
  have hcap := hr.cap
  have hmax := hr.max
  unfold maxLen at hmax
  obtain ⟨lv, hlv⟩ : ∃ lv, lv = Value.slice B m d := ⟨_, rfl⟩
  have hs2 : Hid (Sat E (w.setCell ⟨g, 9, none⟩ (.slice B m d)) ((Asn.blk g 137 (permC gs pb lv rd td) * (X * F)) * SrcAt gs s i)) := by
    rw [hlv]
    exact (permLeft hs.asc (.slice B m d)).perm (by ac_rfl)
  have HLV := hide hlv
  have hlm : l.length = m := by omega
  have hpi : (p : Int) < 8 := by omega
  have hwr : IntKind.i64.wrap (td p + 1) = td p + 1 := by rw [IntKind.wrap_i64]; omega
  clear hs hr hc e0 hrt hlv
  by_cases hl : l = []
  · subst hl
    obtain rfl : m = 0 := hlm.symm
    obtain rfl : n = 1 := by omega
    clear hlm hm
    by_cases hc1 : c = 1
    all_goals
      first | (rw [if_pos hc1] at hB; subst hc1; obtain rfl : d = 0 := (by omega); clear hd) | (rw [if_neg hc1] at hB; subst hd)
      subst hB
      go_enter Try.func66, Try.ntmps66
      go_wp2_with (go_at_call 97; refine (unhide hno).mono ?_; rintro e w' ⟨rfl, rfl⟩)
      refine wp_region_slr (Q := _) (E := E) (fun W => ∃ R, ∃ v_ : Nat → Int, Sat E W ((Asn.blk g 137 (permC gs pb lv rd (v_)) * (X * F)) * R)) [10] [] [] [5] (fun _ => (0, #[], fun _ => undef)) [0, 1, 2, 3, 4, 5, 6, 7, 8, 9, 10] (by kernel_rfl) (by kernel_rfl) (unhide hs2) (fun W R h => ⟨_, _, h.asc⟩) ?_
      iterate 5
        refine wpS_f _ rfl rfl (v := ?_) ?_ ?_
        rotate_left
        · rintro W ⟨R, v_, hW⟩
          go_simp
          first | rfl | (rw [IntKind.wrap_i64]; omega)
        go_simp
      refine wpS_r _ rfl rfl (v := ?_) ?_ ?_
      rotate_left
      · rintro W ⟨R, hW⟩
        have f1 : W.cell? ⟨g, 11 + p, none⟩ = some (.int .i64 (td p)) := by rw [hW.asc.asc.cell]; exact permC_get _ _ _ _ _ hp
        go_simp
        first | rfl | (rw [IntKind.wrap_i64]; omega)
      go_simp
      iterate 4
        refine wpS_f _ rfl rfl (v := ?_) ?_ ?_
        rotate_left
        · rintro W ⟨R, v_, hW⟩
          go_simp
          first | rfl | (rw [IntKind.wrap_i64]; omega)
        go_simp
      refine wpS_e _ rfl rfl (fun W R hW => ?_)
      have f1 : W.cell? ⟨g, 11 + p, none⟩ = some (.int .i64 (td p)) := by rw [hW.asc.asc.cell]; exact permC_get _ _ _ _ _ hp
      have f2 : W.frozen? ⟨g, 11 + p, none⟩ = false := hW.asc.asc.frozen _
      have hst := hide (show Sat E _ ((Asn.blk g 137 (permC gs pb lv rd (addT td p (td p + 1))) * (X * F)) * (SrcAt gs s i) * R) from (permTd hW.asc.asc hp (td p + 1)).perm (by first | ac_rfl | (simp only [Asn.one_sep, Asn.sep_one]; ac_rfl)))
      unfold stp
      go_simp
      refine (show ∃ F', _ from ⟨(Asn.blk g 137 (permC gs pb lv rd (addT td p (td p + 1))) * (X * F)) * (SrcAt gs s i), fun W R h => ⟨_, _, h.asc⟩, unhide hst, ?_⟩)
      clear hst hW f1 f2
      go_simp
      refine wpS_n (fun w3 hs3 => ?_)
      rw [unhide HLV] at hs3
      have g9 := hs3.asc.cell 9
      have hs4 := hs3.perm (show _ = PermAt g gs s i pb (.slice _ _ _) rd (addT td p (td p + 1)) * (X * F) by unfold PermAt; ac_rfl)
      have g9' : w3.cell? ⟨g, 9, none⟩ = some (.slice _ 0 _) := g9
      have hbg := hide (begin_call E w3 _ g gs s i pb _ rd _ hs4 h0 hi)
      clear g9 hs3 hs4
      go_wp2_with fail
      refine (unhide hbg).mono ?_
      rintro e w4 ⟨⟨v, rfl⟩, A4, c4, M, h1, h2, hs5⟩
      have hfin : Hid (NextL E X F g gs s i pb rd td p (.returned (.int .i64 p)) w4) := ⟨A4, c4, M, rfl, h1, h2, hs5⟩
      clear h1 h2 hs5 hbg
      go_wp2_with fail
      go_ret
      exact ⟨fun h => absurd rfl h, fun _ => unhide hfin⟩
  · have hm1 : 0 < m := by
      rcases Nat.eq_zero_or_pos m with h | h
      · rw [h] at hlm; exact absurd (List.eq_nil_of_length_eq_zero hlm) hl
      · exact h
    have hc1 : ¬ c = 1 := by omega
    have hm2 : 0 < n - 1 := by omega
    rw [if_neg hc1] at hB
    subst hd hB hm
    clear hlm
    go_enter Try.func66, Try.ntmps66
    go_wp2_with (go_at_call 97; refine (unhide hno).mono ?_; rintro e w' ⟨rfl, rfl⟩)
    refine wp_region_slr (Q := _) (E := E) (fun W => ∃ R, ∃ v_ : Nat → Int, Sat E W ((Asn.blk g 137 (permC gs pb lv rd (v_)) * (X * F)) * R)) [10] [] [] [5] (fun _ => (0, #[], fun _ => undef)) [0, 1, 2, 3, 4, 5, 6, 7, 8, 9, 10] (by kernel_rfl) (by kernel_rfl) (unhide hs2) (fun W R h => ⟨_, _, h.asc⟩) ?_
    iterate 5
      refine wpS_f _ rfl rfl (v := ?_) ?_ ?_
      rotate_left
      · rintro W ⟨R, v_, hW⟩
        go_simp
        first | rfl | (rw [IntKind.wrap_i64]; omega)
      go_simp
    refine wpS_r _ rfl rfl (v := ?_) ?_ ?_
    rotate_left
    · rintro W ⟨R, hW⟩
      have f1 : W.cell? ⟨g, 11 + p, none⟩ = some (.int .i64 (td p)) := by rw [hW.asc.asc.cell]; exact permC_get _ _ _ _ _ hp
      go_simp
      first | rfl | (rw [IntKind.wrap_i64]; omega)
    go_simp
    iterate 4
      refine wpS_f _ rfl rfl (v := ?_) ?_ ?_
      rotate_left
      · rintro W ⟨R, v_, hW⟩
        go_simp
        first | rfl | (rw [IntKind.wrap_i64]; omega)
      go_simp
    refine wpS_e _ rfl rfl (fun W R hW => ?_)
    have f1 : W.cell? ⟨g, 11 + p, none⟩ = some (.int .i64 (td p)) := by rw [hW.asc.asc.cell]; exact permC_get _ _ _ _ _ hp
    have f2 : W.frozen? ⟨g, 11 + p, none⟩ = false := hW.asc.asc.frozen _
    have hst := hide (show Sat E _ ((Asn.blk g 137 (permC gs pb lv rd (addT td p (td p + 1))) * (X * F)) * (SrcAt gs s i) * R) from (permTd hW.asc.asc hp (td p + 1)).perm (by first | ac_rfl | (simp only [Asn.one_sep, Asn.sep_one]; ac_rfl)))
    unfold stp
    go_simp
    refine (show ∃ F', _ from ⟨(Asn.blk g 137 (permC gs pb lv rd (addT td p (td p + 1))) * (X * F)) * (SrcAt gs s i), fun W R h => ⟨_, _, h.asc⟩, unhide hst, ?_⟩)
    clear hst hW f1 f2
    go_simp
    refine wpS_n (fun w3 hs3 => ?_)
    rw [unhide HLV] at hs3
    have g9 := hs3.asc.cell 9
    have hs4 := hs3.perm (show _ = PermAt g gs s i pb (.slice _ _ _) rd (addT td p (td p + 1)) * (X * F) by unfold PermAt; ac_rfl)
    have g9' : w3.cell? ⟨g, 9, none⟩ = some (.slice _ _ _) := g9
    have hfin : Hid (NextM E X F g gs s i pb rd td p l (.returned (.int .i64 p)) w3) := ⟨_, _, _, rfl, unhide HRT, hs4⟩
    clear g9 hs3 hs4
    go_wp2_with fail
    go_ret
    exact ⟨fun _ => unhide hfin, fun h => absurd h hl⟩
end
end Go.Proofs.Ytpcoehbjbjfggaa
