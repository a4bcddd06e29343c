/- Shuffle: of numbers, of strings. -/
import Derived.Test.YtpcoehbjbjfggaaDrawsB
import Derived.Test.YtpcoehbjbjfggaaSlMore
namespace Go.Proofs.Ytpcoehbjbjfggaa
open Go.RowKit Asn

/-- Two change places. -/
def swp (l : List Value) (a b : Nat) : List Value := (l.set a (l.getD b undef)).set b (l.getD a undef)
/-- A row, shuffled from its k-th on down. -/
def shufL (s : Int) : Nat → Int → List Value → List Value
  | 0, _, l => l
  | k + 1, i, l => shufL s k (i + 1) (swp l (k + 1) (bw s i (k + 2)).toNat)

theorem shufL_step (s i : Int) (m : Nat) (l : List Value) (hm : 0 < m) : shufL s m i l = shufL s (m - 1) (i + 1) (swp l m (bw s i (m + 1)).toNat) := by
  obtain ⟨k, rfl⟩ : ∃ k, m = k + 1 := ⟨m - 1, by omega⟩
  rw [shufL]
  congr 3
theorem swp_mem {l : List Value} {a b : Nat} {K : Value → Prop} (h : ∀ u ∈ l, K u) (ha : a < l.length) (hb : b < l.length) : ∀ u ∈ swp l a b, K u := by
  intro u hu
  unfold swp at hu
  rcases List.mem_or_eq_of_mem_set hu with h2 | rfl
  · rcases List.mem_or_eq_of_mem_set h2 with h3 | rfl
    · exact h u h3
    · exact h _ (by simp [List.getD, List.getElem?_eq_getElem hb])
  · exact h _ (by simp [List.getD, List.getElem?_eq_getElem ha])
theorem swp_len (l : List Value) (a b : Nat) : (swp l a b).length = l.length := by simp [swp]

set_option maxHeartbeats 1000000 in
set_option maxRecDepth 100000 in
theorem shuf_ints (E w : World) (F : Asn) (g n c : Nat) (s i : Int) (A : Option Addr) (xs : List Value) (hs : Sat E w (SrcAt g s i * F)) (hr : rd F 1 A n xs) (h1 : ∀ u ∈ xs, ∃ x, u = Value.int .i64 x) (hc : A = none → c = 0) (hn : n ≤ 1000) (h0 : 0 ≤ i) (hi : i ≤ 900000) :
    Calls Try.prog 32 #[.pointer (some ⟨g, 0, none⟩), .slice A n c] w fun e w' => ∃ A' c', e = .returned (.slice A' n c') ∧
      Sat E w' (sl 3 1 A' n c' (shufL s (n - 1) i xs) * (SrcAt g s (i + (n - 1 : Nat)) * F)) := by
  go_enter Try.func32, Try.ntmps32
  go_wp2_with fail
  refine (clone_ints E w _ A n c xs hs hr.right (fun u hu => by obtain ⟨x, rfl⟩ := h1 u hu; rfl) hc (by omega)).mono ?_
  rintro e w1 ⟨A', c', rfl, hs1⟩
  have c2 : w1.cell? ⟨g, 2, none⟩ = some (.bool true) := hs1.f2.cell 2
  go_wp2_with (go_at_call 82; refine (src_none _ _ _ c2).mono ?_; rintro e w' ⟨rfl, rfl⟩)
  go_loopw [6, 7] (fun s6 _ wr => ∃ (m q : Nat) (ys : List Value), (s6 = .int .i64 m ∨ (n = 0 ∧ s6 = .int .i64 (-1))) ∧ m + q = n - 1 ∧ Hid (shufL s m (i + q) ys = shufL s (n - 1) i xs) ∧ Hid (∀ u ∈ ys, ∃ x, u = Value.int .i64 x) ∧
      Sat E wr (sl 3 1 A' n c' ys * (SrcAt g s (i + q) * F))) (fun s6 _ _ => (intOf s6).toNat)
  case atStart =>
    refine ⟨n - 1, 0, xs, ?_, by omega, hide (by simp), hide h1, by simpa using hs1⟩
    by_cases h : n = 0
    · right; subst h; exact ⟨rfl, rfl⟩
    · left; congr 1; omega
  case round =>
    obtain ⟨m, q, ys, h6, hmq, HY, HK, hsr⟩ := hrel
    rcases h6 with rfl | ⟨rfl, rfl⟩
    · by_cases hm : 0 < m
      · have hr1 := bw_lt s (i + q) (m + 1) (by omega) (by omega)
        obtain ⟨p, hp⟩ : ∃ p : Nat, bw s (i + q) (m + 1) = p := ⟨(bw s (i + q) (m + 1)).toNat, by omega⟩
        have HSTEP : Hid (shufL s (m - 1) (i + q + 1) (swp ys m p) = shufL s (n - 1) i xs) := by
          have := HY.out
          rw [shufL_step _ _ _ _ hm, hp] at this
          exact this
        have hpm : p ≤ m := by omega
        have hcall := hide (src_below E wr (sl 3 1 A' n c' ys * F) g s (i + q) (m + 1) (by omega) (by omega) (by omega) (by omega) hsr.f2)
        rw [hp] at hcall
        clear c2 hs1 hs hp hr1 HY
        go_wp2_with fail
        refine (unhide hcall).mono ?_
        rintro e w2 ⟨rfl, hs2⟩
        have hyl : ys.length = n := by have := hs2.f2.slLen.1; omega
        obtain ⟨b, off, rfl, _, _, _⟩ := hs2.f2.slAt (by omega)
        have hu : ys[m]? = some (ys.getD m undef) := by simp [List.getD, List.getElem?_eq_getElem (show m < ys.length by omega)]
        have hv : ys[p]? = some (ys.getD p undef) := by simp [List.getD, List.getElem?_eq_getElem (show p < ys.length by omega)]
        have HSW : Hid (swp ys m p = (ys.set m (ys.getD p undef)).set p (ys.getD m undef)) := rfl
        generalize ys.getD m undef = u at hu HSW
        generalize ys.getD p undef = v at hv HSW
        obtain ⟨u, rfl⟩ := HK.out u (List.mem_of_getElem? hu)
        obtain ⟨v, rfl⟩ := HK.out v (List.mem_of_getElem? hv)
        have HK2 : Hid (∀ u ∈ swp ys m p, ∃ x, u = Value.int .i64 x) := swp_mem HK.out (by omega) (by omega)
        clear hcall hsr
        go_wp2_with fail
        refine wp_region_slr (Q := _) (E := E) (fun _ => True) [13, 15] [] [] [7, 11] (fun _ => (0, #[], fun _ => undef)) [0, 1, 2, 3, 4, 5, 6, 7, 8, 9, 10, 11, 12, 13, 14, 15] (by kernel_rfl) (by kernel_rfl) hs2.f2 (fun _ _ _ => trivial) ?_
        have hpn : p < n := by omega
        have hmn : m < n := by omega
        iterate 7
          refine wpS_f _ rfl rfl (v := ?_) ?_ ?_
          rotate_left
          · intro W hW
            go_simp
            rfl
          go_simp
        refine wpS_r _ rfl rfl (v := .int .i64 v) ?_ ?_
        · rintro W ⟨R, hW⟩
          obtain ⟨b', off', hbb, _, hc1, _⟩ := hW.asc.slAt (by omega)
          simp only [Option.some.injEq, Addr.mk.injEq, and_true] at hbb
          obtain ⟨rfl, rfl⟩ := hbb
          have e7 := hc1 p _ hv
          clear hc1
          go_simp
        go_simp
        iterate 3
          refine wpS_f _ rfl rfl (v := ?_) ?_ ?_
          rotate_left
          · intro W hW
            go_simp
            rfl
          go_simp
        refine wpS_r _ rfl rfl (v := .int .i64 u) ?_ ?_
        · rintro W ⟨R, hW⟩
          obtain ⟨b', off', hbb, _, hc1, _⟩ := hW.asc.slAt (by omega)
          simp only [Option.some.injEq, Addr.mk.injEq, and_true] at hbb
          obtain ⟨rfl, rfl⟩ := hbb
          have e7 := hc1 m _ hu
          clear hc1
          go_simp
        go_simp
        iterate 1
          refine wpS_f _ rfl rfl (v := ?_) ?_ ?_
          rotate_left
          · intro W hW
            go_simp
            rfl
          go_simp
        refine wpS_e _ rfl rfl (fun W R hW => ?_)
        have hset := hide (hW.asc.slSet (i := m) (v := .int .i64 v) (by omega))
        obtain ⟨b', off', hbb, _, hc1, hf1⟩ := hW.asc.slAt (by omega)
        simp only [Option.some.injEq, Addr.mk.injEq, and_true] at hbb
        obtain ⟨rfl, rfl⟩ := hbb
        have e7 := hc1 m _ hu
        have e8 := hf1 (off + m)
        clear hc1 hf1
        unfold stp
        go_simp
        refine (show ∃ F', _ from ⟨sl 3 1 (some ⟨b, off, none⟩) n c' (ys.set m (.int .i64 v)) * (SrcAt g s (i + q + 1) * F), (unhide hset).csa, ?_⟩)
        clear hset e7 e8 hW
        go_simp
        iterate 1
          refine wpS_f _ rfl rfl (v := ?_) ?_ ?_
          rotate_left
          · intro W hW
            go_simp
            rfl
          go_simp
        obtain ⟨v2, hv2⟩ : ∃ v2, (ys.set m (.int .i64 v))[p]? = some v2 := ⟨(ys.set m (.int .i64 v))[p]'(by simp; omega), List.getElem?_eq_getElem _⟩
        refine wpS_e _ rfl rfl (fun W R hW => ?_)
        have hset := hide (hW.asc.slSet (i := p) (v := .int .i64 u) (by omega))
        obtain ⟨b', off', hbb, _, hc1, hf1⟩ := hW.asc.slAt (by omega)
        simp only [Option.some.injEq, Addr.mk.injEq, and_true] at hbb
        obtain ⟨rfl, rfl⟩ := hbb
        have e7 := hc1 p _ hv2
        have e8 := hf1 (off + p)
        clear hc1 hf1
        unfold stp
        go_simp
        refine (show ∃ F', _ from ⟨sl 3 1 (some ⟨b, off, none⟩) n c' ((ys.set m (.int .i64 v)).set p (.int .i64 u)) * (SrcAt g s (i + q + 1) * F), (unhide hset).csa, ?_⟩)
        clear hset e7 e8 hW
        go_simp
        refine wpS_n (fun w3 hs3 => ?_)
        have hs4 := hide hs3
        clear hs3 hs2
        go_wp2_with fail
        go_roundw
        case rel =>
          refine ⟨m - 1, q + 1, (ys.set m (.int .i64 v)).set p (.int .i64 u), .inl (by go_num), by omega, ?_, ?_, ?_⟩
          · show _ = _
            rw [← HSTEP.out, HSW.out, show i + ((q + 1 : Nat) : Int) = i + q + 1 by omega]
          · rw [← HSW.out]
            exact HK2
          · rw [show i + ((q + 1 : Nat) : Int) = i + q + 1 by omega]
            exact unhide hs4
        case measure => simp [intOf]; omega
      · obtain rfl : m = 0 := by omega
        have hq : q = n - 1 := by omega
        have hfin : Sat E wr (sl 3 1 A' n c' (shufL s (n - 1) i xs) * (SrcAt g s (i + (n - 1 : Nat)) * F)) := by
          rw [← HY.out, ← hq]
          exact hsr
        have HFIN := hide hfin
        clear hfin hsr hs1 hs
        go_wp2_with fail
        go_ret
        exact ⟨A', c', rfl, unhide HFIN⟩
    · have hfin : Sat E wr (sl 3 1 A' 0 c' (shufL s (0 - 1) i xs) * (SrcAt g s (i + (0 - 1 : Nat)) * F)) := by
        rw [← HY.out]
        have h2 : m = 0 ∧ q = 0 := by omega
        obtain ⟨rfl, rfl⟩ := h2
        exact hsr
      have HFIN := hide hfin
      clear hfin hsr hs1 hs
      go_wp2_with fail
      go_ret
      exact ⟨A', c', rfl, unhide HFIN⟩
end Go.Proofs.Ytpcoehbjbjfggaa
