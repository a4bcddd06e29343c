/- The receiver's other calls, as the document has them; the page's example. -/
import Derived.Test.YtdfidijlconhnaaRcMT
namespace Go.Proofs.Ytdfidijlconhnaa
open Go.RowKit Asn
attribute [local go_sem] Oper.semAt_some

def rm0 : RM := ⟨0, [], ⟨[], 0, 0, 0⟩, 0, 0, 0, false⟩
theorem rcm_new {E w : World} {F : Asn} (c : Cf) (src dst conn cls : Int) (hs : Sat E w F) (h : newE c src dst conn cls = 0) :
    Calls Try.prog 36 #[.agg c.cells, .int .i64 src, .int .i64 dst, .int .i64 conn, .int .i64 cls] w fun e w' => ∃ g bb jb mb, ∃ win : Nat, c.win = win ∧ e = .returned (.tuple #[.pointer (some ⟨g, 0, none⟩), .int .i64 0]) ∧ RcSat E w' g ⟨bb, jb, mb, src, dst, conn, cls, c.paths, win⟩ rm0 1 F := by
  have hw : 1 ≤ c.win ∧ c.win ≤ 256 := by
    unfold newE at h
    by_cases hh : ¬ (1 ≤ c.paths ∧ c.paths ≤ 8) ∨ ¬ (1 ≤ c.win ∧ c.win ≤ 256)
    · rw [if_pos hh] at h; cases h
    · have : 1 ≤ c.win ∧ c.win ≤ 256 := by
        by_cases h2 : 1 ≤ c.win ∧ c.win ≤ 256
        · exact h2
        · exact absurd (.inr h2) hh
      exact this
  refine (rc_new c src dst conn cls hs h).mono ?_
  rintro e w' ⟨g, bb, jb, mb, win, hwin, rfl, hs'⟩
  exact ⟨g, bb, jb, mb, win, hwin, rfl, [], fun _ => 0, 0, ⟨0, 0, []⟩, ⟨rfl, fun _ => ⟨rfl, RInv.start win 0 (by omega) (by omega) (by omega), List.Perm.refl _⟩, fun h => by cases h⟩, ⟨by dsimp only; omega, by dsimp only; omega, by show 0 ≤ _; omega⟩, fun p hp => by simp at hp, by rw [one_sep]; exact hs'⟩
/-- Issue. -/
def issueM (k : RcK) (pp : Nat) (m : RM) : RM × Array Value × Bool :=
  if m.pen = 0 then (m, #[.int .i64 0, .int .i64 0, .int .i64 0, .int .i64 0, .int .i64 0, .int .i64 0, .int .i64 0, .int .i64 0, .slice none 0 0], false) else ({ m with iss := m.iss + 1, pen := m.pen - 1 }, pullC k pp m.iss, true)
section
variable {E w : World} {P F : Asn} {g : Nat} {k : RcK} {m : RM}
theorem RcInv.same {win : Nat} {m m' : RM} {L : List Pk} {V : Nat → Nat} {ba : Nat} {j : JoinM} (h : RcInv win m L V ba j) (h1 : m'.next = m.next) (h2 : m'.K = m.K) (h3 : m'.j = m.j) (h4 : m'.done = m.done) : RcInv win m' L V ba j := by
  obtain ⟨a, b, c, d, e, f, g⟩ := m
  obtain ⟨a', b', c', d', e', f', g'⟩ := m'
  dsimp only at h1 h2 h3 h4
  subst h1 h2 h3 h4
  exact ⟨h.jn, h.inv, h.fin⟩
theorem rcm_issue {pp : Nat} (h : RcSat E w g k m P F) (hpp : k.paths = (pp : Nat)) (h1 : 1 ≤ pp) (h8 : pp ≤ 8) (hi : m.iss ≤ 4611686018427387904) (hp : m.pen ≤ 4611686018427387904) :
    Calls Try.prog 48 #[.pointer (some ⟨g, 0, none⟩)] w fun e w' => e = .returned (.tuple #[.agg (issueM k pp m).2.1, .bool (issueM k pp m).2.2]) ∧ RcSat E w' g k (issueM k pp m).1 P F := by
  obtain ⟨L, V, ba, j, hI, hb, hok, hs⟩ := h
  unfold issueM
  by_cases h0 : m.pen = 0
  · rw [if_pos h0]
    rw [h0] at hs
    refine (rc_issue_no hs).mono ?_
    rintro e w' ⟨rfl, hs'⟩
    exact ⟨rfl, L, V, ba, j, hI, hb, hok, by rw [h0]; exact hs'⟩
  · rw [if_neg h0]
    obtain ⟨pen, hpen⟩ : ∃ pen, m.pen = pen + 1 := ⟨m.pen - 1, by omega⟩
    rw [hpen] at hs
    refine (rc_issue hs hpp h1 h8 hi (by omega)).mono ?_
    rintro e w' ⟨rfl, hs'⟩
    exact ⟨rfl, L, V, ba, j, hI.same rfl rfl rfl rfl, hb, hok, by dsimp only; rw [hpen]; exact hs'⟩
theorem rcm_pending (h : RcSat E w g k m P F) : Calls Try.prog 53 #[.pointer (some ⟨g, 0, none⟩)] w fun e w' => e = .returned (.int .i64 m.pen) ∧ w = w' := by
  obtain ⟨L, V, ba, j, hI, hb, hok, hs⟩ := h
  exact rc_pending hs
theorem rcm_done (h : RcSat E w g k m P F) : Calls Try.prog 43 #[.pointer (some ⟨g, 0, none⟩)] w fun e w' => e = .returned (.bool m.done) ∧ w = w' := by
  obtain ⟨L, V, ba, j, hI, hb, hok, hs⟩ := h
  exact rc_done hs
theorem rcm_line (h : RcSat E w g k m P F) : Calls Try.prog 39 #[.pointer (some ⟨g, 0, none⟩)] w fun e w' => e = .returned (.agg (lineC k m.next m.arr m.iss m.pen m.done)) ∧ RcSat E w' g k m P F := by
  obtain ⟨L, V, ba, j, hI, hb, hok, hs⟩ := h
  refine (rc_line hs).mono ?_
  rintro e w' ⟨rfl, hs'⟩
  exact ⟨rfl, L, V, ba, j, hI, hb, hok, hs'⟩
theorem rcm_kept (h : RcSat E w g k m P F) : Calls Try.prog 55 #[.pointer (some ⟨g, 0, none⟩)] w fun e w' => ∃ A c, e = .returned (.slice A (m.K.map (·.q)).length c) ∧ RcSat E w' g k m P (sl 3 1 A (m.K.map (·.q)).length c (ints (m.K.map (·.q))) * F) := by
  obtain ⟨L, V, ba, j, hI, hb, hok, hs⟩ := h
  cases hd : m.done with
  | true =>
    obtain ⟨hK, hL⟩ := hI.fin hd
    have hs1 := hs
    rw [hd] at hs1
    refine (rc_kept_done hs1).mono ?_
    rintro e w' ⟨rfl, rfl⟩
    rw [hK]
    exact ⟨none, 0, rfl, L, V, ba, j, hI, hb, hok, (Sat.slNil (e := 3) (z := 1) hs).perm (by unfold ints; rw [List.map_nil, List.map_nil]; ac_rfl)⟩
  | false =>
    obtain ⟨rfl, hR, hperm⟩ := hI.inv hd
    have hs1 := hs
    rw [hd] at hs1
    refine (rc_kept (hs1.perm (show _ = RcB g k m.next m.arr m.iss m.pen false * (BitAt k.bb V k.win m.next * (MapAt k.mb (rowsP L) * (JoinAt k.jb j * (P * F)))) by ac_rfl)) hR.small hb.1 hb.2.1 hR.top).mono ?_
    rintro e w' ⟨A, c, rfl, hs'⟩
    rw [hR.list, length_ints] at hs' ⊢
    exact ⟨A, c, rfl, L, V, m.next, j, hI, hb, hok, hs'.perm (by rw [hd]; ac_rfl)⟩
theorem RcSat.sat (h : RcSat E w g k m P F) : ∃ X, Sat E w (X * F) := by
  obtain ⟨L, V, ba, j, hI, hb, hok, hs⟩ := h
  exact ⟨RcB g k m.next m.arr m.iss m.pen m.done * (MapAt k.mb (rowsP L) * (BitAt k.bb V k.win ba * (JoinAt k.jb j * P))), hs.perm (by ac_rfl)⟩
/-- The frame may be turned about. -/
theorem RcSat.perm {G : Asn} (h : RcSat E w g k m P F) (e : F = G) : RcSat E w g k m P G := e ▸ h
/-- What happens beside it. -/
theorem RcSat.step {F' : Asn} {w' : World} (h : RcSat E w g k m P F) (hg : ∀ G, Sat E w (G * F) → Sat E w' (G * F')) : RcSat E w' g k m P F' := by
  obtain ⟨L, V, ba, j, hI, hb, hok, hs⟩ := h
  refine ⟨L, V, ba, j, hI, hb, hok, ?_⟩
  have := hg (RcB g k m.next m.arr m.iss m.pen m.done * (MapAt k.mb (rowsP L) * (BitAt k.bb V k.win ba * (JoinAt k.jb j * P)))) (hs.perm (by ac_rfl))
  exact this.perm (by ac_rfl)
theorem RcSat.grow {X : Asn} {w' : World} (h : RcSat E w g k m P F) (hg : ∀ G, Sat E w (G * F) → Sat E w' (G * (X * F))) : RcSat E w' g k m P (X * F) := h.step hg
end
theorem rd_objz {b : Nat} {t : TypeId} {cs : Array Value} {fr : Nat × Nat} {G : Asn} {n z : Nat} (hl : cs.size = n * z) : rd (Asn.obj b (.cells cs t fr) * G) z (some ⟨b, 0, none⟩) n cs.toList := by
  refine rd.left ?_
  intro h hh
  have hh : h = Hp.one b (.cells cs t fr) := hh
  subst hh
  refine ⟨by simpa using hl, fun _ => ⟨_, rfl, fun j u hu => ⟨cs, t, fr, ?_, ?_, ?_⟩⟩⟩
  · simp [Hp.one, block_of_add]
  · rw [add_lit']
  · rw [add_lit']
    simpa using hu
theorem conf_call (w : World) : Calls Try.prog 35 #[] w fun e w' => e = .returned (.agg (Cf.cells ⟨3, 2, 1, 2, 8, 4, 40, 4, 6, 20, 9, 6, 40, 0⟩)) ∧ Below w.heap.size w w' := by
  have HB := Lib.hid (Sat.start w |>.alloc (Cf.cells ⟨3, 2, 1, 2, 8, 4, 40, 4, 6, 20, 9, 6, 40, 0⟩) 72).blk
  unfold Cf.cells at HB
  go_enter Try.func35, Try.ntmps35
  go_wp2_with fail
  exact bodyPost_ret (results_cell_row (p := 0) rfl _ _ _ _ _ _ _ rfl HB.out Try.underlying72 rfl (by kernel_rfl)) rfl ⟨rfl, (Below.refl _ _).alloc (Nat.le_refl _) _⟩
end Go.Proofs.Ytdfidijlconhnaa
