/- The receiver's Take, as the document has it. -/
import Derived.Test.YtdfidijlconhnaaRcM
namespace Go.Proofs.Ytdfidijlconhnaa
open Go.RowKit Asn

/-- A receiver that stands as m; P: where the payloads lie that it keeps. -/
def RcSat (E w : World) (g : Nat) (k : RcK) (m : RM) (P F : Asn) : Prop :=
  ∃ L V ba j, RcInv k.win m L V ba j ∧ (1 ≤ k.win ∧ k.win ≤ 256 ∧ m.next ≤ 1152921504606846977) ∧ (∀ p ∈ L, PkOk P p) ∧ Sat E w (RcB g k m.next m.arr m.iss m.pen m.done * (MapAt k.mb (rowsP L) * (BitAt k.bb V k.win ba * (JoinAt k.jb j * (P * F)))))
def ansV : Option Int → Nat → Value
  | none, _ => .slice none 0 0
  | some _, z => .slice (some ⟨z, 0, none⟩) 1 1
def ansB (k : RcK) (p : Pk) : Option Int → Nat → Asn
  | none, _ => 1
  | some kd, z => Asn.blk z 79 (ansC k kd p)
/-- What Take leaves. -/
def TakeM (E : World) (P F : Asn) (g : Nat) (k : RcK) (m : RM) (p : Pk) (e : Ending) (w' : World) : Prop :=
  ∃ z A c X, e = .returned (.tuple #[ansV (takeM k.win m p.abs).2.1 z, .slice A (takeM k.win m p.abs).2.2.length c]) ∧ RcSat E w' g k (takeM k.win m p.abs).1 (X * P) (ansB k p (takeM k.win m p.abs).2.1 z * (bbsl A (takeM k.win m p.abs).2.2.length c (takeM k.win m p.abs).2.2 * F))
theorem Sat.bbslNil {E w : World} {F : Asn} (h : Sat E w F) : Sat E w (bbsl none 0 0 [] * F) :=
  Sat.bbslMk (rs := []) ((Sat.slNil (e := 22) (z := 1) h).perm (by rw [show tails [] = 1 from rfl, one_sep]; rfl))
theorem PkOk.more {F X : Asn} {p : Pk} (h : PkOk F p) : PkOk (X * F) p := ⟨h.1.right, h.2⟩
set_option maxHeartbeats 1000000 in
theorem rcm_take {E w : World} {P F : Asn} {g : Nat} {k : RcK} {m : RM} (p : Pk) (h : RcSat E w g k m P F) (hfl : p.fl ≤ 9223372036854775807) (ha : m.arr ≤ 4611686018427387904) (hp : m.pen ≤ 4611686018427387904) (hpn : p.n ≤ 65536) (hrd : rd (P * F) 1 p.A p.n (bytes p.b)) :
    Calls Try.prog 38 #[.pointer (some ⟨g, 0, none⟩), p.val] w (TakeM E P F g k m p) := by
  obtain ⟨L, V, ba, j, hI, ⟨h0, h256, hnx⟩, hok, hs⟩ := h
  have keep : ∀ {w' : World} {G : Asn}, Sat E w' (G * (RcB g k m.next m.arr m.iss m.pen m.done * (MapAt k.mb (rowsP L) * (BitAt k.bb V k.win ba * (JoinAt k.jb j * (P * F)))))) → RcSat E w' g k m ((1 : Asn) * P) (G * (bbsl none 0 0 [] * F)) := by
    intro w' G h
    refine ⟨L, V, ba, j, hI, ⟨h0, h256, hnx⟩, fun p hp => (hok p hp).more, ?_⟩
    exact (Sat.bbslNil h).perm (by rw [one_sep]; ac_rfl)
  by_cases hbad : badP p.abs
  · have ht : takeM k.win m p.abs = (m, none, []) := by unfold takeM; rw [if_pos hbad]
    unfold TakeM
    rw [ht]
    refine (rc_take_bad p hs hfl hbad).mono ?_
    rintro e w' ⟨rfl, hs'⟩
    exact ⟨0, none, 0, 1, rfl, keep (hs'.perm (by show _ = (1 : Asn) * _; rw [one_sep]))⟩
  · have hb := hbad
    unfold badP at hb
    simp only [not_or, Classical.not_not, Bool.not_eq_true] at hb
    obtain ⟨b1, b2, b3⟩ := hb
    by_cases hhad : hadM m p.abs
    · have ht : takeM k.win m p.abs = (m, some 2, []) := by unfold takeM; rw [if_neg hbad, if_pos hhad]
      unfold TakeM
      rw [ht]
      cases hd : m.done with
      | true =>
        rw [hd] at hs keep
        refine (rc_take_done p hs hfl b1 b2 b3).mono ?_
        rintro e w' ⟨z, rfl, hs'⟩
        exact ⟨z, none, 0, 1, rfl, keep hs'⟩
      | false =>
        have hh := hI.had hd p.abs b3.1
        rw [decide_eq_true hhad] at hh
        obtain ⟨rfl, hR, _⟩ := hI.inv hd
        rw [hd] at hs keep
        refine (rc_take_had p (hs.perm (show _ = RcB g k m.next m.arr m.iss m.pen false * (BitAt k.bb V k.win m.next * (MapAt k.mb (rowsP L) * (JoinAt k.jb j * (P * F)))) by ac_rfl)) hfl b1 b2 b3 hR.small h0 h256 hR.top hh).mono ?_
        rintro e w' ⟨z, rfl, hs'⟩
        exact ⟨z, none, 0, 1, rfl, keep (hs'.perm (by show _ = Asn.blk _ _ _ * _; ac_rfl))⟩
    · have hd : m.done = false := by
        cases hd : m.done with
        | false => rfl
        | true => exact absurd (.inl hd) hhad
      have hh := hI.had hd p.abs b3.1
      rw [decide_eq_false hhad] at hh
      obtain ⟨rfl, hR, hperm⟩ := hI.inv hd
      have hs2 := hs.perm (show _ = RcB g k m.next m.arr m.iss m.pen false * (BitAt k.bb V k.win m.next * (MapAt k.mb (rowsP L) * (JoinAt k.jb j * (P * F)))) by rw [hd]; ac_rfl)
      have hnb : m.next ≤ 4611686018427387904 := by omega
      by_cases hfar : (k.win : Int) ≤ p.abs.q - m.next
      · have ht : takeM k.win m p.abs = (m, none, []) := by unfold takeM; rw [if_neg hbad, if_neg hhad, if_pos hfar]
        unfold TakeM
        rw [ht]
        refine (rc_take_far p hs2 hfl b1 b2 b3 hR.small h0 h256 hR.top hh hnb hfar).mono ?_
        rintro e w' ⟨rfl, hs'⟩
        exact ⟨0, none, 0, 1, rfl, keep (hs'.perm (by show _ = (1 : Asn) * _; rw [one_sep, hd]; ac_rfl))⟩
      · have hnear : p.abs.q - (m.next : Int) < k.win := by omega
        cases htr : hasF p.abs.fl 3 with
        | true =>
          have ht : takeM k.win m p.abs = ({ m with arr := m.arr + 1, pen := m.pen + 1 }, some 3, []) := by unfold takeM; rw [if_neg hbad, if_neg hhad, if_neg hfar, if_pos htr]
          unfold TakeM
          rw [ht]
          refine (rc_take_trim p hs2 hfl b1 b2 b3 hR.small h0 h256 hR.top hh hnb hnear htr ha hp).mono ?_
          rintro e w' ⟨z, rfl, hs'⟩
          refine ⟨z, none, 0, 1, rfl, L, V, m.next, j, ⟨hI.jn, hI.inv, hI.fin⟩, ⟨h0, h256, hnx⟩, fun p hp => (hok p hp).more, ?_⟩
          exact (Sat.bbslNil hs').perm (by dsimp only; rw [one_sep, hd]; show _ * (Asn.blk _ _ _ * _) = _ * (_ * (_ * (_ * (P * (Asn.blk _ _ _ * _))))); ac_rfl)
        | false =>
          have ht : takeM k.win m p.abs = (⟨m.next + (goesM (insP m.K p.abs) m.next (m.j, [])).1, (goesM (insP m.K p.abs) m.next (m.j, [])).2.2.2, (goesM (insP m.K p.abs) m.next (m.j, [])).2.1.1, m.arr + 1, m.iss, if (goesM (insP m.K p.abs) m.next (m.j, [])).2.2.1 then 0 else m.pen + 1, (goesM (insP m.K p.abs) m.next (m.j, [])).2.2.1⟩,
              some 2, (goesM (insP m.K p.abs) m.next (m.j, [])).2.1.2) := by
            unfold takeM
            rw [if_neg hbad, if_neg hhad, if_neg hfar, if_neg (by rw [htr]; simp)]
          unfold TakeM
          rw [ht]
          have hKl : L.length ≤ 256 := by
            have h1 := hperm.length_eq
            have h2 := hR.len
            rw [List.length_map] at h1 h2
            omega
          have hnot : p.abs.q ∉ m.K.map (·.q) := fun hh => hhad (.inr (.inr hh))
          have hge : (m.next : Int) ≤ p.abs.q := by
            by_cases hlt : p.abs.q < m.next
            · exact absurd (.inr (.inl hlt)) hhad
            · omega
          have hno : ∀ x ∈ L, x.q ≠ p.q := by
            intro x hx hq
            refine hnot ?_
            have h1 : x.abs ∈ m.K := hperm.mem_iff.1 (List.mem_map_of_mem hx)
            have h2 := List.mem_map_of_mem (f := fun y : Pkt => y.q) h1
            rwa [Pk.abs_q, hq] at h2
          refine (rc_take_new p (hs2.perm (show _ = RcB g k m.next m.arr m.iss m.pen false * (BitAt k.bb V k.win m.next * (MapAt k.mb (rowsP L) * (JoinAt k.jb j * (P * F)))) by ac_rfl)) hfl b1 b2 b3 hR.small h0 h256 hR.top hh (by omega) hnear htr ha hp (by omega) (fun x hx => ⟨(hok x hx).1.left, (hok x hx).2⟩) hpn hrd hno).mono ?_
          rintro e w' ⟨z, A, c, j', A2, c2, r, hr, he, hj', hs'⟩
          have hKp : ((L ++ [{ p with A := A2, c := c2 }]).map Pk.abs).Perm (insP m.K p.abs) := by
            rw [List.map_append]
            exact (hperm.append_right [p.abs]).trans (insP_perm _ _)
          have hsr : ((insP m.K p.abs).map (·.q)).Pairwise (· < ·) := by rw [insP_q]; exact srt_insR hR.srt hnot
          have hmm : ∀ x ∈ insP m.K p.abs, (m.next : Int) ≤ x.q ∧ x.q ≤ 1152921504606846976 := by
            intro x hx
            have h1 := List.mem_map_of_mem (f := fun y : Pkt => y.q) hx
            rw [insP_q, mem_insR] at h1
            rcases h1 with h1 | h1
            · rw [h1]; exact ⟨hge, b3.2⟩
            · exact ⟨(hR.win _ h1).1, (hR.win _ h1).2.2⟩
          have hX := goX_goesM (insP m.K p.abs) (L ++ [{ p with A := A2, c := c2 }]) m.next (j.rj, []) hKp hsr (fun x hx => (hmm x hx).1)
          have hset : (setR k.win m.next (m.K.map (·.q)) p.abs.q).1 = insR (m.K.map (·.q)) p.abs.q := by
            have h1 : hasR m.next (m.K.map (·.q)) p.abs.q = false := by rw [← hR.has]; exact hh
            unfold setR
            rw [if_neg (by omega), h1]
            rfl
          have hRs := (hR.set p.abs.q).1
          rw [hset, ← insP_q] at hRs
          have hRa := RInv.adv _ _ _ hRs
          rw [← hr, hI.jn] at hX
          obtain ⟨hX1, hX2⟩ := hX
          have hfn := goesM_fin (insP m.K p.abs) m.next (m.j, [])
          have hle := goesM_le 1152921504606846976 (insP m.K p.abs) m.next (m.j, []) (fun x hx => (hmm x hx).2) (by omega)
          have had := goesM_adv (insP m.K p.abs) m.next (m.j, [])
          obtain ⟨gm, hgm⟩ : ∃ gm, gm = goesM (insP m.K p.abs) m.next (m.j, []) := ⟨_, rfl⟩
          rw [← hgm] at hX1 hX2 hfn hle had ⊢
          rw [hX1] at he hj' hs'
          dsimp only at he hj' hs'
          refine ⟨z, A, c, sl 5 1 A2 p.n c2 (bytes p.b), he, _, _, _, j', ⟨hj', ?_, ?_⟩, ⟨h0, h256, ?_⟩, ?_, hs'.perm (show _ = RcB g k (m.next + gm.1) (m.arr + 1) m.iss (if gm.2.2.1 then 0 else m.pen + 1) gm.2.2.1 * (MapAt k.mb (rowsP (if gm.2.2.1 then [] else restR (L ++ [{ p with A := A2, c := c2 }]) m.next gm.1)) * (BitAt k.bb (advB (setB V k.win m.next p.abs.q).1 m.next).1 k.win (advB (setB V k.win m.next p.abs.q).1 m.next).2 * (JoinAt k.jb j' * ((sl 5 1 A2 p.n c2 (bytes p.b) * P) * (Asn.blk z 79 (ansC k 2 p) * (bbsl A gm.2.1.2.length c gm.2.1.2 * F)))))) by rw [Pk.abs_q]; ac_rfl)⟩
          · intro hf
            dsimp only at hf ⊢
            have h1 := had hf
            rw [h1] at hRa
            dsimp only at hRa
            refine ⟨?_, hRa.1, ?_⟩
            · have := hRa.2; omega
            · rw [hf]
              exact hX2 hf
          · intro hf
            dsimp only at hf ⊢
            refine ⟨hfn hf, ?_⟩
            rw [hf]
            rfl
          · dsimp only
            omega
          · intro x hx
            have hx2 : x ∈ L ++ [{ p with A := A2, c := c2 }] := by
              cases hf : gm.2.2.1 with
              | true => rw [hf] at hx; simp at hx
              | false => rw [hf] at hx; exact (restR_sub _ _ _).subset hx
            rcases List.mem_append.1 hx2 with hx2 | hx2
            · exact (hok x hx2).more
            · obtain rfl := List.mem_singleton.1 hx2
              exact ⟨(rd_sl (e := 5) (c := c2)).left, by show p.n ≤ _; omega, hfl⟩
end Go.Proofs.Ytdfidijlconhnaa
