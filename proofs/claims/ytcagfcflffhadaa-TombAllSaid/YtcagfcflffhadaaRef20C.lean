/- The document's tomb: Close. -/
import Derived.Test.YtcagfcflffhadaaRef20B
namespace Go.Proofs.Ytcagfcflffhadaa
open Go.RowKit Asn

theorem advR_yes20 {x b : Int} {l : List Int} (h : x = b) : advR (x :: l) b = advR l (b + 1) := by
  conv => lhs; unfold advR
  rw [if_pos h]
theorem advR_no20 {L : List Int} {b : Int} (h : ∀ x l, L = x :: l → x ≠ b) : advR L b = (L, b) := advR_eq h
/-- What Close leaves. -/
def Close20 (E : World) (X F : Asn) (sz : Nat) (r : (List Int × Int) × Bool × Int) (e : Ending) (w' : World) : Prop :=
  ∃ A' n' c' G, ∃ b' : Nat, e = .returned (.tuple #[.agg #[.int .i64 sz, .int .i64 b', .slice A' n' c'], .bool r.2.1, .int .i64 r.2.2]) ∧ r.1.2 = (b' : Int) ∧ Sat E w' (G * (X * F)) ∧ RS (G * X) A' n' c' r.1.1
set_option maxHeartbeats 4000000 in
set_option maxRecDepth 100000 in
theorem close20 (E w : World) (X F : Asn) (A : Option Addr) (n c : Nat) (L : List Int) (sz ba : Nat) (x : Int) (hs : Sat E w (X * F)) (hr : RS X A n c L) (hn : n ≤ 60000) (hsz : sz ≤ 64) (hba : ba ≤ 1073741825) (hx : -9223372036854775808 ≤ x ∧ x ≤ 9223372036854775807) :
    Calls Try.prog 31 #[.agg #[.int .i64 sz, .int .i64 ba, .slice A n c], .int .i64 x] w (Close20 E X F sz (closeR sz ba L x)) := by
  have hs2 := (hs.alloc #[.int .i64 sz, .int .i64 ba, .slice A n c] 45).alloc #[.int .i64 0, .int .i64 0, .slice none 0 0] 45
  rw [World.size_alloc] at hs2
  obtain ⟨r, hrr⟩ : ∃ r, r = closeR sz ba L x := ⟨_, rfl⟩
  rw [← hrr]
  have HS0 := hide hs
  have hR1 := hide (show RS ((1 : Asn) * X) A n c L from hr.right)
  by_cases h1 : x < 1 ∨ 1073741824 < x ∨ (ba : Int) + sz ≤ x
  · have hd : r = ((L, (ba : Int)), false, 5) := by rw [hrr]; unfold closeR; rw [if_pos h1]
    subst hd
    clear hrr hr hs hs2
    by_cases h2 : x < 1
    · clear h1
      go_enter Try.func31, Try.ntmps31
      go_wp2_with fail
      exact bodyPost_ret (v := .tuple #[.agg #[.int .i64 sz, .int .i64 ba, .slice A n c], .bool false, .int .i64 5]) (by simp [results, Try.results31, go_sem]) rfl ⟨A, n, c, 1, ba, rfl, rfl, (((unhide HS0).allocKeep _).allocKeep _).perm (one_sep _).symm, unhide hR1⟩
    · by_cases h3 : 1073741824 < x
      · clear h1
        go_enter Try.func31, Try.ntmps31
        go_wp2_with fail
        exact bodyPost_ret (v := .tuple #[.agg #[.int .i64 sz, .int .i64 ba, .slice A n c], .bool false, .int .i64 5]) (by simp [results, Try.results31, go_sem]) rfl ⟨A, n, c, 1, ba, rfl, rfl, (((unhide HS0).allocKeep _).allocKeep _).perm (one_sep _).symm, unhide hR1⟩
      · have h4 : (ba : Int) + sz ≤ x := by omega
        clear h1
        go_enter Try.func31, Try.ntmps31
        go_wp2_with fail
        exact bodyPost_ret (v := .tuple #[.agg #[.int .i64 sz, .int .i64 ba, .slice A n c], .bool false, .int .i64 5]) (by simp [results, Try.results31, go_sem]) rfl ⟨A, n, c, 1, ba, rfl, rfl, (((unhide HS0).allocKeep _).allocKeep _).perm (one_sep _).symm, unhide hR1⟩
  · have g1 : ¬ x < 1 := by omega
    have g2 : ¬ 1073741824 < x := by omega
    have g3 : ¬ (ba : Int) + sz ≤ x := by omega
    have hcl := hide (closed20 _ A n c L sz ba x (RdW.of_rd hr.rd hs2.right.right.left) (by omega))
    by_cases hb : x < ba ∨ x ∈ L
    · have hd : r = ((L, (ba : Int)), false, 0) := by rw [hrr]; unfold closeR; rw [if_neg h1, if_pos hb]
      have hcv : closedR ba L x = true := decide_eq_true ⟨by omega, hb⟩
      subst hd
      rw [hcv] at hcl
      have HS2 := hide hs2
      clear hrr hb h1 hs hs2 HS0 hcv
      go_enter Try.func31, Try.ntmps31
      go_wp2_with fail
      refine (unhide hcl).mono ?_
      rintro e w2 ⟨rfl, hbel⟩
      have hs3 := (unhide HS2).under hbel
      have b0 : w2.cell? ⟨w.heap.size, 0, none⟩ = some (.int .i64 sz) := hs3.f2.cell 0
      have b1 : w2.cell? ⟨w.heap.size, 1, none⟩ = some (.int .i64 ba) := hs3.f2.cell 1
      have b2 : w2.cell? ⟨w.heap.size, 2, none⟩ = some (.slice A n c) := hs3.f2.cell 2
      have r0 : w2.cell? ⟨w.heap.size + 1, 0, none⟩ = some (.int .i64 0) := hs3.cell 0
      have r1 : w2.cell? ⟨w.heap.size + 1, 1, none⟩ = some (.int .i64 0) := hs3.cell 1
      have r2 : w2.cell? ⟨w.heap.size + 1, 2, none⟩ = some (.slice none 0 0) := hs3.cell 2
      have r3 : ∀ j, w2.frozen? ⟨w.heap.size + 1, j, none⟩ = false := fun j => hs3.frozen j
      have hs4 := ((hs3.set 0 (.int .i64 sz)).set 1 (.int .i64 ba)).set 2 (.slice A n c)
      have HB := Lib.hid hs4.blk
      have HS := hide (show Sat E _ ((1 : Asn) * (X * F)) from hs4.right.right.perm (one_sep _).symm)
      clear hs4 hs3 hbel hcl HS2
      go_wp2_with fail
      exact bodyPost_ret (results_cell3 (p := 4) (u1 := 5) (u2 := 6) rfl _ _ _ _ _ _ _ rfl HB.out Try.underlying45 rfl (by kernel_rfl)) rfl ⟨A, n, c, 1, ba, rfl, rfl, unhide HS, unhide hR1⟩
    · have hd : r = (advR (insR L x) ba, true, 0) := by rw [hrr]; unfold closeR; rw [if_neg h1, if_neg hb]
      have hcv : closedR ba L x = false := decide_eq_false fun h => hb h.2
      subst hd
      rw [hcv] at hcl
      have HS2 := hide hs2
      clear hrr hb h1 hs hs2 HS0 hcv hR1
      go_enter Try.func31, Try.ntmps31
      go_wp2_with fail
      refine (unhide hcl).mono ?_
      rintro e w2 ⟨rfl, hbel⟩
      have hs3 := (unhide HS2).under hbel
      have b2 : w2.cell? ⟨w.heap.size, 2, none⟩ = some (.slice A n c) := hs3.f2.cell 2
      have hw := hide (with20 E w2 _ A n c L x hs3 hr.rd.left.right.right (by omega) hr.cap hr.nil)
      clear hcl HS2 hbel hs3
      go_wp2_with fail
      refine (unhide hw).mono ?_
      rintro e w3 ⟨A3, c3, rfl, hs3⟩
      clear hw b2
      have hln : (insR L x).length = n + 1 := by have := (Sat.slRS hs3).len hs3.left; exact this
      have b2 : w3.cell? ⟨w.heap.size, 2, none⟩ = some (.slice A n c) := hs3.f3.cell 2
      have b3 : ∀ j, w3.frozen? ⟨w.heap.size, j, none⟩ = false := fun j => hs3.f3.frozen j
      obtain ⟨I, hI⟩ : ∃ I, I = insR L x := ⟨_, rfl⟩
      rw [← hI] at hs3 hln
      obtain ⟨G, hG⟩ : ∃ G, G = sl 3 1 A3 (n + 1) c3 (ints I) := ⟨_, rfl⟩
      have hrs : RS G A3 (n + 1) c3 I := by rw [hG]; exact Sat.slRS hs3
      rw [← hG] at hs3
      have hs4 := hide ((hs3.f3.set 2 (.slice A3 (n + 1) c3)).perm (show _ = Asn.blk (w.heap.size + 1) 45 #[.int .i64 0, .int .i64 0, .slice none 0 0] * (Asn.blk w.heap.size 45 #[.int .i64 sz, .int .i64 ba, .slice A3 (n + 1) c3] * (G * (X * F))) by ac_rfl))
      have HI := hide hI
      have HRS0 := hide hrs
      clear hs3 hI hG hrs
      go_wp2_with fail
      go_loopg [] (n + 1) (fun k wr => ∃ (n' c' b : Nat) (A' : Option Addr) (L' : List Int), n' ≤ k ∧ b + n' = ba + n + 1 ∧ Hid (advR L' (b : Nat) = advR I ba) ∧ Hid (RS G A' n' c' L') ∧
        Sat E wr (Asn.blk (w.heap.size + 1) 45 #[.int .i64 0, .int .i64 0, .slice none 0 0] * (Asn.blk w.heap.size 45 #[.int .i64 sz, .int .i64 b, .slice A' n' c'] * (G * (X * F)))))
      case atStart => exact ⟨n + 1, c3, ba, A3, I, Nat.le_refl _, by omega, rfl, HRS0, unhide hs4⟩
      case round =>
        obtain ⟨n', c', b, A', L', hnk, hkn, HA, HR, hsr⟩ := hrel
        have hcm := HR.out.max
        have hll := HR.out.len hsr.right.right.left
        have hcap := HR.out.cap
        unfold maxLen at hcm
        have hbb : b ≤ 1073741825 + 60001 := by omega
        have b0 : ∀ j, (wr.drewN j).cell? ⟨w.heap.size, 0, none⟩ = some (.int .i64 sz) := fun j => (hsr.drewN j).f2.cell 0
        have b1 : ∀ j, (wr.drewN j).cell? ⟨w.heap.size, 1, none⟩ = some (.int .i64 b) := fun j => (hsr.drewN j).f2.cell 1
        have b2 : ∀ j, (wr.drewN j).cell? ⟨w.heap.size, 2, none⟩ = some (.slice A' n' c') := fun j => (hsr.drewN j).f2.cell 2
        have b3 : ∀ j, wr.frozen? ⟨w.heap.size, j, none⟩ = false := fun j => hsr.f2.frozen j
        have r0 : wr.cell? ⟨w.heap.size + 1, 0, none⟩ = some (.int .i64 0) := hsr.cell 0
        have r1 : wr.cell? ⟨w.heap.size + 1, 1, none⟩ = some (.int .i64 0) := hsr.cell 1
        have r2 : wr.cell? ⟨w.heap.size + 1, 2, none⟩ = some (.slice none 0 0) := hsr.cell 2
        have r3 : ∀ j, wr.frozen? ⟨w.heap.size + 1, j, none⟩ = false := fun j => hsr.frozen j
        have c0 := b0 0
        have c1 := b1 0
        have c2 := b2 0
        simp only [World.drewN_zero] at c0 c1 c2
        have hfin : ∀ m, Sat E ((((wr.drewN m).setCell ⟨w.heap.size + 1, 0, none⟩ (.int .i64 sz)).setCell ⟨w.heap.size + 1, 1, none⟩ (.int .i64 b)).setCell ⟨w.heap.size + 1, 2, none⟩ (.slice A' n' c')) (Asn.blk (w.heap.size + 1) 45 #[.int .i64 sz, .int .i64 b, .slice A' n' c'] * (Asn.blk w.heap.size 45 #[.int .i64 sz, .int .i64 b, .slice A' n' c'] * (G * (X * F)))) :=
          fun m => (((hsr.drewN m).set 0 (.int .i64 sz)).set 1 (.int .i64 b)).set 2 (.slice A' n' c')
        have HFIN := hide hfin
        have HKN := hide hkn
        clear hfin hs4
        have HEX : Hid (∀ m (M : List Int), M = L' → (M, (b : Int)) = advR L' b → ∀ e, e = .returned (.tuple #[.agg #[.int .i64 sz, .int .i64 b, .slice A' n' c'], .bool true, .int .i64 0]) → Close20 E X F sz (advR (insR L x) ba, true, 0) e ((((wr.drewN m).setCell ⟨w.heap.size + 1, 0, none⟩ (.int .i64 sz)).setCell ⟨w.heap.size + 1, 1, none⟩ (.int .i64 b)).setCell ⟨w.heap.size + 1, 2, none⟩ (.slice A' n' c'))) := by
          intro m M hM hadv e he
          have h := HA.out
          rw [← hadv, unhide HI] at h
          refine ⟨A', n', c', G, b, by rw [he], by rw [← h], (unhide HFIN m).right.right, ?_⟩
          rw [← h]
          show RS (G * X) A' n' c' M
          rw [hM]
          exact HR.out.left
        by_cases hn0 : 0 < n'
        · obtain ⟨y, l, rfl⟩ : ∃ y l, L' = y :: l := by
            cases L' with
            | nil => simp at hll; omega
            | cons y l => exact ⟨y, l, rfl⟩
          have hcell : ∀ j, ∃ ad, A' = some ad ∧ (wr.drewN j).cell? ad = some (.int .i64 y) := fun j => by
            obtain ⟨ad, h1, h2⟩ := (RdW.of_rd HR.out.rd (hsr.drewN j).right.right.left).int_at hn0
            refine ⟨ad, h1, ?_⟩
            have e : ad.add 0 = ad := by unfold Addr.add; simp
            rw [e] at h2
            exact h2
          obtain ⟨ad, rfl, _⟩ := hcell 0
          have hcell2 : ∀ j, (wr.drewN j).cell? ad = some (.int .i64 y) := fun j => by
            obtain ⟨ad', h, h2⟩ := hcell j
            obtain rfl : ad = ad' := by simpa using h
            exact h2
          clear hcell
          by_cases hy : y = b
          · obtain ⟨d, hd⟩ : ∃ d, d = c' - 1 := ⟨_, rfl⟩
            obtain ⟨B, hB⟩ : ∃ B, B = if c' = 1 then some ad else some (ad.add 1) := ⟨_, rfl⟩
            have hrt := HR.out.tail hn0 hB
            rw [← hd] at hrt
            have HRS := hide hrt
            have HA2 : Hid (advR l (b + 1 : Nat) = advR I ba) := by
              have h := HA.out
              rw [advR_yes20 hy] at h
              rw [← h]
              rfl
            have hfin2 : ∀ m, Sat E (((wr.drewN m).setCell ⟨w.heap.size, 2, none⟩ (.slice B (n' - 1) d)).setCell ⟨w.heap.size, 1, none⟩ (.int .i64 ((b : Int) + 1))) (Asn.blk (w.heap.size + 1) 45 #[.int .i64 0, .int .i64 0, .slice none 0 0] * (Asn.blk w.heap.size 45 #[.int .i64 sz, .int .i64 (b + 1 : Nat), .slice B (n' - 1) d] * (G * (X * F)))) :=
              fun m => (((hsr.drewN m).f2.set 2 _).set 1 _).f2
            have HFIN2 := hide hfin2
            subst hy
            clear hfin2 hsr HA HR HFIN HEX hkn hrt
            by_cases hc1 : c' = 1
            all_goals
              first | (rw [if_pos hc1] at hB; obtain rfl : d = 0 := (by omega); clear hd) | (rw [if_neg hc1] at hB; subst hd)
              subst hB
              go_wp2_with fail
              go_quiet (fail)
              go_wp2_with fail
              go_roundg (n' - 1)
              case measure => omega
              case rel => exact ⟨n' - 1, _, b + 1, _, l, Nat.le_refl _, by have := unhide HKN; omega, HA2, HRS, unhide HFIN2 _⟩
          · have hyb : decide (y = (b : Int)) = false := decide_eq_false hy
            have hno : (y :: l, (b : Int)) = advR (y :: l) b := (advR_no20 (fun z m h => by injection h with h1 h2; rw [← h1]; exact hy)).symm
            have HNO := hide hno
            clear hsr hno HA hkn
            go_wp2_with fail
            go_quiet (fail)
            go_wp2_with fail
            have HB : ∀ m, Hid (_ = _) := fun m => (unhide HFIN m).blk
            exact bodyPost_ret (results_cell3 (p := 4) (u1 := 5) (u2 := 6) rfl _ _ _ _ _ _ _ rfl (HB _).out Try.underlying45 rfl (by kernel_rfl)) rfl (unhide HEX _ _ rfl (unhide HNO) _ rfl)
        · obtain rfl : n' = 0 := by omega
          have hL : L' = [] := List.eq_nil_of_length_eq_zero hll
          subst hL
          clear hsr HA hkn
          go_wp2_with fail
          go_quiet (fail)
          go_wp2_with fail
          have HB : ∀ m, Hid (_ = _) := fun m => (unhide HFIN m).blk
          exact bodyPost_ret (results_cell3 (p := 4) (u1 := 5) (u2 := 6) rfl _ _ _ _ _ _ _ rfl (HB _).out Try.underlying45 rfl (by kernel_rfl)) rfl (unhide HEX _ _ rfl rfl _ rfl)
end Go.Proofs.Ytcagfcflffhadaa
