/- The document's bitmap: Set, Advance, Lacking, New. -/
import Derived.Test.YtpcoehbjbjfggaaRef10
namespace Go.Proofs.Ytpcoehbjbjfggaa
open Go.RowKit Asn

/-- A slice of whole numbers that may be read as long as F stays. -/
structure RS (F : Asn) (A : Option Addr) (n c : Nat) (L : List Int) : Prop where
  rd : rd F 1 A n (ints L)
  cap : n ≤ c
  nil : A = none → c = 0
  max : c ≤ maxLen
theorem Sat.slNone {E w : World} {F : Asn} {e z n c : Nat} {A : Option Addr} {xs : List Value} (h : Sat E w (sl e z A n c xs * F)) (hA : A = none) : c = 0 := by
  rcases h.slOpen with ⟨_, _, hc, _⟩ | ⟨b, off, cells, h2, _⟩
  · exact hc
  · rw [hA] at h2; cases h2
theorem RS.none_ (F : Asn) : RS F none 0 0 [] := ⟨rd.nil _ _ _, Nat.le_refl _, fun _ => rfl, Nat.zero_le _⟩
theorem RS.left {F G : Asn} {A : Option Addr} {n c : Nat} {L : List Int} (h : RS F A n c L) : RS (F * G) A n c L := ⟨h.rd.left, h.cap, h.nil, h.max⟩
theorem RS.right {F G : Asn} {A : Option Addr} {n c : Nat} {L : List Int} (h : RS F A n c L) : RS (G * F) A n c L := ⟨h.rd.right, h.cap, h.nil, h.max⟩
theorem Sat.slRS {E w : World} {F : Asn} {e n c : Nat} {A : Option Addr} {L : List Int} (h : Sat E w (sl e 1 A n c (ints L) * F)) : RS (sl e 1 A n c (ints L)) A n c L := ⟨rd_sl, h.slLen.2.1, h.slNone, h.slLen.2.2⟩
theorem RS.len {F : Asn} {E w : World} {A : Option Addr} {n c : Nat} {L : List Int} (h : RS F A n c L) (hs : Sat E w F) : L.length = n := h.rd.ints_len hs

/-- What Set leaves of its caller's. -/
def Set10 (E : World) (X F : Asn) (sz ba : Nat) (r : List Int × Bool × Int) (e : Ending) (w' : World) : Prop :=
  ∃ A' n' c' G, e = .returned (.tuple #[.agg #[.int .i64 sz, .int .i64 ba, .slice A' n' c'], .bool r.2.1, .int .i64 r.2.2]) ∧ Sat E w' (G * (X * F)) ∧ RS (G * X) A' n' c' r.1
set_option maxHeartbeats 2000000 in
set_option maxRecDepth 100000 in
theorem set10 (E w : World) (X F : Asn) (A : Option Addr) (n c : Nat) (L : List Int) (sz ba : Nat) (x : Int) (hs : Sat E w (X * F)) (hr : RS X A n c L) (hn : n ≤ 60000) (hsz : sz ≤ 256) (hba : ba ≤ 1152921504606846977) (hx : -9223372036854775808 ≤ x ∧ x ≤ 9223372036854775807) :
    Calls Try.prog 57 #[.agg #[.int .i64 sz, .int .i64 ba, .slice A n c], .int .i64 x] w (Set10 E X F sz ba (setR sz ba L x)) := by
  have hs2 := (hs.alloc #[.int .i64 sz, .int .i64 ba, .slice A n c] 93).alloc #[.int .i64 0, .int .i64 0, .slice none 0 0] 93
  rw [World.size_alloc] at hs2
  obtain ⟨r, hrr⟩ : ∃ r, r = setR sz ba L x := ⟨_, rfl⟩
  rw [← hrr]
  have HS0 := hide hs
  have hR1 := hide (show RS ((1 : Asn) * X) A n c L from hr.right)
  by_cases h1 : x < 0 ∨ 1152921504606846976 < x ∨ (ba : Int) ≤ x - sz
  · have hd : r = (L, false, 5) := by rw [hrr]; unfold setR; rw [if_pos h1]
    subst hd
    clear hrr hr hs hs2
    by_cases h2 : x < 0
    · clear h1
      go_enter Try.func57, Try.ntmps57
      go_wp2_with fail
      exact bodyPost_ret (v := .tuple #[.agg #[.int .i64 sz, .int .i64 ba, .slice A n c], .bool false, .int .i64 5]) (by simp [results, Try.results57, go_sem]) rfl ⟨A, n, c, 1, rfl, (((unhide HS0).allocKeep _).allocKeep _).perm (one_sep _).symm, unhide hR1⟩
    · by_cases h3 : 1152921504606846976 < x
      · clear h1
        go_enter Try.func57, Try.ntmps57
        go_wp2_with fail
        exact bodyPost_ret (v := .tuple #[.agg #[.int .i64 sz, .int .i64 ba, .slice A n c], .bool false, .int .i64 5]) (by simp [results, Try.results57, go_sem]) rfl ⟨A, n, c, 1, rfl, (((unhide HS0).allocKeep _).allocKeep _).perm (one_sep _).symm, unhide hR1⟩
      · have h4 : (ba : Int) ≤ x - sz := by omega
        clear h1
        go_enter Try.func57, Try.ntmps57
        go_wp2_with fail
        exact bodyPost_ret (v := .tuple #[.agg #[.int .i64 sz, .int .i64 ba, .slice A n c], .bool false, .int .i64 5]) (by simp [results, Try.results57, go_sem]) rfl ⟨A, n, c, 1, rfl, (((unhide HS0).allocKeep _).allocKeep _).perm (one_sep _).symm, unhide hR1⟩
  · have g1 : ¬ x < 0 := by omega
    have g2 : ¬ 1152921504606846976 < x := by omega
    have g3 : ¬ (ba : Int) ≤ x - sz := by omega
    have hhas := hide (has10 _ A n c L sz ba x (RdW.of_rd hr.rd hs2.right.right.left) (by omega))
    cases hb : hasR ba L x
    · have hd : r = (insR L x, true, 0) := by rw [hrr]; unfold setR; rw [if_neg h1, hb]; rfl
      subst hd
      rw [hb] at hhas
      have HS2 := hide hs2
      clear hrr hb h1 hs hs2 hR1 HS0
      go_enter Try.func57, Try.ntmps57
      go_wp2_with fail
      refine (unhide hhas).mono ?_
      rintro e w2 ⟨rfl, hbel⟩
      have hs3 := (unhide HS2).under hbel
      have b0 : w2.cell? ⟨w.heap.size, 0, none⟩ = some (.int .i64 sz) := hs3.f2.cell 0
      have b1 : w2.cell? ⟨w.heap.size, 1, none⟩ = some (.int .i64 ba) := hs3.f2.cell 1
      have b2 : w2.cell? ⟨w.heap.size, 2, none⟩ = some (.slice A n c) := hs3.f2.cell 2
      have hw := hide (with10 E w2 _ A n c L x hs3 hr.rd.left.right.right (by omega) hr.cap hr.nil)
      clear hhas HS2 hbel hs3
      go_wp2_with fail
      refine (unhide hw).mono ?_
      rintro e w3 ⟨A3, c3, rfl, hs3⟩
      clear hw b0 b1 b2
      have b0 : w3.cell? ⟨w.heap.size, 0, none⟩ = some (.int .i64 sz) := hs3.f3.cell 0
      have b1 : w3.cell? ⟨w.heap.size, 1, none⟩ = some (.int .i64 ba) := hs3.f3.cell 1
      have b2 : w3.cell? ⟨w.heap.size, 2, none⟩ = some (.slice A n c) := hs3.f3.cell 2
      have b3 : ∀ j, w3.frozen? ⟨w.heap.size, j, none⟩ = false := fun j => hs3.f3.frozen j
      have r0 : w3.cell? ⟨w.heap.size + 1, 0, none⟩ = some (.int .i64 0) := hs3.f2.cell 0
      have r1 : w3.cell? ⟨w.heap.size + 1, 1, none⟩ = some (.int .i64 0) := hs3.f2.cell 1
      have r2 : w3.cell? ⟨w.heap.size + 1, 2, none⟩ = some (.slice none 0 0) := hs3.f2.cell 2
      have r3 : ∀ j, w3.frozen? ⟨w.heap.size + 1, j, none⟩ = false := fun j => hs3.f2.frozen j
      have hs4 := (((hs3.f3.set 2 (.slice A3 (n + 1) c3)).f3.set 0 (.int .i64 sz)).set 1 (.int .i64 ba)).set 2 (.slice A3 (n + 1) c3)
      have HB := Lib.hid hs4.blk
      have HS := hide hs4.right.right
      have hrs := hide (Sat.slRS hs3)
      clear hs4 hs3
      go_wp2_with fail
      exact bodyPost_ret (results_cell3 rfl _ _ _ _ _ _ _ rfl HB.out Try.underlying93 rfl (by kernel_rfl)) rfl ⟨A3, n + 1, c3, _, rfl, unhide HS, (unhide hrs).left⟩
    · have hd : r = (L, false, 0) := by rw [hrr]; unfold setR; rw [if_neg h1, hb]; rfl
      subst hd
      rw [hb] at hhas
      have HS2 := hide hs2
      clear hrr hb h1 hs hs2 HS0
      go_enter Try.func57, Try.ntmps57
      go_wp2_with fail
      refine (unhide hhas).mono ?_
      rintro e w2 ⟨rfl, hbel⟩
      have hs3 := (unhide HS2).under hbel
      have b0 : w2.cell? ⟨w.heap.size, 0, none⟩ = some (.int .i64 sz) := hs3.f2.cell 0
      have b1 : w2.cell? ⟨w.heap.size, 1, none⟩ = some (.int .i64 ba) := hs3.f2.cell 1
      have b2 : w2.cell? ⟨w.heap.size, 2, none⟩ = some (.slice A n c) := hs3.f2.cell 2
      have r0 : w2.cell? ⟨w.heap.size + 1, 0, none⟩ = some (.int .i64 0) := hs3.cell 0
      have r1 : w2.cell? ⟨w.heap.size + 1, 1, none⟩ = some (.int .i64 0) := hs3.cell 1
      have r2 : w2.cell? ⟨w.heap.size + 1, 2, none⟩ = some (.slice none 0 0) := hs3.cell 2
      have r3 : ∀ j, w2.frozen? ⟨w.heap.size + 1, j, none⟩ = false := fun j => hs3.frozen j
      have hs4 := ((hs3.set 0 (.int .i64 sz)).set 1 (.int .i64 ba)).set 2 (.slice A n c)
      have HB := Lib.hid hs4.blk
      have HS := hide (show Sat E _ ((1 : Asn) * (X * F)) from hs4.right.right.perm (one_sep _).symm)
      clear hs4 hs3 hbel hhas HS2
      go_wp2_with fail
      exact bodyPost_ret (results_cell3 rfl _ _ _ _ _ _ _ rfl HB.out Try.underlying93 rfl (by kernel_rfl)) rfl ⟨A, n, c, 1, rfl, unhide HS, unhide hR1⟩

/-- What Advance leaves of its caller's. -/
def Adv10 (E : World) (X F : Asn) (sz ba : Nat) (L : List Int) (e : Ending) (w' : World) : Prop :=
  ∃ (k : Nat) (A' : Option Addr) (n' c' : Nat), e = .returned (.tuple #[.agg #[.int .i64 sz, .int .i64 (ba + k : Nat), .slice A' n' c'], .int .i64 k]) ∧ (advR L ba).2 = (ba + k : Nat) ∧ RS X A' n' c' (advR L ba).1 ∧ Sat E w' (X * F)
theorem advR_yes {x b : Int} {l : List Int} (h : x = b) : advR (x :: l) b = advR l (b + 1) := by
  conv => lhs; unfold advR
  rw [if_pos h]
theorem advR_no {L : List Int} {b : Int} (h : ∀ x l, L = x :: l → x ≠ b) : advR L b = (L, b) := by
  cases L with
  | nil => rfl
  | cons x l => unfold advR; rw [if_neg (h x l rfl)]
set_option maxHeartbeats 2000000 in
set_option maxRecDepth 100000 in
theorem adv10 (E w : World) (X F : Asn) (A : Option Addr) (n c : Nat) (L : List Int) (sz ba : Nat) (hs : Sat E w (X * F)) (hr : RS X A n c L) (hn : n ≤ 60000) (hba : ba ≤ 1152921504606846977) :
    Calls Try.prog 55 #[.agg #[.int .i64 sz, .int .i64 ba, .slice A n c]] w (Adv10 E X F sz ba L) := by
  have hs2 := (hs.alloc #[.int .i64 sz, .int .i64 ba, .slice A n c] 93).alloc #[.int .i64 0, .int .i64 0, .slice none 0 0] 93
  rw [World.size_alloc] at hs2
  have hln := hr.len hs.left
  go_enter Try.func55, Try.ntmps55
  go_wp2_with fail
  go_loopw [4] (fun s4 wr => ∃ (k n' c' : Nat) (A' : Option Addr) (L' : List Int), s4 = .int .i64 k ∧ k + n' = n ∧ Hid (advR L' (ba + k : Nat) = advR L ba) ∧ Hid (RS X A' n' c' L') ∧
      Sat E wr (Asn.blk (w.heap.size + 1) 93 #[.int .i64 0, .int .i64 0, .slice none 0 0] * (Asn.blk w.heap.size 93 #[.int .i64 sz, .int .i64 (ba + k : Nat), .slice A' n' c'] * (X * F)))) (fun s4 _ => n - (intOf s4).toNat)
  case atStart => exact ⟨0, n, c, A, L, rfl, by omega, rfl, hr, hs2⟩
  case round =>
    obtain ⟨k, n', c', A', L', rfl, hkn, HA, HR, hsr⟩ := hrel
    have hcm := HR.out.max
    clear hs2
    have hll := HR.out.len hsr.right.right.left
    have hcap := HR.out.cap
    unfold maxLen at hcm
    obtain ⟨b, hb⟩ : ∃ b, b = ba + k := ⟨_, rfl⟩
    rw [← hb] at hsr HA
    have hbb : b ≤ 1152921504606846977 + 60000 := by omega
    have HBK := hide hb
    clear hb
    have b0 : ∀ j, (wr.drewN j).cell? ⟨w.heap.size, 0, none⟩ = some (.int .i64 sz) := fun j => (hsr.drewN j).f2.cell 0
    have b1 : ∀ j, (wr.drewN j).cell? ⟨w.heap.size, 1, none⟩ = some (.int .i64 b) := fun j => (hsr.drewN j).f2.cell 1
    have b2 : ∀ j, (wr.drewN j).cell? ⟨w.heap.size, 2, none⟩ = some (.slice A' n' c') := fun j => (hsr.drewN j).f2.cell 2
    have b3 : ∀ j, wr.frozen? ⟨w.heap.size, j, none⟩ = false := fun j => hsr.f2.frozen j
    have r0 : wr.cell? ⟨w.heap.size + 1, 0, none⟩ = some (.int .i64 0) := hsr.cell 0
    have r1 : wr.cell? ⟨w.heap.size + 1, 1, none⟩ = some (.int .i64 0) := hsr.cell 1
    have r2 : wr.cell? ⟨w.heap.size + 1, 2, none⟩ = some (.slice none 0 0) := hsr.cell 2
    have r3 : ∀ j, wr.frozen? ⟨w.heap.size + 1, j, none⟩ = false := fun j => hsr.frozen j
    have c0 := b0 0
    have c1 := b1 0
    have c2 := b2 0
    simp only [World.drewN_zero] at c0 c1 c2
    have hfin : ∀ m, Sat E ((((wr.drewN m).setCell ⟨w.heap.size + 1, 0, none⟩ (.int .i64 sz)).setCell ⟨w.heap.size + 1, 1, none⟩ (.int .i64 b)).setCell ⟨w.heap.size + 1, 2, none⟩ (.slice A' n' c')) (Asn.blk (w.heap.size + 1) 93 #[.int .i64 sz, .int .i64 b, .slice A' n' c'] * (Asn.blk w.heap.size 93 #[.int .i64 sz, .int .i64 b, .slice A' n' c'] * (X * F))) :=
      fun m => (((hsr.drewN m).set 0 (.int .i64 sz)).set 1 (.int .i64 b)).set 2 (.slice A' n' c')
    have HFIN := hide hfin
    clear hfin
    by_cases hn0 : 0 < n'
    · obtain ⟨x, l, rfl⟩ : ∃ x l, L' = x :: l := by
        cases L' with
        | nil => simp at hll; omega
        | cons x l => exact ⟨x, l, rfl⟩
      have hcell : ∀ j, ∃ ad, A' = some ad ∧ (wr.drewN j).cell? ad = some (.int .i64 x) := fun j => by
        obtain ⟨ad, h1, h2⟩ := (RdW.of_rd HR.out.rd (hsr.drewN j).right.right.left).int_at hn0
        refine ⟨ad, h1, ?_⟩
        have e : ad.add 0 = ad := by unfold Addr.add; simp
        rw [e] at h2
        exact h2
      obtain ⟨ad, rfl, _⟩ := hcell 0
      have hcell2 : ∀ j, (wr.drewN j).cell? ad = some (.int .i64 x) := fun j => by
        obtain ⟨ad', h, h2⟩ := hcell j
        obtain rfl : ad = ad' := by simpa using h
        exact h2
      clear hcell
      by_cases hx : x = b
      · obtain ⟨d, hd⟩ : ∃ d, d = c' - 1 := ⟨_, rfl⟩
        obtain ⟨B, hB⟩ : ∃ B, B = if c' = 1 then some ad else some (ad.add 1) := ⟨_, rfl⟩
        have HRS : Hid (RS X B (n' - 1) d l) := ⟨by
          have := HR.out.rd.intsRest (q := 1) (B := B) (by omega) HR.out.cap hB
          simpa using this, by omega, (fun h => by rw [h] at hB; split at hB <;> cases hB), by unfold maxLen; omega⟩
        have HA2 : Hid (advR l (ba + (k + 1) : Nat) = advR L ba) := by
          have h := HA.out
          rw [advR_yes hx] at h
          rw [← h, unhide HBK]
          rfl
        have hfin2 : ∀ m, Sat E (((wr.drewN m).setCell ⟨w.heap.size, 2, none⟩ (.slice B (n' - 1) d)).setCell ⟨w.heap.size, 1, none⟩ (.int .i64 ((b : Int) + 1))) (Asn.blk (w.heap.size + 1) 93 #[.int .i64 0, .int .i64 0, .slice none 0 0] * (Asn.blk w.heap.size 93 #[.int .i64 sz, .int .i64 (ba + (k + 1) : Nat), .slice B (n' - 1) d] * (X * F))) := by
          intro m
          have hb := unhide HBK
          rw [show ((ba + (k + 1) : Nat) : Int) = (b : Int) + 1 by omega]
          exact (((hsr.drewN m).f2.set 2 _).set 1 _).f2
        have HFIN2 := hide hfin2
        subst hx
        clear hfin2 hsr HA HR HFIN
        by_cases hc1 : c' = 1
        all_goals
          first | (rw [if_pos hc1] at hB; obtain rfl : d = 0 := (by omega); clear hd) | (rw [if_neg hc1] at hB; subst hd)
          subst hB
          go_wp2_with fail
          go_quiet (fail)
          go_wp2_with fail
          go_roundw
          case rel => exact ⟨k + 1, n' - 1, _, _, l, by go_num, by omega, HA2, HRS, unhide HFIN2 _⟩
          case measure => simp [intOf]; omega
      · have hxb : decide (x = (b : Int)) = false := decide_eq_false hx
        have hno : advR (x :: l) b = (x :: l, (b : Int)) := advR_no (fun y m h => by injection h with h1 h2; rw [← h1]; exact hx)
        have HA2 := HA.out
        rw [hno] at HA2
        have HA3 := hide HA2
        clear HA2 HA hsr hno
        go_wp2_with fail
        go_quiet (fail)
        go_wp2_with fail
        have HB : ∀ m, Hid (_ = _) := fun m => (unhide HFIN m).blk
        exact bodyPost_ret (results_cell2 rfl _ _ _ _ _ _ _ rfl (HB _).out Try.underlying93 rfl (by kernel_rfl)) rfl ⟨k, some ad, n', c', by rw [unhide HBK]; rfl, by rw [← unhide HA3, unhide HBK], by rw [← unhide HA3]; exact HR.out, (unhide HFIN _).right.right⟩
    · obtain rfl : n' = 0 := by omega
      have hL : L' = [] := List.eq_nil_of_length_eq_zero hll
      subst hL
      have HA3 := hide (show ([], (b : Int)) = advR L ba from HA.out)
      clear HA hsr
      go_wp2_with fail
      go_quiet (fail)
      go_wp2_with fail
      have HB : ∀ m, Hid (_ = _) := fun m => (unhide HFIN m).blk
      exact bodyPost_ret (results_cell2 rfl _ _ _ _ _ _ _ rfl (HB _).out Try.underlying93 rfl (by kernel_rfl)) rfl ⟨k, A', 0, c', by rw [unhide HBK]; rfl, by rw [← unhide HA3, unhide HBK], by rw [← unhide HA3]; exact HR.out, (unhide HFIN _).right.right⟩
end Go.Proofs.Ytpcoehbjbjfggaa