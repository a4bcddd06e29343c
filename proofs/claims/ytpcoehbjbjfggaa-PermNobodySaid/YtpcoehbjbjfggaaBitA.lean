/- The law's awake over the bitmap. -/
import Derived.Test.YtpcoehbjbjfggaaBitN
namespace Go.Proofs.Ytpcoehbjbjfggaa
open Go.RowKit Asn

set_option maxRecDepth 100000 in
theorem sameInts04 (E w : World) (F : Asn) (A B : Option Addr) (n c d : Nat) (xs : List Value) (hs : Sat E w F) (ha : rd F 1 A n xs) (hb : rd F 1 B n xs) (hi : ∀ u ∈ xs, ∃ x, u = Value.int .i64 x) (hn : n ≤ 65536) :
    Calls Try.prog 52 #[.slice A n c, .slice B n d] w fun e w' => e = .returned (.bool true) ∧ Sat E w' F := by
  have hnn : ((n : Int) != n) = false := by simp
  have HI := Lib.hid hi
  clear hi
  go_enter Try.func52, Try.ntmps52
  go_wp2_with fail
  go_loopw [5] (fun i wr => ∃ k : Nat, i = .int .i64 k ∧ k ≤ n ∧ Sat E wr F) (fun i _ => n - (intOf i).toNat)
  case atStart => exact ⟨0, rfl, Nat.zero_le _, hs⟩
  case round =>
    obtain ⟨k, rfl, hk, hsr⟩ := hrel
    by_cases hlt : k < n
    · have hxl : xs.length = n := by have := (RdW.of_rd ha hs).1; omega
      have hkx : k < xs.length := by omega
      have hu : xs[k]? = some xs[k] := List.getElem?_eq_getElem hkx
      generalize xs[k] = u at hu
      obtain ⟨u, rfl⟩ := HI.out u (List.mem_of_getElem? hu)
      have e1 : ∀ j, ∃ ad, A = some ad ∧ (wr.drewN j).cell? (ad.add k) = some (.int .i64 u) := fun j => (RdW.of_rd ha (hsr.drewN j)).at_ hu
      have e2 : ∀ j, ∃ ad, B = some ad ∧ (wr.drewN j).cell? (ad.add k) = some (.int .i64 u) := fun j => (RdW.of_rd hb (hsr.drewN j)).at_ hu
      obtain ⟨ad, rfl, _⟩ := e1 0
      obtain ⟨bd, rfl, _⟩ := e2 0
      have e3 : ∀ j, (wr.drewN j).cell? (ad.add k) = some (.int .i64 u) := by
        intro j
        obtain ⟨ad', h, h2⟩ := e1 j
        obtain rfl : ad = ad' := by simpa using h
        exact h2
      have e4 : ∀ j, (wr.drewN j).cell? (bd.add k) = some (.int .i64 u) := by
        intro j
        obtain ⟨ad', h, h2⟩ := e2 j
        obtain rfl : bd = ad' := by simpa using h
        exact h2
      have e30 := e3 0
      have e40 := e4 0
      clear e1 e2 hu
      go_wp2_with fail
      go_quiet (fail)
      go_wp2_with fail
      go_roundw
      case rel => exact ⟨k + 1, by go_num, by omega, hsr.drewN _⟩
      case measure => simp [intOf]; omega
    · have HS := hide hsr
      clear hsr hs
      go_wp2_with fail
      go_ret
      exact ⟨rfl, unhide HS⟩

theorem rd_blk {b : Nat} {t : TypeId} {cs : Array Value} {G : Asn} : rd (Asn.blk b t cs * G) 1 (some ⟨b, 0, none⟩) cs.size cs.toList := by
  refine rd.left ?_
  intro h hh
  have hh : h = Hp.one b (.cells cs t (0, 0)) := hh
  subst hh
  refine ⟨by simp, fun _ => ⟨_, rfl, fun j u hu => ⟨cs, t, (0, 0), ?_, ?_, ?_⟩⟩⟩
  · simp [Hp.one, block_of_add]
  · rw [add_lit']
  · rw [add_lit']
    simpa using hu

def VA : Nat → Nat := onBit (onBit (fun _ => 0) 10) 12
theorem setA1 : setB (fun _ => 0) 4 10 10 = (onBit (fun _ => 0) 10, true, 0) := by simp [setB, inWin, bitAt]
theorem setA2 : setB (onBit (fun _ => 0) 10) 4 10 12 = (VA, true, 0) := by
  have : bitAt (onBit (fun _ => 0) 10) 12 = false := by rw [bitAt_on]; simp [bitAt]
  simp [setB, inWin, this, VA]
theorem advA : advB VA 10 = (clrBit VA 10, 11) := by
  have h1 : bitAt VA 10 = true := by unfold VA; rw [bitAt_on, bitAt_on]; simp
  have h2 : bitAt (clrBit VA 10) 11 = false := by rw [bitAt_clr]; unfold VA; rw [bitAt_on, bitAt_on]; simp [bitAt]
  rw [advB_yes (by omega) h1, advB_no (by rw [h2]; simp)]
theorem lackA : (lk (winL (clrBit VA 10) 4 11)).take (9 : Int).toNat = [.int .i64 11, .int .i64 13, .int .i64 14] := by
  have hb : ∀ m, bitAt (clrBit VA 10) m = ((decide (m % 256 = 10) || decide (m % 256 = 12)) && !decide (m % 256 = 10)) := by
    intro m
    rw [bitAt_clr]; unfold VA; rw [bitAt_on, bitAt_on]; simp [bitAt]
  have hw : winN 4 11 = 4 := by decide
  unfold lk winL
  rw [hw]
  simp [hb, List.range_succ]

set_option maxHeartbeats 1000000 in
set_option maxRecDepth 100000 in
theorem awake10 (E w : World) (F : Asn) (hs : Sat E w F) : Calls Try.prog 47 #[] w fun e w' => e = .returned (.bool true) ∧ Sat E w' F := by
  have sm0 : Small (fun _ => 0) := fun _ => Nat.two_pow_pos 64
  have hc1 := hide (bit_new E w F 4 10 hs (by omega) (by omega) (by omega))
  clear hs
  go_enter Try.func47, Try.ntmps47
  go_wp2_with fail
  refine (unhide hc1).mono ?_
  rintro e w1 ⟨g, rfl, hs1⟩
  have hc2 := set_call E w1 F g _ 4 10 10 hs1 sm0 (by omega) (by omega) (by omega) (by omega)
  rw [setA1] at hc2
  have HC2 := hide hc2
  clear hc1 hc2 hs1
  go_wp2_with fail
  refine (unhide HC2).mono ?_
  rintro e w2 ⟨rfl, hs2⟩
  have hc3 := set_call E w2 F g _ 4 10 12 hs2 (sm0.on 10) (by omega) (by omega) (by omega) (by omega)
  rw [setA2] at hc3
  have HC3 := hide hc3
  clear HC2 hc3 hs2
  go_wp2_with fail
  refine (unhide HC3).mono ?_
  rintro e w3 ⟨rfl, hs3⟩
  have smA : Small VA := (sm0.on 10).on 12
  have hc4 := advance_call E w3 F g VA 4 10 hs3 smA (by omega) (by omega) (by omega)
  rw [advA] at hc4
  have HC4 := hide hc4
  clear HC3 hc4 hs3
  go_wp2_with fail
  refine (unhide HC4).mono ?_
  rintro e w4 ⟨k, rfl, hk, _, hsm, hs4⟩
  obtain rfl : k = 1 := by have : (11 : Nat) = 10 + k := hk; omega
  have d4 : w4.cell? ⟨g, 4, none⟩ = some (.int .i64 4) := hs4.cell 4
  have d5 : w4.cell? ⟨g, 5, none⟩ = some (.int .i64 11) := hs4.cell 5
  have hc5 := lacking_call E w4 F g (clrBit VA 10) 4 11 9 hs4 hsm (by omega) (by omega) (by omega)
  rw [lackA] at hc5
  have HC5 := hide hc5
  clear HC4 hc5 hs4 hk
  go_wp2_with (go_at_call 51; refine (base_call _ _ 4 11 d4 d5 rfl).mono ?_; rintro e w' ⟨rfl, rfl⟩)
  refine (unhide HC5).mono ?_
  rintro e w5 ⟨A, c, rfl, hs5⟩
  have hs6 := hs5.alloc #[.int .i64 11, .int .i64 13, .int .i64 14] 3
  have hc6 := hide (sameInts04 E _ _ A (some ⟨w5.heap.size, 0, none⟩) 3 c 3 [.int .i64 11, .int .i64 13, .int .i64 14] hs6 rd_sl.left.right (rd_blk (cs := #[.int .i64 11, .int .i64 13, .int .i64 14])) (by intro u hu; simp at hu; rcases hu with rfl | rfl | rfl <;> exact ⟨_, rfl⟩) (by omega))
  have HS5 := hide hs5
  clear hs5 hs6 HC5
  go_wp2_with fail
  refine (unhide hc6).mono ?_
  rintro e w6 ⟨rfl, hs7⟩
  have hs8 := hide hs7.right.right.right
  clear hs7 hc6
  go_wp2_with fail
  go_ret
  exact ⟨rfl, unhide hs8⟩
end Go.Proofs.Ytpcoehbjbjfggaa
