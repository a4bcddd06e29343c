/- The document's comparison of two rows of numbers, whatever they are. -/
import Derived.Test.YtdfidijlconhnaaProg
import Derived.Test.YtdfidijlconhnaaRS
import Derived.Deep.DeepCutAuto
namespace Go.Proofs.Ytdfidijlconhnaa
open Go.RowKit Asn
set_option maxHeartbeats 1000000 in
theorem sameI05 (E w : World) (F : Asn) (A B : Option Addr) (n c m d : Nat) (L M : List Int) (hs : Sat E w F) (ha : rd F 1 A n (ints L)) (hb : rd F 1 B m (ints M)) (hn : n ≤ 65536) (hm : m ≤ 65536) :
    Calls Try.prog 54 #[.slice A n c, .slice B m d] w fun e w' => e = .returned (.bool (decide (L = M))) ∧ Sat E w' F := by
  have hl := ha.ints_len hs
  have hl2 := hb.ints_len hs
  by_cases hnm : n = m
  · subst hnm
    have hnn : ((n : Int) != n) = false := by simp
    have HL := hide hl
    have HL2 := hide hl2
    clear hl hl2
    go_enter Try.func54, Try.ntmps54
    go_wp2_with fail
    go_loopw [5] (fun i wr => ∃ k : Nat, i = .int .i64 k ∧ k ≤ n ∧ Hid (∀ j, j < k → L.getD j 0 = M.getD j 0) ∧ Sat E wr F) (fun i _ => n - (intOf i).toNat)
    case atStart => exact ⟨0, rfl, Nat.zero_le _, hide (fun j hj => by omega), hs⟩
    case round =>
      obtain ⟨k, rfl, hk, HE, hsr⟩ := hrel
      by_cases hlt : k < n
      · have e1 : ∀ j, ∃ ad, A = some ad ∧ (wr.drewN j).cell? (ad.add k) = some (.int .i64 (L.getD k 0)) := fun j => (RdW.of_rd ha (hsr.drewN j)).int_at hlt
        have e2 : ∀ j, ∃ ad, B = some ad ∧ (wr.drewN j).cell? (ad.add k) = some (.int .i64 (M.getD k 0)) := fun j => (RdW.of_rd hb (hsr.drewN j)).int_at hlt
        obtain ⟨ad, rfl, _⟩ := e1 0
        obtain ⟨bd, rfl, _⟩ := e2 0
        obtain ⟨x, hx⟩ : ∃ x, x = L.getD k 0 := ⟨_, rfl⟩
        obtain ⟨y, hy⟩ : ∃ y, y = M.getD k 0 := ⟨_, rfl⟩
        have e3 : ∀ j, (wr.drewN j).cell? (ad.add k) = some (.int .i64 x) := by
          intro j
          obtain ⟨ad', h, h2⟩ := e1 j
          obtain rfl : ad = ad' := by simpa using h
          rw [hx]; exact h2
        have e4 : ∀ j, (wr.drewN j).cell? (bd.add k) = some (.int .i64 y) := by
          intro j
          obtain ⟨ad', h, h2⟩ := e2 j
          obtain rfl : bd = ad' := by simpa using h
          rw [hy]; exact h2
        have e30 := e3 0
        have e40 := e4 0
        simp only [World.drewN_zero] at e30 e40
        have HX := hide hx
        have HY := hide hy
        clear e1 e2 hx hy
        by_cases hxy : x = y
        · have h2 : (x != y) = false := by simp [hxy]
          have HE2 : Hid (∀ j, j < k + 1 → L.getD j 0 = M.getD j 0) := fun j hj => by
            rcases Nat.lt_succ_iff_lt_or_eq.1 hj with h | h
            · exact HE.out j h
            · rw [h, ← unhide HX, ← unhide HY]; exact hxy
          clear hxy
          go_wp2_with fail
          go_quiet (fail)
          go_wp2_with fail
          go_roundw
          case rel => exact ⟨k + 1, by go_num, by omega, HE2, hsr.drewN _⟩
          case measure => simp [intOf]; omega
        · have h2 : (x != y) = true := by simp [hxy]
          have hd : Hid (decide (L = M) = false) := by
            refine decide_eq_false fun h => hxy ?_
            rw [unhide HX, unhide HY, h]
          have HS := hide (fun j => hsr.drewN j)
          clear hsr hxy hs
          go_wp2_with fail
          go_quiet (fail)
          go_wp2_with fail
          go_ret
          exact ⟨by rw [unhide hd]; rfl, unhide HS _⟩
      · obtain rfl : k = n := by omega
        have hd : Hid (decide (L = M) = true) := by
          refine decide_eq_true ?_
          have h1 := unhide HL
          have h2 := unhide HL2
          refine List.ext_getElem (by omega) fun j hj hj2 => ?_
          have := HE.out j (by omega)
          rwa [getD_lt hj, getD_lt hj2] at this
        have HS := hide hsr
        clear hsr hs
        go_wp2_with fail
        go_ret
        exact ⟨by rw [unhide hd]; rfl, unhide HS⟩
  · have hd : Hid (decide (L = M) = false) := decide_eq_false fun h => hnm (by rw [← hl, ← hl2, h])
    have hnn : ((n : Int) != m) = true := by simp; omega
    have HS := hide hs
    clear hs hl hl2
    go_enter Try.func54, Try.ntmps54
    go_wp2_with fail
    go_ret
    exact ⟨by rw [unhide hd]; rfl, unhide HS⟩
end Go.Proofs.Ytdfidijlconhnaa
