/- The reference's Same, and the law's few. -/
import Derived.Test.YtdfidijlconhnaaRef12
namespace Go.Proofs.Ytdfidijlconhnaa
open Go.RowKit Asn

set_option maxRecDepth 100000 in
theorem refSame (E w : World) (G : Asn) (A B : Option Addr) (n c m d : Nat) (ls ks : List (List UInt8)) (hs : Sat E w G) (hl : rdRows G A n ls) (hk : rdRows G B m ks) (hn : n ≤ 65536) (hm : m ≤ 65536) :
    Calls Try.prog 42 #[.slice A n c, .slice B m d] w fun e w' => e = .returned (.bool (decide (ls = ks))) ∧ Below w.heap.size w w' := by
  have hln : ls.length = n := by obtain ⟨rs, _, h, _⟩ := hl; exact h
  have hkn : ks.length = m := by obtain ⟨rs, _, h, _⟩ := hk; exact h
  by_cases hnm : n = m
  · subst hnm
    have HL := Lib.hid hln
    have HK := Lib.hid hkn
    clear hln hkn
    have hnn : ((n : Int) != n) = false := by simp
    go_enter Try.func42, Try.ntmps42
    go_wp2_with fail
    go_loopw [5] (fun i wr => ∃ k : Nat, i = .int .i64 k ∧ k ≤ n ∧ Hid (ls.take k = ks.take k) ∧ Below w.heap.size w wr) (fun i _ => n - (intOf i).toNat)
    case atStart => exact ⟨0, rfl, Nat.zero_le _, rfl, Below.refl _ _⟩
    case round =>
      obtain ⟨k, rfl, hkk, HE, hb⟩ := hrel
      have hsr : Sat E wr G := hs.under hb
      by_cases hlt : k < n
      · have h1 : k < ls.length := by rw [HL.out]; exact hlt
        have h2 : k < ks.length := by rw [HK.out]; exact hlt
        have hl1 : ls[k]? = some ls[k] := List.getElem?_eq_getElem h1
        have hk1 : ks[k]? = some ks[k] := List.getElem?_eq_getElem h2
        generalize ls[k] = p at hl1
        generalize ks[k] = q at hk1
        obtain ⟨a1, r1, m1, c1, rfl, hc1, hp1, _, _⟩ := hl.atR hsr hl1
        obtain ⟨a2, r2, m2, c2, rfl, hc2, hp2, _, _⟩ := hk.atR hsr hk1
        have e1 : ∀ j, (wr.drewN j).cell? (a1.add k) = some (.slice r1 m1 c1) := fun j => hc1 _ (hsr.drewN j)
        have e2 : ∀ j, (wr.drewN j).cell? (a2.add k) = some (.slice r2 m2 c2) := fun j => hc2 _ (hsr.drewN j)
        have s1 : ∀ j, (convert 22 9 (.slice r1 m1 c1)).run Try.prog (wr.drewN j) = .ok (.string ⟨p.toArray⟩) (wr.drewN j) := fun j => (RdW.of_rd hp1 (hsr.drewN j)).str Try.underlying22 Try.underlying5 Try.underlying9 c1
        have s2 : ∀ j, (convert 22 9 (.slice r2 m2 c2)).run Try.prog (wr.drewN j) = .ok (.string ⟨q.toArray⟩) (wr.drewN j) := fun j => (RdW.of_rd hp2 (hsr.drewN j)).str Try.underlying22 Try.underlying5 Try.underlying9 c2
        have e10 := e1 0
        have e20 := e2 0
        have s10 := s1 0
        have s20 := s2 0
        have H1 := Lib.hid hl1
        have H2 := Lib.hid hk1
        clear hl1 hk1 hc1 hc2
        have hbn : ∀ j, Below w.heap.size w (wr.drewN j) := fun j => ⟨hb.os, hb.tape, hb.output, hb.size, hb.block⟩
        by_cases hpq : p = q
        · subst hpq
          go_wp2_with fail
          go_quiet (fail)
          go_wp2_with fail
          go_roundw
          case rel =>
            refine ⟨k + 1, by go_num, by omega, ?_, hbn _⟩
            show _ = _
            rw [List.take_add_one, List.take_add_one, HE.out, H1.out, H2.out]
          case measure => simp [intOf]; omega
        · have hse : (p == q) = false := by simpa using hpq
          have hd : decide (ls = ks) = false := by
            simp only [decide_eq_false_iff_not]
            rintro rfl
            have := H1.out.symm.trans H2.out
            injection this with this
            exact hpq this
          have HD := Lib.hid hd
          clear hd hpq
          go_wp2_with fail
          go_quiet (fail)
          go_wp2_with fail
          go_ret
          exact ⟨by rw [HD.out]; rfl, hbn _⟩
      · have hkn : k = n := by omega
        have hd : decide (ls = ks) = true := by
          have := HE.out
          rw [List.take_of_length_le (by rw [HL.out]; omega), List.take_of_length_le (by rw [HK.out]; omega)] at this
          simpa using this
        have HD := Lib.hid hd
        clear hd hkn
        go_wp2_with fail
        go_ret
        exact ⟨by rw [HD.out]; rfl, hb⟩
  · have hne : ((n : Int) != m) = true := by simp only [bne_iff_ne, ne_eq]; omega
    have hd : decide (ls = ks) = false := by
      simp only [decide_eq_false_iff_not]
      rintro rfl
      exact hnm (hln.symm.trans hkn)
    rw [hd]
    clear hln hkn hd
    go_enter Try.func42, Try.ntmps42
    go_wp2_with fail
    go_ret
    exact ⟨rfl, Below.refl _ _⟩

/-- The parts that are looked at: 20, 200 bytes each. -/
def cutFew (ls : List (List UInt8)) : List (List UInt8) := (ls.take 20).map (·.take 200)
theorem RdW.dropO {w : World} {A : Option Addr} {n : Nat} {l : List UInt8} (h : RdW w A n 1 (bytes l)) (k : Nat) (hk : k ≤ n) : RdW w A k 1 (bytes (l.take k)) := by
  have := h.take (k := k) hk
  simpa [bytes, List.map_take] using this

end Go.Proofs.Ytdfidijlconhnaa
