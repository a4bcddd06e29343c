/- The reference's Same, and the law's few. -/
import Derived.Test.YtpcoehbjbjfggaaRef12
namespace Go.Proofs.Ytpcoehbjbjfggaa
open Go.RowKit Asn

set_option maxRecDepth 100000 in
theorem refSame (E w : World) (G : Asn) (A B : Option Addr) (n c m d : Nat) (ls ks : List (List UInt8)) (hs : Sat E w G) (hl : rdRows G A n ls) (hk : rdRows G B m ks) (hn : n ≤ 65536) (hm : m ≤ 65536) :
    Calls Try.prog 22 #[.slice A n c, .slice B m d] w fun e w' => e = .returned (.bool (decide (ls = ks))) ∧ Below w.heap.size w w' := by
  have hln : ls.length = n := by obtain ⟨rs, _, h, _⟩ := hl; exact h
  have hkn : ks.length = m := by obtain ⟨rs, _, h, _⟩ := hk; exact h
  by_cases hnm : n = m
  · subst hnm
    have HL := Lib.hid hln
    have HK := Lib.hid hkn
    clear hln hkn
    have hnn : ((n : Int) != n) = false := by simp
    go_enter Try.func22, Try.ntmps22
    go_wp2_with fail
    go_loopw [5] (fun i wr => ∃ k : Nat, i = .int .i64 k ∧ k ≤ n ∧ Hid (ls.take k = ks.take k) ∧ Below w.heap.size w wr) (fun i _ => n - (intOf i).toNat)
    case atStart => exact ⟨0, rfl, Nat.zero_le _, rfl, Below.refl _ _⟩
    case round =>
      obtain ⟨k, rfl, hkk, HE, hb⟩ := hrel
      have hsr : Sat E wr G := hs.under hb
      by_cases hlt : k < n
      · have h1 : k < ls.length := by rw [HL.out]; exact hlt
        have h2 : k < ks.length := by rw [HK.out]; exact hlt
        have hl1 : ls[k]? = some ls[k] := List.getElem?_eq_getElem h1
        have hk1 : ks[k]? = some ks[k] := List.getElem?_eq_getElem h2
        generalize ls[k] = p at hl1
        generalize ks[k] = q at hk1
        obtain ⟨a1, r1, m1, c1, rfl, hc1, hp1, _, _⟩ := hl.atR hsr hl1
        obtain ⟨a2, r2, m2, c2, rfl, hc2, hp2, _, _⟩ := hk.atR hsr hk1
        have e1 : ∀ j, (wr.drewN j).cell? (a1.add k) = some (.slice r1 m1 c1) := fun j => hc1 _ (hsr.drewN j)
        have e2 : ∀ j, (wr.drewN j).cell? (a2.add k) = some (.slice r2 m2 c2) := fun j => hc2 _ (hsr.drewN j)
        have s1 : ∀ j, (convert 22 9 (.slice r1 m1 c1)).run Try.prog (wr.drewN j) = .ok (.string ⟨p.toArray⟩) (wr.drewN j) := fun j => (RdW.of_rd hp1 (hsr.drewN j)).str Try.underlying22 Try.underlying5 Try.underlying9 c1
        have s2 : ∀ j, (convert 22 9 (.slice r2 m2 c2)).run Try.prog (wr.drewN j) = .ok (.string ⟨q.toArray⟩) (wr.drewN j) := fun j => (RdW.of_rd hp2 (hsr.drewN j)).str Try.underlying22 Try.underlying5 Try.underlying9 c2
        have e10 := e1 0
        have e20 := e2 0
        have s10 := s1 0
        have s20 := s2 0
        have H1 := Lib.hid hl1
        have H2 := Lib.hid hk1
        clear hl1 hk1 hc1 hc2
        have hbn : ∀ j, Below w.heap.size w (wr.drewN j) := fun j => ⟨hb.os, hb.tape, hb.output, hb.size, hb.block⟩
        by_cases hpq : p = q
        · subst hpq
          go_wp2_with fail
          go_quiet (fail)
          go_wp2_with fail
          go_roundw
          case rel =>
            refine ⟨k + 1, by go_num, by omega, ?_, hbn _⟩
            show _ = _
            rw [List.take_add_one, List.take_add_one, HE.out, H1.out, H2.out]
          case measure => simp [intOf]; omega
        · have hse : (p == q) = false := by simpa using hpq
          have hd : decide (ls = ks) = false := by
            simp only [decide_eq_false_iff_not]
            rintro rfl
            have := H1.out.symm.trans H2.out
            injection this with this
            exact hpq this
          have HD := Lib.hid hd
          clear hd hpq
          go_wp2_with fail
          go_quiet (fail)
          go_wp2_with fail
          go_ret
          exact ⟨by rw [HD.out]; rfl, hbn _⟩
      · have hkn : k = n := by omega
        have hd : decide (ls = ks) = true := by
          have := HE.out
          rw [List.take_of_length_le (by rw [HL.out]; omega), List.take_of_length_le (by rw [HK.out]; omega)] at this
          simpa using this
        have HD := Lib.hid hd
        clear hd hkn
        go_wp2_with fail
        go_ret
        exact ⟨by rw [HD.out]; rfl, hb⟩
  · have hne : ((n : Int) != m) = true := by simp only [bne_iff_ne, ne_eq]; omega
    have hd : decide (ls = ks) = false := by
      simp only [decide_eq_false_iff_not]
      rintro rfl
      exact hnm (hln.symm.trans hkn)
    rw [hd]
    clear hln hkn hd
    go_enter Try.func22, Try.ntmps22
    go_wp2_with fail
    go_ret
    exact ⟨rfl, Below.refl _ _⟩

/-- The parts that are looked at: 20, 200 bytes each. -/
def cutFew (ls : List (List UInt8)) : List (List UInt8) := (ls.take 20).map (·.take 200)
theorem RdW.dropO {w : World} {A : Option Addr} {n : Nat} {l : List UInt8} (h : RdW w A n 1 (bytes l)) (k : Nat) (hk : k ≤ n) : RdW w A k 1 (bytes (l.take k)) := by
  have := h.take (k := k) hk
  simpa [bytes, List.map_take] using this

set_option maxRecDepth 100000 in
theorem few_rows (E w : World) (G : Asn) (A : Option Addr) (n c : Nat) (rs0 : List (Option Addr × Nat × Nat)) (ls : List (List UInt8)) (hs : Sat E w G) (hrn : rs0.length = n) (hr0 : rd G 1 A n (hds rs0)) (hok0 : rowsOk G rs0 ls) (hcap : ∀ r ∈ rs0, r.2.1 ≤ r.2.2) (hn : n ≤ 9223372036854775807) :
    Calls Try.prog 19 #[.slice A n c] w fun e w' => ∃ X A2 c2, e = .returned (.slice A2 (cutFew ls).length c2) ∧ Sat E w' (X * G) ∧ rdRows (X * G) A2 (cutFew ls).length (cutFew ls) := by
  have HL := Lib.hid hrn
  have HCAP := Lib.hid hcap
  clear hrn hcap
  go_enter Try.func19, Try.ntmps19
  go_wp2_with fail
  go_loopw [3, 4] (fun so i wr => ∃ (k oc : Nat) (oA : Option Addr) (rs : List (Option Addr × Nat × Nat)), so = .slice oA rs.length oc ∧ i = .int .i64 k ∧ k ≤ n ∧ k ≤ 20 ∧ rs.length ≤ k ∧ rowsOk G rs ((ls.take k).map (·.take 200)) ∧
      Sat E wr (sl 22 1 oA rs.length oc (hds rs) * G)) (fun _ i _ => n - (intOf i).toNat)
  case atStart => exact ⟨0, 0, none, [], rfl, rfl, Nat.zero_le _, by omega, Nat.le_refl _, ⟨by simp, fun i r l a => by simp at a⟩, hs.slNil⟩
  case round =>
    obtain ⟨k, oc, oA, rs, rfl, rfl, hk, hk20, hrk, hok, hsr⟩ := hrel
    by_cases hlt : k < n ∧ k < 20
    · obtain ⟨h1, h2⟩ := hlt
      have hkr : k < rs0.length := by rw [HL.out]; exact h1
      have hr1 : rs0[k]? = some rs0[k] := List.getElem?_eq_getElem hkr
      have hmc := HCAP.out _ (List.mem_of_getElem? hr1)
      have hl1 : ls[k]? = some (ls[k]'(by rw [← hok0.1]; exact hkr)) := List.getElem?_eq_getElem _
      generalize rs0[k] = r at hr1 hmc
      generalize ls[k]'(by rw [← hok0.1]; exact hkr) = p at hl1
      obtain ⟨r, m, d⟩ := r
      obtain ⟨hp1, hm1⟩ := hok0.2 k _ _ hr1 hl1
      obtain ⟨ad, rfl, e1⟩ := (RdW.of_rd hr0 hsr.right).at_ (j := k) (u := .slice r m d) (by rw [hds, List.getElem?_map, hr1]; rfl)
      have hpl := rdlen hsr.right hp1
      dsimp only at hmc hm1 hp1 hpl
      have H1 := Lib.hid hl1
      have HP := Lib.hid hpl
      clear hl1 hr1 hpl
      have hsnoc : ∀ q, q ≤ m → (q = m ∧ m ≤ 200 ∨ q = 200 ∧ 200 < m) → rowsOk G (rs ++ [(r, q, d)]) ((ls.take (k + 1)).map (·.take 200)) := fun q hq hqc => by
        rw [List.take_add_one, H1.out, List.map_append]
        have e : p.take 200 = p.take q := by
          rcases hqc with ⟨rfl, h⟩ | ⟨rfl, _⟩
          · rw [List.take_of_length_le (by rw [HP.out]; exact h), List.take_of_length_le (by rw [HP.out]; exact Nat.le_refl _)]
          · rfl
        exact hok.snoc (r := (r, q, d)) (l := p.take 200) (by rw [e]; exact hp1.bytesTake hq) (by dsimp only; omega)
      have HSN := Lib.hid hsnoc
      clear hsnoc
      have hal := fun q => hsr.alloc #[.slice r q d] 22
      by_cases h200 : 200 < m
      · obtain ⟨A4, c4, w4, run4, hs9⟩ := Sat.append (P := Try.prog) (t := 31) (ty := 31) (d := 1) elt_rows (hal 200).right (RdW.new _ #[.slice r 200 d] 22 1 1 rfl) (by intro u hu; simp at hu; subst hu; rfl) (by unfold maxLen; omega) (by omega)
        have R4 := Lib.hid run4
        have hs10 := hide hs9
        clear hs9 run4 hal
        go_wp2_with (at_builtin; refine wpList_appendR rfl (.tmp 25) (.tmp 27) rfl rfl rfl R4.out ?_)
        go_roundw
        case rel => exact ⟨k + 1, c4, A4, rs ++ [(r, 200, d)], by simp, by go_num, by omega, by omega, by simp; omega, HSN.out 200 (by omega) (by omega), (unhide hs10).perm (by simp [hds])⟩
        case measure => simp [intOf]; omega
      · obtain ⟨A4, c4, w4, run4, hs9⟩ := Sat.append (P := Try.prog) (t := 31) (ty := 31) (d := 1) elt_rows (hal m).right (RdW.new _ #[.slice r m d] 22 1 1 rfl) (by intro u hu; simp at hu; subst hu; rfl) (by unfold maxLen; omega) (by omega)
        have R4 := Lib.hid run4
        have hs10 := hide hs9
        clear hs9 run4 hal
        go_wp2_with (at_builtin; refine wpList_appendR rfl (.tmp 25) (.tmp 27) rfl rfl rfl R4.out ?_)
        go_roundw
        case rel => exact ⟨k + 1, c4, A4, rs ++ [(r, m, d)], by simp, by go_num, by omega, by omega, by simp; omega, HSN.out m (by omega) (by omega), (unhide hs10).perm (by simp [hds])⟩
        case measure => simp [intOf]; omega
    · have hcut : (ls.take k).map (·.take 200) = cutFew ls := by
        unfold cutFew
        congr 1
        by_cases h20 : k = 20
        · rw [h20]
        · have : k = n := by omega
          have hll : ls.length = n := by rw [← hok0.1, HL.out]
          rw [List.take_of_length_le (by omega), List.take_of_length_le (by omega)]
      rw [hcut] at hok
      have hfin : rdRows (sl 22 1 oA rs.length oc (hds rs) * G) oA rs.length (cutFew ls) := hok.rows rd_sl rfl
      have HFIN := hide hfin
      have HLEN := Lib.hid hok.1
      have HS := hide hsr
      clear hcut hfin hsr
      by_cases hk1 : k < n
      all_goals
        go_wp2_with fail
        go_ret
        exact ⟨_, oA, oc, by rw [← HLEN.out]; rfl, unhide HS, by rw [← HLEN.out]; exact unhide HFIN⟩
end Go.Proofs.Ytpcoehbjbjfggaa
