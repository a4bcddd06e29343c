/- JoinBack: a message, cut into parts anywhere, the last one marked, is told as it was. The walk of the law over the program's join. -/
import Derived.Test.YtpcoehbjbjfggaaJoin
import Derived.Deep.DeepCutAuto
import Derived.Deep.CutBlock
namespace Go.Proofs.Ytpcoehbjbjfggaa
open Go.RowKit Asn

set_option maxRecDepth 100000 in
theorem join12_awake (E w : World) (F : Asn) (hs : Sat E w F) : Calls Try.prog 15 #[] w fun e w' => e = .returned (.bool true) ∧ Sat E w' F := by
  have hcv := fun (w : World) (C : Array Value) (n c : Nat) => Lib.run_convert_bytes_const (P := Try.prog) w 22 5 C n c Try.underlying22 Try.underlying5
  go_enter Try.func15, Try.ntmps15
  go_wp2_with fail
  refine (new_join E w F hs).mono ?_
  rintro e w1 ⟨g, rfl, hs1⟩
  clear hs
  go_wp2_with fail
  refine (add_part E _ F g 2 2 ⟨0, 0, []⟩ _ [97, 98] (hs1.allocKeep _) (RdW.new _ _ _ 2 1 rfl _) (by omega) (by decide)).mono ?_
  rintro e w2 ⟨rfl, hs2⟩
  clear hs1
  go_wp2_with fail
  refine (add_end E _ F g 1 1 ⟨0, 0, [[97, 98]]⟩ _ [99] (hs2.allocKeep _) (RdW.new _ _ _ 1 1 rfl _) (by omega) (by decide)).mono ?_
  rintro e w3 ⟨A', c', rfl, hs3⟩
  clear hs2
  have hstr := (Sat.slRd (e := 5) (c := c') hs3).str (P := Try.prog) (l := [97, 98, 99]) Try.underlying22 Try.underlying5 Try.underlying9 c'
  obtain ⟨A2, n2, c2, rs2, _, _, _, _, hj⟩ := hs3.f2.joinOpen
  have HB : Hid (w3.heap[g]? = some (.cells #[.int .i64 0, .int .i64 1, .int .i64 3, .slice A2 n2 c2, .bool true] 80 (0, 0))) := hide (by simpa [JoinM.open_, wrap64] using hj.blk)
  clear hj
  have hfin := hide hs3.right.right
  clear hs3
  go_wp2_with (first
    | (go_at_call 44; refine (msgs_blk _ _ _ _ _ _ true HB.out).mono ?_; rintro e w' ⟨rfl, rfl⟩)
    | (go_at_call 45; refine (bytes_blk _ _ _ _ _ _ true HB.out).mono ?_; rintro e w' ⟨rfl, rfl⟩))
  go_ret
  exact ⟨rfl, unhide hfin⟩

set_option maxRecDepth 100000 in
theorem joinBack_walk (W : World) (A B : Option Addr) (len cap len2 cap2 : Nat) (l cs : List UInt8) (hr : RdW W A len 1 (bytes l)) (hr2 : RdW W B len2 1 (bytes cs)) (hc : len ≤ cap) (hl : len ≤ 9223372036854775807) (hl2 : len2 ≤ 9223372036854775807) :
    Calls Try.prog 3 #[.slice A len cap, .slice B len2 cap2] W fun e w' => e = .returned (.bool true) ∧ Below W.heap.size W w' := by
  go_enter Try.func3, Try.ntmps3
  go_upto_if 17 with (fail)
  go_cut [0] (fun s0 wx => ∃ (n c : Nat) (m : List UInt8), s0 = .slice A n c ∧ n ≤ 600 ∧ n ≤ c ∧ RdW W A n 1 (bytes m) ∧ W = wx)
  case first =>
    by_cases h6 : 600 < len
    · go_wp2_with fail
      go_meet
      refine ⟨600, cap, l.take 600, rfl, Nat.le_refl _, by omega, ?_, rfl⟩
      have := hr.take (k := 600) (by omega)
      simpa [bytes, List.map_take] using this
    · go_wp2_with fail
      go_meet
      exact ⟨len, cap, l, rfl, by omega, hc, hr, rfl⟩
  case rest =>
    obtain ⟨n, c, m, rfl, hn, hnc, hrm, rfl⟩ := hcut
    have hs0 := Sat.start W
    by_cases h0 : n = 0
    · subst h0
      go_wp2_with fail
      refine (join12_awake W W (Asn.exact W) hs0).mono ?_
      rintro e w1 ⟨rfl, hs1⟩
      have hbel := hide (Sat.below (F := 1) (hs1.perm (sep_one _).symm))
      clear hs0 hs1
      go_wp2_with fail
      go_ret
      exact ⟨rfl, unhide hbel⟩
    · have hnz : ((n : Int) == 0) = false := by simpa using h0
      have hpos : 0 < n := by omega
      clear h0
      go_wp2_with fail
      refine (new_join W W (Asn.exact W) hs0).mono ?_
      rintro e w1 ⟨g, rfl, hs1⟩
      clear hs0
      go_upto_block 0 with (fail)
      go_cut [6] (fun s6 wx => ∃ (a : Nat) (j : JoinM), s6 = .int .i64 a ∧ a < n ∧ Hid (j.open_ = a) ∧ Hid (j.parts.flatten = m.take a) ∧ Sat W wx (JoinAt g j * Asn.exact W))
      case first =>
        go_wp2_with fail
        go_loopw [6, 7] (fun s6 i wr => ∃ (a k : Nat) (j : JoinM), s6 = .int .i64 a ∧ i = .int .i64 k ∧ a < n ∧ k ≤ len2 ∧ Hid (j.open_ = a) ∧ Hid (j.parts.flatten = m.take a) ∧ Sat W wr (JoinAt g j * Asn.exact W))
          (fun _ i _ => len2 - (intOf i).toNat)
        case atStart => exact ⟨0, 0, ⟨0, 0, []⟩, rfl, rfl, hpos, Nat.zero_le _, rfl, rfl, hs1⟩
        case round =>
          obtain ⟨a, k, j, rfl, rfl, ha, hk, HJ, HM, hsr⟩ := hrel
          by_cases hlt : k < len2 ∧ k < 100
          · obtain ⟨hk2, hk1⟩ := hlt
            have hcl : cs.length = len2 := by have := hr2.1; rw [length_bytes] at this; omega
            have hck : cs[k]? = some cs[k] := List.getElem?_eq_getElem (by omega)
            generalize cs[k] = x at hck
            have hxl : (x.toNat : Int) < 256 := by have := x.toNat_lt; omega
            obtain ⟨ad, rfl, hcell⟩ := ((hr2.below hsr.comm.below).at_ (j := k) (u := .int .u8 x.toNat) (by rw [bytes, List.getElem?_map, hck]; rfl))
            clear hck hcl
            have hml : m.length = n := by have := hrm.1; rw [length_bytes] at this; omega
            go_wp2_with fail
            · go_meet
              exact ⟨a, j, rfl, ha, HJ, HM, hsr⟩
            · have hlt : a + (1 + x.toNat % 20) < n := by omega
              have hqi : (1 + (x.toNat : Int) % 20) = ((1 + x.toNat % 20 : Nat) : Int) := by omega
              generalize 1 + x.toNat % 20 = q at *
              refine (add_part W wr (Asn.exact W) g q _ j _ ((m.drop a).take q) hsr ((hrm.below hsr.comm.below).sub (by omega)) (by omega) (by rw [HJ.out]; omega)).mono ?_
              rintro e w2 ⟨rfl, hs2⟩
              go_wp2_with fail
              go_roundw
              case rel =>
                refine ⟨a + q, k + 1, _, by go_num, by go_num, by omega, by omega, ?_, ?_, hs2⟩
                · show (j.parts ++ [_]).flatten.length = _
                  have e1 : j.parts.flatten.length = a := HJ.out
                  rw [List.flatten_append, List.length_append, e1]
                  simp only [List.flatten_cons, List.flatten_nil, List.append_nil, List.length_take, List.length_drop, hml]
                  omega
                · show (j.parts ++ [_]).flatten = _
                  rw [List.flatten_append, HM.out]
                  simp only [List.flatten_cons, List.flatten_nil, List.append_nil]
                  rw [← List.take_add]
              case measure => simp [intOf]; omega
          · by_cases hk2 : k < len2
            · have hk1 : ¬ k < 100 := fun h => hlt ⟨hk2, h⟩
              clear hlt
              go_wp2_with fail
              go_meet
              exact ⟨a, j, rfl, ha, HJ, HM, hsr⟩
            · clear hlt
              go_wp2_with fail
              go_meet
              exact ⟨a, j, rfl, ha, HJ, HM, hsr⟩
      case rest =>
        obtain ⟨a, j, rfl, ha, HJ, HM, hsr⟩ := hcut
        go_wp2_with fail
        have hml : m.length = n := by have := hrm.1; rw [length_bytes] at this; omega
        have hsub := (hrm.below hsr.comm.below).sub (a := a) (q := n - a) (by omega)
        rw [List.take_of_length_le (by rw [List.length_drop]; omega)] at hsub
        refine (add_end W wc (Asn.exact W) g (n - a) _ j _ (m.drop a) hsr hsub (by omega) (by rw [HJ.out]; omega)).mono ?_
        rintro e w3 ⟨A', c', rfl, hs3⟩
        rw [HM.out, List.take_append_drop, HJ.out, show a + (n - a) = n from by omega] at hs3
        rw [HJ.out, show a + (n - a) = n from by omega]
        have hstr := (Sat.slRd (e := 5) (c := c') hs3).str (P := Try.prog) (l := m) Try.underlying22 Try.underlying5 Try.underlying9 c'
        have hstr2 := (hrm.below hs3.l3.below).str (P := Try.prog) (l := m) Try.underlying22 Try.underlying5 Try.underlying9 c
        obtain ⟨A2, n2, c2, rs2, _, _, _, _, hj⟩ := hs3.f2.joinOpen
        have HB : Hid (w3.heap[g]? = some (.cells #[.int .i64 0, .int .i64 (wrap64 (j.msgs + 1)), .int .i64 (wrap64 (j.bytes + n)), .slice A2 n2 c2, .bool true] 80 (0, 0))) := hide hj.blk
        clear hj
        have hfin := hide hs3.right.right
        clear hs3 hsub hsr hml
        go_wp2_with (first
          | (go_at_call 18; refine (open_blk _ _ _ _ _ _ true HB.out).mono ?_; rintro e w' ⟨rfl, rfl⟩)
          | (go_at_call 15; refine (join12_awake W _ _ (unhide hfin)).mono ?_; rintro e w4 ⟨rfl, hs4⟩))
        go_ret
        exact ⟨rfl, Sat.below (F := 1) (hs4.perm (sep_one _).symm)⟩
end Go.Proofs.Ytpcoehbjbjfggaa
