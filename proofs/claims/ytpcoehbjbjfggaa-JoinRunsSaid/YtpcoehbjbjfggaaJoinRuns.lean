/- JoinRuns: what any calls make of a Join, and what each tells. -/
import Derived.Test.YtpcoehbjbjfggaaJoinSame
import Derived.Test.YtpcoehbjbjfggaaSlMore
import Derived.Test.YtpcoehbjbjfggaaJoinBack
namespace Go.Proofs.Ytpcoehbjbjfggaa
open Go.RowKit Asn

/-- A call, as its cells tell it. -/
def OpAt (W : World) (xs : List Value) (k : Nat) : Prop := ∃ (d : UInt8) (B : Option Addr) (bn bc : Nat) (l : List UInt8) (t : UInt8) (x : Bool),
  xs[k * 4]? = some (.int .u8 d.toNat) ∧ xs[k * 4 + 1]? = some (.slice B bn bc) ∧ xs[k * 4 + 2]? = some (.int .u8 t.toNat) ∧ xs[k * 4 + 3]? = some (.bool x) ∧ bn ≤ bc ∧ bn ≤ 9223372036854775807 ∧ RdW W B bn 1 (bytes l)
/-- What the law holds: the Join, the document's, what that one has open. -/
def Both (W : World) (rg g jc : Nat) (jA : Option Addr) (j : JoinM) (X : Asn) : Asn :=
  JoinAt g j * (Asn.blk rg 69 #[.slice jA j.open_ jc, .int .i64 j.parts.length, .int .i64 j.msgs, .int .i64 j.bytes] * (bsl jA j.open_ jc j.parts.flatten * (X * Asn.exact W)))

theorem both_below {W w : World} {rg g jc : Nat} {jA : Option Addr} {j : JoinM} {X : Asn} (h : Sat W w (Both W rg g jc jA j X)) : Below W.heap.size W w :=
  Sat.below (F := _) (Sat.perm (B := Asn.exact W * (JoinAt g j * (Asn.blk rg 69 #[.slice jA j.open_ jc, .int .i64 j.parts.length, .int .i64 j.msgs, .int .i64 j.bytes] * (bsl jA j.open_ jc j.parts.flatten * X)))) h (by unfold Both; ac_rfl))

theorem both_front {W : World} {rg g jc : Nat} {jA : Option Addr} {j : JoinM} {X : Asn} : Both W rg g jc jA j X =
    Asn.blk rg 69 #[.slice jA j.open_ jc, .int .i64 j.parts.length, .int .i64 j.msgs, .int .i64 j.bytes] * (JoinAt g j * (bsl jA j.open_ jc j.parts.flatten * (X * Asn.exact W))) := by unfold Both; ac_rfl

set_option maxHeartbeats 2000000 in
set_option maxRecDepth 100000 in
theorem joinRuns_walk (W : World) (A : Option Addr) (n c : Nat) (q : Int) (xs : List Value) (hx : RdW W A n 4 xs) (hop : ∀ k, k < n → OpAt W xs k) (hn : n ≤ 9223372036854775807) :
    Calls Try.prog 7 #[.slice A n c, .int .i64 q] W fun e w' => e = .returned (.bool true) ∧ Below W.heap.size W w' := by
  have hcv := fun (w : World) (C : Array Value) (n c : Nat) => Lib.run_convert_bytes_const (P := Try.prog) w 22 5 C n c Try.underlying22 Try.underlying5
  have HOP := Lib.hid hop
  clear hop
  go_enter Try.func7, Try.ntmps7
  go_wp2_with fail
  refine (new_join W W _ (Sat.start W)).mono ?_
  rintro e w1 ⟨g0, rfl, hs1⟩
  go_wp2_with fail
  refine (join12_awake W _ _ (hs1.alloc #[.slice none 0 0, .int .i64 0, .int .i64 0, .int .i64 0] 69)).mono ?_
  rintro e w2 ⟨rfl, hs2⟩
  generalize w1.heap.size = rg at *
  clear hs1
  go_wp2_with fail
  go_loopw [5, 7] (fun s5 s7 wr => ∃ (g jc k : Nat) (jA : Option Addr) (j : JoinM) (X : Asn), s5 = .pointer (some ⟨g, 0, none⟩) ∧ s7 = .int .i64 k ∧ k ≤ n ∧ Sat W wr (Both W rg g jc jA j X)) (fun _ i _ => n - (intOf i).toNat)
  case atStart =>
    refine ⟨g0, 0, 0, none, ⟨0, 0, []⟩, 1, rfl, rfl, Nat.zero_le _, ?_⟩
    unfold Both
    rw [one_sep]
    exact (hs2.f2.f2.slNil (e := 5) (z := 1)).perm (by show _ = JoinAt g0 _ * (Asn.blk rg _ _ * (sl _ _ none 0 0 [] * _)); ac_rfl)
  case round =>
    obtain ⟨g, jc, k, jA, j, X, rfl, rfl, hk, hsr⟩ := hrel
    clear hs2
    by_cases hlt : k < n ∧ k < 30
    · obtain ⟨h1, h2⟩ := hlt
      obtain ⟨d, B, bn, bc, l, t, x, o0, o1, o2, o3, hbc, hb63, hrd⟩ := HOP.out k h1
      have hbel : Below W.heap.size W wr := both_below hsr
      obtain ⟨ad, rfl, e0⟩ := (hx.below hbel).at_ o0
      have e1 := (hx.below hbel).2 (by omega)
      obtain ⟨ad', h, e1⟩ := e1
      obtain rfl : ad = ad' := by simpa using h
      have e3 := e1 _ _ o3
      have e2 := e1 _ _ o2
      have e1 := e1 _ _ o1
      rw [← add_fld] at e1 e2 e3
      clear o0 o1 o2 o3 h
      have hdl : (d.toNat : Int) < 256 := by have := d.toNat_lt; omega
      have hs3a := hsr.alloc #[.int .u8 d.toNat, .slice B bn bc, .int .u8 t.toNat, .bool x] 71
      obtain ⟨O, hO⟩ : ∃ O, O = Asn.blk wr.heap.size 71 #[.int .u8 d.toNat, .slice B bn bc, .int .u8 t.toNat, .bool x] := ⟨_, rfl⟩
      have hs3 : Sat W (wr.alloc (.cells #[.int .u8 d.toNat, .slice B bn bc, .int .u8 t.toNat, .bool x] 71)) (Both W rg g jc jA j (O * X)) := hs3a.perm (by rw [← hO]; unfold Both; ac_rfl)
      clear hs3a
      go_upto_block 2 with (fail)
      go_cut [5] (fun s5 wx => ∃ (g jc : Nat) (jA : Option Addr) (j : JoinM) (X : Asn), s5 = .pointer (some ⟨g, 0, none⟩) ∧ Sat W wx (Both W rg g jc jA j X))
      case first =>
        by_cases h5 : d.toNat % 7 = 5
        · have h5b : ((d.toNat : Int) % 7 == 5) = true := by simp; omega
          clear hO e0 e1 e2 e3
          go_wp2_with fail
          refine wp_region_sl (Q := _) (E := W) (fun w => w.cell? ⟨rg, 0, none⟩ = some (.slice jA j.open_ jc)) [1] [] [] (fun _ => (0, #[], fun _ => undef)) [0, 1, 2, 3, 4, 5] (by kernel_rfl) (by kernel_rfl) hs3 (fun w R h => (h.perm (by rw [both_front, sep_assoc])).cell 0) ?_
          refine wpS_f _ rfl rfl (v := ?_) ?_ ?_
          rotate_left
          · intro w hW
            go_simp
            rfl
          go_simp
          refine wpS_e _ rfl rfl (fun w R hW => ?_)
          have hW2 : Sat W w (JoinAt g j * (Asn.blk rg 69 #[.slice jA j.open_ jc, .int .i64 j.parts.length, .int .i64 j.msgs, .int .i64 j.bytes] * (bsl jA j.open_ jc j.parts.flatten * (((O * X) * Asn.exact W) * R)))) := hW.perm (by unfold Both; ac_rfl)
          refine stp_call rfl (by go_simp) ((reset_join W w _ g j hW2).mono ?_)
          rintro e w2 ⟨rfl, hs4⟩
          refine ⟨_, rfl, JoinAt g ⟨j.msgs, j.bytes, []⟩ * (Asn.blk rg 69 #[.slice jA j.open_ jc, .int .i64 j.parts.length, .int .i64 j.msgs, .int .i64 j.bytes] * (bsl jA j.open_ jc j.parts.flatten * ((O * X) * Asn.exact W))), fun w R h => (h.perm (by rw [sep_left_comm, sep_assoc])).cell 0, hs4.perm (by ac_rfl), ?_⟩
          clear hs4 hW hW2
          go_simp
          iterate 4
            refine wpS_f _ rfl rfl (v := ?_) ?_ ?_
            rotate_left
            · intro w hW
              have c0 : w.cell? ⟨rg, 0, none⟩ = some (.slice jA j.open_ jc) := hW
              go_simp
              rfl
            go_simp
          refine wpS_n (fun w3 hs4 => ?_)
          have c2 : w3.cell? ⟨rg, 2, none⟩ = some (.int .i64 j.msgs) := hs4.f2.cell 2
          have c3 : w3.cell? ⟨rg, 3, none⟩ = some (.int .i64 j.bytes) := hs4.f2.cell 3
          have c0 : w3.cell? ⟨rg, 0, none⟩ = some (.slice jA j.open_ jc) := hs4.f2.cell 0
          have c1 : w3.cell? ⟨rg, 1, none⟩ = some (.int .i64 j.parts.length) := hs4.f2.cell 1
          have c4 : ∀ i, w3.frozen? ⟨rg, i, none⟩ = false := fun i => hs4.f2.frozen i
          have hs5 := hide ((((hs4.f2.set 0 (.slice none 0 0)).set 1 (.int .i64 0)).set 2 (.int .i64 j.msgs)).set 3 (.int .i64 j.bytes))
          clear hs4 hs3
          go_wp2_with fail
          go_meet
          refine ⟨g, 0, none, ⟨j.msgs, j.bytes, []⟩, bsl jA j.open_ jc j.parts.flatten * (O * X), rfl, ?_⟩
          have hs6 := Sat.slNil (e := 5) (z := 1) (unhide hs5)
          unfold Both
          exact hs6.perm (by show sl _ _ none 0 0 [] * (Asn.blk rg _ _ * _) = JoinAt g _ * (Asn.blk rg _ _ * (sl _ _ none 0 0 [] * _)); ac_rfl)
        · by_cases h6 : d.toNat % 7 = 6
          · have h5b : ((d.toNat : Int) % 7 == 5) = false := by simp; omega
            have h6b : ((d.toNat : Int) % 7 == 6) = true := by simp; omega
            clear hO e0 e1 e2 e3
            go_wp2_with fail
            refine (fork_join W _ _ g j hs3).mono ?_
            rintro e w2 ⟨g2, A1, A2, n1, c1, c2, rs, rfl, hrs, hrn, hj6, hne, hs4⟩
            have HRS := Lib.hid hrs
            have HRN := Lib.hid hrn
            have HNE := Lib.hid hne
            clear hs3 hrs hrn hne
            go_wp2_with fail
            have hz : RdW (w2.alloc (.cells #[.int .u8 122, .int .u8 122] 5 (2, 3))) (some ⟨w2.heap.size, 0, none⟩) 2 1 (bytes [122, 122]) := RdW.new _ _ _ 2 1 rfl _
            refine (add_shared W _ _ g 2 2 n1 c1 j.open_ j.msgs j.bytes A1 _ rs [122, 122] hz (by omega) (by rw [HRS.out]; rfl) HRN.out hj6 (by decide) HNE.out (hs4.allocKeep _) (fun r hr => (rd_tails hr).right.right)).mono ?_
            rintro e w3 ⟨a1, a2, a3, Y, rfl, hs5⟩
            have hs6 := joinMk' (F := Y * (Asn.blk rg 69 #[.slice jA j.open_ jc, .int .i64 j.parts.length, .int .i64 j.msgs, .int .i64 j.bytes] * (bsl jA j.open_ jc j.parts.flatten * ((O * X) * Asn.exact W)))) (g := g2) (A := A2) (c := c2) HRS.out hj6 HNE.out (hs5.perm (by ac_rfl))
            have hs7 := hide hs6
            clear hs4 hs5 hs6
            go_wp2_with fail
            go_meet
            refine ⟨g2, jc, jA, j, Y * (O * X), rfl, (unhide hs7).perm ?_⟩
            unfold Both
            ac_rfl
          · have h5b : ((d.toNat : Int) % 7 == 5) = false := by simp; omega
            have h6b : ((d.toNat : Int) % 7 == 6) = false := by simp; omega
            have hO3 : (wr.alloc (.cells #[.int .u8 d.toNat, .slice B bn bc, .int .u8 t.toNat, .bool x] 71)).cell? ⟨wr.heap.size, 3, none⟩ = some (.bool x) := by
              have : Sat W (wr.alloc (.cells #[.int .u8 d.toNat, .slice B bn bc, .int .u8 t.toNat, .bool x] 71)) (O * (JoinAt g j * (Asn.blk rg 69 #[.slice jA j.open_ jc, .int .i64 j.parts.length, .int .i64 j.msgs, .int .i64 j.bytes] * (bsl jA j.open_ jc j.parts.flatten * (X * Asn.exact W))))) := hs3.perm (by unfold Both; ac_rfl)
              rw [hO] at this
              exact this.cell 3
            obtain ⟨jo, hjo⟩ : ∃ jo, jo = j.open_ := ⟨_, rfl⟩
            have hj6 : jo ≤ 65536 := by
              obtain ⟨_, _, _, _, _, h, _⟩ := hs3.joinOpen
              rw [hjo]; exact h
            have hs4 : Sat W (wr.alloc (.cells #[.int .u8 d.toNat, .slice B bn bc, .int .u8 t.toNat, .bool x] 71)) (O * (JoinAt g j * (Asn.blk rg 69 #[.slice jA jo jc, .int .i64 j.parts.length, .int .i64 j.msgs, .int .i64 j.bytes] * (bsl jA jo jc j.parts.flatten * (X * Asn.exact W))))) := hs3.perm (by unfold Both; rw [hjo]; ac_rfl)
            have HJO := Lib.hid hjo
            clear e0 e1 e2 e3 hs3 hsr hjo hbel
            go_wp2_with fail
            refine (many12 W _ _ B bn bc l t hs4 (RdW.exact hrd).right.right.right.right.right hbc hb63).mono ?_
            rintro e w3 ⟨bA, n2, c2, l2, rfl, hn2, hs5⟩
            have hO4 : w3.cell? ⟨wr.heap.size, 3, none⟩ = some (.bool x) := by
              have := hs5.f2
              rw [hO] at this
              exact this.cell 3
            clear hs4 hO3
            have hl2 : l2.length = n2 := by have := hs5.slLen.1; rw [length_bytes] at this; omega
            have hb := Sat.slRd (e := 5) (c := c2) hs5
            go_wp2_with fail
            refine (add_any W w3 _ g n2 c2 j bA l2 x hs5.f3 hb (by omega)).mono ?_
            rintro e w4 ⟨j', X2, A3, n3, c3, rfl, hs6, hrj, hX2, hn3⟩
            clear hs5 hb hO4
            have hO4 : w4.cell? ⟨wr.heap.size, 3, none⟩ = some (.bool x) := by
              have := hs6.f4
              rw [hO] at this
              exact this.cell 3
            have hs7 : Sat W w4 (Asn.blk rg 69 #[.slice jA jo jc, .int .i64 j.parts.length, .int .i64 j.msgs, .int .i64 j.bytes] * (bsl jA jo jc j.parts.flatten * (bsl bA n2 c2 l2 * (X2 * (JoinAt g j' * (O * (X * Asn.exact W))))))) := hs6.perm (by ac_rfl)
            have c0 : w4.cell? ⟨rg, 0, none⟩ = some (.slice jA jo jc) := hs7.cell 0
            have c1 : w4.cell? ⟨rg, 1, none⟩ = some (.int .i64 j.parts.length) := hs7.cell 1
            have c2' : w4.cell? ⟨rg, 2, none⟩ = some (.int .i64 j.msgs) := hs7.cell 2
            have c3' : w4.cell? ⟨rg, 3, none⟩ = some (.int .i64 j.bytes) := hs7.cell 3
            clear hs6
            go_wp2_with fail
            refine (refAdd_own W w4 _ jA bA jo jc n2 c2 j.parts.length j.msgs j.bytes j.parts.flatten l2 x hs7.f2 rd_bsl.right hj6 (by omega)).mono ?_
            rintro e w5 ⟨Y, A', n', c', A4, n4, c4, rfl, hs8⟩
            clear hs7 c0 c1 c2' c3' hO4
            have e : (⟨j.parts.flatten, j.parts.length, j.msgs, j.bytes⟩ : RJ) = j.rj := rfl
            rw [e] at hs8 ⊢
            obtain ⟨v, hv⟩ : ∃ v, v = RJ.add j.rj l2 x := ⟨_, rfl⟩
            rw [← hv] at hs8 hrj hX2 ⊢
            clear hv e
            obtain ⟨v1, q5, q6, q7⟩ := v
            dsimp only at hrj hX2 hs8 ⊢
            subst hrj
            have hn' : n' = j'.open_ := by
              have := hs8.slLen.1
              rw [length_bytes] at this
              have h2 : j'.parts.flatten.length = n' * 1 := this
              show n' = j'.parts.flatten.length
              omega
            subst hn'
            have hm : ∀ w R, Sat W w (X2 * R) → RdW w A3 n3 1 (bytes q5) := by
              intro w R h
              rcases hX2 with rfl | ⟨rfl, rfl, rfl, rfl, rfl⟩
              · exact Sat.slRd (e := 5) (c := c3) h
              · exact RdW.nil _ _ _
            clear hX2
            have hs8r : Sat W w5 (Asn.blk rg 69 #[.slice jA jo jc, .int .i64 j.parts.length, .int .i64 j.msgs, .int .i64 j.bytes] * (bsl A' j'.open_ c' j'.parts.flatten * (bsl A4 n4 c4 q5 * (Y * (bsl bA n2 c2 l2 * (X2 * (JoinAt g j' * (O * (X * Asn.exact W))))))))) := hs8.perm (by show bsl A' j'.open_ c' j'.parts.flatten * _ = _; ac_rfl)
            have hs9 := ((((hs8r.set 0 (.slice A' j'.open_ c')).set 1 (.int .i64 j'.rj.parts)).set 2 (.int .i64 j'.rj.n)).set 3 (.int .i64 j'.rj.bytes)).alloc #[.slice A' j'.open_ c', .int .i64 j'.rj.parts, .int .i64 j'.rj.n, .int .i64 j'.rj.bytes] 69
            have hstr1 := (hm _ _ hs9.right.f6).str (P := Try.prog) Try.underlying22 Try.underlying5 Try.underlying9 c3
            have hstr2 := (Sat.slRd (e := 5) (c := c4) hs9.right.f3).str (P := Try.prog) Try.underlying22 Try.underlying5 Try.underlying9 c4
            have d0 : w5.cell? ⟨rg, 0, none⟩ = some (.slice jA jo jc) := hs8r.cell 0
            have d1 : w5.cell? ⟨rg, 1, none⟩ = some (.int .i64 j.parts.length) := hs8r.cell 1
            have d2 : w5.cell? ⟨rg, 2, none⟩ = some (.int .i64 j.msgs) := hs8r.cell 2
            have d3 : w5.cell? ⟨rg, 3, none⟩ = some (.int .i64 j.bytes) := hs8r.cell 3
            have d4 : ∀ i, w5.frozen? ⟨rg, i, none⟩ = false := fun i => hs8r.frozen i
            have d5 : rg < w5.heap.size := hs8r.lt
            simp only [World.size_setCell] at hs9
            have HS9 := hide hs9
            clear hs9 hs8r hs8 hm
            go_wp2_with fail
            go_loopw [18] (fun s18 wx => ∃ (i : Nat) (zs : List Value) (R : Asn), s18 = .int .i64 i ∧ i ≤ n2 ∧ Sat W wx (sl 5 1 bA n2 c2 zs * (Both W rg g c' A' j' R))) (fun i _ => n2 - (intOf i).toNat)
            case atStart =>
              refine ⟨0, bytes l2, Asn.blk w5.heap.size 69 #[.slice A' j'.open_ c', .int .i64 j'.rj.parts, .int .i64 j'.rj.n, .int .i64 j'.rj.bytes] * (bsl A4 n4 c4 q5 * (Y * (X2 * (O * X)))), rfl, Nat.zero_le _, ?_⟩
              refine (show Sat W _ (Asn.blk w5.heap.size 69 #[.slice A' j'.open_ c', .int .i64 j'.rj.parts, .int .i64 j'.rj.n, .int .i64 j'.rj.bytes] * (Asn.blk rg 69 #[.slice A' j'.open_ c', .int .i64 j'.parts.length, .int .i64 j'.msgs, .int .i64 j'.bytes] * (bsl A' j'.open_ c' j'.parts.flatten * (bsl A4 n4 c4 q5 * (Y * (bsl bA n2 c2 l2 * (X2 * (JoinAt g j' * (O * (X * Asn.exact W))))))))))from unhide HS9).perm ?_
              unfold Both bsl
              ac_rfl
            case round =>
              obtain ⟨i, zs, R, rfl, hi, hsz⟩ := hrel
              by_cases hin : i < n2
              · obtain ⟨b, off, rfl, hb, hc, hf⟩ := hsz.slAt (by omega)
                have hzl : zs.length = n2 := by have := hsz.slLen.1; omega
                have hcz : wr.cell? ⟨b, off + i, none⟩ = some (zs[i]'(by omega)) := hc i _ (List.getElem?_eq_getElem (by omega))
                have hfz := hf (off + i)
                have hst := hide (hsz.slSet (i := i) (v := .int .u8 0) (by omega))
                clear hc hf
                go_wp2_with fail
                go_roundw
                case rel => exact ⟨i + 1, zs.set i (.int .u8 0), R, by go_num, by omega, unhide hst⟩
                case measure => simp [intOf]; omega
              · have hend := hide hsz.right
                clear hsz
                go_wp2_with fail
                go_meet
                exact ⟨g, c', A', j', R, rfl, unhide hend⟩
      case rest =>
        obtain ⟨g', jc', jA', j', X', rfl, hs9⟩ := hcut
        have hs10 := hs9.perm both_front
        have c0 : wc.cell? ⟨rg, 0, none⟩ = some (.slice jA' j'.open_ jc') := hs10.cell 0
        have c1 : wc.cell? ⟨rg, 1, none⟩ = some (.int .i64 j'.parts.length) := hs10.cell 1
        have c2 : wc.cell? ⟨rg, 2, none⟩ = some (.int .i64 j'.msgs) := hs10.cell 2
        have c3 : wc.cell? ⟨rg, 3, none⟩ = some (.int .i64 j'.bytes) := hs10.cell 3
        clear hs10 hsr e0 e1 e2 e3 hs3 hO
        go_wp2_with fail
        refine (same12 W wc _ g' jc' jA' j' q hs9).mono ?_
        rintro e w3 ⟨Y, rfl, hs4⟩
        have hs5 := hide hs4
        clear hs4 hs9
        go_wp2_with fail
        go_roundw
        case rel =>
          refine ⟨g', jc', k + 1, jA', j', Y * X', rfl, by go_num, by omega, (unhide hs5).perm ?_⟩
          unfold Both
          ac_rfl
        case measure => simp [intOf]; omega
    · have hfin := hide (both_below hsr)
      clear hsr
      by_cases hk1 : k < n
      · have hk2 : ¬ k < 30 := fun h => hlt ⟨hk1, h⟩
        go_wp2_with fail
        go_ret
        exact ⟨rfl, unhide hfin⟩
      · go_wp2_with fail
        go_ret
        exact ⟨rfl, unhide hfin⟩
end Go.Proofs.Ytpcoehbjbjfggaa
