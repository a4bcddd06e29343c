/- TombAll: the tombs of all hosts: each goes its own way. -/
import Derived.Test.YtcagfcflffhadaaTombK
import Derived.Test.YtcagfcflffhadaaTombEver
import Derived.Test.YtcagfcflffhadaaSlFro
namespace Go.Proofs.Ytcagfcflffhadaa
open Go.RowKit Asn
/-- A host's row of the document's. -/
def rowOf (sz : Nat) (f : Nat → Option TSt) (ra : Nat → Option Addr × Nat × Nat) (k : Nat) : Value × Value × Value := (.int .i64 sz, .int .i64 (match f k with | none => (0 : Nat) | some s => s.ba), .slice (ra k).1 (ra k).2.1 (ra k).2.2)
/-- What is so of all hosts. -/
structure AllInv (sz h : Nat) (f : Nat → Option TSt) (ra : Nat → Option Addr × Nat × Nat) (X : Asn) : Prop where
  is : ∀ k, k < h → ∃ s, f k = some s ∧ TInv sz s.ba s.V s.L ∧ RS X (ra k).1 (ra k).2.1 (ra k).2.2 s.L
  no : ∀ k, h ≤ k → f k = none
def AllAt (W0 : World) (sz h q : Nat) (f : Nat → Option TSt) (ra : Nat → Option Addr × Nat × Nat) (X : Asn) (A : Option Addr) (c : Nat) : Asn :=
  Asn.blk q 93 (tombsC f h) * (upto sz f 8 * (sl 45 3 A h c (rows3 (rowOf sz f ra) h) * (X * Asn.exact W0)))
set_option maxHeartbeats 4000000 in
set_option maxRecDepth 100000 in
theorem tombAll_walk (W0 : World) (A0 : Option Addr) (N C : Nat) (hosts span : Int) (l : List Int) (hx : RdW W0 A0 N 1 (l.map (Value.int .u16))) (hl : ∀ x ∈ l, 0 ≤ x ∧ x ≤ 65535) (hn : N ≤ 9223372036854775807) :
    Calls Try.prog 9 #[.int .i64 hosts, .int .i64 span, .slice A0 N C] W0 fun e w' => e = .returned (.bool true) ∧ Below W0.heap.size W0 w' := by
  have hlN : l.length = N := by have := hx.1; rw [List.length_map] at this; omega
  have HLN := hide hlN
  have HL := hide hl
  clear hlN hl
  by_cases hok : 1 ≤ hosts ∧ hosts ≤ 8 ∧ 1 ≤ span ∧ span ≤ 64
  · obtain ⟨k1, k2, k3, k4⟩ := hok
    obtain ⟨h, rfl⟩ := Int.eq_ofNat_of_zero_le (show 0 ≤ hosts by omega)
    obtain ⟨sz, rfl⟩ := Int.eq_ofNat_of_zero_le (show 0 ≤ span by omega)
    have hnew := hide (newAll_call W0 W0 _ h sz (Sat.start W0) (by omega) (by omega) (by omega) (by omega))
    go_enter Try.func9, Try.ntmps9
    go_wp2_with fail
    refine (unhide hnew).mono ?_
    rintro e w1 ⟨q, f0, rfl, hf1, hf2, hs1⟩
    clear hnew
    have hof1 := hide (tombs_of_no W0 w1 _ f0 q h h hs1 (by omega))
    have hof2 := hide (tombs_of_no W0 w1 _ f0 q h (-1) hs1 (by omega))
    have haw := hide (awake20 W0 w1 _ hs1)
    have HF1 := hide hf1
    have HF2 := hide hf2
    clear hs1 hf1 hf2
    go_wp2_with fail
    refine (unhide hof1).mono ?_
    rintro e w' ⟨rfl, rfl⟩
    go_wp2_with fail
    refine (unhide hof2).mono ?_
    rintro e w' ⟨rfl, rfl⟩
    go_wp2_with fail
    refine (unhide haw).mono ?_
    rintro e w2 ⟨rfl, hs2⟩
    have HS2 := hide (hs2.slNil (e := 45) (z := 3))
    clear haw hs2 hof1 hof2
    go_wp2_with fail
    have hbl : Hid (∀ k, k < h → rowOf sz f0 (fun _ => (none, 0, 0)) k = (.int .i64 sz, .int .i64 1, .slice none 0 0)) := fun k hk => by
      obtain ⟨t, g, e⟩ := unhide HF1 k hk
      unfold rowOf; rw [e]; rfl
    go_loopw [9, 10, 11, 12] (fun s9 s10 _ _ wr => ∃ (k c : Nat) (A : Option Addr), s9 = .slice A k c ∧ s10 = .int .i64 k ∧ k ≤ h ∧ Sat W0 wr (sl 45 3 A k c (rows3 (rowOf sz f0 (fun _ => (none, 0, 0))) k) * (Asn.blk q 93 (tombsC f0 h) * (upto sz f0 8 * Asn.exact W0)))) (fun _ s10 _ _ _ => h - (intOf s10).toNat)
    case atStart => exact ⟨0, 0, none, rfl, rfl, Nat.zero_le _, unhide HS2⟩
    case round =>
      obtain ⟨k, c, A, rfl, rfl, hk, hsr⟩ := hrel
      clear HS2
      by_cases hlt : k < h
      · have hnr := hide (new20 wr sz ⟨by omega, by omega⟩)
        go_wp2_with fail
        refine (unhide hnr).mono ?_
        rintro e w3 ⟨rfl, hb⟩
        have hs3 := (hsr.under hb).alloc #[.int .i64 sz, .int .i64 1, .slice none 0 0] 45
        have hs4 := (hs3.alloc #[.int .i64 sz, .int .i64 1, .slice none 0 0] 45).right.right
        obtain ⟨A4, c4, w6, run4, hs7⟩ := Sat.append (P := Try.prog) (t := 99) (ty := 99) (d := 1) elt_tombs hs4 (RdW.new _ #[.int .i64 sz, .int .i64 1, .slice none 0 0] 45 1 3 rfl) (by intro u hu; simp at hu; rcases hu with rfl | rfl | rfl <;> rfl) (by unfold maxLen; omega) (by omega)
        have e4 : rows3 (rowOf sz f0 (fun _ => (none, 0, 0))) k ++ [Value.int .i64 sz, .int .i64 1, .slice none 0 0] = rows3 (rowOf sz f0 (fun _ => (none, 0, 0))) (k + 1) := by
          conv => rhs; unfold rows3
          rw [unhide hbl k hlt]
        rw [World.size_alloc] at run4
        have R4 := Lib.hid run4
        have HS7 := hide (hs7.perm (show _ = sl 45 3 A4 (k + 1) c4 (rows3 (rowOf sz f0 (fun _ => (none, 0, 0))) (k + 1)) * (Asn.blk q 93 (tombsC f0 h) * (upto sz f0 8 * Asn.exact W0)) by rw [← e4]))
        clear hsr hnr hb hs3 hs4 run4 hs7 e4
        go_wp2_with (at_builtin; refine wpList_appendR rfl (.tmp 84) (.tmp 86) rfl rfl rfl R4.out ?_)
        go_roundw
        case rel => exact ⟨k + 1, c4, A4, rfl, by go_num, by omega, unhide HS7⟩
        case measure => simp [intOf]; omega
      · obtain rfl : k = h := by omega
        have hai : Hid (AllInv sz k f0 (fun _ => (none, 0, 0)) 1) := ⟨fun j hj => by
          obtain ⟨t, g, e⟩ := unhide HF1 j hj
          exact ⟨_, e, TInv.start sz (by omega) (by omega), RS.none_ _⟩, unhide HF2⟩
        have HS3 : Hid (Sat W0 wr (AllAt W0 sz k q f0 (fun _ => (none, 0, 0)) 1 A c)) := hsr.perm (by unfold AllAt; rw [one_sep]; ac_rfl)
        have hk0 : ¬ (k : Int) < k := by omega
        clear hsr hlt HF1 HF2 hbl
        go_wp2_with fail
        go_loopw [13, 14, 15, 16, 17, 18, 19, 20, 21] (fun s13 _ _ _ _ _ _ _ _ wr => ∃ (i : Nat) (f : Nat → Option TSt) (ra : Nat → Option Addr × Nat × Nat) (X : Asn), s13 = .int .i64 i ∧ i ≤ N ∧ Hid (AllInv sz k f ra X) ∧ Sat W0 wr (AllAt W0 sz k q f ra X A c)) (fun s13 _ _ _ _ _ _ _ _ _ => N - (intOf s13).toNat)
        case atStart => exact ⟨0, f0, _, 1, rfl, Nat.zero_le _, hai, unhide HS3⟩
        case round =>
          obtain ⟨i, f, ra, X, rfl, hi, HA, hsr⟩ := hrel
          clear HS3 hai
          by_cases hlt : i < N ∧ i < 60
          · obtain ⟨h1, h2⟩ := hlt
            have hil : i < l.length := by have := unhide HLN; omega
            have hbelow : Hid (∀ W R, Sat W0 W (AllAt W0 sz k q f ra X A c * R) → Below W0.heap.size W0 W) := fun W R hW => (hW.perm (show _ = Asn.exact W0 * (Asn.blk q 93 (tombsC f k) * (upto sz f 8 * (sl 45 3 A k c (rows3 (rowOf sz f ra) k) * X)) * R) by unfold AllAt; ac_rfl)).below
            have hat : (l.map (Value.int .u16))[i]? = some (.int .u16 l[i]) := by rw [List.getElem?_map, List.getElem?_eq_getElem hil]; rfl
            obtain ⟨ad, rfl, -⟩ := (hx.below (unhide hbelow wr 1 (hsr.perm (sep_one _).symm))).at_ hat
            have hx01 := unhide HL l[i] (List.getElem_mem _)
            have hcell0 := fun W (h : Below W0.heap.size W0 W) => (hx.below h).some_at hat
            obtain ⟨x, hxx⟩ : ∃ x, x = l[i] := ⟨_, rfl⟩
            rw [← hxx] at hx01 hcell0
            have hcell := hide hcell0
            obtain ⟨x, rfl⟩ := Int.eq_ofNat_of_zero_le hx01.1
            have HS := hide (hsr.perm (sep_one _).symm)
            obtain ⟨r, hr⟩ : ∃ r, r = x % k := ⟨_, rfl⟩
            have hrk : r < k := by rw [hr]; exact Nat.mod_lt _ (by omega)
            have hwx : IntKind.i64.wrap (x : Int) = x := by rw [IntKind.wrap_i64]; omega
            have hrv : Hid ((x : Int).tmod (k : Int) = (r : Int)) := by
              show _ = _
              rw [Int.tmod_eq_emod_of_nonneg (by omega), hr]; rfl
            have hk1 : ¬ k = 0 := by omega
            have HWX := hide hwx
            clear hsr hat hcell0 hxx hr hwx
            go_wp2_with fail
            refine wp_region_slr (Q := _) (E := W0) (fun W => ∃ R, Sat W0 W ((AllAt W0 sz k q f ra X A c) * R)) [] [] [] [] (fun _ => (0, #[], fun _ => undef)) [0, 1, 2, 3, 4, 5, 6, 7, 8, 9, 10, 11, 12, 13, 14, 15, 16] (by kernel_rfl) (by kernel_rfl) (unhide HS) (fun W R h => ⟨_, h.asc⟩) ?_
            iterate 17
              refine wpS_f _ rfl rfl (v := ?_) ?_ ?_
              rotate_left
              · rintro W ⟨R, hW⟩
                have e0 : W.cell? (ad.add i) = some (.int .u16 x) := unhide hcell W (unhide hbelow W R hW)
                have e1 : (x : Int).tmod (k : Int) = (r : Int) := hrv.out
                have e2 : IntKind.i64.wrap (x : Int) = x := HWX.out
                go_simp
                first | rfl | (rw [IntKind.wrap_i64]; omega)
              go_simp
            refine wpS_n (fun w4 hs4 => ?_)
            have hs5 := hs4.perm (sep_one _)
            have hnn : 1 ≤ IntKind.i64.wrap (1 + (IntKind.i64.wrap ((x : Int) / 16)).tmod 80) ∧ IntKind.i64.wrap (1 + (IntKind.i64.wrap ((x : Int) / 16)).tmod 80) ≤ 80 := by
              have h16 : IntKind.i64.wrap ((x : Int) / 16) = (x : Int) / 16 := by rw [IntKind.wrap_i64]; omega
              rw [h16, Int.tmod_eq_emod_of_nonneg (by omega), IntKind.wrap_i64]; omega
            generalize IntKind.i64.wrap (1 + (IntKind.i64.wrap ((x : Int) / 16)).tmod 80) = n at hnn ⊢
            obtain ⟨s, hfs, hti, hrs⟩ := (unhide HA).is r hrk
            have hof := tombs_of W0 w4 _ f q k r (show Sat W0 w4 (Asn.blk q 93 (tombsC f k) * _) from hs5) hrk (by omega)
            rw [hfs] at hof
            have HOF : Hid (Calls Try.prog 50 #[.pointer (some ⟨q, 0, none⟩), .int .i64 r] w4 fun e w' => e = .returned (.pointer (some ⟨s.t, 0, none⟩)) ∧ w4 = w') := hof
            obtain ⟨b, off, rfl⟩ : ∃ b off, A = some ⟨b, off, none⟩ := by
              rcases (show Sat W0 w4 (sl 45 3 A k c (rows3 (rowOf sz f ra) k) * (Asn.blk q 93 (tombsC f k) * (upto sz f 8 * (X * Asn.exact W0)))) from hs5.perm (by unfold AllAt; ac_rfl)).slOpen with ⟨_, h0, _⟩ | ⟨b, off, _, hA, _⟩
              · omega
              · exact ⟨b, off, hA⟩
            have hs6 := hs5.perm (show _ = TombAt s.t s.g sz s.V s.ba * (X * (Asn.blk q 93 (tombsC f k) * (but sz f r 8 * (sl 45 3 (some ⟨b, off, none⟩) k c (rows3 (rowOf sz f ra) k) * Asn.exact W0)))) by unfold AllAt; rw [upto_but sz f r 8 (by omega), hfs]; show _ * ((TombAt _ _ _ _ _ * _) * _) = _; ac_rfl)
            have hcl := tomb_close (n := n) hs6 hti (by omega)
            have hn256 : (ra r).2.1 ≤ 256 := by rw [← hrs.len hs6.right.left]; exact hti.r.len
            have hclR : Hid (∀ W F, Sat W0 W (X * F) → Calls Try.prog 31 #[.agg #[.int .i64 sz, .int .i64 s.ba, .slice (ra r).1 (ra r).2.1 (ra r).2.2], .int .i64 n] W (Close20 W0 X F sz (closeR sz s.ba s.L n))) := fun W F h => close20 W0 W X F _ _ _ s.L sz s.ba n h hrs (by omega) hti.sz hti.top (by omega)
            obtain ⟨p, hp⟩ : ∃ p, p = closeR sz s.ba s.L n := ⟨_, rfl⟩
            rw [← hp] at hcl hclR
            have HCL := hide hcl
            clear hp hcl hof hs5 hs6
            obtain ⟨⟨L2, b2⟩, p1, p2⟩ := p
            dsimp only at HCL
            go_wp2_with (go_at_call 50; refine (unhide HOF).mono ?_; rintro e w' ⟨rfl, rfl⟩)
            refine (unhide HCL).mono ?_
            rintro e w5 ⟨V2, b3, rfl, hi2, hb3, hs7⟩
            obtain rfl : b2 = (b3 : Int) := hb3
            have hs8 := hs7.perm (show _ = sl 45 3 (some ⟨b, off, none⟩) k c (rows3 (rowOf sz f ra) k) * (X * (TombAt s.t s.g sz V2 b3 * (Asn.blk q 93 (tombsC f k) * (but sz f r 8 * Asn.exact W0)))) by ac_rfl)
            have hrow : rowOf sz f ra r = (.int .i64 sz, .int .i64 s.ba, .slice (ra r).1 (ra r).2.1 (ra r).2.2) := by unfold rowOf; rw [hfs]
            obtain ⟨o0, o1, o2⟩ := rows3_at (rowOf sz f ra) k hrk
            rw [hrow] at o0 o1 o2
            have hrd := hs8.slRd
            obtain ⟨ad', h, e1⟩ := hrd.2 (by omega)
            obtain rfl : ad' = ⟨b, off, none⟩ := by simpa using h.symm
            have e2 := e1 _ _ o2
            have e0 := e1 _ _ o0
            have e1 := e1 _ _ o1
            rw [add_lit'] at e0 e1 e2
            rw [← Nat.add_assoc] at e1 e2
            have hra := hide (unhide hclR w5 _ hs8.f2)
            have HI2 := hide hi2
            clear hs7 hs8 hrd HCL HOF hi2 h o0 o1 o2
            go_wp2_with fail
            refine (unhide hra).mono ?_
            rintro e w6 ⟨A2, n2, c2', G, b4, rfl, hb4, hs9, hr2⟩
            obtain rfl : b4 = b3 := by have h : (b3 : Int) = (b4 : Nat) := hb4; omega
            clear hb4 hra e0 e1 e2
            have hs10 := hs9.perm (show _ = sl 45 3 (some ⟨b, off, none⟩) k c (rows3 (rowOf sz f ra) k) * (G * (X * (TombAt s.t s.g sz V2 b4 * (Asn.blk q 93 (tombsC f k) * (but sz f r 8 * Asn.exact W0))))) by ac_rfl)
            have g0 : ∀ j, w6.frozen? ⟨b, j, none⟩ = false := hs10.slFro
            have g1 : b < w6.heap.size := hs10.slIn
            obtain ⟨o0, o1, o2⟩ := rows3_at (rowOf sz f ra) k hrk
            rw [hrow] at o0 o1 o2
            obtain ⟨ad', h, e1⟩ := hs10.slRd.2 (by omega)
            obtain rfl : ad' = ⟨b, off, none⟩ := by simpa using h.symm
            have e2 := e1 _ _ o2
            have e0 := e1 _ _ o0
            have e1 := e1 _ _ o1
            rw [add_lit'] at e0 e1 e2
            rw [← Nat.add_assoc] at e1 e2
            have hs11 := ((((hs10.slSet (i := r * 3) (v := .int .i64 sz) (by omega)).slSet (i := r * 3 + 1) (v := .int .i64 b4) (by omega)).slSet (i := r * 3 + 2) (v := .slice A2 n2 c2') (by omega)).alloc #[.int .i64 sz, .int .i64 b4, .slice A2 n2 c2'] 45).right
            clear hs9 hs10 h o0 o1 o2
            have hcs : ∀ j, TSt.cell (if j = r then some ⟨s.t, s.g, V2, b4, L2⟩ else f j) = TSt.cell (f j) := fun j => by
              by_cases hj : j = r
              · rw [if_pos hj, hj, hfs]; rfl
              · rw [if_neg hj]
            have hrw : rowOf sz (fun j => if j = r then some ⟨s.t, s.g, V2, b4, L2⟩ else f j) (fun j => if j = r then (A2, n2, c2') else ra j) = fun j => if j = r then (.int .i64 sz, .int .i64 b4, .slice A2 n2 c2') else rowOf sz f ra j := by
              funext j
              unfold rowOf
              by_cases hj : j = r
              · simp only [if_pos hj]
              · simp only [if_neg hj]
            have hfin := hs11.perm (show _ = AllAt W0 sz k q (fun j => if j = r then some ⟨s.t, s.g, V2, b4, L2⟩ else f j) (fun j => if j = r then (A2, n2, c2') else ra j) (G * X) (some ⟨b, off, none⟩) c by
              unfold AllAt
              rw [hrw, ← rows3_set (rowOf sz f ra) (.int .i64 sz, .int .i64 b4, .slice A2 n2 c2') k hrk, upto_set sz f _ (by omega)]
              have ht : tombsC (fun j => if j = r then some ⟨s.t, s.g, V2, b4, L2⟩ else f j) k = tombsC f k := by unfold tombsC; simp only [hcs]
              rw [ht]
              show _ = _ * ((TombAt s.t s.g sz V2 b4 * _) * _)
              ac_rfl)
            have hai : Hid (AllInv sz k (fun j => if j = r then some ⟨s.t, s.g, V2, b4, L2⟩ else f j) (fun j => if j = r then (A2, n2, c2') else ra j) (G * X)) := by
              refine ⟨fun j hj => ?_, fun j hj => ?_⟩
              · by_cases hjr : j = r
                · subst hjr
                  exact ⟨⟨s.t, s.g, V2, b4, L2⟩, if_pos rfl, unhide HI2, by simp only [if_pos]; exact hr2⟩
                · obtain ⟨s', a1, a2, a3⟩ := (unhide HA).is j hj
                  refine ⟨s', by rw [← a1]; exact if_neg hjr, a2, ?_⟩
                  simp only [if_neg hjr]
                  exact a3.right
              · rw [← (unhide HA).no j hj]
                exact if_neg (by omega)
            have HFIN := hide hfin
            clear hs11 hfin hr2 hcs hrw
            go_wp2_with fail
            go_roundw
            case rel => exact ⟨i + 1, _, _, G * X, by go_num, by omega, hai, unhide HFIN⟩
            case measure => simp [intOf]; omega
          · have HS3 := hide hsr
            obtain ⟨b, off, rfl⟩ : ∃ b off, A = some ⟨b, off, none⟩ := by
              rcases A with _ | ⟨b, off, sp⟩
              · have := (show Sat W0 wr (sl 45 3 none k c (rows3 (rowOf sz f ra) k) * (Asn.blk q 93 (tombsC f k) * (upto sz f 8 * (X * Asn.exact W0)))) from hsr.perm (by unfold AllAt; ac_rfl)).slNE
                omega
              · rcases (show Sat W0 wr (sl 45 3 (some ⟨b, off, sp⟩) k c (rows3 (rowOf sz f ra) k) * (Asn.blk q 93 (tombsC f k) * (upto sz f 8 * (X * Asn.exact W0)))) from hsr.perm (by unfold AllAt; ac_rfl)).slOpen with ⟨h0, _⟩ | ⟨b, off, _, hA, _⟩
                · cases h0
                · exact ⟨b, off, hA⟩
            have hcnt8 : cnts f 8 = cnts f k := by
              have hcn : ∀ m, cnts f (k + m) = cnts f k := fun m => by
                induction m with
                | zero => rfl
                | succ m ih => show cnts f (k + m) + TSt.cnt (f (k + m)) = _; rw [ih, (unhide HA).no _ (by omega)]; rfl
              have := hcn (8 - k)
              rwa [show k + (8 - k) = 8 by omega] at this
            have hok8 : Hid ((∀ j, TSt.ok sz (f j)) ∧ ∀ j, TSt.cnt (f j) ≤ 256) := by
              have h0 : ∀ j, f j = none ∨ ∃ s, f j = some s ∧ TInv sz s.ba s.V s.L := fun j => by
                by_cases hj : j < k
                · obtain ⟨s, a1, a2, _⟩ := (unhide HA).is j hj
                  exact .inr ⟨s, a1, a2⟩
                · exact .inl ((unhide HA).no j (by omega))
              refine ⟨fun j s hs => ?_, fun j => ?_⟩
              · rcases h0 j with h | ⟨s', h, h'⟩
                · rw [h] at hs; cases hs
                · rw [h] at hs; cases hs; exact h'
              · rcases h0 j with h | ⟨s', h, h'⟩
                · rw [h]; exact Nat.zero_le _
                · rw [h]; exact h'.r.len
            have HC8 := hide hcnt8
            have hcsm : Hid (∀ j, cnts f j ≤ 256 * j) := fun j => by
              induction j with
              | zero => exact Nat.le_refl _
              | succ j ih => have := (unhide hok8).2 j; unfold cnts; omega
            clear hcnt8 hsr
            by_cases h1 : i < N
            all_goals
              first
                | (have h2 : ¬ (i : Int) < 60 := by omega)
                | skip
              clear hlt
              go_wp2_with fail
              go_loopw [22, 23] (fun s22 s23 wr => ∃ j : Nat, s23 = .int .i64 j ∧ j ≤ k ∧ s22 = .int .i64 (cnts f j) ∧ Sat W0 wr (AllAt W0 sz k q f ra X (some ⟨b, off, none⟩) c)) (fun _ s23 _ => k - (intOf s23).toNat)
              case atStart => exact ⟨0, rfl, Nat.zero_le _, rfl, unhide HS3⟩
              case round =>
                obtain ⟨j, rfl, hj, rfl, hsr⟩ := hrel
                clear HS3
                have hjc := unhide hcsm j
                obtain ⟨q0, hq0⟩ : ∃ q0, q0 = cnts f j := ⟨_, rfl⟩
                rw [← hq0] at hjc ⊢
                by_cases hjk : j < k
                · obtain ⟨s, hfs, hti, hrs⟩ := (unhide HA).is j hjk
                  have hln := hrs.len (show Sat W0 wr (X * (Asn.blk q 93 (tombsC f k) * (upto sz f 8 * (sl 45 3 (some ⟨b, off, none⟩) k c (rows3 (rowOf sz f ra) k) * Asn.exact W0)))) from hsr.perm (by unfold AllAt; ac_rfl)).left
                  have hnx : Hid (cnts f (j + 1) = q0 + (ra j).2.1) := by
                    show cnts f j + TSt.cnt (f j) = _
                    rw [← hq0, hfs, ← hln]; rfl
                  have hn256 : (ra j).2.1 ≤ 256 := by rw [← hln]; exact hti.r.len
                  have hrow : rowOf sz f ra j = (.int .i64 sz, .int .i64 s.ba, .slice (ra j).1 (ra j).2.1 (ra j).2.2) := by unfold rowOf; rw [hfs]
                  obtain ⟨o0, o1, o2⟩ := rows3_at (rowOf sz f ra) k hjk
                  rw [hrow] at o0 o1 o2
                  have hcel : Hid (∀ W R, Sat W0 W (AllAt W0 sz k q f ra X (some ⟨b, off, none⟩) c * R) → W.cell? ⟨b, off + j * 3, none⟩ = some (.int .i64 sz) ∧ W.cell? ⟨b, off + j * 3 + 1, none⟩ = some (.int .i64 s.ba) ∧ W.cell? ⟨b, off + j * 3 + 2, none⟩ = some (.slice (ra j).1 (ra j).2.1 (ra j).2.2)) := by
                    intro W R hW
                    have hs8 := hW.perm (show _ = sl 45 3 (some ⟨b, off, none⟩) k c (rows3 (rowOf sz f ra) k) * (Asn.blk q 93 (tombsC f k) * (upto sz f 8 * (X * Asn.exact W0)) * R) by unfold AllAt; ac_rfl)
                    obtain ⟨ad', h, e1⟩ := hs8.slRd.2 (by omega)
                    obtain rfl : ad' = ⟨b, off, none⟩ := by simpa using h.symm
                    have e2 := e1 _ _ o2
                    have e0 := e1 _ _ o0
                    have e1 := e1 _ _ o1
                    rw [add_lit'] at e0 e1 e2
                    exact ⟨e0, e1, e2⟩
                  have hofW : Hid (∀ W R, Sat W0 W (AllAt W0 sz k q f ra X (some ⟨b, off, none⟩) c * R) → Calls Try.prog 50 #[.pointer (some ⟨q, 0, none⟩), .int .i64 j] W fun e w' => e = .returned (.pointer (some ⟨s.t, 0, none⟩)) ∧ Below W.heap.size W w') := by
                    intro W R hW
                    have hof := tombs_of W0 W _ f q k j (show Sat W0 W (Asn.blk q 93 (tombsC f k) * (upto sz f 8 * (sl 45 3 (some ⟨b, off, none⟩) k c (rows3 (rowOf sz f ra) k) * (X * Asn.exact W0)) * R)) from hW.perm (by unfold AllAt; ac_rfl)) hjk (by omega)
                    rw [hfs] at hof
                    exact hof.mono fun e w' ⟨he, hw⟩ => ⟨he, hw ▸ Below.refl _ _⟩
                  have hsame : Hid (∀ W R, Sat W0 W (AllAt W0 sz k q f ra X (some ⟨b, off, none⟩) c * R) → Calls Try.prog 32 #[.pointer (some ⟨s.t, 0, none⟩), .agg #[.int .i64 sz, .int .i64 s.ba, .slice (ra j).1 (ra j).2.1 (ra j).2.2], .int .i64 3] W fun e w' => e = .returned (.bool true) ∧ Sat W0 w' (AllAt W0 sz k q f ra X (some ⟨b, off, none⟩) c * R)) := by
                    intro W R hW
                    have he : AllAt W0 sz k q f ra X (some ⟨b, off, none⟩) c * R = TombAt s.t s.g sz s.V s.ba * (X * (Asn.blk q 93 (tombsC f k) * (but sz f j 8 * (sl 45 3 (some ⟨b, off, none⟩) k c (rows3 (rowOf sz f ra) k) * (Asn.exact W0 * R))))) := by unfold AllAt; rw [upto_but sz f j 8 (by omega), hfs]; show _ * ((TombAt _ _ _ _ _ * _) * _) * _ = _; ac_rfl
                    rw [he] at hW ⊢
                    exact same20 W0 W X _ s.t s.g sz s.V s.ba s.L _ _ _ 3 hti hW hrs (by omega)
                  have HS := hide (hsr.perm (sep_one _).symm)
                  clear hsr hq0 hrow o0 o1 o2 hln
                  have hjk2 : (j : Int) < k := by omega
                  go_wp2_with fail
                  refine wp_region_slr (Q := _) (E := W0) (fun W => ∃ R, Sat W0 W ((AllAt W0 sz k q f ra X (some ⟨b, off, none⟩) c) * R)) [12] [2, 7] [] [] (fun _ => (0, #[], fun _ => undef)) [0, 1, 2, 3, 4, 5, 6, 7, 8, 9, 10, 11, 12, 13, 14] (by kernel_rfl) (by kernel_rfl) (unhide HS) (fun W R h => ⟨_, h.asc⟩) ?_
                  iterate 2
                    refine wpS_f _ rfl rfl (v := ?_) ?_ ?_
                    rotate_left
                    · rintro W ⟨R, hW⟩
                      have e0 : W.cell? ⟨b, off + j * 3, none⟩ = some (.int .i64 sz) := (unhide hcel W R hW).1
                      have e1 : W.cell? ⟨b, off + j * 3 + 1, none⟩ = some (.int .i64 s.ba) := (unhide hcel W R hW).2.1
                      have e2 : W.cell? ⟨b, off + j * 3 + 2, none⟩ = some (.slice (ra j).1 (ra j).2.1 (ra j).2.2) := (unhide hcel W R hW).2.2
                      go_simp
                      first | rfl | (rw [IntKind.wrap_i64]; omega)
                    go_simp
                  refine wpS_c _ rfl rfl (v := .pointer (some ⟨s.t, 0, none⟩)) (freeC_call rfl (fun W => by go_simp; try rfl) (fun W ⟨R, hW⟩ => unhide hofW W R hW)) ?_
                  go_simp
                  iterate 4
                    refine wpS_f _ rfl rfl (v := ?_) ?_ ?_
                    rotate_left
                    · rintro W ⟨R, hW⟩
                      have e0 : W.cell? ⟨b, off + j * 3, none⟩ = some (.int .i64 sz) := (unhide hcel W R hW).1
                      have e1 : W.cell? ⟨b, off + j * 3 + 1, none⟩ = some (.int .i64 s.ba) := (unhide hcel W R hW).2.1
                      have e2 : W.cell? ⟨b, off + j * 3 + 2, none⟩ = some (.slice (ra j).1 (ra j).2.1 (ra j).2.2) := (unhide hcel W R hW).2.2
                      go_simp
                      first | rfl | (rw [IntKind.wrap_i64]; omega)
                    go_simp
                  refine wpS_c _ rfl rfl (v := .pointer (some ⟨s.t, 0, none⟩)) (freeC_call rfl (fun W => by go_simp; try rfl) (fun W ⟨R, hW⟩ => unhide hofW W R hW)) ?_
                  go_simp
                  iterate 4
                    refine wpS_f _ rfl rfl (v := ?_) ?_ ?_
                    rotate_left
                    · rintro W ⟨R, hW⟩
                      have e0 : W.cell? ⟨b, off + j * 3, none⟩ = some (.int .i64 sz) := (unhide hcel W R hW).1
                      have e1 : W.cell? ⟨b, off + j * 3 + 1, none⟩ = some (.int .i64 s.ba) := (unhide hcel W R hW).2.1
                      have e2 : W.cell? ⟨b, off + j * 3 + 2, none⟩ = some (.slice (ra j).1 (ra j).2.1 (ra j).2.2) := (unhide hcel W R hW).2.2
                      go_simp
                      first | rfl | (rw [IntKind.wrap_i64]; omega)
                    go_simp
                  refine wpS_e _ rfl rfl (fun W R hW => ?_)
                  refine stp_call rfl (by go_simp; try rfl) ((unhide hsame W _ hW.asc).mono ?_)
                  rintro e w' ⟨rfl, hs3⟩
                  refine ⟨_, rfl, (AllAt W0 sz k q f ra X (some ⟨b, off, none⟩) c) * (1), fun W R h => ⟨_, h.asc⟩, hs3.perm (by first | ac_rfl | (simp only [Asn.one_sep, Asn.sep_one]; ac_rfl)), ?_⟩
                  clear hs3 hW
                  go_simp
                  iterate 2
                    refine wpS_f _ rfl rfl (v := ?_) ?_ ?_
                    rotate_left
                    · rintro W ⟨R, hW⟩
                      have e0 : W.cell? ⟨b, off + j * 3, none⟩ = some (.int .i64 sz) := (unhide hcel W R hW).1
                      have e1 : W.cell? ⟨b, off + j * 3 + 1, none⟩ = some (.int .i64 s.ba) := (unhide hcel W R hW).2.1
                      have e2 : W.cell? ⟨b, off + j * 3 + 2, none⟩ = some (.slice (ra j).1 (ra j).2.1 (ra j).2.2) := (unhide hcel W R hW).2.2
                      go_simp
                      first | rfl | (rw [IntKind.wrap_i64]; omega)
                    go_simp
                  refine wpS_n (fun w3 hs4 => ?_)
                  have hs5 := hs4.perm (sep_one _)
                  obtain ⟨e0, e1, e2⟩ := unhide hcel w3 1 hs4
                  have HS5 := hide hs5
                  clear hs4 hs5 e0 e1
                  go_wp2_with fail
                  go_roundw
                  case rel => exact ⟨j + 1, by go_num, by omega, by rw [unhide hnx]; go_num, unhide HS5⟩
                  case measure => simp [intOf]; omega
                · obtain rfl : j = k := by omega
                  have hct := tombs_count W0 wr _ f q j sz hsr (unhide hok8).1 (unhide hok8).2
                  rw [unhide HC8, ← hq0] at hct
                  have HCT := hide hct
                  have hk0 : ¬ (j : Int) < j := by omega
                  clear hct hsr hq0 hjk
                  go_wp2_with fail
                  refine (unhide HCT).mono ?_
                  rintro e w3 ⟨rfl, hs4⟩
                  have hbel : Hid (Below W0.heap.size W0 w3) := (hs4.perm (show _ = Asn.exact W0 * (Asn.blk q 93 (tombsC f j) * (upto sz f 8 * (sl 45 3 (some ⟨b, off, none⟩) j c (rows3 (rowOf sz f ra) j) * X))) by ac_rfl)).below
                  clear hs4 HCT
                  go_wp2_with fail
                  go_ret
                  exact ⟨rfl, unhide hbel⟩
  · have hno := hide (newAll_no W0 hosts span hok)
    have haw := hide (fun w (h : Below W0.heap.size W0 w) => awake20 W0 w _ (((Sat.start W0).perm (sep_one _).symm).under h))
    by_cases c1 : 1 ≤ hosts
    · by_cases c2 : hosts ≤ 8
      · by_cases c3 : 1 ≤ span
        · have c4 : 64 < span := by omega
          clear hok
          go_enter Try.func9, Try.ntmps9
          go_wp2_with fail
          refine (unhide hno).mono ?_
          rintro e w1 ⟨rfl, hb⟩
          clear hno
          have haw2 := hide (unhide haw w1 hb)
          clear haw
          go_wp2_with fail
          refine (unhide haw2).mono ?_
          rintro e w3 ⟨rfl, hs3⟩
          have HB := hide hs3.below
          clear haw2 hs3
          go_wp2_with fail
          go_ret
          exact ⟨rfl, unhide HB⟩
        · clear hok
          go_enter Try.func9, Try.ntmps9
          go_wp2_with fail
          refine (unhide hno).mono ?_
          rintro e w1 ⟨rfl, hb⟩
          clear hno
          have haw2 := hide (unhide haw w1 hb)
          clear haw
          go_wp2_with fail
          refine (unhide haw2).mono ?_
          rintro e w3 ⟨rfl, hs3⟩
          have HB := hide hs3.below
          clear haw2 hs3
          go_wp2_with fail
          go_ret
          exact ⟨rfl, unhide HB⟩
      · clear hok
        go_enter Try.func9, Try.ntmps9
        go_wp2_with fail
        refine (unhide hno).mono ?_
        rintro e w1 ⟨rfl, hb⟩
        clear hno
        have haw2 := hide (unhide haw w1 hb)
        clear haw
        go_wp2_with fail
        refine (unhide haw2).mono ?_
        rintro e w3 ⟨rfl, hs3⟩
        have HB := hide hs3.below
        clear haw2 hs3
        go_wp2_with fail
        go_ret
        exact ⟨rfl, unhide HB⟩
    · clear hok
      go_enter Try.func9, Try.ntmps9
      go_wp2_with fail
      refine (unhide hno).mono ?_
      rintro e w1 ⟨rfl, hb⟩
      clear hno
      have haw2 := hide (unhide haw w1 hb)
      clear haw
      go_wp2_with fail
      refine (unhide haw2).mono ?_
      rintro e w3 ⟨rfl, hs3⟩
      have HB := hide hs3.below
      clear haw2 hs3
      go_wp2_with fail
      go_ret
      exact ⟨rfl, unhide HB⟩
end Go.Proofs.Ytcagfcflffhadaa
