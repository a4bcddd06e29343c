/- The program's join against the reference's step: Add whatever comes, All. -/
import Derived.Test.YtpcoehbjbjfggaaRef12S
namespace Go.Proofs.Ytpcoehbjbjfggaa
open Go.RowKit Asn

/-- A Join as the reference has it. -/
def JoinM.rj (j : JoinM) : RJ := ⟨j.parts.flatten, j.parts.length, j.msgs, j.bytes⟩

theorem add_any (E w : World) (F : Asn) (g n d : Nat) (j : JoinM) (B : Option Addr) (p : List UInt8) (x : Bool) (hs : Sat E w (JoinAt g j * F)) (hr : RdW w B n 1 (bytes p)) (hn : n ≤ 9223372036854775807) :
    Calls Try.prog 17 #[.pointer (some ⟨g, 0, none⟩), .slice B n d, .bool x] w fun e w' => ∃ j' X A2 n2 c2,
      e = .returned (.tuple #[.slice A2 n2 c2, .bool (RJ.add j.rj p x).2.2.1, .int .i64 (RJ.add j.rj p x).2.2.2]) ∧ Sat E w' (JoinAt g j' * (X * F)) ∧ j'.rj = (RJ.add j.rj p x).1 ∧
      (X = bsl A2 n2 c2 (RJ.add j.rj p x).2.1 ∨ (X = 1 ∧ A2 = none ∧ n2 = 0 ∧ c2 = 0 ∧ (RJ.add j.rj p x).2.1 = [])) ∧ n2 ≤ 65536 := by
  have hpl : p.length = n := by have := hr.1; rw [length_bytes] at this; omega
  obtain ⟨A, k, c, rs, hrs, hop, hne, hk, hs2⟩ := hs.joinOpen
  have hkl : j.parts.length = k := by rw [← hrs, List.length_map, hk]
  have hk6 : k ≤ 65536 := by
    have := rows_le hne
    rw [hrs, hk] at this
    have h2 : k ≤ j.open_ := this
    omega
  have hol : j.parts.flatten.length = j.open_ := rfl
  by_cases h0 : n = 0
  · subst h0
    have hadd : RJ.add j.rj p x = (j.rj, [], false, 120) := by unfold RJ.add; rw [if_pos hpl]
    rw [hadd]
    refine (add_empty w g _ d _ _ _ B x hs2.blk).mono fun e w' ⟨he, hw⟩ => ?_
    subst hw
    exact ⟨j, 1, none, 0, 0, he, hs.perm (by rw [one_sep]), rfl, .inr ⟨rfl, rfl, rfl, rfl, rfl⟩, by omega⟩
  · by_cases h1 : 65536 < j.open_ + n
    · have hadd : RJ.add j.rj p x = (j.rj, [], false, 2) := by unfold RJ.add; rw [if_neg (by omega), if_pos (by show 65536 < j.parts.flatten.length + p.length; rw [hol, hpl]; exact h1)]
      rw [hadd]
      refine (add_long w g _ d n _ _ _ B x hs2.blk hop (by omega) h1 hn).mono fun e w' ⟨he, hw⟩ => ?_
      subst hw
      exact ⟨j, 1, none, 0, 0, he, hs.perm (by rw [one_sep]), rfl, .inr ⟨rfl, rfl, rfl, rfl, rfl⟩, by omega⟩
    · have hc : ¬ (65536 < j.rj.opn.length + p.length) := by show ¬ (65536 < j.parts.flatten.length + p.length); rw [hol, hpl]; exact h1
      cases x with
      | false =>
        have hadd : RJ.add j.rj p false = (⟨j.parts.flatten ++ p, wrap64 ((j.parts.length : Int) + 1), j.msgs, j.bytes⟩, [], false, 0) := by
          unfold RJ.add; rw [if_neg (by omega), if_neg hc, if_neg (by simp)]; rfl
        rw [hadd]
        refine (add_part E w F g n d j B p hs hr (by omega) (by omega)).mono fun e w' ⟨he, hs'⟩ => ?_
        refine ⟨_, 1, none, 0, 0, he, hs'.perm (by rw [one_sep]), ?_, .inr ⟨rfl, rfl, rfl, rfl, rfl⟩, by omega⟩
        have hw : wrap64 ((j.parts.length : Int) + 1) = ((j.parts ++ [p]).length : Int) := by
          rw [List.length_append, hkl]; unfold wrap64; simp only [List.length_cons, List.length_nil]; omega
        rw [hw]
        simp [JoinM.rj]
      | true =>
        have hadd : RJ.add j.rj p true = (⟨[], 0, wrap64 (j.msgs + 1), wrap64 (j.bytes + (j.parts.flatten ++ p).length)⟩, j.parts.flatten ++ p, true, 0) := by
          unfold RJ.add; rw [if_neg (by omega), if_neg hc, if_pos rfl]; rfl
        rw [hadd]
        refine (add_end E w F g n d j B p hs hr (by omega) (by omega)).mono fun e w' ⟨A', c', he, hs'⟩ => ?_
        refine ⟨_, bsl A' (j.open_ + n) c' (j.parts.flatten ++ p), A', _, c', he, hs'.f2, ?_, .inl rfl, by omega⟩
        have hw : (j.parts.flatten ++ p).length = j.open_ + n := by rw [List.length_append, hol, hpl]
        rw [hw]
        rfl

set_option maxRecDepth 100000 in
theorem joinAll (E w : World) (G : Asn) (A B : Option Addr) (n c m d : Nat) (ls : List (List UInt8)) (es : List Bool) (hs : Sat E w G) (hl : rdRows G A n ls) (he : rd G 1 B m (es.map Value.bool)) (hn : n ≤ 65536) (hm : m ≤ 9223372036854775807) :
    Calls Try.prog 20 #[.slice A n c, .slice B m d] w fun e w' => ∃ X A2 c2,
      e = .returned (.tuple #[.slice A2 (allF es 0 ls [] []).1.length c2, .int .i64 (allF es 0 ls [] []).2.1, .int .i64 (allF es 0 ls [] []).2.2]) ∧ Sat E w' (X * G) ∧ rdRows (X * G) A2 (allF es 0 ls [] []).1.length (allF es 0 ls [] []).1 := by
  have hlen : ls.length = n := by obtain ⟨rs, _, h, _⟩ := hl; exact h
  have hes : es.length = m := by have := (RdW.of_rd he hs).1; rw [List.length_map] at this; omega
  have HLEN := Lib.hid hlen
  have HES := Lib.hid hes
  clear hlen hes
  go_enter Try.func20, Try.ntmps20
  go_wp2_with fail
  refine (new_join E w G hs).mono ?_
  rintro e w1 ⟨g, rfl, hs1⟩
  go_wp2_with fail
  go_loopw [8, 17] (fun so i wr => ∃ (X : Asn) (j : JoinM) (oA : Option Addr) (oc k : Nat) (rs : List (Option Addr × Nat × Nat)) (out : List (List UInt8)),
      so = .slice oA rs.length oc ∧ i = .int .i64 k ∧ k ≤ n ∧ rs.length ≤ k ∧ rowsOk (X * G) rs out ∧ Hid (allF es k (ls.drop k) j.rj.opn out = allF es 0 ls [] []) ∧
      Sat E wr (JoinAt g j * (sl 22 1 oA rs.length oc (hds rs) * (X * G))))
    (fun _ i _ => n - (intOf i).toNat)
  case atStart =>
    refine ⟨1, ⟨0, 0, []⟩, none, 0, 0, [], [], rfl, rfl, Nat.zero_le _, Nat.le_refl _, ⟨rfl, fun i r l a => by simp at a⟩, rfl, ?_⟩
    refine Sat.f2 (Sat.slNil ?_)
    rw [one_sep]
    exact hs1
  case round =>
    obtain ⟨X, j, oA, oc, k, rs, out, rfl, rfl, hk, hrk, hok, HF, hsr⟩ := hrel
    by_cases hlt : k < n
    · have hkl : k < ls.length := by rw [HLEN.out]; exact hlt
      have hlk : ls[k]? = some ls[k] := List.getElem?_eq_getElem hkl
      generalize ls[k] = p at hlk
      have hXG := hsr.right.right
      obtain ⟨ad, pA, pn, pc, rfl, hc0, hpr, hpn, hpl⟩ := (hl.right (X := X)).atR hXG hlk
      have hcell := hc0 wr hXG
      obtain ⟨x, hx⟩ : ∃ x, x = es.getD k false := ⟨_, rfl⟩
      have hadd := hide (add_any E wr _ g pn pc j pA p x hsr (RdW.of_rd hpr hXG) hpn)
      obtain ⟨q, hq⟩ : ∃ q, q = RJ.add j.rj p x := ⟨_, rfl⟩
      rw [← hq] at hadd
      have HF2 : Hid (allF es 0 ls [] [] = if q.2.2.2 = 0 then allF es (k + 1) (ls.drop (k + 1)) q.1.opn (if q.2.2.1 then out ++ [q.2.1] else out) else (out, k, q.2.2.2)) := by
        have h1 := HF.out
        rw [drop_of hlk, allF_step es k p _ j.rj.opn out j.rj.parts j.rj.n j.rj.bytes, ← hx] at h1
        have e : (⟨j.rj.opn, j.rj.parts, j.rj.n, j.rj.bytes⟩ : RJ) = j.rj := rfl
        rw [e, ← hq] at h1
        exact h1.symm
      obtain ⟨⟨q1, q2, q3, q4⟩, q5, q6, q7⟩ := q
      dsimp only at HF2 hadd
      clear hlk hc0 hq HF
      have hfr := hok
      rcases Nat.lt_or_ge k m with hkm | hkm
      case' inl =>
        have hxc : es[k]? = some x := by rw [hx]; simp [List.getD, List.getElem?_eq_getElem (show k < es.length by rw [HES.out]; exact hkm)]
        obtain ⟨bd, rfl, hxcell⟩ := (RdW.of_rd he hsr.right.right.right).at_ (j := k) (u := .bool x) (by rw [List.getElem?_map, hxc]; rfl)
        clear hxc hx
      case' inr =>
        have hx0 : x = false := by rw [hx]; simp [List.getD, List.getElem?_eq_none (show es.length ≤ k by rw [HES.out]; exact hkm)]
        clear hx
        subst hx0
      all_goals
        go_wp2_with fail
        refine (unhide hadd).mono ?_
        rintro e w3 ⟨j', X2, A3, n3, c3, rfl, hs3, hrj, hX, hn3⟩
        have hx3 : Sat E w3 (X2 * (JoinAt g j' * (sl 22 1 oA rs.length oc (hds rs) * (X * G)))) := hs3.f2
        have HRJ := Lib.hid hrj
        have hr3 : rd (X2 * (X * G)) 1 A3 n3 (bytes q5) := by
          rcases hX with rfl | ⟨rfl, rfl, rfl, rfl, rfl⟩
          · exact rd_bsl
          · exact rd.nil _ _ _
        clear hrj hX hs3 hfr hsr hXG hadd
        have hok2 := hok.right (X := X2)
        have hrs65 : rs.length ≤ 65536 := by omega
        have hs6 : Sat E w3 (JoinAt g j' * (sl 22 1 oA rs.length oc (hds rs) * (X2 * (X * G)))) := hx3.perm (by ac_rfl)
        clear hx3
        by_cases h7 : q7 = 0
        · subst h7
          cases q6 with
          | false =>
            have hs7 := hide hs6
            clear hs6
            go_wp2_with fail
            go_roundw
            case rel =>
              refine ⟨X2 * X, j', oA, oc, k + 1, rs, out, rfl, by go_num, by omega, by omega, by rw [sep_assoc]; exact hok2, ?_, (unhide hs7).perm (by rw [sep_assoc X2])⟩
              show _ = _
              rw [HF2.out, HRJ.out]
              simp only [if_true, if_false, Bool.false_eq_true, reduceIte]
            case measure => simp [intOf]; omega
          | true =>
            have hs8 := hs6.f2.alloc #[.slice A3 n3 c3] 22
            obtain ⟨A4, c4, w4, run4, hs9⟩ := Sat.append (P := Try.prog) (t := 31) (ty := 31) (d := 1) elt_rows hs8.right (RdW.new _ #[.slice A3 n3 c3] 22 1 1 rfl) (by intro u hu; simp at hu; subst hu; rfl) (by unfold maxLen; omega) (by omega)
            have R4 := Lib.hid run4
            have hs10 := hide hs9.f2
            clear hs6 hs8 hs9 run4
            go_wp2_with (at_builtin; refine wpList_appendR rfl (.tmp 45) (.tmp 47) rfl rfl rfl R4.out ?_)
            go_roundw
            case rel =>
              refine ⟨X2 * X, j', A4, c4, k + 1, rs ++ [(A3, n3, c3)], out ++ [q5], by simp, by go_num, by omega, by simp; omega, ?_, ?_, (unhide hs10).perm ?_⟩
              · rw [sep_assoc]
                exact hok2.snoc hr3 (by dsimp only; omega)
              · show _ = _
                rw [HF2.out, HRJ.out]
                simp only [if_true, reduceIte]
              · rw [sep_assoc X2]
                simp [hds]
            case measure => simp [intOf]; omega
        · have h7a : (q7 != 0) = true := by simpa using h7
          have h7b : (q7 == 0) = false := by simpa using h7
          have HF3 : Hid (allF es 0 ls [] [] = (out, k, q7)) := by
            have := HF2.out
            rw [if_neg h7] at this
            exact this
          have hfin := hide hs6.right
          clear h7 HF2 hs6
          go_wp2_with fail
          go_ret3
          rw [HF3.out]
          refine ⟨sl 22 1 oA rs.length oc (hds rs) * (X2 * X), oA, oc, by rw [hok2.1]; rfl, (unhide hfin).perm (by ac_rfl), ?_⟩
          rw [← hok2.1]
          exact (show (sl 22 1 oA rs.length oc (hds rs) * (X2 * X)) * G = sl 22 1 oA rs.length oc (hds rs) * (X2 * (X * G)) by ac_rfl) ▸ hok2.rows rd_sl rfl
    · have hkn : k = n := by omega
      subst hkn
      have HF3 : Hid (allF es 0 ls [] [] = (out, k, 0)) := by
        have := HF.out
        rw [List.drop_of_length_le (by rw [HLEN.out]; exact Nat.le_refl _), allF] at this
        exact this.symm
      have hfin := hide hsr.right
      clear hsr HF
      go_wp2_with fail
      go_ret3
      rw [HF3.out]
      refine ⟨sl 22 1 oA rs.length oc (hds rs) * X, oA, oc, by rw [hok.1]; rfl, (unhide hfin).perm (by ac_rfl), ?_⟩
      rw [← hok.1]
      exact (show (sl 22 1 oA rs.length oc (hds rs) * X) * G = sl 22 1 oA rs.length oc (hds rs) * (X * G) by ac_rfl) ▸ hok.rows rd_sl rfl
end Go.Proofs.Ytpcoehbjbjfggaa
