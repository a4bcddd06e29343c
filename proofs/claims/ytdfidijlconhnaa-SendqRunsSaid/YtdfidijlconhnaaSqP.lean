/- The queue of pieces: the law's pieces, the page's example. -/
import Derived.Test.YtdfidijlconhnaaSqR
import Derived.Test.YtdfidijlconhnaaArg
import Derived.Lib.SlBytesConst
namespace Go.Proofs.Ytdfidijlconhnaa
open Go.RowKit Asn
theorem rd_blkz {b : Nat} {t : TypeId} {cs : Array Value} {G : Asn} {n z : Nat} (hl : cs.size = n * z) : rd (Asn.blk b t cs * G) z (some ⟨b, 0, none⟩) n cs.toList := by
  refine rd.left ?_
  intro h hh
  have hh : h = Hp.one b (.cells cs t (0, 0)) := hh
  subst hh
  refine ⟨by simpa using hl, fun _ => ⟨_, rfl, fun j u hu => ⟨cs, t, (0, 0), ?_, ?_, ?_⟩⟩⟩
  · simp [Hp.one, block_of_add]
  · rw [add_lit']
  · rw [add_lit']
    simpa using hu
theorem elt_pieces : Elt Try.prog 28 52 3 32 (.agg #[.slice none 0 0, .bool false, .bool false]) := elt_of Try.underlying28 (by kernel_rfl) rfl (by omega)
def PiecesP (E : World) (F : Asn) (n : Nat) (e : Ending) (w' : World) : Prop := ∃ (P : List PR) (A : Option Addr) (c : Nat) (G : Asn), e = .returned (.slice A n c) ∧ P.length = n ∧ (∀ (i : Nat) (p : PR), P[i]? = some p → ∃ l, RB G p.a p.n p.c l) ∧ Sat E w' (sl 52 3 A n c (pieceC P) * (G * F))
set_option maxHeartbeats 1000000 in
set_option maxRecDepth 100000 in
theorem pieces13 (E w : World) (F : Asn) (n f : Nat) (hs : Sat E w F) (hn : n ≤ 10000) (hf : f ≤ 10000) : Calls Try.prog 11 #[.int .i64 n, .int .i64 f] w (PiecesP E F n) := by
  have hs1 := hide (hs.slNil (e := 52) (z := 3))
  clear hs
  go_enter Try.func11, Try.ntmps11
  go_wp2_with fail
  go_loopw [5, 6] (fun s5 s6 wr => ∃ (k c : Nat) (A : Option Addr) (P : List PR) (G : Asn), s5 = .slice A k c ∧ s6 = .int .i64 k ∧ k ≤ n ∧ P.length = k ∧ Hid (∀ (i : Nat) (p : PR), P[i]? = some p → ∃ l, RB G p.a p.n p.c l) ∧ Sat E wr (sl 52 3 A k c (pieceC P) * (G * F))) (fun _ s6 _ => n - (intOf s6).toNat)
  case atStart => exact ⟨0, 0, none, [], 1, rfl, rfl, Nat.zero_le _, rfl, hide (fun i p h => by simp at h), (unhide hs1).perm (by rw [one_sep]; rfl)⟩
  case round =>
    obtain ⟨k, c, A, P, G, rfl, rfl, hk, hpl, HB, hsr⟩ := hrel
    clear hs1
    by_cases hlt : k < n
    · have hkn : (k : Int) < n := by omega
      obtain ⟨v, hv⟩ : ∃ v, v = IntKind.u8.wrap ((f : Int) + k) := ⟨_, rfl⟩
      have hvb : 0 ≤ v ∧ v ≤ 255 := by rw [hv, IntKind.wrap_u8]; omega
      obtain ⟨b, hb⟩ : ∃ b : UInt8, v = (b.toNat : Int) := ⟨_, u8_of hvb⟩
      rw [hb] at hv
      obtain ⟨be, hbe⟩ : ∃ be, be = ((k : Int) == (n : Int) - 1) := ⟨_, rfl⟩
      have hs2 := hsr.alloc #[.int .u8 b.toNat] 5
      have hs3 := hs2.alloc #[.slice (some ⟨wr.heap.size, 0, none⟩) 1 1, .bool be, .bool false] 52
      rw [World.size_alloc] at hs3
      obtain ⟨A4, c4, w5, run4, hs5⟩ := Sat.append (P := Try.prog) (t := 28) (ty := 28) (d := 1) elt_pieces hs3.f3 (hs3.rdBlk (n := 1) (z := 3) rfl) (by intro u hu; simp at hu; rcases hu with rfl | rfl | rfl <;> rfl) (by unfold maxLen; omega) (by omega)
      have R4 := Lib.hid run4
      have hnew : Hid (∀ (i : Nat) (p : PR), (P ++ [⟨some ⟨wr.heap.size, 0, none⟩, 1, 1, be, false⟩])[i]? = some p → ∃ l, RB (Asn.blk wr.heap.size 5 #[.int .u8 b.toNat] * G) p.a p.n p.c l) := by
        intro i p hi
        by_cases hik : i < k
        · rw [List.getElem?_append_left (by omega)] at hi
          obtain ⟨l, hl⟩ := unhide HB i p hi
          exact ⟨l, hl.right⟩
        · rw [List.getElem?_append_right (by omega), hpl] at hi
          have hik0 : i = k := by
            have := (List.getElem?_eq_some_iff.1 hi).1
            simp at this; omega
          subst hik0
          simp at hi
          subst hi
          exact ⟨[b], rd_blkz (cs := #[.int .u8 b.toNat]) (n := 1) (z := 1) rfl, (fun h => by cases h), (show 1 ≤ 60000 by omega)⟩
      have hs6 := hs5.perm (show _ = Asn.blk (wr.heap.size + 1) 52 #[.slice (some ⟨wr.heap.size, 0, none⟩) 1 1, .bool be, .bool false] * (sl 52 3 A4 (k + 1) c4 (pieceC (P ++ [⟨some ⟨wr.heap.size, 0, none⟩, 1, 1, be, false⟩])) * ((Asn.blk wr.heap.size 5 #[.int .u8 b.toNat] * G) * F)) by rw [pieceC_append]; show sl _ _ _ _ _ (pieceC P ++ [_, _, _]) * _ = _; ac_rfl)
      have HS6 := hide hs6.right
      have hv2 := hv.symm
      have hbe2 := hbe.symm
      clear hs2 hs3 hs5 hs6 run4 hsr hb hv hbe hvb HB
      go_wp2_with (at_builtin; refine wpList_appendR rfl (.tmp 12) (.tmp 23) rfl rfl rfl R4.out ?_)
      go_roundw
      case rel => exact ⟨k + 1, c4, A4, _, _, rfl, by go_num, by omega, by rw [List.length_append, hpl]; rfl, hnew, unhide HS6⟩
      case measure => simp [intOf]; omega
    · obtain rfl : k = n := by omega
      have HFIN : Hid (PiecesP E F k (.returned (.slice A k c)) wr) := ⟨P, A, c, G, rfl, hpl, unhide HB, hsr⟩
      have hk0 : ¬ (k : Int) < k := by omega
      clear hsr hlt
      go_wp2_with fail
      go_ret
      exact unhide HFIN
theorem rd_objz {b : Nat} {t : TypeId} {cs : Array Value} {fr : Nat × Nat} {G : Asn} {n z : Nat} (hl : cs.size = n * z) : rd (Asn.obj b (.cells cs t fr) * G) z (some ⟨b, 0, none⟩) n cs.toList := by
  refine rd.left ?_
  intro h hh
  have hh : h = Hp.one b (.cells cs t fr) := hh
  subst hh
  refine ⟨by simpa using hl, fun _ => ⟨_, rfl, fun j u hu => ⟨cs, t, fr, ?_, ?_, ?_⟩⟩⟩
  · simp [Hp.one, block_of_add]
  · rw [add_lit']
  · rw [add_lit']
    simpa using hu
theorem two_of {H : List HR} (h : H.length = 2) : ∃ x y, H = [x, y] := by
  match H, h with
  | [x, y], _ => exact ⟨x, y, rfl⟩
set_option maxHeartbeats 2000000 in
set_option maxRecDepth 100000 in
theorem awake13 (E w : World) (F : Asn) (hs : Sat E w F) : Calls Try.prog 12 #[] w fun e w' => e = .returned (.bool true) ∧ Sat E w' F := by
  have hc1 := hide (sq_new E w F 5 hs (by omega) (by omega))
  have hconv := fun (w : World) (C : Array Value) (n c : Nat) => Lib.run_convert_bytes_const (P := Try.prog) w 22 5 C n c Try.underlying22 Try.underlying5
  clear hs
  go_enter Try.func12, Try.ntmps12
  go_wp2_with fail
  refine (unhide hc1).mono ?_
  rintro e w1 ⟨g, rfl, hs1⟩
  clear hc1
  obtain ⟨z, hz⟩ : ∃ z, z = w1.heap.size := ⟨_, rfl⟩
  have hs2 := hs1.allocO (.cells #[.int .u8 97] 5 (1, 2))
  have hs3 := hs2.alloc #[.slice (some ⟨w1.heap.size, 0, none⟩) 1 1, .bool false, .bool false, .slice none 0 0, .bool false, .bool true] 52
  rw [World.size_alloc, ← hz] at hs3
  have hs4 := hs3.perm (show _ = QAt g 5 0 0 [] [] none 0 none 0 * ((Asn.blk (z + 1) 52 #[.slice (some ⟨z, 0, none⟩) 1 1, .bool false, .bool false, .slice none 0 0, .bool false, .bool true] * Asn.obj z (.cells #[.int .u8 97] 5 (1, 2))) * F) by ac_rfl)
  have hadd := hide (sq_add (P := [⟨some ⟨z, 0, none⟩, 1, 1, false, false⟩, ⟨none, 0, 0, false, true⟩]) (pA := some ⟨z + 1, 0, none⟩) (pc := 2) hs4 (by omega) (by omega) (by simp) (by simp) (by simp) (rd_blkz (cs := #[.slice (some ⟨z, 0, none⟩) 1 1, .bool false, .bool false, .slice none 0 0, .bool false, .bool true]) (n := 2) (z := 3) rfl) (by
    intro i p hi
    match i, hi with
    | 0, hi => obtain rfl := Option.some.inj hi; exact ⟨[97], RB.right ⟨(rd_objz (cs := #[.int .u8 97]) (fr := (1, 2)) (n := 1) (z := 1) (G := 1) rfl).perm (sep_one _), (fun h => by cases h), (show 1 ≤ 60000 by omega)⟩⟩
    | 1, hi => obtain rfl := Option.some.inj hi; exact ⟨[], rd.nil _ _ _, (fun _ => rfl), (show 0 ≤ 60000 by omega)⟩))
  clear hs1 hs2 hs3 hs4
  go_wp2_with fail
  rw [← hz]
  clear hz
  refine (unhide hadd).mono ?_
  rintro e w2 ⟨rfl, G, H2, A2, c2, hl2, hnw, hs5⟩
  obtain ⟨x, y, rfl⟩ := two_of hl2
  have hx : x.k = false := (hnw 0 x _ rfl rfl).2
  have hy : y.k = false := (hnw 1 y _ rfl rfl).2
  have HXY := hide (show x.k = false ∧ y.k = false from ⟨hx, hy⟩)
  have hsd := hide (sq_send hs5 (by omega) (by omega) (by simp) (by omega))
  clear hs5 hadd hnw hx hy hl2
  go_wp2_with fail
  refine (unhide hsd).mono ?_
  rintro e w3 ⟨h1, -⟩
  obtain ⟨rfl, hs6⟩ := h1 (by simp)
  have hsd2 := hide (sq_send hs6 (by omega) (by omega) (by simp) (by omega))
  clear hs6 h1 hsd
  go_wp2_with fail
  refine (unhide hsd2).mono ?_
  rintro e w4 ⟨h1, -⟩
  obtain ⟨rfl, hs7⟩ := h1 (by simp)
  have hac := hide (sq_ack (i := 1) (h := y) hs7 (by omega) (by simp) (by omega) (by simp) (by simp) rfl (unhide HXY).2 (by omega))
  clear hs7 h1 hsd2
  go_wp2_with fail
  refine (unhide hac).mono ?_
  rintro e w5 ⟨rfl, A3, c3, d3, hs8⟩
  have hlk1 : lackN 0 (0 + 1 + 1) (ackAt ([] ++ [x, y]) 1) = [0] := by
    have e1 : ackAt ([] ++ [x, y]) 1 = [x, { y with k := true }] := rfl
    rw [e1]
    have h0 : lacksB 0 2 [x, { y with k := true }] ((0 : Nat) : Int) = true := by show (true && true && !x.k) = true; rw [(unhide HXY).1]; rfl
    have h1 : lacksB 0 2 [x, { y with k := true }] ((1 : Nat) : Int) = false := rfl
    show (List.range' 0 2).filter (fun (n : Nat) => lacksB 0 2 [x, { y with k := true }] n) = [0]
    simp only [List.range', List.filter_cons, List.filter_nil, h0, h1, if_true, if_false, Bool.false_eq_true, Nat.zero_add]
  rw [hlk1] at hs8
  have hs9 : Sat E w5 (QAt g 5 0 2 [x, { y with k := true }] [] A3 c3 none d3 * (G * ((Asn.blk (z + 1) 52 #[.slice (some ⟨z, 0, none⟩) 1 1, .bool false, .bool false, .slice none 0 0, .bool false, .bool true] * Asn.obj z (.cells #[.int .u8 97] 5 (1, 2))) * F))) := hs8
  have hlw := hide (sq_low hs9 (by omega))
  have hlk := sq_lacks (seq := 0) hs9 (by omega) (by simp) (by omega) (by simp) (by omega)
  rw [show lacksB 0 2 [x, { y with k := true }] 0 = true by show (true && true && !x.k) = true; rw [(unhide HXY).1]; rfl] at hlk
  have HLK := hide hlk
  clear hs8 hs9 hac hlk hlk1
  go_wp2_with (go_at_call 16; refine (unhide hlw).mono ?_; rintro e w' ⟨rfl, rfl⟩)
  refine (unhide HLK).mono ?_
  rintro e w6 ⟨rfl, hs10⟩
  have hac := hide (sq_ack (i := 0) (h := x) hs10 (by omega) (by simp) (by omega) (by simp) (by simp) rfl (unhide HXY).1 (by omega))
  clear hs10 HLK hlw
  go_wp2_with fail
  refine (unhide hac).mono ?_
  rintro e w7 ⟨rfl, A4, c4, d4, hs11⟩
  have hlk2 : lackN 0 2 (ackAt [x, { y with k := true }] 0) = [] := rfl
  rw [hlk2] at hs11
  have hs12 : Sat E w7 (QAt g 5 2 2 [] [] A4 c4 none d4 * (G * ((Asn.blk (z + 1) 52 #[.slice (some ⟨z, 0, none⟩) 1 1, .bool false, .bool false, .slice none 0 0, .bool false, .bool true] * Asn.obj z (.cells #[.int .u8 97] 5 (1, 2))) * F))) := hs11
  have hlw := hide (sq_low hs12 (by omega))
  have hto := hide (sq_total hs12 (by omega) (by omega) (by simp))
  have HS12 := hide hs12
  clear hs11 hs12 hac
  go_wp2_with (go_at_call 16; refine (unhide hlw).mono ?_; rintro e w' ⟨rfl, rfl⟩)
  refine (unhide hto).mono ?_
  rintro e w8 ⟨rfl, hbel⟩
  have HS13 := hide ((unhide HS12).under hbel).right.right.right
  clear hbel hto HS12
  go_wp2_with fail
  go_ret
  exact ⟨rfl, unhide HS13⟩
end Go.Proofs.Ytdfidijlconhnaa
