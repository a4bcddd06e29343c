/- DrawsKeep: a shuffled row has just what the row had; the row stays; where there is no source. -/
import Derived.Test.YtpcoehbjbjfggaaShufS
import Derived.Test.YtpcoehbjbjfggaaDrawsRuns
namespace Go.Proofs.Ytpcoehbjbjfggaa
open Go.RowKit Asn

theorem swp_perm (l : List Value) (a b : Nat) (ha : a < l.length) (hb : b < l.length) : (swp l a b).Perm l := by
  have h := @List.set_set_perm Value l a b ha hb
  unfold swp
  simpa [List.getD, List.getElem?_eq_getElem ha, List.getElem?_eq_getElem hb] using h
theorem shufL_perm (s : Int) : ∀ (k : Nat) (i : Int) (l : List Value), k ≤ l.length - 1 → k ≤ 1000000 → (shufL s k i l).Perm l
  | 0, _, l, _, _ => .refl l
  | k + 1, i, l, hk, hm => by
    have hb := bw_lt s i (k + 2) (by omega) (by omega)
    rw [shufL]
    exact (shufL_perm s k (i + 1) _ (by rw [swp_len]; omega) (by omega)).trans (swp_perm l _ _ (by omega) (by omega))
theorem shufL_len (s : Int) (k : Nat) (i : Int) (l : List Value) : (shufL s k i l).length = l.length := by
  induction k generalizing i l with
  | zero => rfl
  | succ k ih => rw [shufL, ih, swp_len]

/-- Is it this text? -/
def isStr (u : List UInt8) : Value → Bool
  | .string b => b.data.toList == u
  | _ => false
/-- How often, of the first k. -/
def cnt (u : List UInt8) (l : List Value) (k : Nat) : Nat := (l.take k).countP (isStr u)
theorem cnt_succ {u p : List UInt8} {l : List Value} {k : Nat} (h : l[k]? = some (.string ⟨p.toArray⟩)) : cnt u l (k + 1) = cnt u l k + if (p == u) = true then 1 else 0 := by
  unfold cnt
  rw [List.take_add_one, h, List.countP_append]
  simp [isStr, List.countP_cons]
theorem cnt_all {u : List UInt8} {l m : List Value} (h : l.Perm m) {n : Nat} (hl : l.length = n) : cnt u l n = cnt u m n := by
  have hm : m.length = n := by rw [← h.length_eq]; exact hl
  unfold cnt
  rw [List.take_of_length_le (by omega), List.take_of_length_le (by omega)]
  exact h.countP_eq _
theorem cnt_le {u : List UInt8} {l : List Value} {k : Nat} : cnt u l k ≤ k := by
  unfold cnt
  have := List.countP_le_length (p := isStr u) (l := l.take k)
  rw [List.length_take] at this
  omega

theorem rd_drewN {E w : World} {G : Asn} {A : Option Addr} {n j : Nat} {xs : List Value} {v : Value} (h : rd G 1 A n xs) (hs : Sat E w G) (hj : xs[j]? = some v) :
    ∃ ad, A = some ad ∧ w.cell? (ad.add j) = some v ∧ ∀ m, (w.drewN m).cell? (ad.add j) = some v := by
  obtain ⟨ad, rfl, h0⟩ := (RdW.of_rd h hs).at_ hj
  refine ⟨ad, rfl, h0, fun m => ?_⟩
  obtain ⟨ad', h1, h2⟩ := (RdW.of_rd h (hs.drewN m)).at_ hj
  obtain rfl : ad = ad' := by simpa using h1
  exact h2

set_option maxRecDepth 100000 in
theorem shuf_nil (E w : World) (F : Asn) (n c : Nat) (A : Option Addr) (xs : List Value) (hs : Sat E w F) (hr : rd F 1 A n xs) (h1 : ∀ u ∈ xs, u.oneCell' = true) (hc : A = none → c = 0) (hn : n ≤ 1000) :
    Calls Try.prog 32 #[.pointer none, .slice A n c] w fun e w' => ∃ A' c', e = .returned (.slice A' n c') ∧ Sat E w' (sl 3 1 A' n c' xs * F) := by
  go_enter Try.func32, Try.ntmps32
  go_wp2_with fail
  refine (clone_ints E w _ A n c xs hs hr h1 hc (by omega)).mono ?_
  rintro e w1 ⟨A', c', rfl, hs1⟩
  have HS := hide hs1
  clear hs1 hs
  go_wp2_with (go_at_call 82; refine (src_nil _).mono ?_; rintro e w' ⟨rfl, rfl⟩)
  go_ret
  exact ⟨A', c', rfl, unhide HS⟩

set_option maxHeartbeats 2000000 in
set_option maxRecDepth 100000 in
theorem drawsKeep_walk (W : World) (A : Option Addr) (n0 c : Nat) (s : Int) (ls : List (List UInt8)) (hx : RdW W A n0 1 (ls.map fun l => Value.string ⟨l.toArray⟩)) (hA : A = none → c = 0) (hnc : n0 ≤ c) (hn : n0 ≤ 9223372036854775807) :
    Calls Try.prog 6 #[.int .u64 s, .slice A n0 c] W fun e w' => e = .returned (.bool true) ∧ Below W.heap.size W w' := by
  obtain ⟨n, hnn, hn40⟩ : ∃ n, n = min n0 40 ∧ n ≤ 40 := ⟨_, rfl, by omega⟩
  have hmin : min (n0 : Int) 40 = (n : Int) := by omega
  have hx2 : RdW W A n 1 ((ls.take n).map fun l => Value.string ⟨l.toArray⟩) := by
    have := hx.take (k := n) (by omega)
    simpa [List.map_take] using this
  generalize ls.take n = ls at hx2
  have hnle : n ≤ n0 := by omega
  obtain ⟨xs, hxs⟩ : ∃ xs, xs = ls.map fun l => Value.string ⟨l.toArray⟩ := ⟨_, rfl⟩
  rw [← hxs] at hx2
  have hK : ∀ u ∈ xs, ∃ l : List UInt8, u = Value.string ⟨l.toArray⟩ := by
    rw [hxs]
    intro u hu
    obtain ⟨l, _, rfl⟩ := List.mem_map.1 hu
    exact ⟨l, rfl⟩
  have hlen : xs.length = n := by have := hx2.1; omega
  clear hxs hx
  go_enter Try.func6, Try.ntmps6
  go_upto_region 1 with (fail)
  go_cut [1] (fun s1 wx => s1 = .slice A n c ∧ W = wx)
  case first =>
    by_cases h40 : 40 < n0
    · obtain rfl : n = 40 := by omega
      clear hmin hnn
      go_wp2_with fail
      go_meet
      exact ⟨rfl, rfl⟩
    · obtain rfl : n0 = n := by omega
      clear hmin hnn
      go_wp2_with fail
      go_meet
      exact ⟨rfl, rfl⟩
  case rest =>
    obtain ⟨rfl, rfl⟩ := hcut
    clear hmin hnn
    have hs0 := (Sat.start W).alloc #[.int .u64 s, .int .i64 0, .bool true] 65
    have h0' := Sat.slMk (n := 0) (c := 0) (z := 1) (xs := []) (off := 0) (hs0.alloc #[] 9) (by simp) (Nat.le_refl _) (Nat.zero_le _) (by simp) (by intro j u hu; simp at hu)
    have hrx : rd (Asn.exact W) 1 A n xs := RdW.exact hx2
    obtain ⟨A1, c1, w1, r1, hs2⟩ := Sat.append (P := Try.prog) (t := 62) (ty := 62) (d := c) elt_strs h0' (RdW.of_rd hrx h0'.right.right) (fun u hu => by obtain ⟨x, rfl⟩ := hK u hu; rfl) (by unfold maxLen; omega) (by omega)
    rw [Nat.zero_add] at r1 hs2
    rw [List.nil_append] at hs2
    simp only [World.size_alloc] at r1
    have R1 := Lib.hid r1
    clear r1 h0' hs0
    go_wp2_with (first
      | (go_at_call 23; refine (new_src _ _).mono ?_; rintro e w' ⟨rfl, rfl⟩)
      | (at_builtin; refine wpList_appendR rfl (.tmp 23) (.tmp 24) rfl rfl rfl R1.out ?_))
    have hsK := hide hK
    refine (shuf_strs W w1 _ W.heap.size n c s 0 A xs hs2.f2 hrx.right hK hA (by omega) (by omega) (by omega)).mono ?_
    rintro e w2 ⟨A2, c2, rfl, hs3⟩
    have hperm := shufL_perm s (n - 1) 0 xs (by omega) (by omega)
    have hyl : (shufL s (n - 1) 0 xs).length = n := by rw [shufL_len]; exact hlen
    generalize shufL s (n - 1) 0 xs = ys at hs3 hperm hyl
    have hKy : ∀ u ∈ ys, ∃ l : List UInt8, u = Value.string ⟨l.toArray⟩ := fun u hu => hK u (hperm.mem_iff.1 hu)
    have k1 : w2.cell? ⟨W.heap.size, 1, none⟩ = some (.int .i64 (0 + (n - 1 : Nat))) := hs3.f2.cell 1
    have k2 : w2.cell? ⟨W.heap.size, 2, none⟩ = some (.bool true) := hs3.f2.cell 2
    have hmax : max (0 : Int) ((n : Int) - 1) = 0 + (n - 1 : Nat) := by omega
    have HPERM := hide hperm
    have HK := hide hK
    have HKY := hide hKy
    clear hs2 hperm hK hKy hsK
    go_upto_region 7 with (fail)
    go_cut [42] (fun t wx => t = .bool false ∧ w2 = wx)
    case first =>
      go_wp2_with (go_at_call 35; refine (src_count _ _ _ k1 k2).mono ?_; rintro e w' ⟨rfl, rfl⟩)
      all_goals go_meet
      all_goals exact ⟨by congr 1; simp; omega, rfl⟩
    case rest =>
      obtain ⟨rfl, rfl⟩ := hcut
      have hs4 : Sat W w2 (sl 9 1 A2 n c2 ys * (sl 9 1 A1 n c1 xs * ((SrcAt W.heap.size s (0 + (n - 1 : Nat))) * Asn.exact W))) := hs3.perm (by ac_rfl)
      have r0 : rd (sl 9 1 A2 n c2 ys * (sl 9 1 A1 n c1 xs * ((SrcAt W.heap.size s (0 + (n - 1 : Nat))) * Asn.exact W))) 1 A n xs := hrx.right.right.right
      have r1 : rd (sl 9 1 A2 n c2 ys * (sl 9 1 A1 n c1 xs * ((SrcAt W.heap.size s (0 + (n - 1 : Nat))) * Asn.exact W))) 1 A1 n xs := rd_sl.left.right
      have r2 : rd (sl 9 1 A2 n c2 ys * (sl 9 1 A1 n c1 xs * ((SrcAt W.heap.size s (0 + (n - 1 : Nat))) * Asn.exact W))) 1 A2 n ys := rd_sl.left
      generalize hG : sl 9 1 A2 n c2 ys * (sl 9 1 A1 n c1 xs * ((SrcAt W.heap.size s (0 + (n - 1 : Nat))) * Asn.exact W)) = G at hs4 r0 r1 r2
      have HG := hide hG
      clear hs3 hG k1 k2 hmax
      go_wp2_with fail
      go_loopw [8, 9, 10, 11] (fun s8 _ _ _ wr => ∃ k : Nat, s8 = .int .i64 k ∧ k ≤ n ∧ Sat W wr G) (fun s8 _ _ _ _ => n - (intOf s8).toNat)
      case atStart => exact ⟨0, rfl, Nat.zero_le _, hs4⟩
      case round =>
        obtain ⟨k, rfl, hk, hsr⟩ := hrel
        clear hs4
        by_cases hlt : k < n
        · have hkx : k < xs.length := by omega
          have hu : xs[k]? = some xs[k] := List.getElem?_eq_getElem hkx
          generalize xs[k] = u at hu
          obtain ⟨u, rfl⟩ := HK.out u (List.mem_of_getElem? hu)
          have HU := Lib.hid hu
          go_upto_block 2 with (fail)
          go_cut [9, 10] (fun s9 s10 wx => ∃ a : Nat, a ≤ n ∧ s9 = .int .i64 a ∧ s10 = .int .i64 a ∧ Sat W wx G)
          case first =>
            go_wp2_with fail
            go_loopw [9, 10, 11] (fun s9 s10 s11 wr => ∃ j : Nat, s11 = .int .i64 j ∧ j ≤ n ∧ s9 = .int .i64 (cnt u xs j) ∧ s10 = .int .i64 (cnt u ys j) ∧ Sat W wr G) (fun _ _ s11 _ => n - (intOf s11).toNat)
            case atStart => exact ⟨0, rfl, Nat.zero_le _, rfl, rfl, hsr⟩
            case round =>
              obtain ⟨j, rfl, hj, rfl, rfl, hsj⟩ := hrel
              clear hsr
              obtain ⟨ca, hca⟩ : ∃ ca, ca = cnt u xs j := ⟨_, rfl⟩
              obtain ⟨cb, hcb⟩ : ∃ cb, cb = cnt u ys j := ⟨_, rfl⟩
              have hca1 : ca ≤ j := hca ▸ cnt_le
              have hcb1 : cb ≤ j := hcb ▸ cnt_le
              rw [← hca, ← hcb]
              have HCA := Lib.hid hca
              have HCB := Lib.hid hcb
              clear hca hcb
              by_cases hj2 : j < n
              · have hjx : j < xs.length := by omega
                have hp : xs[j]? = some xs[j] := List.getElem?_eq_getElem hjx
                generalize xs[j] = p at hp
                obtain ⟨p, rfl⟩ := HK.out p (List.mem_of_getElem? hp)
                have hjy : j < ys.length := by omega
                have ht : ys[j]? = some ys[j] := List.getElem?_eq_getElem hjy
                generalize ys[j] = t at ht
                obtain ⟨t, rfl⟩ := HKY.out t (List.mem_of_getElem? ht)
                obtain ⟨ad, rfl, e1, e1m⟩ := rd_drewN r0 hsj hp
                obtain ⟨ad', h, e2, e2m⟩ := rd_drewN r0 hsj HU.out
                obtain rfl : ad = ad' := by simpa using h
                obtain ⟨bd, rfl, e3, e3m⟩ := rd_drewN r2 hsj ht
                have HP := Lib.hid hp
                have HT := Lib.hid ht
                clear hp ht h
                obtain ⟨b1, hb1⟩ : ∃ b, (p == u) = b := ⟨_, rfl⟩
                obtain ⟨b2, hb2⟩ : ∃ b, (t == u) = b := ⟨_, rfl⟩
                cases b1
                all_goals cases b2
                all_goals
                  have HB1 := Lib.hid hb1
                  have HB2 := Lib.hid hb2
                  go_wp2_with fail
                  go_quiet (fail)
                  go_wp2_with fail
                  go_quiet (fail)
                  go_wp2_with fail
                  go_roundw
                  case rel =>
                    refine ⟨j + 1, by go_num, by omega, ?_, ?_, hsj.drewN _⟩
                    · rw [cnt_succ HP.out, HB1.out, ← HCA.out]; simp
                    · rw [cnt_succ HT.out, HB2.out, ← HCB.out]; simp
                  case measure => simp [intOf]; omega
              · obtain rfl : j = n := by omega
                have hcc : cb = ca := by
                  rw [HCA.out, HCB.out]
                  exact cnt_all HPERM.out hyl
                subst hcc
                go_wp2_with fail
                go_meet
                exact ⟨cb, by omega, rfl, rfl, hsj⟩
          case rest =>
            obtain ⟨a, ha, rfl, rfl, hs5⟩ := hcut
            clear hsr
            obtain ⟨ad, rfl, e1, e1m⟩ := rd_drewN r0 hs5 HU.out
            obtain ⟨bd, rfl, e2, e2m⟩ := rd_drewN r1 hs5 HU.out
            have haa : ((a : Int) != a) = false := by simp
            have huu : (u == u) = true := by simp
            clear hu
            go_wp2_with fail
            go_quiet (fail)
            go_wp2_with fail
            go_roundw
            case rel => exact ⟨k + 1, by go_num, by omega, hs5.drewN _⟩
            case measure => simp [intOf]; omega
        · have hints : ∀ u ∈ (List.range 5).map (fun j : Nat => Value.int .i64 j), ∃ x, u = Value.int .i64 x := by
            intro u hu
            obtain ⟨j, _, rfl⟩ := List.mem_map.1 hu
            exact ⟨_, rfl⟩
          generalize hzs : (List.range 5).map (fun j : Nat => Value.int .i64 j) = zs at hints
          have HZ := hide hzs
          clear hzs r0 r1 r2
          go_wp2_with fail
          refine (row05 W wr G 5 hsr (by omega)).mono ?_
          rintro e w3 ⟨A3, c3, rfl, hs6⟩
          rw [HZ.out] at hs6
          clear hsr
          have HC := hide (shuf_nil W w3 _ 5 c3 A3 zs hs6 rd_sl.left (fun u hu => by obtain ⟨x, rfl⟩ := hints u hu; rfl) hs6.slNone (by omega))
          clear hs6
          go_wp2_with fail
          refine (unhide HC).mono ?_
          rintro e w4 ⟨A4, c4, rfl, hs7⟩
          clear HC
          go_wp2_with fail
          refine (row05 W w4 _ 5 hs7 (by omega)).mono ?_
          rintro e w5 ⟨A5, c5, rfl, hs8⟩
          rw [HZ.out] at hs8
          clear hs7
          go_wp2_with fail
          refine (sameInts W w5 _ A4 A5 5 c4 c5 zs hs8 rd_sl.left.right rd_sl.left hints (by omega)).mono ?_
          rintro e w6 ⟨rfl, hs9⟩
          clear hs8
          go_wp2_with fail
          refine (src_none_next W w6 _ none hs9 (fun w _ => src_nil w)).mono ?_
          rintro e w7 ⟨rfl, hs10⟩
          clear hs9
          have HS10 := hide hs10
          go_wp2_with (first
            | (go_at_call 28; refine (src_none_below _ _ _ (hide (src_nil _))).mono ?_; rintro e w' ⟨rfl, rfl⟩)
            | (go_at_call 35; refine (src_none_count _ _ (hide (src_nil _))).mono ?_; rintro e w' ⟨rfl, rfl⟩)
            | (go_at_call 33; refine (src_none_fork _ _ (hide (src_nil _))).mono ?_; rintro e w' ⟨rfl, rfl⟩))
          have hs11 := HS10.out.alloc #[.int .u64 0, .int .i64 0, .bool false] 65
          refine (src_none_next W _ _ (some ⟨w7.heap.size, 0, none⟩) hs11 (fun w h => src_none w w7.heap.size false (h.cell 2))).mono ?_
          rintro e w8 ⟨rfl, hs12⟩
          clear hs11 hs10
          go_wp2_with fail
          refine (awake05 W w8 _ hs12).mono ?_
          rintro e w9 ⟨rfl, hs13⟩
          have hfin : Sat W w9 (sl 9 1 A2 n c2 ys * (sl 9 1 A1 n c1 xs * ((SrcAt W.heap.size s (0 + (n - 1 : Nat))) * Asn.exact W))) := by
            rw [HG.out]
            exact hs13.right.right.right.right
          have hbel := hide (Sat.below (F := 1) (hfin.right.right.right.perm (sep_one _).symm))
          clear hs12 hs13 hfin
          go_wp2_with fail
          go_ret
          exact ⟨rfl, unhide hbel⟩
end Go.Proofs.Ytpcoehbjbjfggaa
