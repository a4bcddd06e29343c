/- The program's join: whole and Add where the parts' bytes are only read; Reset, Fork, and Add of one that was forked. -/
import Derived.Test.YtdfidijlconhnaaJoinAll
namespace Go.Proofs.Ytdfidijlconhnaa
open Go.RowKit Asn

set_option maxRecDepth 100000 in
theorem whole_rd (E w : World) (F : Asn) (g o n c : Nat) (m b : Int) (A : Option Addr) (rs : List (Option Addr × Nat × List UInt8)) (ho : (rs.map (·.2.2)).flatten.length = o) (hj : o ≤ 65536) (hne : ∀ r ∈ rs, r.2.2 ≠ [])
    (hs : Sat E w (Asn.blk g 166 #[.int .i64 o, .int .i64 m, .int .i64 b, .slice A n c, .bool true] * (sl 22 1 A n c (heads rs) * F))) (hrows : ∀ r ∈ rs, rd F 1 r.1 r.2.2.length (bytes r.2.2)) :
    Calls Try.prog 111 #[.pointer (some ⟨g, 0, none⟩)] w fun e w' => ∃ A' c', e = .returned (.slice A' o c') ∧
      Sat E w' (bsl A' o c' (rs.map (·.2.2)).flatten * (Asn.blk g 166 #[.int .i64 0, .int .i64 m, .int .i64 b, .slice none 0 0, .bool true] * F)) := by
  have h0 : w.cell? ⟨g, 0, none⟩ = some (.int .i64 o) := hs.cell 0
  have h3 : w.cell? ⟨g, 3, none⟩ = some (.slice A n c) := hs.cell 3
  have hg : g < w.heap.size := hs.lt
  have hmk := fun W : World => run_makeN elt_bytes .i64 .i64 o o (Nat.le_refl _) (by omega) (by omega) W
  have hn63 : n ≤ 9223372036854775807 := by have := hs.f2.slLen; unfold maxLen at this; omega
  have hrl : rs.length = n := by have := hs.f2.slLen.1; simpa [heads] using this
  have HJ := Lib.hid hj
  have HL := Lib.hid hrl
  have HO := Lib.hid ho
  have HE := Lib.hid hne
  have HR := Lib.hid hrows
  clear hj hne ho hrl hrows
  go_enter Try.func111, Try.ntmps111
  go_wp2_with fail
  go_loopw [4, 18] (fun at_ i wr => ∃ k q : Nat, k ≤ n ∧ i = .int .i64 k ∧ at_ = .int .i64 q ∧ Hid (q = ((rs.map (·.2.2)).take k).flatten.length) ∧
      ∃ zs, Sat E wr (sl 5 1 (some ⟨w.heap.size, 0, none⟩) o o (bytes ((rs.map (·.2.2)).take k).flatten ++ zs) *
        (Asn.blk g 166 #[.int .i64 o, .int .i64 m, .int .i64 b, .slice A n c, .bool true] * (sl 22 1 A n c (heads rs) * F))))
    (fun _ i _ => n - (intOf i).toNat)
  case atStart =>
    refine ⟨0, 0, Nat.zero_le _, rfl, rfl, rfl, (made (.int .u8 0) o).toList, ?_⟩
    refine Sat.slMk (hs.alloc (made (.int .u8 0) o) 5) ?_ (Nat.le_refl _) (by have := HJ.out; unfold maxLen; omega) (by rw [size_made]; omega) fun i u hu => ?_
    · simp [bytes, size_made]
    · simpa [bytes] using hu
  case round =>
    obtain ⟨k, q, hk, rfl, rfl, HQ, zs, hsr⟩ := hrel
    by_cases hlt : k < n
    · have hrl := HL.out
      have hrk : rs[k]? = some rs[k] := List.getElem?_eq_getElem (by omega)
      generalize rs[k] = r at hrk
      obtain ⟨rA, rc, p⟩ := r
      have hpk : (rs.map (·.2.2))[k]? = some p := by rw [List.getElem?_map, hrk]; rfl
      have hle := flat_take_lt _ k p hpk
      rw [HO.out, ← HQ.out] at hle
      have hpos : 0 < p.length := List.length_pos_iff.2 (HE.out _ (List.mem_of_getElem? hrk))
      obtain ⟨ab, ao, rfl, hab, hac, haf⟩ := hsr.f3.slAt (by omega)
      have hck : wr.cell? ⟨ab, ao + k, none⟩ = some (.slice rA p.length rc) := hac k _ (by simp [heads, hrk])
      have hrd : RdW wr rA p.length 1 (bytes p) := RdW.of_rd (HR.out _ (List.mem_of_getElem? hrk)) hsr.right.right.right
      have HRK := Lib.hid hrk
      have HPK := Lib.hid hpk
      have HOO := Lib.hid HO.out
      clear hrk hpk
      have ho64 : o ≤ 65536 := HJ.out
      obtain ⟨w1, hrun, hs1⟩ := Sat.copy1 (P := Try.prog) (dT := 22) (sT := 22) (ty := 3) (k := q) (q := o - q) (D := some ⟨w.heap.size, q, none⟩) (cap := o - q) (d := rc) elt_bytes hsr hrd oneCell_bytes hle (by simp [add_lit']) (by omega)
      go_wp2_with fail
      go_roundw
      case rel =>
        refine ⟨k + 1, q + p.length, by omega, by go_num, by go_num, ?_, zs.drop p.length, ?_⟩
        · show q + p.length = _
          rw [flat_take_succ _ k p HPK.out, List.length_append, ← HQ.out]
        · rw [fill_step _ k q p zs HPK.out HQ.out] at hs1
          exact hs1
      case measure => simp [intOf]; omega
    · obtain rfl : k = n := by omega
      have e0 : wr.cell? ⟨g, 0, none⟩ = some (.int .i64 o) := hsr.f2.cell 0
      have e3 : wr.cell? ⟨g, 3, none⟩ = some (.slice A k c) := hsr.f2.cell 3
      have f0 : wr.frozen? ⟨g, 0, none⟩ = false := hsr.f2.frozen 0
      have f3 : wr.frozen? ⟨g, 3, none⟩ = false := hsr.f2.frozen 3
      go_wp2_with fail
      go_ret
      refine ⟨_, _, rfl, ?_⟩
      have hq : q = o := by rw [HQ.out, ← HO.out, List.take_of_length_le (by rw [List.length_map, HL.out]; exact Nat.le_refl _)]
      have hfin := ((hsr.f2.set 3 (.slice none 0 0)).set 0 (.int .i64 0)).f2
      rw [List.take_of_length_le (by rw [List.length_map, HL.out]; exact Nat.le_refl _)] at hfin
      have hz : zs = [] := by
        have := hfin.slLen.1
        rw [List.length_append] at this
        have hb : (bytes (List.map (fun x => x.2.2) rs).flatten).length = o := by unfold bytes; rw [List.length_map, HO.out]
        rw [hb] at this
        exact List.eq_nil_of_length_eq_zero (by omega)
      rw [hz, List.append_nil] at hfin
      exact hfin.f3.right

theorem push_rd (E w : World) (F : Asn) (g n d k c o : Nat) (m b : Int) (A B : Option Addr) (rs : List (Option Addr × Nat × List UInt8)) (p : List UInt8) (hr : RdW w B n 1 (bytes p)) (h1 : o + n ≤ 65536) (hk : rs.length = k) (hrn : k ≤ 65536)
    (hs : Sat E w (Asn.blk g 166 #[.int .i64 o, .int .i64 m, .int .i64 b, .slice A k c, .bool true] * (sl 22 1 A k c (heads rs) * F))) :
    ∃ w1 A2 c2 w2,
      (Builtin.copy_ #[22, 22] 3 #[.slice (some ⟨w.heap.size, 0, none⟩) n n, .slice B n d]).run Try.prog (w.alloc (.cells (made (.int .u8 0) n) 5)) = .ok (goInt n) w1 ∧
      w1.cell? ⟨g, 3, none⟩ = some (.slice A k c) ∧
      (Builtin.append_ #[67, 67] 67 #[.slice A k c, .slice (some ⟨w1.heap.size, 0, none⟩) 1 1]).run Try.prog (w1.alloc (.cells #[.slice (some ⟨w.heap.size, 0, none⟩) n n] 22)) = .ok (.slice A2 (k + 1) c2) w2 ∧
      (w2.cell? ⟨g, 3, none⟩ = some (.slice A k c) ∧ w2.cell? ⟨g, 0, none⟩ = some (.int .i64 o) ∧ w2.frozen? ⟨g, 3, none⟩ = false ∧ w2.frozen? ⟨g, 0, none⟩ = false) ∧
      Sat E ((w2.setCell ⟨g, 3, none⟩ (.slice A2 (k + 1) c2)).setCell ⟨g, 0, none⟩ (.int .i64 (o + n)))
        (Asn.blk g 166 #[.int .i64 (o + n : Nat), .int .i64 m, .int .i64 b, .slice A2 (k + 1) c2, .bool true] * (sl 22 1 A2 (k + 1) c2 (heads (rs ++ [(some ⟨w.heap.size, 0, none⟩, n, p)])) * (sl 5 1 (some ⟨w.heap.size, 0, none⟩) n n (bytes p) * F))) := by
  have hp : p.length = n := by have := hr.1; simpa [bytes] using this
  have hk3 := hs.f2.slLen
  have hs1 := hs.makeSl (.int .u8 0) rfl 5 n (by unfold maxLen; omega)
  have hr1 : RdW (w.alloc (.cells (made (.int .u8 0) n) 5)) B n 1 (bytes p) := hr.below ((Below.refl _ _).alloc (Nat.le_refl _) _)
  obtain ⟨w1, hrun1, hs2⟩ := Sat.copy1 (P := Try.prog) (dT := 22) (sT := 22) (ty := 3) (k := 0) (q := n) (D := some ⟨w.heap.size, 0, none⟩) (cap := n) (d := d) elt_bytes hs1 hr1 oneCell_bytes (by omega) rfl (Nat.le_refl _)
  rw [List.take_zero, List.nil_append, Nat.zero_add, List.drop_of_length_le (by simp), List.append_nil] at hs2
  have hs3 := (hs2.f3).alloc #[.slice (some ⟨w.heap.size, 0, none⟩) n n] 22
  have hrd := RdW.new w1 #[.slice (some ⟨w.heap.size, 0, none⟩) n n] 22 1 1 rfl
  obtain ⟨A2, c2, w2, hrun2, hs4⟩ := Sat.append (P := Try.prog) (t := 67) (ty := 67) (d := 1) elt_rows (hs3.right) hrd (by intro u hu; simp at hu; subst hu; rfl) (by unfold maxLen; omega) (by omega)
  have hb4 := hs4.f3
  refine ⟨w1, A2, c2, w2, hrun1, hs2.f2.cell 3, hrun2, ⟨hb4.cell 3, hb4.cell 0, hb4.frozen 3, hb4.frozen 0⟩, ?_⟩
  have hx := (hb4.set 3 (.slice A2 (k + 1) c2)).set 0 (.int .i64 (o + n))
  have h2 : heads (rs ++ [(some ⟨w.heap.size, 0, none⟩, n, p)]) = heads rs ++ [.slice (some ⟨w.heap.size, 0, none⟩) n n] := by simp [heads, hp]
  rw [h2]
  refine hx.perm ?_
  show Asn.blk g _ _ * _ = Asn.blk g _ _ * _
  ac_rfl

theorem heads_app {rs : List (Option Addr × Nat × List UInt8)} {r : Option Addr × Nat × List UInt8} : heads (rs ++ [r]) = heads rs ++ heads [r] := by simp [heads]

set_option maxRecDepth 100000 in
/-- Add to one whose parts' bytes others hold: what was there stays. -/
theorem add_shared (E w : World) (F : Asn) (g n d k c o : Nat) (m b : Int) (A B : Option Addr) (rs : List (Option Addr × Nat × List UInt8)) (p : List UInt8) (hr : RdW w B n 1 (bytes p)) (h0 : 0 < n) (ho : (rs.map (·.2.2)).flatten.length = o) (hk : rs.length = k) (hj : o ≤ 65536) (hn : n ≤ 9223372036854775807) (hne : ∀ r ∈ rs, r.2.2 ≠ [])
    (hs : Sat E w (Asn.blk g 166 #[.int .i64 o, .int .i64 m, .int .i64 b, .slice A k c, .bool true] * (sl 22 1 A k c (heads rs) * F))) (hrows : ∀ r ∈ rs, rd F 1 r.1 r.2.2.length (bytes r.2.2)) :
    Calls Try.prog 101 #[.pointer (some ⟨g, 0, none⟩), .slice B n d, .bool true] w fun e w' => ∃ a1 a2 a3 Y, e = .returned (.tuple #[a1, a2, a3]) ∧ Sat E w' (Y * F) := by
  by_cases h1 : 65536 < o + n
  · refine (add_long w g o d n m b _ B true hs.blk hj h0 h1 hn).mono fun e w' ⟨he, hw⟩ => ?_
    subst hw
    exact ⟨_, _, _, _, he, hs.perm (by rw [sep_assoc])⟩
  · have hp : p.length = n := by have := hr.1; simpa [bytes] using this
    have HB := Lib.hid hs.blk
    have hrn : k ≤ 65536 := by
      have := rows_le hne
      rw [ho, hk] at this
      omega
    have hmk := fun W : World => run_makeN elt_bytes .i64 .i64 n n (Nat.le_refl _) (by omega) (by omega) W
    obtain ⟨w1, A2, c2, w2, hrun1, c3, hrun2, ⟨d3, d0, e3, e0⟩, hx⟩ := push_rd E w F g n d k c o m b A B rs p hr (by omega) hk hrn hs
    have hfl : ((rs ++ [((some ⟨w.heap.size, 0, none⟩, n, p) : Option Addr × Nat × List UInt8)]).map (fun r => r.2.2)).flatten = (rs.map (·.2.2)).flatten ++ p := by simp
    have hwh := whole_rd E _ _ g (o + n) (k + 1) c2 m b A2 _ (by rw [hfl, List.length_append, ho, hp]) (by omega) (by
      intro r hr
      rcases List.mem_append.1 hr with h | h
      · exact hne r h
      · obtain rfl := List.mem_singleton.1 h
        exact List.length_pos_iff.1 (by show 0 < p.length; rw [hp]; exact h0)) hx (by
      intro r hr
      rcases List.mem_append.1 hr with h | h
      · exact (hrows r h).right
      · obtain rfl := List.mem_singleton.1 h
        show rd _ 1 (some ⟨w.heap.size, 0, none⟩) p.length (bytes p)
        rw [hp]
        exact (rd_sl (e := 5) (c := n)).left)
    rw [hfl] at hwh
    clear hx hs hr hrows hne hk ho hfl
    have HW := hide hwh
    have HA := Lib.hid hrun2
    clear hwh hrun2
    go_enter Try.func101, Try.ntmps101
    go_wp2_with (first
      | (at_builtin; refine wpList_appendR rfl (.tmp 34) (.tmp 36) rfl rfl rfl HA.out ?_)
      | (go_at_call 103; refine (none_blk _ _ _ _ _ _ _ HB.out).mono ?_; rintro e w' ⟨rfl, rfl⟩)
      | (go_at_call 110; refine (fits_yes _ _ _ _ _ _ _ HB.out (by omega) (by omega)).mono ?_; rintro e w' ⟨rfl, rfl⟩))
    refine (unhide HW).mono ?_
    rintro e w3 ⟨A3, c3', rfl, hs3⟩
    have g1 : w3.cell? ⟨g, 1, none⟩ = some (.int .i64 m) := hs3.f2.cell 1
    have g2 : w3.cell? ⟨g, 2, none⟩ = some (.int .i64 b) := hs3.f2.cell 2
    have i1 : w3.frozen? ⟨g, 1, none⟩ = false := hs3.f2.frozen 1
    have i2 : w3.frozen? ⟨g, 2, none⟩ = false := hs3.f2.frozen 2
    go_wp2_with fail
    go_ret3
    have hy := (hs3.f2.set 1 (.int .i64 (wrap64 (m + 1)))).set 2 (.int .i64 (wrap64 (b + (o + n : Nat))))
    exact ⟨_, _, _, _, rfl, hy.perm (by simp only [← sep_assoc]; rfl)⟩

set_option maxRecDepth 100000 in
/-- Fork: another header, another row of heads; the parts' bytes are shared. -/
theorem fork_join (E w : World) (F : Asn) (g : Nat) (j : JoinM) (hs : Sat E w (JoinAt g j * F)) :
    Calls Try.prog 88 #[.pointer (some ⟨g, 0, none⟩)] w fun e w' => ∃ (k : Nat) (A A2 : Option Addr) (n c c2 : Nat) (rs : List (Option Addr × Nat × List UInt8)), e = .returned (.pointer (some ⟨k, 0, none⟩)) ∧
      rs.map (·.2.2) = j.parts ∧ rs.length = n ∧ j.open_ ≤ 65536 ∧ (∀ r ∈ rs, r.2.2 ≠ []) ∧
      Sat E w' (Asn.blk g 166 #[.int .i64 j.open_, .int .i64 j.msgs, .int .i64 j.bytes, .slice A n c, .bool true] * (sl 22 1 A n c (heads rs) *
        (Asn.blk k 166 #[.int .i64 j.open_, .int .i64 j.msgs, .int .i64 j.bytes, .slice A2 n c2, .bool true] * (sl 22 1 A2 n c2 (heads rs) * (tails rs * F))))) := by
  obtain ⟨A, n, c, rs, hrs, ho, hne, hk, hs⟩ := hs.joinOpen
  have hk6 : n ≤ 65536 := by
    have := rows_le hne
    rw [hrs, hk] at this
    have h2 : n ≤ j.open_ := this
    omega
  have HB := Lib.hid hs.blk
  have h0 : w.cell? ⟨g, 0, none⟩ = some (.int .i64 j.open_) := hs.cell 0
  have h1 : w.cell? ⟨g, 1, none⟩ = some (.int .i64 j.msgs) := hs.cell 1
  have h2 : w.cell? ⟨g, 2, none⟩ = some (.int .i64 j.bytes) := hs.cell 2
  have h3 : w.cell? ⟨g, 3, none⟩ = some (.slice A n c) := hs.cell 3
  have h4 : w.cell? ⟨g, 4, none⟩ = some (.bool true) := hs.cell 4
  have hg : g < w.heap.size := hs.lt
  have hs1 := hs.alloc #[.int .i64 j.open_, .int .i64 j.msgs, .int .i64 j.bytes, .slice A n c, .bool true] 166
  obtain ⟨A4, c4, w4, run4, hs4⟩ := Sat.append (P := Try.prog) (t := 67) (ty := 67) (d := c) (e := 22) (z := 1) elt_rows hs1.slNil (Sat.slRd (F := _) hs1.f3) (by intro u hu; obtain ⟨r, _, rfl⟩ := List.mem_map.1 hu; rfl) (by unfold maxLen; omega) (by omega)
  rw [Nat.zero_add, List.nil_append] at hs4
  rw [Nat.zero_add] at run4
  have R4 := Lib.hid run4
  have d3 : w4.frozen? ⟨w.heap.size, 3, none⟩ = false := hs4.f2.frozen 3
  have d4 : w4.cell? ⟨w.heap.size, 3, none⟩ = some (.slice A n c) := hs4.f2.cell 3
  have hs5 := hide (hs4.f2.set 3 (.slice A4 n c4))
  clear run4 hs1 hs4 hs
  go_enter Try.func88, Try.ntmps88
  go_wp2_with (first
    | (at_builtin; refine wpList_appendR rfl (.const (.slice none 0 0)) (.tmp 12) rfl rfl rfl R4.out ?_)
    | (go_at_call 103; refine (none_blk _ _ _ _ _ _ _ HB.out).mono ?_; rintro e w' ⟨rfl, rfl⟩))
  go_ret
  exact ⟨_, A, A4, n, c, c4, rs, rfl, hrs, hk, ho, hne, (show Sat E _ (Asn.blk w.heap.size 166 #[.int .i64 j.open_, .int .i64 j.msgs, .int .i64 j.bytes, .slice A4 n c4, .bool true] * _) from unhide hs5).perm (by ac_rfl)⟩
theorem rd_tails {rs : List (Option Addr × Nat × List UInt8)} {r : Option Addr × Nat × List UInt8} {F : Asn} (h : r ∈ rs) : rd (tails rs * F) 1 r.1 r.2.2.length (bytes r.2.2) := by
  obtain ⟨i, hi, rfl⟩ := List.mem_iff_getElem.1 h
  obtain ⟨R, hR⟩ := tails_at (List.getElem?_eq_getElem hi)
  rw [hR, sep_assoc]
  exact rd_bsl
/-- Fork, and an ended message added to the first: the other is as it was. -/
theorem joinMk' {E w : World} {F : Asn} {g n c : Nat} {j : JoinM} {A : Option Addr} {rs : List (Option Addr × Nat × List UInt8)} (hrs : rs.map (·.2.2) = j.parts) (hj : j.open_ ≤ 65536) (hne : ∀ r ∈ rs, r.2.2 ≠ [])
    (h : Sat E w (Asn.blk g 166 #[.int .i64 j.open_, .int .i64 j.msgs, .int .i64 j.bytes, .slice A n c, .bool true] * (sl 22 1 A n c (heads rs) * (tails rs * F)))) : Sat E w (JoinAt g j * F) := by
  have := Sat.joinMk (m := j.msgs) (b := j.bytes) (o := j.open_) (by rw [hrs]; rfl) hj hne h
  rwa [hrs] at this
end Go.Proofs.Ytdfidijlconhnaa
