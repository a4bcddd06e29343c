/- Package slices over rows of numbers: Index, Contains, IndexFunc, DeleteFunc; the repeat row. -/
import Derived.Test.YtdfidijlconhnaaSqL
import Derived.Test.YtdfidijlconhnaaClone
import Derived.Lib.SliceRun
namespace Go.Proofs.Ytdfidijlconhnaa
open Go.RowKit Asn
def IdxP (L : List Int) (x : Int) (w : World) (e : Ending) (w' : World) : Prop := (∃ k : Int, e = .returned (.int .i64 k) ∧ (x ∈ L → 0 ≤ k) ∧ (x ∉ L → k = -1)) ∧ w = w'
def IdxF (L : List Int) (x : Int) (n : Nat) (w : World) (e : Ending) (w' : World) : Prop := (∃ k : Int, e = .returned (.int .i64 k) ∧ ((k = -1 ∧ x ∉ L) ∨ ∃ j : Nat, k = (j : Int) ∧ j < n ∧ (∀ i, i < j → L.getD i 0 ≠ x) ∧ L.getD j 0 = x)) ∧ w = w'
theorem index_ints (w : World) (A : Option Addr) (n c : Nat) (L : List Int) (x : Int) (hr : RdW w A n 1 (ints L)) (hn : n ≤ 65536) :
    Calls Try.prog 107 #[.slice A n c, .int .i64 x] w (IdxP L x w) := by
  have hl : L.length = n := by have := hr.1; rw [length_ints] at this; omega
  have HL := hide hl
  have HR := hide hr
  clear hl hr
  go_enter Try.func107, Try.ntmps107
  go_wp2_with fail
  go_loopw [5, 8] (fun _ i wr => ∃ k : Nat, i = .int .i64 k ∧ k ≤ n ∧ wr = w ∧ Hid (∀ j, j < k → L.getD j 0 ≠ x)) (fun _ i _ => n - (intOf i).toNat)
  case atStart => exact ⟨0, rfl, Nat.zero_le _, rfl, fun j hj => absurd hj (by omega)⟩
  case round =>
    obtain ⟨k, rfl, hk, rfl, HK⟩ := hrel
    by_cases hlt : k < n
    · obtain ⟨ad, rfl, hc⟩ := (unhide HR).int_at hlt
      obtain ⟨y, hy⟩ : ∃ y, y = L.getD k 0 := ⟨_, rfl⟩
      rw [← hy] at hc
      have HY := hide hy
      clear hy
      by_cases hx : x = y
      · subst hx
        have hm : Hid (x ∈ L) := by
          show _ ∈ _
          have hll := unhide HL
          rw [unhide HY, getD_lt (by omega)]
          exact List.getElem_mem _
        go_wp2_with fail
        go_ret
        exact ⟨⟨k, rfl, fun _ => by omega, fun h => absurd (unhide hm) h⟩, rfl⟩
      · go_wp2_with fail
        go_roundw
        case rel => exact ⟨k + 1, by go_num, by omega, (by first | rfl | trivial), fun j hj => by rcases Nat.lt_succ_iff_lt_or_eq.1 hj with h | h; exact HK.out j h; rw [h, ← unhide HY]; exact fun h => hx h.symm⟩
        case measure => simp [intOf]; omega
    · obtain rfl : k = n := by omega
      have hd : Hid (x ∉ L) := by
        intro hm
        obtain ⟨j, hj, rfl⟩ := List.getElem_of_mem hm
        have hll := unhide HL
        exact HK.out j (by omega) (getD_lt hj)
      go_wp2_with fail
      go_ret
      exact ⟨⟨-1, rfl, fun h => absurd h (unhide hd), fun _ => rfl⟩, rfl⟩
theorem contains_ints (w : World) (A : Option Addr) (n c : Nat) (L : List Int) (x : Int) (hr : RdW w A n 1 (ints L)) (hn : n ≤ 65536) :
    Calls Try.prog 94 #[.slice A n c, .int .i64 x] w fun e w' => e = .returned (.bool (decide (x ∈ L))) ∧ w = w' := by
  have hi := hide (index_ints w A n c L x hr hn)
  go_enter Try.func94, Try.ntmps94
  go_wp2_with fail
  refine (unhide hi).mono ?_
  rintro e w' ⟨⟨k, rfl, h1, h2⟩, rfl⟩
  by_cases hm : x ∈ L
  · have hk := h1 hm
    have hd : Hid (decide (x ∈ L) = true) := decide_eq_true hm
    clear h1 h2 hm
    go_wp2_with fail
    go_ret
    exact ⟨by rw [unhide hd]; simp [hk], rfl⟩
  · have hk := h2 hm
    have hd : Hid (decide (x ∈ L) = false) := decide_eq_false hm
    clear h1 h2 hm
    subst hk
    go_wp2_with fail
    go_ret
    exact ⟨by rw [unhide hd]; rfl, rfl⟩
/-- The closure of drop: is a number that one? -/
theorem dropf_call (w : World) (b : Nat) (x y : Int) (h : w.cell? ⟨b, 0, none⟩ = some (.int .i64 x)) : Calls Try.prog 92 #[.int .i64 y, .pointer (some ⟨b, 0, none⟩)] w fun e w' => e = .returned (.bool (y == x)) ∧ w = w' := by
  go_enter Try.func92, Try.ntmps92
  go_wp2_with fail
  go_ret
  exact ⟨rfl, rfl⟩
theorem indexf_ints (w : World) (A : Option Addr) (n c b : Nat) (L : List Int) (x : Int) (hr : RdW w A n 1 (ints L)) (hn : n ≤ 65536) (hb : w.cell? ⟨b, 0, none⟩ = some (.int .i64 x)) :
    Calls Try.prog 106 #[.slice A n c, .func (.func 92) #[] #[.pointer (some ⟨b, 0, none⟩)]] w (IdxF L x n w) := by
  have hl : L.length = n := by have := hr.1; rw [length_ints] at this; omega
  have HL := hide hl
  have HR := hide hr
  clear hl hr
  go_enter Try.func106, Try.ntmps106
  go_wp2_with fail
  go_loopw [5, 8] (fun _ i wr => ∃ k : Nat, i = .int .i64 k ∧ k ≤ n ∧ wr = w ∧ Hid (∀ j, j < k → L.getD j 0 ≠ x)) (fun _ i _ => n - (intOf i).toNat)
  case atStart => exact ⟨0, rfl, Nat.zero_le _, rfl, fun j hj => absurd hj (by omega)⟩
  case round =>
    obtain ⟨k, rfl, hk, rfl, HK⟩ := hrel
    by_cases hlt : k < n
    · obtain ⟨ad, rfl, hc⟩ := (unhide HR).int_at hlt
      obtain ⟨y, hy⟩ : ∃ y, y = L.getD k 0 := ⟨_, rfl⟩
      rw [← hy] at hc
      have HY := hide hy
      have hf := hide (dropf_call wr b x y hb)
      clear hy
      by_cases hx : y = x
      · subst hx
        go_wp2_with fail
        refine (unhide hf).mono ?_
        rintro e w' ⟨rfl, rfl⟩
        go_wp2_with fail
        go_ret
        exact ⟨⟨k, rfl, .inr ⟨k, rfl, hlt, HK.out, (unhide HY).symm⟩⟩, rfl⟩
      · go_wp2_with fail
        refine (unhide hf).mono ?_
        rintro e w' ⟨rfl, rfl⟩
        go_wp2_with fail
        go_roundw
        case rel => exact ⟨k + 1, by go_num, by omega, (by first | rfl | trivial), fun j hj => by rcases Nat.lt_succ_iff_lt_or_eq.1 hj with h | h; exact HK.out j h; rw [h, ← unhide HY]; exact hx⟩
        case measure => simp [intOf]; omega
    · obtain rfl : k = n := by omega
      have hd : Hid (x ∉ L) := by
        intro hm
        obtain ⟨j, hj, rfl⟩ := List.getElem_of_mem hm
        have hll := unhide HL
        exact HK.out j (by omega) (getD_lt hj)
      go_wp2_with fail
      go_ret
      exact ⟨⟨-1, rfl, .inl ⟨rfl, unhide hd⟩⟩, rfl⟩

section
variable {E w : World} {F : Asn} {e z n c b off : Nat} {A B : Option Addr} {xs : List Value}
/-- The rest of an owned slice: what is cut off in front is let go. -/
theorem Sat.slDrop {k : Nat} (h : Sat E w (sl e z A n c xs * F)) (hk : k ≤ n) (hB : B = if c = k then A else A.map (·.add (k * z))) : Sat E w (sl e z B (n - k) (c - k) (xs.drop (k * z)) * F) := by
  have hl := h.slLen
  rcases h.slOpen with ⟨rfl, rfl, rfl, rfl, hs⟩ | ⟨b, off, cells, rfl, hsz, hx, hs⟩
  · obtain rfl : k = 0 := by omega
    rw [if_pos rfl] at hB
    subst hB
    simpa using hs.slNil
  · have hlen : (xs.drop (k * z)).length = (n - k) * z := by rw [List.length_drop, hl.1, Nat.sub_mul]
    by_cases hck : c = k
    · rw [if_pos hck] at hB
      subst hB hck
      have hn : n = c := by omega
      subst hn
      refine hs.slMk hlen (Nat.le_refl _) (by omega) (by simp; have := Nat.zero_le (n * z); omega) fun j u hu => ?_
      have hnil : xs.drop (n * z) = [] := List.eq_nil_of_length_eq_zero (by rw [hlen]; simp)
      rw [hnil] at hu
      simp at hu
    · rw [if_neg hck] at hB
      have hB : B = some ⟨b, off + k * z, none⟩ := by rw [hB]; simp [add_lit']
      subst hB
      refine hs.slMk hlen (by omega) (by omega) ?_ fun j u hu => ?_
      · have : (c - k) * z + k * z = c * z := by rw [← Nat.add_mul]; congr 1; omega
        omega
      · rw [List.getElem?_drop] at hu
        rw [Nat.add_assoc]
        exact hx _ _ hu
/-- The front of an owned slice: the rest stays behind as room. -/
theorem Sat.slTake {k : Nat} (h : Sat E w (sl e z A n c xs * F)) (hk : k ≤ n) : Sat E w (sl e z A k c (xs.take (k * z)) * F) := by
  have hl := h.slLen
  rcases h.slOpen with ⟨rfl, rfl, rfl, rfl, hs⟩ | ⟨b, off, cells, rfl, hsz, hx, hs⟩
  · obtain rfl : k = 0 := by omega
    simpa using hs.slNil
  · have hkz : k * z ≤ n * z := Nat.mul_le_mul_right z hk
    refine hs.slMk (by rw [List.length_take, hl.1]; omega) (by omega) hl.2.2 hsz fun j u hu => ?_
    rw [List.getElem?_take] at hu
    split at hu
    · exact hx _ _ hu
    · cases hu
end
theorem setCells_sl {E : World} {F : Asn} {e n c b off : Nat} : ∀ (l : List Value) (k : Nat) (w : World) (xs : List Value), Sat E w (sl e 1 (some ⟨b, off, none⟩) n c xs * F) → k + l.length ≤ n →
    ∃ ys, ys.length = xs.length ∧ (∀ j, j < k → ys[j]? = xs[j]?) ∧ Sat E (w.setCells b (off + k) l) (sl e 1 (some ⟨b, off, none⟩) n c ys * F)
  | [], k, w, xs, h, _ => ⟨xs, rfl, fun _ _ => rfl, h⟩
  | v :: l, k, w, xs, h, hk => by
    rw [List.length_cons] at hk
    obtain ⟨ys, h1, h2, h3⟩ := setCells_sl l (k + 1) _ _ (h.slSet (i := k) (v := v) (by omega)) (by omega)
    refine ⟨ys, by rw [h1, List.length_set], fun j hj => ?_, h3⟩
    rw [h2 j (by omega), List.getElem?_set_ne (by omega)]
def DelP (E : World) (F : Asn) (A : Option Addr) (c : Nat) (L : List Int) (e : Ending) (w' : World) : Prop := e = .returned (.slice A L.length c) ∧ Sat E w' (sl 3 1 A L.length c (ints L) * F)
theorem take_snocI (L : List Int) {k : Nat} (h : k < L.length) : L.take (k + 1) = L.take k ++ [L.getD k 0] := by
  rw [List.take_succ_eq_append_getElem h]
  simp [List.getD, h]
set_option maxHeartbeats 2000000 in
set_option maxRecDepth 100000 in
theorem deletef_ints (E w : World) (F : Asn) (A : Option Addr) (n c b : Nat) (L : List Int) (x : Int) (hs : Sat E w (sl 3 1 A n c (ints L) * (Asn.blk b 3 #[.int .i64 x] * F))) (hn : n ≤ 65536) :
    Calls Try.prog 91 #[.slice A n c, .func (.func 92) #[] #[.pointer (some ⟨b, 0, none⟩)]] w (DelP E (Asn.blk b 3 #[.int .i64 x] * F) A c (L.filter fun y => decide (y ≠ x))) := by
  have hix := hide (indexf_ints w A n c b L x hs.slRd hn (hs.f2.cell 0))
  have hl : L.length = n := by have := hs.slLen.1; rw [length_ints] at this; omega
  have hcap := hs.slLen.2
  have HL := hide hl
  have HS := hide hs
  clear hs
  go_enter Try.func91, Try.ntmps91
  go_wp2_with fail
  refine (unhide hix).mono ?_
  rintro e w' ⟨⟨k, rfl, hk⟩, rfl⟩
  rcases hk with ⟨rfl, hno⟩ | ⟨k0, rfl, hk0, hb, hhit⟩
  · have hfil : L.filter (fun y => decide (y ≠ x)) = L := List.filter_eq_self.2 fun y hy => decide_eq_true fun h => hno (h ▸ hy)
    have HFIN : Hid (DelP E (Asn.blk b 3 #[.int .i64 x] * F) A c (L.filter fun y => decide (y ≠ x)) (.returned (.slice A n c)) w) := by
      rw [hfil]
      show _ ∧ _
      rw [hl]
      exact ⟨rfl, unhide HS⟩
    clear hno hfil hix
    go_wp2_with fail
    go_ret
    exact unhide HFIN
  · obtain ⟨gb, off, rfl⟩ : ∃ gb off, A = some ⟨gb, off, none⟩ := by
      rcases (unhide HS).slOpen with ⟨_, h0, _⟩ | ⟨gb, off, _, hA, _⟩
      · omega
      · exact ⟨gb, off, hA⟩
    have hne : ((k0 : Int) == -1) = false := beq_eq_false_iff_ne.2 (by omega)
    have hfil0 : (L.take (k0 + 1)).filter (fun y => decide (y ≠ x)) = L.take k0 := by
      rw [take_snocI L (by omega), List.filter_append, hhit]
      have : (L.take k0).filter (fun y => decide (y ≠ x)) = L.take k0 := List.filter_eq_self.2 fun y hy => by
        obtain ⟨j, hj, rfl⟩ := List.getElem_of_mem hy
        rw [List.length_take] at hj
        have := hb j (by omega)
        rw [getD_lt (by omega)] at this
        rw [List.getElem_take]
        exact decide_eq_true this
      rw [this]; simp
    have H0 := hide hfil0
    clear hfil0 hb hhit hix
    go_wp2_with fail
    go_loopw [5, 6, 7] (fun s5 s6 _ wr => ∃ (i j : Nat) (dk : List Int), s5 = .int .i64 i ∧ s6 = .int .i64 j ∧ i < j ∧ j ≤ n ∧ dk.length = n ∧ Hid (dk.take i = (L.take j).filter (fun y => decide (y ≠ x)) ∧ dk.drop j = L.drop j) ∧ Sat E wr (sl 3 1 (some ⟨gb, off, none⟩) n c (ints dk) * (Asn.blk b 3 #[.int .i64 x] * F))) (fun _ s6 _ _ => n - (intOf s6).toNat)
    case atStart => exact ⟨k0, k0 + 1, L, rfl, by go_num, by omega, by omega, hl, hide ⟨H0.out.symm, rfl⟩, unhide HS⟩
    case round =>
      obtain ⟨i, j, dk, rfl, rfl, hij, hjn, hdl, HD, hsr⟩ := hrel
      clear HS H0
      have f1 : wr.frozen? ⟨gb, off + i, none⟩ = false := hsr.slFro _
      have f2 : gb < wr.heap.size := hsr.slIn
      by_cases hlt : j < n
      · obtain ⟨ad, had, hcj⟩ := hsr.slRd.int_at hlt
        obtain ⟨ad2, had2, hci⟩ := hsr.slRd.int_at (show i < n by omega)
        obtain rfl : ad = ⟨gb, off, none⟩ := by simpa using had.symm
        obtain rfl : ad2 = ⟨gb, off, none⟩ := by simpa using had2.symm
        rw [add_lit'] at hci hcj
        have hjv : dk.getD j 0 = L.getD j 0 := by
          have h := congrArg (fun l => l.getD 0 0) HD.out.2
          simpa [List.getD, List.getElem?_drop] using h
        rw [hjv] at hcj
        have hsn := take_snocI L (k := j) (by omega)
        obtain ⟨y, hy⟩ : ∃ y, y = L.getD j 0 := ⟨_, rfl⟩
        obtain ⟨old, ho⟩ : ∃ y, y = dk.getD i 0 := ⟨_, rfl⟩
        rw [← hy] at hcj hsn
        rw [← ho] at hci
        have hf := hide (dropf_call wr b x y (hsr.f2.cell 0))
        have hdd : Hid (dk.drop (j + 1) = L.drop (j + 1)) := by
          have h := congrArg (List.drop 1) HD.out.2
          rw [List.drop_drop, List.drop_drop] at h
          exact h
        by_cases hx : y = x
        · have HN : Hid (dk.take i = (L.take (j + 1)).filter (fun y => decide (y ≠ x))) := by
            show _ = _
            rw [hsn, List.filter_append, ← HD.out.1, hx]
            simp
          subst hx
          have HS := hide hsr
          clear hy ho hsr hsn hjv had had2 HD
          go_wp2_with fail
          refine (unhide hf).mono ?_
          rintro e w' ⟨rfl, rfl⟩
          go_wp2_with fail
          go_roundw
          case rel => exact ⟨i, j + 1, dk, rfl, by go_num, by omega, by omega, hdl, hide ⟨HN.out, hdd.out⟩, unhide HS⟩
          case measure => simp [intOf]; omega
        · have HN : Hid ((dk.set i y).take (i + 1) = (L.take (j + 1)).filter (fun y => decide (y ≠ x)) ∧ (dk.set i y).drop (j + 1) = L.drop (j + 1)) := by
            refine ⟨?_, ?_⟩
            · rw [hsn, List.filter_append, ← HD.out.1, take_snocI _ (by rw [List.length_set]; omega)]
              rw [List.take_set_of_le (Nat.le_refl _)]
              rw [show (dk.set i y).getD i 0 = y by rw [getD_lt (by rw [List.length_set]; omega)]; simp, show [y].filter (fun y => decide (y ≠ x)) = [y] by simp [hx]]
            · rw [List.drop_set_of_lt (by omega)]
              exact hdd.out
          have hxb : (y == x) = false := beq_eq_false_iff_ne.2 hx
          have hs2 := hsr.slSet (i := i) (v := .int .i64 y) (by omega)
          have e2 : (ints dk).set i (.int .i64 y) = ints (dk.set i y) := by unfold ints; rw [List.map_set]
          rw [e2] at hs2
          have HS := hide hs2
          clear hy ho hsr hsn hjv had had2 HD hs2 e2
          go_wp2_with fail
          refine (unhide hf).mono ?_
          rintro e w' ⟨rfl, rfl⟩
          go_wp2_with fail
          go_roundw
          case rel => exact ⟨i + 1, j + 1, dk.set i y, by go_num, by go_num, by omega, by omega, by rw [List.length_set]; exact hdl, hide HN.out, unhide HS⟩
          case measure => simp [intOf]; omega
      · obtain rfl : j = n := by omega
        have hfin : dk.take i = L.filter (fun y => decide (y ≠ x)) := by
          rw [HD.out.1, List.take_of_length_le (by omega)]
        have hcl : ∀ ty, (Builtin.clear_ #[34] ty #[.slice (some ⟨gb, off + i, none⟩) (j - i) (c - i)]).run Try.prog wr = .ok (.tuple #[]) (wr.setCells gb (off + i) (List.replicate (j - i) (.int .i64 0))) :=
          fun ty => Lib.run_clear_slice wr _ _ ty _ Try.underlying34 (fun w => by kernel_rfl) rfl rfl gb (off + i) _ _ (by omega) (fun t ht => by
            obtain ⟨ad, had, hcj⟩ := hsr.slRd.int_at (show i + t < j by omega)
            obtain rfl : ad = ⟨gb, off, none⟩ := by simpa using had.symm
            rw [add_lit', ← Nat.add_assoc] at hcj
            rw [hcj]; rfl) (fun t ht => hsr.slFro _)
        obtain ⟨ys, hy1, hy2, hs2⟩ := setCells_sl (List.replicate (j - i) (.int .i64 0)) i wr (ints dk) hsr (by simp; omega)
        have hs3 := hs2.slTake (k := i) (by omega)
        have hyt : ys.take (i * 1) = ints (L.filter (fun y => decide (y ≠ x))) := by
          rw [← hfin, ← ints_take]
          refine List.ext_getElem? fun t => ?_
          rw [List.getElem?_take, List.getElem?_take]
          by_cases ht : t < i
          · rw [if_pos (by omega), if_pos ht, hy2 t ht]
          · rw [if_neg (by omega), if_neg ht]
        rw [hyt] at hs3
        have hil : i = (L.filter (fun y => decide (y ≠ x))).length := by rw [← hfin, List.length_take]; omega
        have hci : ¬ c = i := by omega
        have HFIN : Hid (DelP E (Asn.blk b 3 #[.int .i64 x] * F) (some ⟨gb, off, none⟩) c (L.filter fun y => decide (y ≠ x)) (.returned (.slice (some ⟨gb, off, none⟩) i c)) (wr.setCells gb (off + i) (List.replicate (j - i) (.int .i64 0)))) := by
          show _ ∧ _
          rw [← hil]
          exact ⟨rfl, hs3⟩
        clear hs2 hs3 hyt hil hfin HD hsr hy1 hy2
        go_wp2_with fail
        go_ret
        exact unhide HFIN
section
variable {E w : World} {F : Asn} {g i : Nat} {row : List Int} {t : TypeId} {cs : Array Value}
/-- drop, of a row in a block's cell i. -/
theorem row_drop {A : Option Addr} {c : Nat} (x : Int) (hs : Sat E w (Asn.blk g t cs * (sl 3 1 A row.length c (ints row) * F))) (hi : cs[i]? = some (.slice A row.length c)) (hn : row.length ≤ 65536) :
    Calls Try.prog 59 #[.pointer (some ⟨g, i, none⟩), .int .i64 x] w fun e w' => e = .returned (.tuple #[]) ∧ Sat E w' (Asn.blk g t (cs.setIfInBounds i (.slice A (row.filter fun y => decide (y ≠ x)).length c)) * (sl 3 1 A (row.filter fun y => decide (y ≠ x)).length c (ints (row.filter fun y => decide (y ≠ x))) * F)) := by
  have hs2 := hs.alloc #[.int .i64 x] 3
  have f1 : w.cell? ⟨g, i, none⟩ = some (.slice A row.length c) := by rw [hs.cell]; exact hi
  have hg : g < w.heap.size := Sat.lt (o := .cells _ _ (0, 0)) hs
  have hd := hide (deletef_ints E _ _ A row.length c _ row x (hs2.f3.perm (show _ = sl 3 1 A row.length c (ints row) * (Asn.blk w.heap.size 3 #[.int .i64 x] * (Asn.blk g t cs * F)) by ac_rfl)) hn)
  obtain ⟨R2, hR2⟩ : ∃ R, R = row.filter fun y => decide (y ≠ x) := ⟨_, rfl⟩
  rw [← hR2] at hd ⊢
  clear hs hs2 hR2
  go_enter Try.func59, Try.ntmps59
  go_wp2_with fail
  refine (unhide hd).mono ?_
  rintro e w2 ⟨rfl, hs3⟩
  have f2 : w2.cell? ⟨g, i, none⟩ = some (.slice A row.length c) := by rw [hs3.f3.cell]; exact hi
  have f3 : w2.frozen? ⟨g, i, none⟩ = false := hs3.f3.frozen i
  have f4 : g < w2.heap.size := Sat.lt (o := .cells _ _ (0, 0)) hs3.f3
  have HS := hide ((hs3.f3.set i (.slice A R2.length c)).perm (show _ = Asn.blk w.heap.size 3 #[.int .i64 x] * (Asn.blk g t (cs.setIfInBounds i (.slice A R2.length c)) * (sl 3 1 A R2.length c (ints R2) * F)) by ac_rfl)).right
  clear hs3 hd
  go_wp2_with fail
  go_end0
  exact ⟨rfl, unhide HS⟩
theorem row_has {A : Option Addr} {c : Nat} (x : Int) (hs : Sat E w (Asn.blk g t cs * (sl 3 1 A row.length c (ints row) * F))) (hi : cs[i]? = some (.slice A row.length c)) (hn : row.length ≤ 65536) :
    Calls Try.prog 63 #[.pointer (some ⟨g, i, none⟩), .int .i64 x] w fun e w' => e = .returned (.bool (decide (x ∈ row))) ∧ w = w' := by
  have f1 : w.cell? ⟨g, i, none⟩ = some (.slice A row.length c) := by rw [hs.cell]; exact hi
  have hg : g < w.heap.size := Sat.lt (o := .cells _ _ (0, 0)) hs
  have hd := hide (contains_ints w A row.length c row x hs.right.slRd hn)
  clear hs
  go_enter Try.func63, Try.ntmps63
  go_wp2_with fail
  refine (unhide hd).mono ?_
  rintro e w2 ⟨rfl, rfl⟩
  go_wp2_with fail
  go_ret
  exact ⟨rfl, rfl⟩
theorem row_push {A : Option Addr} {c : Nat} (x : Int) (hs : Sat E w (Asn.blk g t cs * (sl 3 1 A row.length c (ints row) * F))) (hi : cs[i]? = some (.slice A row.length c)) (hn : row.length ≤ 65535) :
    Calls Try.prog 64 #[.pointer (some ⟨g, i, none⟩), .int .i64 x] w fun e w' => e = .returned (.tuple #[]) ∧ ∃ A2 c2, Sat E w' (Asn.blk g t (cs.setIfInBounds i (.slice A2 (row ++ [x]).length c2)) * (sl 3 1 A2 (row ++ [x]).length c2 (ints (row ++ [x])) * F)) := by
  have f1 : w.cell? ⟨g, i, none⟩ = some (.slice A row.length c) := by rw [hs.cell]; exact hi
  have hg : g < w.heap.size := Sat.lt (o := .cells _ _ (0, 0)) hs
  obtain ⟨A4, c4, w5, run4, hs5⟩ := Sat.app1 (t := 34) (ty := 34) hs.f2 elt_ints (.int .i64 x) rfl (by unfold maxLen; omega) (by omega)
  have e4 : ints row ++ [.int .i64 x] = ints (row ++ [x]) := by rw [ints_append]; rfl
  have e5 : row.length + 1 = (row ++ [x]).length := by simp
  rw [e4, e5] at hs5
  rw [e5] at run4
  obtain ⟨q, hq⟩ : ∃ q, q = (row ++ [x]).length := ⟨_, rfl⟩
  have HQ := hide hq
  rw [← hq] at hs5 run4 ⊢
  have f2 : w5.cell? ⟨g, i, none⟩ = some (.slice A row.length c) := by rw [hs5.f2.cell]; exact hi
  have f3 : w5.frozen? ⟨g, i, none⟩ = false := hs5.f2.frozen i
  have f4 : g < w5.heap.size := Sat.lt (o := .cells _ _ (0, 0)) hs5.f2
  have HS := hide (hs5.f2.set i (.slice A4 q c4))
  have R4 := Lib.hid run4
  clear hs hs5 run4 hq e4 e5
  go_enter Try.func64, Try.ntmps64
  go_wp2_with (at_builtin; refine wpList_appendR rfl (.tmp 8) (.tmp 10) rfl rfl rfl R4.out ?_)
  go_end0
  exact ⟨rfl, A4, c4, unhide HS⟩
/-- pop, of a row that has none. -/
theorem row_pop0 {A : Option Addr} {c : Nat} (hs : Sat E w (Asn.blk g t cs * F)) (hi : cs[i]? = some (.slice A 0 c)) :
    Calls Try.prog 65 #[.pointer (some ⟨g, i, none⟩)] w fun e w' => e = .returned (.tuple #[.int .i64 0, .bool false]) ∧ w = w' := by
  have f1 : w.cell? ⟨g, i, none⟩ = some (.slice A 0 c) := by rw [hs.cell]; exact hi
  clear hs
  go_enter Try.func65, Try.ntmps65
  go_wp2_with fail
  go_ret2
  exact ⟨rfl, rfl⟩
theorem row_pop {A : Option Addr} {c : Nat} {x : Int} {l : List Int} (hs : Sat E w (Asn.blk g t cs * (sl 3 1 A (l.length + 1) c (ints (x :: l)) * F))) (hi : cs[i]? = some (.slice A (l.length + 1) c)) (hn : l.length ≤ 65535) :
    Calls Try.prog 65 #[.pointer (some ⟨g, i, none⟩)] w fun e w' => e = .returned (.tuple #[.int .i64 x, .bool true]) ∧ ∃ A2, Sat E w' (Asn.blk g t (cs.setIfInBounds i (.slice A2 l.length (c - 1))) * (sl 3 1 A2 l.length (c - 1) (ints l) * F)) := by
  have f1 : w.cell? ⟨g, i, none⟩ = some (.slice A (l.length + 1) c) := by rw [hs.cell]; exact hi
  have hg : g < w.heap.size := Sat.lt (o := .cells _ _ (0, 0)) hs
  have hcap := hs.f2.slLen.2
  obtain ⟨ad, rfl, hc⟩ := (hs.f2.slRd).int_at (show 0 < l.length + 1 by omega)
  have hc0 : w.cell? (ad.add 0) = some (.int .i64 x) := hc
  have e0 : ad.add 0 = ad := by unfold Addr.add; simp
  rw [e0] at hc0
  obtain ⟨B, hB⟩ : ∃ B, B = if c = 1 then some ad else (some ad : Option Addr).map (·.add (1 * 1)) := ⟨_, rfl⟩
  have hs2 := hs.f2.slDrop (k := 1) (by omega) hB
  have e1 : (ints (x :: l)).drop (1 * 1) = ints l := rfl
  have e2 : l.length + 1 - 1 = l.length := by omega
  rw [e1, e2] at hs2
  have f3 : w.frozen? ⟨g, i, none⟩ = false := hs.frozen i
  obtain ⟨q, hq⟩ : ∃ q, q = l.length := ⟨_, rfl⟩
  rw [← hq] at f1 hs2 hcap hn ⊢
  obtain ⟨d, hd⟩ : ∃ d, d = c - 1 := ⟨_, rfl⟩
  rw [← hd] at hs2 ⊢
  have hcm := hcap.2
  unfold maxLen at hcm
  have HS := hide (hs2.f2.set i (.slice B q d))
  clear hs hs2 hc e0 e1 e2 hq
  by_cases hc1 : c = 1
  · rw [if_pos hc1] at hB
    obtain rfl : d = 0 := by omega
    clear hd
    subst hB
    go_enter Try.func65, Try.ntmps65
    go_wp2_with fail
    go_ret2
    exact ⟨rfl, _, unhide HS⟩
  · rw [if_neg hc1] at hB
    subst hB hd
    go_enter Try.func65, Try.ntmps65
    go_wp2_with fail
    go_ret2
    exact ⟨rfl, _, unhide HS⟩
end
end Go.Proofs.Ytdfidijlconhnaa
