/- The program's queue of pieces: what its functions do to one that is owned. -/
import Derived.Test.YtdfidijlconhnaaProg
import Derived.Test.YtdfidijlconhnaaRS
import Derived.Test.YtdfidijlconhnaaElt
import Derived.Test.YtdfidijlconhnaaReg
import Derived.Deep.DeepCutAuto
namespace Go.Proofs.Ytdfidijlconhnaa
open Go.RowKit Asn

/-- A piece that is held: its bytes' slice, its two marks, whether it was acknowledged. -/
structure HR where
  a : Option Addr
  n : Nat
  c : Nat
  e : Bool
  f : Bool
  k : Bool
def heldC : List HR → List Value
  | [] => []
  | h :: l => .slice h.a h.n h.c :: .bool h.e :: .bool h.f :: .bool h.k :: heldC l
theorem heldC_len : ∀ H, (heldC H).length = H.length * 4
  | [] => rfl
  | h :: l => by unfold heldC; simp only [List.length_cons, heldC_len l]; omega
theorem heldC_append : ∀ H K, heldC (H ++ K) = heldC H ++ heldC K
  | [], K => rfl
  | h :: l, K => by simp only [List.cons_append, heldC, heldC_append l K]
theorem heldC_at : ∀ (H : List HR) (i : Nat) (h : HR), H[i]? = some h → (heldC H)[i * 4]? = some (.slice h.a h.n h.c) ∧ (heldC H)[i * 4 + 1]? = some (.bool h.e) ∧ (heldC H)[i * 4 + 2]? = some (.bool h.f) ∧ (heldC H)[i * 4 + 3]? = some (.bool h.k)
  | [], i, h, e => by simp at e
  | x :: l, 0, h, e => by
    obtain rfl : x = h := by simpa using e
    exact ⟨rfl, rfl, rfl, rfl⟩
  | x :: l, i + 1, h, e => by
    have := heldC_at l i h (by simpa using e)
    rw [show (i + 1) * 4 = i * 4 + 4 by omega]
    exact this
theorem heldC_drop : ∀ (H : List HR) (i : Nat), (heldC H).drop (i * 4) = heldC (H.drop i)
  | [], i => by simp [heldC]
  | x :: l, 0 => rfl
  | x :: l, i + 1 => by rw [show (i + 1) * 4 = i * 4 + 4 by omega]; exact heldC_drop l i
theorem heldC_one {H : List HR} : ∀ u ∈ heldC H, u.oneCell' = true := by
  induction H with
  | nil => intro u hu; simp [heldC] at hu
  | cons h l ih =>
    intro u hu
    simp only [heldC, List.mem_cons] at hu
    rcases hu with rfl | rfl | rfl | rfl | hu
    · rfl
    · rfl
    · rfl
    · rfl
    · exact ih u hu
/-- One of them acknowledged. -/
def ackAt (H : List HR) (i : Nat) : List HR := match H[i]? with | none => H | some h => H.set i { h with k := true }
theorem heldC_ack : ∀ (H : List HR) (i : Nat), i < H.length → (heldC H).set (i * 4 + 3) (.bool true) = heldC (ackAt H i)
  | [], i, h => by simp at h
  | x :: l, 0, h => rfl
  | x :: l, i + 1, h => by
    have := heldC_ack l i (by simpa using h)
    rw [show (i + 1) * 4 + 3 = i * 4 + 3 + 4 by omega]
    have e : ackAt (x :: l) (i + 1) = x :: ackAt l i := by
      unfold ackAt
      rw [List.getElem?_cons_succ]
      split <;> rfl
    rw [e]
    show _ = .slice x.a x.n x.c :: .bool x.e :: .bool x.f :: .bool x.k :: heldC (ackAt l i)
    rw [← this]
    rfl
def queueC (most low next : Nat) (A : Option Addr) (hn c : Nat) (B : Option Addr) (rn d : Nat) : Array Value := #[.int .i64 most, .int .i64 low, .int .i64 next, .slice A hn c, .slice B rn d]
/-- A queue that is owned: what it holds from low on, its repeat row. -/
def QAt (g most low next : Nat) (H : List HR) (row : List Int) (A : Option Addr) (c : Nat) (B : Option Addr) (d : Nat) : Asn :=
  Asn.blk g 65 (queueC most low next A H.length c B row.length d) * (sl 124 4 A H.length c (heldC H) * sl 3 1 B row.length d (ints row))
theorem sq_none (w : World) (g : Nat) (most : Int) (h : w.cell? ⟨g, 0, none⟩ = some (.int .i64 most)) : Calls Try.prog 57 #[.pointer (some ⟨g, 0, none⟩)] w fun e w' => e = .returned (.bool (most == 0)) ∧ w = w' := by
  go_enter Try.func57, Try.ntmps57
  go_wp2_with fail
  go_ret
  exact ⟨rfl, rfl⟩
theorem sq_nil (w : World) : Calls Try.prog 57 #[.pointer none] w fun e w' => e = .returned (.bool true) ∧ w = w' := by
  go_enter Try.func57, Try.ntmps57
  go_wp2_with fail
  go_ret
  exact ⟨rfl, rfl⟩
theorem sq_new (E w : World) (F : Asn) (most : Nat) (hs : Sat E w F) (h1 : 1 ≤ most) (h2 : most ≤ 4096) :
    Calls Try.prog 9 #[.int .i64 most] w fun e w' => ∃ g, e = .returned (.tuple #[.pointer (some ⟨g, 0, none⟩), .int .i64 0]) ∧ Sat E w' (QAt g most 0 0 [] [] none 0 none 0 * F) := by
  have hs2 := (hs.slNil (e := 3) (z := 1)).slNil (e := 124) (z := 4) |>.alloc (queueC most 0 0 none 0 0 none 0 0) 65
  have HS := hide (hs2.perm (show _ = QAt w.heap.size most 0 0 [] [] none 0 none 0 * F by unfold QAt; simp only [heldC, ints, List.map_nil, List.length_nil]; ac_rfl))
  clear hs hs2
  go_enter Try.func9, Try.ntmps9
  go_wp2_with fail
  go_ret2
  exact ⟨_, rfl, unhide HS⟩
theorem sq_new_no (w : World) (most : Int) (h : ¬ (1 ≤ most ∧ most ≤ 4096)) : Calls Try.prog 9 #[.int .i64 most] w fun e w' => e = .returned (.tuple #[.pointer none, .int .i64 130]) ∧ w = w' := by
  go_enter Try.func9, Try.ntmps9
  go_wp2_with fail
  all_goals first
    | (exfalso; omega)
    | (go_ret2; exact ⟨rfl, rfl⟩)
section
variable {E w : World} {F : Asn} {g most low next : Nat} {H : List HR} {row : List Int} {A B : Option Addr} {c d : Nat}
theorem sq_is (hs : Sat E w (QAt g most low next H row A c B d * F)) (h1 : 1 ≤ most) : Calls Try.prog 57 #[.pointer (some ⟨g, 0, none⟩)] w fun e w' => e = .returned (.bool false) ∧ w = w' :=
  (sq_none w g most (hs.asc.cell 0)).mono fun e w' ⟨he, hw⟩ => ⟨by rw [he]; congr 2; simp; omega, hw⟩
theorem sq_low (hs : Sat E w (QAt g most low next H row A c B d * F)) (h1 : 1 ≤ most) : Calls Try.prog 16 #[.pointer (some ⟨g, 0, none⟩)] w fun e w' => e = .returned (.int .i64 low) ∧ w = w' := by
  have hno := hide (sq_is hs h1)
  have c1 : w.cell? ⟨g, 1, none⟩ = some (.int .i64 low) := hs.asc.cell 1
  clear hs
  go_enter Try.func16, Try.ntmps16
  go_wp2_with (go_at_call 57; refine (unhide hno).mono ?_; rintro e w' ⟨rfl, rfl⟩)
  go_ret
  exact ⟨rfl, rfl⟩
theorem sq_next (hs : Sat E w (QAt g most low next H row A c B d * F)) (h1 : 1 ≤ most) : Calls Try.prog 17 #[.pointer (some ⟨g, 0, none⟩)] w fun e w' => e = .returned (.int .i64 next) ∧ w = w' := by
  have hno := hide (sq_is hs h1)
  have c1 : w.cell? ⟨g, 2, none⟩ = some (.int .i64 next) := hs.asc.cell 2
  clear hs
  go_enter Try.func17, Try.ntmps17
  go_wp2_with (go_at_call 57; refine (unhide hno).mono ?_; rintro e w' ⟨rfl, rfl⟩)
  go_ret
  exact ⟨rfl, rfl⟩
set_option maxRecDepth 100000 in
theorem sq_total (hs : Sat E w (QAt g most low next H row A c B d * F)) (h1 : 1 ≤ most) (hl : low ≤ 100000) (hh : H.length ≤ 100000) : Calls Try.prog 31 #[.pointer (some ⟨g, 0, none⟩)] w fun e w' => e = .returned (.int .i64 (low + H.length : Nat)) ∧ Below w.heap.size w w' := by
  have hno := hide (sq_is hs h1)
  have c1 : w.cell? ⟨g, 1, none⟩ = some (.int .i64 low) := hs.asc.cell 1
  have c2 : w.cell? ⟨g, 3, none⟩ = some (.slice A H.length c) := hs.asc.cell 3
  obtain ⟨q, hq⟩ : ∃ q, q = H.length := ⟨_, rfl⟩
  rw [← hq] at c2 hh ⊢
  have HW : Hid (IntKind.i64.wrap ((low : Int) + q) = ((low + q : Nat) : Int)) := by show _ = _; rw [IntKind.wrap_i64]; omega
  have HC : Hid (∀ m, (w.drewN m).cell? ⟨g, 1, none⟩ = some (.int .i64 low) ∧ (w.drewN m).cell? ⟨g, 3, none⟩ = some (.slice A q c)) := fun m => ⟨c1, c2⟩
  have HS : Hid (Sat w w (Asn.exact w * 1)) := (Sat.start w).perm (sep_one _).symm
  clear hs hq
  go_enter Try.func31, Try.ntmps31
  go_wp2_with (go_at_call 57; refine (unhide hno).mono ?_; rintro e w' ⟨rfl, rfl⟩)
  refine wp_region_slr (Q := _) (E := w) (fun W => ∃ R, Sat w W ((Asn.exact w) * R)) [] [] [] [] (fun _ => (0, #[], fun _ => undef)) [0, 1, 2, 3, 4, 5, 6, 7, 8, 9, 10] (by kernel_rfl) (by kernel_rfl) (unhide HS) (fun W R h => ⟨_, h.asc⟩) ?_
  iterate 11
    refine wpS_f _ rfl rfl (v := ?_) ?_ ?_
    rotate_left
    · rintro W ⟨R, hW⟩
      have f1 : W.cell? ⟨g, 1, none⟩ = some (.int .i64 low) := by rw [hW.below.cell (World.block_lt_of_cell? w _ c1)]; exact c1
      have f2 : W.cell? ⟨g, 3, none⟩ = some (.slice A q c) := by rw [hW.below.cell (World.block_lt_of_cell? w _ c2)]; exact c2
      have f3 : IntKind.i64.wrap ((low : Int) + q) = ((low + q : Nat) : Int) := HW.out
      go_simp
      first | rfl | (rw [IntKind.wrap_i64]; omega)
    go_simp
  refine wpS_n (fun w3 hs3 => ?_)
  have HS3 := hide hs3.below
  clear hs3
  go_wp2_with fail
  go_ret
  exact ⟨by go_num, unhide HS3⟩
end
end Go.Proofs.Ytdfidijlconhnaa
