/- BitmapRuns's plain law: the bitmap's words against the document's row of numbers. -/
import Derived.Test.YtdfidijlconhnaaBitK
import Derived.Test.YtdfidijlconhnaaSlApp
namespace Go.Proofs.Ytdfidijlconhnaa
open Go.RowKit

/-- The row of numbers stands for the words. -/
structure RInv (sz ba : Nat) (V : Nat → Nat) (L : List Int) : Prop where
  small : Small V
  one : 1 ≤ sz
  le : sz ≤ 256
  top : ba ≤ 1152921504606846977
  win : ∀ x ∈ L, (ba : Int) ≤ x ∧ x < ba + sz ∧ x ≤ 1152921504606846976
  srt : L.Pairwise (· < ·)
  bit : ∀ n : Nat, ba ≤ n → n < ba + sz → n ≤ 1152921504606846976 → (bitAt V n = true ↔ (n : Int) ∈ L)
  out : ∀ r, bitAt V r = true → ∃ n : Nat, (n : Int) ∈ L ∧ r % 256 = n % 256
/-- x's place in a rising row. -/
def insR (L : List Int) (x : Int) : List Int := L.takeWhile (· < x) ++ x :: L.dropWhile (· < x)
def hasR (ba : Int) (L : List Int) (n : Int) : Bool := decide (0 ≤ n) && (decide (n < ba) || decide (n ∈ L))
def setR (sz ba : Nat) (L : List Int) (n : Int) : List Int × Bool × Int :=
  if n < 0 ∨ 1152921504606846976 < n ∨ (ba : Int) ≤ n - sz then (L, false, 5) else if hasR ba L n then (L, false, 0) else (insR L n, true, 0)
theorem mem_insR (L : List Int) (x y : Int) : y ∈ insR L x ↔ y = x ∨ y ∈ L := by
  unfold insR
  conv => rhs; rw [← List.takeWhile_append_dropWhile (p := fun z => decide (z < x)) (l := L)]
  simp only [List.mem_append, List.mem_cons]
  constructor
  · rintro (h | h | h) <;> simp [h]
  · rintro (h | h | h) <;> simp [h]
theorem srt_insR {L : List Int} {x : Int} (h : L.Pairwise (· < ·)) (hx : x ∉ L) : (insR L x).Pairwise (· < ·) := by
  induction L with
  | nil => simp [insR]
  | cons a l ih =>
    rw [List.pairwise_cons] at h
    simp only [List.mem_cons, not_or] at hx
    by_cases hax : a < x
    · have e : insR (a :: l) x = a :: insR l x := by simp [insR, List.takeWhile_cons, List.dropWhile_cons, hax]
      rw [e, List.pairwise_cons]
      refine ⟨fun y hy => ?_, ih h.2 hx.2⟩
      rcases (mem_insR l x y).1 hy with rfl | hy
      · exact hax
      · exact h.1 y hy
    · have e : insR (a :: l) x = x :: a :: l := by simp [insR, List.takeWhile_cons, List.dropWhile_cons, hax]
      rw [e, List.pairwise_cons, List.pairwise_cons]
      have h1 : x < a := by have := hx.1; omega
      refine ⟨fun y hy => ?_, h⟩
      rcases List.mem_cons.1 hy with rfl | hy
      · exact h1
      · have := h.1 y hy; omega
theorem len_insR (L : List Int) (x : Int) : (insR L x).length = L.length + 1 := by
  unfold insR
  have := congrArg List.length (List.takeWhile_append_dropWhile (p := fun z => decide (z < x)) (l := L))
  simp only [List.length_append, List.length_cons] at this ⊢
  omega
section
variable {sz ba : Nat} {V : Nat → Nat} {L : List Int}
theorem RInv.start (sz ba : Nat) (h1 : 1 ≤ sz) (h2 : sz ≤ 256) (h3 : ba ≤ 1152921504606846976) : RInv sz ba (fun _ => 0) [] :=
  ⟨fun _ => Nat.two_pow_pos 64, h1, h2, by omega, fun _ h => by simp at h, List.Pairwise.nil, fun n _ _ _ => by simp [bitAt], fun r h => by simp [bitAt] at h⟩
theorem RInv.has (h : RInv sz ba V L) (n : Int) : hasB V sz ba n = hasR ba L n := by
  unfold hasB hasR
  congr 1
  by_cases h1 : n < ba
  · simp [h1]
  · rw [decide_eq_false h1, Bool.false_or, Bool.false_or]
    rw [Bool.eq_iff_iff]
    simp only [Bool.and_eq_true, decide_eq_true_eq]
    unfold inWin
    simp only [decide_eq_true_eq]
    constructor
    · rintro ⟨⟨a, b, c⟩, d⟩
      have := (h.bit n.toNat (by omega) (by omega) (by omega)).1 d
      rwa [Int.toNat_of_nonneg (by omega)] at this
    · intro hn
      have hw := h.win n hn
      refine ⟨⟨by omega, by omega, by omega⟩, (h.bit n.toNat (by omega) (by omega) (by omega)).2 ?_⟩
      rwa [Int.toNat_of_nonneg (by omega)]
theorem RInv.set (h : RInv sz ba V L) (n : Int) : RInv sz ba (setB V sz ba n).1 (setR sz ba L n).1 ∧ (setB V sz ba n).2 = (setR sz ba L n).2 := by
  unfold setB setR
  by_cases h1 : 0 ≤ n ∧ n < ba
  · rw [if_pos h1, if_neg (by have := h.top; omega), if_pos (by unfold hasR; simp [h1.1, h1.2])]
    exact ⟨h, rfl⟩
  · rw [if_neg h1]
    by_cases h2 : inWin sz ba n = true
    · have h3 : (ba : Int) ≤ n ∧ n - ba < sz ∧ n ≤ 1152921504606846976 := by unfold inWin at h2; exact of_decide_eq_true h2
      rw [if_pos h2, if_neg (by omega)]
      obtain ⟨k, rfl⟩ := Int.eq_ofNat_of_zero_le (show 0 ≤ n by omega)
      have hb := h.bit k (by omega) (by omega) (by omega)
      have hr : hasR ba L k = decide ((k : Int) ∈ L) := by
        unfold hasR
        rw [decide_eq_true (show (0 : Int) ≤ k by omega), decide_eq_false (show ¬ (k : Int) < ba by omega)]; simp
      rw [hr]
      simp only [Int.toNat_natCast]
      by_cases hk : (k : Int) ∈ L
      · rw [if_pos (decide_eq_true hk)]
        refine ⟨⟨h.small.on _, h.one, h.le, h.top, h.win, h.srt, fun m m1 m2 m3 => ?_, fun r hr => ?_⟩, by rw [hb.2 hk]; rfl⟩
        · rw [bitAt_on, Bool.or_eq_true, h.bit m m1 m2 m3, decide_eq_true_eq]
          constructor
          · rintro (a | a)
            · exact a
            · have hle := h.le
              obtain rfl : m = k := by omega
              exact hk
          · exact .inl
        · rw [bitAt_on, Bool.or_eq_true, decide_eq_true_eq] at hr
          rcases hr with hr | hr
          · exact h.out r hr
          · exact ⟨k, hk, hr⟩
      · rw [if_neg (by simpa using hk)]
        have hf : bitAt V k = false := by
          cases hbk : bitAt V k
          · rfl
          · exact absurd (hb.1 hbk) hk
        refine ⟨⟨h.small.on _, h.one, h.le, h.top, fun x hx => ?_, srt_insR h.srt hk, fun m m1 m2 m3 => ?_, fun r hr => ?_⟩, by rw [hf]; rfl⟩
        · rcases (mem_insR L k x).1 hx with rfl | hx
          · omega
          · exact h.win x hx
        · rw [bitAt_on, Bool.or_eq_true, h.bit m m1 m2 m3, decide_eq_true_eq, mem_insR]
          constructor
          · rintro (a | a)
            · exact .inr a
            · have hle := h.le
              exact .inl (by omega)
          · rintro (a | a)
            · exact .inr (by omega)
            · exact .inl a
        · rw [bitAt_on, Bool.or_eq_true, decide_eq_true_eq] at hr
          rcases hr with hr | hr
          · obtain ⟨x, hx, e⟩ := h.out r hr
            exact ⟨x, (mem_insR L k x).2 (.inr hx), e⟩
          · exact ⟨k, (mem_insR L k k).2 (.inl rfl), hr⟩
    · have h3 : ¬ ((ba : Int) ≤ n ∧ n - ba < sz ∧ n ≤ 1152921504606846976) := by unfold inWin at h2; simpa using h2
      rw [if_neg h2, if_pos (by omega)]
      exact ⟨h, rfl⟩
/-- What the document's Advance leaves. -/
def advR : List Int → Int → List Int × Int
  | [], ba => ([], ba)
  | x :: l, ba => if x = ba then advR l (ba + 1) else (x :: l, ba)
theorem RInv.adv : ∀ (L : List Int) (ba : Nat) (V : Nat → Nat), RInv sz ba V L → RInv sz (advB V ba).2 (advB V ba).1 (advR L ba).1 ∧ (advR L ba).2 = (advB V ba).2
  | [], ba, V, h => by
    have hn : ¬ (ba ≤ 1152921504606846976 ∧ bitAt V ba = true) := by
      rintro ⟨h1, h2⟩
      have := (h.bit ba (Nat.le_refl _) (by have := h.one; omega) h1).1 h2
      simp at this
    rw [advB_no hn]
    exact ⟨h, rfl⟩
  | x :: l, ba, V, h => by
    unfold advR
    have hw := h.win x List.mem_cons_self
    have hs := h.srt
    rw [List.pairwise_cons] at hs
    by_cases hx : x = ba
    · rw [if_pos hx]
      subst hx
      rw [advB_yes (by omega) ((h.bit ba (Nat.le_refl _) (by have := h.one; omega) (by omega)).2 List.mem_cons_self)]
      refine RInv.adv l (ba + 1) (clrBit V ba) ⟨h.small.clr _, h.one, h.le, by omega, fun y hy => ?_, hs.2, fun m m1 m2 m3 => ?_, fun r hr => ?_⟩
      · have := hs.1 y hy
        have := h.win y (List.mem_cons_of_mem _ hy)
        omega
      · rw [bitAt_clr]
        have hle := h.le
        by_cases e : m < ba + sz
        · have : ¬ m % 256 = ba % 256 := by omega
          rw [decide_eq_false this, Bool.not_false, Bool.and_true, h.bit m (by omega) e m3, List.mem_cons]
          constructor
          · rintro (a | a)
            · omega
            · exact a
          · exact .inr
        · obtain rfl : m = ba + sz := by omega
          constructor
          · intro hb
            rw [Bool.and_eq_true] at hb
            obtain ⟨n, hn, e2⟩ := h.out _ hb.1
            have hwn := h.win _ hn
            have hnb : ¬ (ba + sz) % 256 = ba % 256 := by simpa using hb.2
            have : n = ba := by omega
            omega
          · intro hm
            have := h.win _ (List.mem_cons_of_mem _ hm)
            omega
      · rw [bitAt_clr, Bool.and_eq_true] at hr
        obtain ⟨n, hn, e⟩ := h.out r hr.1
        rcases List.mem_cons.1 hn with hn | hn
        · have : ¬ r % 256 = ba % 256 := by simpa using hr.2
          omega
        · exact ⟨n, hn, e⟩
    · rw [if_neg hx]
      have hn : ¬ (ba ≤ 1152921504606846976 ∧ bitAt V ba = true) := by
        rintro ⟨h1, h2⟩
        have := (h.bit ba (Nat.le_refl _) (by have := h.one; omega) h1).1 h2
        rcases List.mem_cons.1 this with e | e
        · omega
        · have := hs.1 _ e; omega
      rw [advB_no hn]
      exact ⟨h, rfl⟩
/-- The document's window. -/
def winR (L : List Int) (sz ba : Nat) : List (Nat × Bool) := (List.range (winN sz ba)).map fun j => (ba + j, decide (((ba + j : Nat) : Int) ∈ L))
theorem RInv.winEq (h : RInv sz ba V L) : winL V sz ba = winR L sz ba := by
  unfold winL winR
  refine List.map_congr_left fun j hj => ?_
  have hj2 := List.mem_range.1 hj
  unfold winN at hj2
  congr 1
  rw [Bool.eq_iff_iff, decide_eq_true_eq]
  exact h.bit _ (by omega) (by omega) (by omega)
theorem srt_ext : ∀ {L M : List Int}, L.Pairwise (· < ·) → M.Pairwise (· < ·) → (∀ x, x ∈ L ↔ x ∈ M) → L = M
  | [], [], _, _, _ => rfl
  | [], y :: m, _, _, h => by have := (h y).2 List.mem_cons_self; simp at this
  | x :: l, [], _, _, h => by have := (h x).1 List.mem_cons_self; simp at this
  | x :: l, y :: m, h1, h2, h => by
    rw [List.pairwise_cons] at h1 h2
    have hxy : x = y := by
      have a := (h x).1 List.mem_cons_self
      have b := (h y).2 List.mem_cons_self
      rcases List.mem_cons.1 a with a | a
      · exact a
      · rcases List.mem_cons.1 b with b | b
        · exact b.symm
        · have := h1.1 _ b; have := h2.1 _ a; omega
    subst hxy
    rw [srt_ext h1.2 h2.2 fun z => ?_]
    have := h z
    simp only [List.mem_cons] at this
    constructor
    · intro hz
      rcases this.1 (.inr hz) with e | e
      · have := h1.1 z hz; omega
      · exact e
    · intro hz
      rcases this.2 (.inr hz) with e | e
      · have := h2.1 z hz; omega
      · exact e
theorem RInv.list (h : RInv sz ba V L) : lst (winL V sz ba) = ints L := by
  rw [h.winEq]
  unfold lst winR ints
  have : ((List.map (fun j => (ba + j, decide (((ba + j : Nat) : Int) ∈ L))) (List.range (winN sz ba))).filter (·.2)).map (fun x => (x.1 : Int)) = L := by
    refine srt_ext ?_ h.srt fun x => ?_
    · rw [List.pairwise_map]
      refine List.Pairwise.filter _ ?_
      rw [List.pairwise_map]
      exact List.Pairwise.imp (by intro a b hab; dsimp only; omega) List.pairwise_lt_range
    · simp only [List.mem_map, List.mem_filter, List.mem_range]
      constructor
      · rintro ⟨_, ⟨⟨j, hj, rfl⟩, hd⟩, rfl⟩
        exact of_decide_eq_true hd
      · intro hx
        have hw := h.win x hx
        refine ⟨(x.toNat, true), ⟨⟨x.toNat - ba, by unfold winN; omega, ?_⟩, rfl⟩, by simp; omega⟩
        have e : ba + (x.toNat - ba) = x.toNat := by omega
        rw [e]
        congr 1
        rw [decide_eq_true_eq, Int.toNat_of_nonneg (by omega)]
        exact hx
  conv => rhs; rw [← this]
  rw [List.map_map]
  rfl
theorem RInv.len (h : RInv sz ba V L) : L.length ≤ 256 := by
  have h1 := congrArg List.length h.list
  rw [length_ints] at h1
  have h2 := lst_len (winL V sz ba)
  rw [winL_len] at h2
  have h3 : winN sz ba ≤ sz := Nat.min_le_left _ _
  have := h.le
  omega
end
/-- How many stand ahead of x. -/
def ahead (L : List Int) (x : Int) : Nat := (L.takeWhile (· < x)).length
theorem ahead_le (L : List Int) (x : Int) : ahead L x ≤ L.length := by
  unfold ahead
  have := congrArg List.length (List.takeWhile_append_dropWhile (p := fun z => decide (z < x)) (l := L))
  rw [List.length_append] at this
  omega
theorem insR_eq (L : List Int) (x : Int) : insR L x = L.take (ahead L x) ++ [x] ++ L.drop (ahead L x) := by
  have h := List.takeWhile_append_dropWhile (p := fun z => decide (z < x)) (l := L)
  unfold insR ahead
  have h1 := List.take_left (l₁ := L.takeWhile (fun z => decide (z < x))) (l₂ := L.dropWhile (fun z => decide (z < x)))
  have h2 := List.drop_left (l₁ := L.takeWhile (fun z => decide (z < x))) (l₂ := L.dropWhile (fun z => decide (z < x)))
  rw [h] at h1 h2
  rw [h1, h2]
  simp
theorem ahead_of {L : List Int} {x : Int} {k : Nat} (hk : k ≤ L.length) (h1 : ∀ j, j < k → L.getD j 0 < x) (h2 : k < L.length → ¬ L.getD k 0 < x) : k = ahead L x := by
  unfold ahead
  induction L generalizing k with
  | nil => simp at hk; simp [hk]
  | cons a l ih =>
    cases k with
    | zero =>
      have := h2 (by simp)
      simp at this
      simp [List.takeWhile_cons, this]
    | succ k =>
      have h3 := h1 0 (by omega)
      simp at h3
      have := ih (k := k) (by simpa using hk) (fun j hj => by have := h1 (j + 1) (by omega); simpa using this) (fun hk2 => by have := h2 (by simpa using hk2); simpa using this)
      simp [List.takeWhile_cons, h3]
      exact this

end Go.Proofs.Ytdfidijlconhnaa
