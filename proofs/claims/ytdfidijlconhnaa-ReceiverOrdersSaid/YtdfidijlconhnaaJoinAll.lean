/- The program's join against the reference's step: Add whatever comes, All. -/
import Derived.Test.YtdfidijlconhnaaRef12S
namespace Go.Proofs.Ytdfidijlconhnaa
open Go.RowKit Asn

/-- A Join as the reference has it. -/
def JoinM.rj (j : JoinM) : RJ := ⟨j.parts.flatten, j.parts.length, j.msgs, j.bytes⟩

theorem add_any (E w : World) (F : Asn) (g n d : Nat) (j : JoinM) (B : Option Addr) (p : List UInt8) (x : Bool) (hs : Sat E w (JoinAt g j * F)) (hr : RdW w B n 1 (bytes p)) (hn : n ≤ 9223372036854775807) :
    Calls Try.prog 101 #[.pointer (some ⟨g, 0, none⟩), .slice B n d, .bool x] w fun e w' => ∃ j' X A2 n2 c2,
      e = .returned (.tuple #[.slice A2 n2 c2, .bool (RJ.add j.rj p x).2.2.1, .int .i64 (RJ.add j.rj p x).2.2.2]) ∧ Sat E w' (JoinAt g j' * (X * F)) ∧ j'.rj = (RJ.add j.rj p x).1 ∧
      (X = bsl A2 n2 c2 (RJ.add j.rj p x).2.1 ∨ (X = 1 ∧ A2 = none ∧ n2 = 0 ∧ c2 = 0 ∧ (RJ.add j.rj p x).2.1 = [])) ∧ n2 ≤ 65536 := by
  have hpl : p.length = n := by have := hr.1; rw [length_bytes] at this; omega
  obtain ⟨A, k, c, rs, hrs, hop, hne, hk, hs2⟩ := hs.joinOpen
  have hkl : j.parts.length = k := by rw [← hrs, List.length_map, hk]
  have hk6 : k ≤ 65536 := by
    have := rows_le hne
    rw [hrs, hk] at this
    have h2 : k ≤ j.open_ := this
    omega
  have hol : j.parts.flatten.length = j.open_ := rfl
  by_cases h0 : n = 0
  · subst h0
    have hadd : RJ.add j.rj p x = (j.rj, [], false, 120) := by unfold RJ.add; rw [if_pos hpl]
    rw [hadd]
    refine (add_empty w g _ d _ _ _ B x hs2.blk).mono fun e w' ⟨he, hw⟩ => ?_
    subst hw
    exact ⟨j, 1, none, 0, 0, he, hs.perm (by rw [one_sep]), rfl, .inr ⟨rfl, rfl, rfl, rfl, rfl⟩, by omega⟩
  · by_cases h1 : 65536 < j.open_ + n
    · have hadd : RJ.add j.rj p x = (j.rj, [], false, 2) := by unfold RJ.add; rw [if_neg (by omega), if_pos (by show 65536 < j.parts.flatten.length + p.length; rw [hol, hpl]; exact h1)]
      rw [hadd]
      refine (add_long w g _ d n _ _ _ B x hs2.blk hop (by omega) h1 hn).mono fun e w' ⟨he, hw⟩ => ?_
      subst hw
      exact ⟨j, 1, none, 0, 0, he, hs.perm (by rw [one_sep]), rfl, .inr ⟨rfl, rfl, rfl, rfl, rfl⟩, by omega⟩
    · have hc : ¬ (65536 < j.rj.opn.length + p.length) := by show ¬ (65536 < j.parts.flatten.length + p.length); rw [hol, hpl]; exact h1
      cases x with
      | false =>
        have hadd : RJ.add j.rj p false = (⟨j.parts.flatten ++ p, wrap64 ((j.parts.length : Int) + 1), j.msgs, j.bytes⟩, [], false, 0) := by
          unfold RJ.add; rw [if_neg (by omega), if_neg hc, if_neg (by simp)]; rfl
        rw [hadd]
        refine (add_part E w F g n d j B p hs hr (by omega) (by omega)).mono fun e w' ⟨he, hs'⟩ => ?_
        refine ⟨_, 1, none, 0, 0, he, hs'.perm (by rw [one_sep]), ?_, .inr ⟨rfl, rfl, rfl, rfl, rfl⟩, by omega⟩
        have hw : wrap64 ((j.parts.length : Int) + 1) = ((j.parts ++ [p]).length : Int) := by
          rw [List.length_append, hkl]; unfold wrap64; simp only [List.length_cons, List.length_nil]; omega
        rw [hw]
        simp [JoinM.rj]
      | true =>
        have hadd : RJ.add j.rj p true = (⟨[], 0, wrap64 (j.msgs + 1), wrap64 (j.bytes + (j.parts.flatten ++ p).length)⟩, j.parts.flatten ++ p, true, 0) := by
          unfold RJ.add; rw [if_neg (by omega), if_neg hc, if_pos rfl]; rfl
        rw [hadd]
        refine (add_end E w F g n d j B p hs hr (by omega) (by omega)).mono fun e w' ⟨A', c', he, hs'⟩ => ?_
        refine ⟨_, bsl A' (j.open_ + n) c' (j.parts.flatten ++ p), A', _, c', he, hs'.f2, ?_, .inl rfl, by omega⟩
        have hw : (j.parts.flatten ++ p).length = j.open_ + n := by rw [List.length_append, hol, hpl]
        rw [hw]
        rfl

end Go.Proofs.Ytdfidijlconhnaa
