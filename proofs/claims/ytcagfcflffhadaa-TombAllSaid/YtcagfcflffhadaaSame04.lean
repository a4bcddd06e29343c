/- The document's comparison of two rows (layer 4), where they are the same; a block of cells, read. -/
import Derived.Test.YtcagfcflffhadaaProg
import Derived.Test.YtcagfcflffhadaaSlOps
import Derived.Deep.DeepCutAuto
namespace Go.Proofs.Ytcagfcflffhadaa
open Go.RowKit Asn

theorem sameInts04 (E w : World) (F : Asn) (A B : Option Addr) (n c d : Nat) (xs : List Value) (hs : Sat E w F) (ha : rd F 1 A n xs) (hb : rd F 1 B n xs) (hi : ∀ u ∈ xs, ∃ x, u = Value.int .i64 x) (hn : n ≤ 65536) :
    Calls Try.prog 81 #[.slice A n c, .slice B n d] w fun e w' => e = .returned (.bool true) ∧ Sat E w' F := by
  have hnn : ((n : Int) != n) = false := by simp
  have HI := Lib.hid hi
  clear hi
  go_enter Try.func81, Try.ntmps81
  go_wp2_with fail
  go_loopw [5] (fun i wr => ∃ k : Nat, i = .int .i64 k ∧ k ≤ n ∧ Sat E wr F) (fun i _ => n - (intOf i).toNat)
  case atStart => exact ⟨0, rfl, Nat.zero_le _, hs⟩
  case round =>
    obtain ⟨k, rfl, hk, hsr⟩ := hrel
    by_cases hlt : k < n
    · have hxl : xs.length = n := by have := (RdW.of_rd ha hs).1; omega
      have hkx : k < xs.length := by omega
      have hu : xs[k]? = some xs[k] := List.getElem?_eq_getElem hkx
      generalize xs[k] = u at hu
      obtain ⟨u, rfl⟩ := HI.out u (List.mem_of_getElem? hu)
      have e1 : ∀ j, ∃ ad, A = some ad ∧ (wr.drewN j).cell? (ad.add k) = some (.int .i64 u) := fun j => (RdW.of_rd ha (hsr.drewN j)).at_ hu
      have e2 : ∀ j, ∃ ad, B = some ad ∧ (wr.drewN j).cell? (ad.add k) = some (.int .i64 u) := fun j => (RdW.of_rd hb (hsr.drewN j)).at_ hu
      obtain ⟨ad, rfl, _⟩ := e1 0
      obtain ⟨bd, rfl, _⟩ := e2 0
      have e3 : ∀ j, (wr.drewN j).cell? (ad.add k) = some (.int .i64 u) := by
        intro j
        obtain ⟨ad', h, h2⟩ := e1 j
        obtain rfl : ad = ad' := by simpa using h
        exact h2
      have e4 : ∀ j, (wr.drewN j).cell? (bd.add k) = some (.int .i64 u) := by
        intro j
        obtain ⟨ad', h, h2⟩ := e2 j
        obtain rfl : bd = ad' := by simpa using h
        exact h2
      have e30 := e3 0
      have e40 := e4 0
      clear e1 e2 hu
      go_wp2_with fail
      go_quiet (fail)
      go_wp2_with fail
      go_roundw
      case rel => exact ⟨k + 1, by go_num, by omega, hsr.drewN _⟩
      case measure => simp [intOf]; omega
    · have HS := hide hsr
      clear hsr hs
      go_wp2_with fail
      go_ret
      exact ⟨rfl, unhide HS⟩

theorem rd_blk {b : Nat} {t : TypeId} {cs : Array Value} {G : Asn} : rd (Asn.blk b t cs * G) 1 (some ⟨b, 0, none⟩) cs.size cs.toList := by
  refine rd.left ?_
  intro h hh
  have hh : h = Hp.one b (.cells cs t (0, 0)) := hh
  subst hh
  refine ⟨by simp, fun _ => ⟨_, rfl, fun j u hu => ⟨cs, t, (0, 0), ?_, ?_, ?_⟩⟩⟩
  · simp [Hp.one, block_of_add]
  · rw [add_lit']
  · rw [add_lit']
    simpa using hu

end Go.Proofs.Ytcagfcflffhadaa
