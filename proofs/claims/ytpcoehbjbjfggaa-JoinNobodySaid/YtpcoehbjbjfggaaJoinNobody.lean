/- JoinNobody: a Join that nobody made. The walk of the law. -/
import Derived.Test.YtpcoehbjbjfggaaJoinNone
import Derived.Test.YtpcoehbjbjfggaaJoinBack
namespace Go.Proofs.Ytpcoehbjbjfggaa
open Go.RowKit Asn

set_option maxRecDepth 100000 in
theorem joinNobody_walk (W : World) (B : Option Addr) (len cap : Nat) (n : Int) :
    Calls Try.prog 8 #[.slice B len cap, .int .i64 n] W fun e w' => e = .returned (.bool true) ∧ Below W.heap.size W w' := by
  have hs1 := (Sat.start W).alloc #[.int .i64 0, .int .i64 0, .int .i64 0, .slice none 0 0, .bool false] 80
  have hs2 := hs1.alloc #[.pointer none, .pointer (some ⟨W.heap.size, 0, none⟩)] 24
  clear hs1
  go_enter Try.func8, Try.ntmps8
  go_wp2_with fail
  go_loopw [7] (fun i wr => ∃ k : Nat, k ≤ 2 ∧ i = .int .i64 k ∧ Sat W wr (Asn.blk (W.heap.size + 1) 24 #[.pointer none, .pointer (some ⟨W.heap.size, 0, none⟩)] *
      (Asn.blk W.heap.size 80 #[.int .i64 0, .int .i64 0, .int .i64 0, .slice none 0 0, .bool false] * Asn.exact W))) (fun i _ => 2 - (intOf i).toNat)
  case atStart => exact ⟨0, by omega, rfl, by simpa using hs2⟩
  case round =>
    obtain ⟨k, hk, rfl, hsr⟩ := hrel
    clear hs2
    by_cases hlt : k < 2
    · obtain ⟨p, hc, hn⟩ : ∃ p : Value, wr.cell? ⟨W.heap.size + 1, k, none⟩ = some p ∧ ∀ m, Hid (Calls Try.prog 78 #[p] (wr.drewN m) fun e w' => e = .returned (.bool true) ∧ wr.drewN m = w') := by
        rcases (by omega : k = 0 ∨ k = 1) with rfl | rfl
        · exact ⟨_, hsr.cell 0, fun m => none_nil _⟩
        · exact ⟨_, hsr.cell 1, fun m => none_blk _ _ _ _ _ false _ (hsr.f2.drewN m).blk⟩
      go_wp2_with fail
      refine (add_none _ _ _ _ _ _ (hn 0)).mono ?_
      rintro e w1 ⟨rfl, rfl⟩
      go_wp2_with fail
      go_quiet ((first
        | (go_at_call 42; first | exact quiet_leftN (fits_none _ _ _ (hn _)) | exact quiet_left (fits_none _ _ _ (hn _)) | exact quiet_add_left (fits_none _ _ _ (hn _)))
        | (go_at_call 18; first | exact quiet_leftN (open_none _ _ (hn _)) | exact quiet_left (open_none _ _ (hn _)) | exact quiet_add_left (open_none _ _ (hn _)))
        | (go_at_call 43; first | exact quiet_leftN (parts_none _ _ (hn _)) | exact quiet_left (parts_none _ _ (hn _)) | exact quiet_add_left (parts_none _ _ (hn _)))
        | (go_at_call 44; first | exact quiet_leftN (msgs_none _ _ (hn _)) | exact quiet_left (msgs_none _ _ (hn _)) | exact quiet_add_left (msgs_none _ _ (hn _)))
        | (go_at_call 45; first | exact quiet_leftN (bytes_none _ _ (hn _)) | exact quiet_left (bytes_none _ _ (hn _)) | exact quiet_add_left (bytes_none _ _ (hn _)))
        | (go_at_call 37; first | exact quiet_leftN (reset_none _ _ (hn _)) | exact quiet_left (reset_none _ _ (hn _)) | exact quiet_add_left (reset_none _ _ (hn _)))
        | (go_at_call 38; first | exact quiet_leftN (fork_none _ _ (hn _)) | exact quiet_left (fork_none _ _ (hn _)) | exact quiet_add_left (fork_none _ _ (hn _)))))
      go_wp2_with fail
      go_roundw
      case rel => exact ⟨k + 1, by omega, by go_num, hsr.drewN nq⟩
      case measure => simp [intOf]; omega
    · go_wp2_with fail
      refine (join12_awake W _ _ hsr).mono ?_
      rintro e w1 ⟨rfl, hs4⟩
      have hbel := hide (Sat.below hs4.l3)
      clear hs4 hsr
      go_wp2_with fail
      go_ret
      exact ⟨rfl, unhide hbel⟩
end Go.Proofs.Ytpcoehbjbjfggaa
