/- The queue of pieces: Again, Repeat, Lacking. -/
import Derived.Test.YtdfidijlconhnaaSqA
import Derived.Test.YtdfidijlconhnaaRange
namespace Go.Proofs.Ytdfidijlconhnaa
open Go.RowKit Asn
attribute [local go_sem] Oper.semAt_some
/-- The numbers that lack, rising. -/
def lackN (low next : Nat) (H : List HR) : List Nat := (List.range' low (next - low)).filter fun (n : Nat) => lacksB low next H n
def SeqM (b g most low next : Nat) (H : List HR) (row : List Int) (A : Option Addr) (c : Nat) (B : Option Addr) (d : Nat) : Asn := Asn.blk b 23 #[.pointer (some ⟨g, 0, none⟩)] * QAt g most low next H row A c B d
section
variable {E w : World} {F : Asn} {g most low next : Nat} {H : List HR} {row : List Int} {A B : Option Addr} {c d : Nat}
theorem sq_again {seq : Int} (hs : Sat E w (QAt g most low next H row A c B d * F)) (h1 : 1 ≤ most) (hl : next ≤ low + H.length) (hb : low ≤ 100000) (hh : H.length ≤ 100000) (hr : row.length ≤ 60000) (hx : -9223372036854775808 ≤ seq ∧ seq ≤ 9223372036854775807) :
    Calls Try.prog 23 #[.pointer (some ⟨g, 0, none⟩), .int .i64 seq] w fun e w' => e = .returned (.bool (lacksB low next H seq && !decide (seq ∈ row))) ∧ ∃ B2 d2, Sat E w' (QAt g most low next H (if lacksB low next H seq && !decide (seq ∈ row) then row ++ [seq] else row) A c B2 d2 * F) := by
  have hlk := hide (sq_lacks hs h1 hl hb hh hx)
  have HR0 : Hid (row.length ≤ 60000) := hr
  clear hs
  obtain ⟨lb, hlb⟩ : ∃ lb, lb = lacksB low next H seq := ⟨_, rfl⟩
  obtain ⟨mb, hmb⟩ : ∃ mb, mb = decide (seq ∈ row) := ⟨_, rfl⟩
  rw [← hlb] at hlk
  rw [← hlb, ← hmb]
  have HMB := hide hmb
  clear hlb hmb
  cases lb
  · go_enter Try.func23, Try.ntmps23
    go_wp2_with fail
    refine (unhide hlk).mono ?_
    rintro e w2 ⟨rfl, hs2⟩
    have HS := hide hs2
    clear hs2 hlk
    go_wp2_with fail
    go_ret
    exact ⟨rfl, B, d, unhide HS⟩
  · go_enter Try.func23, Try.ntmps23
    go_wp2_with fail
    refine (unhide hlk).mono ?_
    rintro e w2 ⟨rfl, hs2⟩
    have hs3 := hs2.perm (show _ = Asn.blk g 65 (queueC most low next A H.length c B row.length d) * (sl 3 1 B row.length d (ints row) * (sl 124 4 A H.length c (heldC H) * F)) by unfold QAt; ac_rfl)
    have hg : g < w2.heap.size := Sat.lt (o := .cells _ _ (0, 0)) hs3
    have hha := row_has (i := 4) seq hs3 rfl (by omega)
    have hpu := hide (row_push (i := 4) seq hs3 rfl (by omega))
    rw [← unhide HMB] at hha
    have HHA := hide hha
    have HS := hide hs2
    clear hs2 hs3 hlk hha
    cases mb
    · go_wp2_with fail
      refine (unhide HHA).mono ?_
      rintro e w3 ⟨rfl, rfl⟩
      go_wp2_with fail
      refine (unhide hpu).mono ?_
      rintro e w3 ⟨rfl, A2, c2, hs4⟩
      have HS4 := hide (show Sat E w3 (QAt g most low next H (row ++ [seq]) A c A2 c2 * F) from hs4.perm (by unfold QAt; show Asn.blk _ _ #[_, _, _, _, _] * _ = _; ac_rfl))
      clear hs4 hpu
      go_wp2_with fail
      go_ret
      exact ⟨rfl, A2, c2, unhide HS4⟩
    · go_wp2_with fail
      refine (unhide HHA).mono ?_
      rintro e w3 ⟨rfl, rfl⟩
      go_wp2_with fail
      go_ret
      exact ⟨rfl, B, d, unhide HS⟩
theorem sq_repeat0 (hs : Sat E w (QAt g most low next H [] A c B d * F)) (h1 : 1 ≤ most) : Calls Try.prog 25 #[.pointer (some ⟨g, 0, none⟩)] w fun e w' => e = .returned (.tuple #[.int .i64 0, .bool false]) ∧ w = w' := by
  have hno := hide (sq_is hs h1)
  have hg : g < w.heap.size := Sat.lt (o := .cells _ _ (0, 0)) hs.asc
  have hpo := hide (row_pop0 (i := 4) hs.asc rfl)
  clear hs
  go_enter Try.func25, Try.ntmps25
  go_wp2_with (go_at_call 57; refine (unhide hno).mono ?_; rintro e w' ⟨rfl, rfl⟩)
  refine (unhide hpo).mono ?_
  rintro e w2 ⟨rfl, rfl⟩
  go_wp2_with fail
  go_ret2
  exact ⟨rfl, rfl⟩
theorem sq_repeat {x : Int} {l : List Int} (hs : Sat E w (QAt g most low next H (x :: l) A c B d * F)) (h1 : 1 ≤ most) (hl : l.length ≤ 60000) : Calls Try.prog 25 #[.pointer (some ⟨g, 0, none⟩)] w fun e w' => e = .returned (.tuple #[.int .i64 x, .bool true]) ∧ ∃ B2 d2, Sat E w' (QAt g most low next H l A c B2 d2 * F) := by
  have hno := hide (sq_is hs h1)
  have hs3 := hs.perm (show _ = Asn.blk g 65 (queueC most low next A H.length c B (l.length + 1) d) * (sl 3 1 B (l.length + 1) d (ints (x :: l)) * (sl 124 4 A H.length c (heldC H) * F)) by unfold QAt; rw [List.length_cons]; ac_rfl)
  have hg : g < w.heap.size := Sat.lt (o := .cells _ _ (0, 0)) hs3
  have hpo := hide (row_pop (i := 4) hs3 rfl (by omega))
  clear hs hs3
  go_enter Try.func25, Try.ntmps25
  go_wp2_with (go_at_call 57; refine (unhide hno).mono ?_; rintro e w' ⟨rfl, rfl⟩)
  refine (unhide hpo).mono ?_
  rintro e w2 ⟨rfl, A2, hs4⟩
  have HS4 := hide (show Sat E w2 (QAt g most low next H l A c A2 (d - 1) * F) from hs4.perm (by unfold QAt; show Asn.blk _ _ #[_, _, _, _, _] * _ = _; ac_rfl))
  clear hs4 hpo
  go_wp2_with fail
  go_ret2
  exact ⟨rfl, _, _, unhide HS4⟩
theorem sq_lacking (w : World) (q : Value) (hq : q = .pointer none ∨ ∃ g, q = .pointer (some ⟨g, 0, none⟩)) : Calls Try.prog 60 #[q] w fun e w' => e = .returned (.func (.func 93) #[] #[.pointer (some ⟨w.heap.size, 0, none⟩)]) ∧ w' = w.alloc (.cells #[q] 23) := by
  rcases hq with rfl | ⟨g, rfl⟩
  all_goals
    go_enter Try.func60, Try.ntmps60
    go_wp2_with fail
    go_ret
    exact ⟨rfl, rfl⟩
set_option maxHeartbeats 1000000 in
set_option maxRecDepth 100000 in
theorem sq_seq (E : World) (b g most low next : Nat) (H : List HR) (row : List Int) (A B : Option Addr) (c d : Nat) (h1 : 1 ≤ most) (hl : next ≤ low + H.length) (hb : low ≤ 100000) (hh : H.length ≤ 100000) (hln : low ≤ next) :
    SeqSL E Try.prog 93 #[.pointer (some ⟨b, 0, none⟩)] (fun n : Nat => #[.int .i64 n]) (fun _ => SeqM b g most low next H row A c B d)
      (fun xs => xs = lackN low next H) (fun _ => True) (fun pre x => ∃ t, lackN low next H = pre ++ x :: t) := by
  intro l J Jx W hY hs
  have hcb : ∀ {R : Asn} {W : World}, Sat E W (SeqM b g most low next H row A c B d * R) → W.cell? ⟨b, 0, none⟩ = some (.pointer (some ⟨g, 0, none⟩)) := fun h => h.asc.cell 0
  have hq : ∀ {R : Asn} {W : World}, Sat E W (SeqM b g most low next H row A c B d * R) → Sat E W (QAt g most low next H row A c B d * (Asn.blk b 23 #[.pointer (some ⟨g, 0, none⟩)] * R)) := fun h => h.perm (by unfold SeqM; ac_rfl)
  refine callsIn_wide.1 (callsIn_of_wp (F := Fence.wide) (n := 0) Try.func93 rfl trivial ?_ rfl)
  have c0 := hcb hs
  have c1 : W.cell? ⟨g, 1, none⟩ = some (.int .i64 low) := (hq hs).asc.cell 1
  have hno := hide (sq_is (hq hs) h1)
  have HS := hide hs
  clear hs
  simp only [Try.ntmps93, List.size_toArray, List.length_cons, List.length_nil, Nat.reduceAdd, Nat.reduceSub, Array.replicate_succ, Array.replicate_zero, List.push_toArray, List.append_toArray, List.nil_append, List.cons_append]
  gi_wp2_with (gi_at_call 57; refine (callsIn_wide.2 (unhide hno)).mono ?_; rintro e w' ⟨rfl, rfl⟩)
  gi_loopw [3] (fun p wr => ∃ n : Nat, p = .int .i64 n ∧ low ≤ n ∧ n ≤ next ∧ Sat E wr (SeqM b g most low next H row A c B d * J ((List.range' low (n - low)).filter fun (n : Nat) => lacksB low next H n))) (fun p _ => next - (intOf p).toNat)
  case atStart => exact ⟨low, rfl, Nat.le_refl _, hln, by rw [Nat.sub_self]; exact unhide HS⟩
  case round =>
    obtain ⟨n, rfl, hn1, hn2, hsr⟩ := hrel
    clear HS hno c0 c1
    have d0 := hcb hsr
    have d1 : wr.cell? ⟨g, 2, none⟩ = some (.int .i64 next) := (hq hsr).asc.cell 2
    by_cases hlt : n < next
    · obtain ⟨pre, hpre⟩ : ∃ pre, pre = (List.range' low (n - low)).filter fun (n : Nat) => lacksB low next H n := ⟨_, rfl⟩
      rw [← hpre] at hsr
      have hlk := sq_lacks (seq := (n : Int)) (hq hsr) h1 hl hb hh (by omega)
      have hstep : (List.range' low (n + 1 - low)).filter (fun (n : Nat) => lacksB low next H n) = pre ++ (if lacksB low next H n then [n] else []) := by
        rw [show n + 1 - low = (n - low) + 1 by omega, List.range'_concat, List.filter_append, ← hpre]
        congr 1
        rw [show low + 1 * (n - low) = n by omega]
        cases h : lacksB low next H n <;> simp [h]
      obtain ⟨lb, hlb⟩ : ∃ lb, lb = lacksB low next H n := ⟨_, rfl⟩
      rw [← hlb] at hlk hstep
      have HLK : Hid (Calls Try.prog 33 #[.pointer (some ⟨g, 0, none⟩), .int .i64 n] wr fun e w' => e = .returned (.bool lb) ∧ Sat E w' (SeqM b g most low next H row A c B d * J pre)) := hlk.mono fun e w' ⟨he, hs⟩ => ⟨he, hs.perm (by unfold SeqM; ac_rfl)⟩
      have HST := hide hstep
      clear hlk hsr hstep
      cases lb
      · clear hpre hlb
        gi_wp2_with fail
        refine (callsIn_wide.2 (unhide HLK)).mono ?_
        rintro e w2 ⟨rfl, hs2⟩
        have HS2 := hide hs2
        clear hs2 HLK d0 d1
        gi_wp2
        refine ⟨⟨n + 1, by go_num, by omega, by omega, by rw [unhide HST]; simpa using unhide HS2⟩, by simp [intOf]; omega⟩
      · have hnx : ∃ t, lackN low next H = pre ++ n :: t := by
          refine ⟨(List.range' (n + 1) (next - (n + 1))).filter fun (n : Nat) => lacksB low next H n, ?_⟩
          unfold lackN
          rw [show next - low = (n - low) + (1 + (next - (n + 1))) by omega, ← List.range'_append_1, ← List.range'_append_1, List.filter_append, List.filter_append, ← hpre]
          congr 1
          rw [show low + (n - low) = n by omega, List.range'_one]
          simp [← hlb]
        have HNX := hide hnx
        clear hpre hlb hnx
        gi_wp2_with fail
        refine (callsIn_wide.2 (unhide HLK)).mono ?_
        rintro e w2 ⟨rfl, hs2⟩
        obtain ⟨fn, tmps, assign, body, hy, hR⟩ := hY pre n w2 (unhide HNX) hs2
        try dsimp only at hy
        clear hs2 HLK d0 d1
        gi_wp2
        refine hR.mono ?_
        rintro e w3 (⟨rfl, hs3⟩ | ⟨rfl, hs3⟩)
        · have hs4 := hide hs3
          clear hs3 hR hy
          gi_wp2
          exact ⟨⟨n + 1, by go_num, by omega, by omega, by rw [unhide HST]; simpa using unhide hs4⟩, by simp [intOf]; omega⟩
        · have hs4 := hide hs3
          clear hs3 hR hy
          gi_wp2
          refine bodyPost_ret (results_none rfl _ _ _) rfl ?_
          exact ⟨⟨_, rfl⟩, .inr ⟨_, trivial, unhide hs4⟩⟩
    · obtain rfl : n = next := by omega
      have hs3 := hide hsr
      clear hsr
      gi_wp2
      go_end0
      exact ⟨⟨_, rfl⟩, .inl ⟨_, rfl, unhide hs3⟩⟩
end
end Go.Proofs.Ytdfidijlconhnaa
