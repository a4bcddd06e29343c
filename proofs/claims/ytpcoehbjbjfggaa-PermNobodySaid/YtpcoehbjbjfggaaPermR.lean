/- The program's perm: sets compared; Renew. -/
import Derived.Test.YtpcoehbjbjfggaaPermF
namespace Go.Proofs.Ytpcoehbjbjfggaa
open Go.RowKit Asn
/-- The same paths? -/
def b8 (pb qb : Nat → Bool) : Bool := (List.range 8).all fun p => pb p == qb p
section
variable {P : Program} {t e : TypeId} {i : TypeInfo}
theorem eqItems_bools (he : P.underlying e = some .bool) (hk : P.plainKey e = true) (pb qb : Nat → Bool) (w : World) (xs ys : Array Value) : ∀ (is : List Nat), (∀ j ∈ is, xs[j]? = some (.bool (pb j)) ∧ ys[j]? = some (.bool (qb j))) →
    (Op.eqItems 9999 e 1 xs ys is).run P w = .ok (is.all fun j => pb j == qb j) w
  | [], _ => by simp [Op.eqItems]
  | j :: is, h => by
    have ih := eqItems_bools he hk pb qb w xs ys is fun k hk => h k (List.mem_cons_of_mem _ hk)
    have hj := h j List.mem_cons_self
    simp only [Op.eqItems, Sem.run_bind, Nat.mul_one, run_part_plain w hk hj.1, run_part_plain w hk hj.2, Result.andThen_ok, run_equalIn_bool' w 9998 e _ _ he]
    cases hb : (pb j == qb j)
    · simp [hb]
    · simpa [hb] using ih
theorem eqItems_ints {k : IntKind} (he : P.underlying e = some (.int k)) (hk : P.plainKey e = true) (f h : Nat → Int) (w : World) (xs ys : Array Value) : ∀ (is : List Nat), (∀ j ∈ is, xs[j]? = some (.int k (f j)) ∧ ys[j]? = some (.int k (h j))) →
    (Op.eqItems 9999 e 1 xs ys is).run P w = .ok (is.all fun j => f j == h j) w
  | [], _ => by simp [Op.eqItems]
  | j :: is, hh => by
    have ih := eqItems_ints he hk f h w xs ys is fun k hk => hh k (List.mem_cons_of_mem _ hk)
    have hj := hh j List.mem_cons_self
    simp only [Op.eqItems, Sem.run_bind, Nat.mul_one, run_part_plain w hk hj.1, run_part_plain w hk hj.2, Result.andThen_ok, run_equalIn_int w 9998 e k k _ _ he]
    cases hb : (f j == h j)
    · simp [hb]
    · simpa [hb] using ih
end
theorem eq8 (pb qb : Nat → Bool) (w : World) : (Op.equalIn 10000 135 (.agg (set8 pb)) (.agg (set8 qb))).run Try.prog w = .ok (b8 pb qb) w := by
  obtain ⟨i, hi⟩ : ∃ i, Try.prog.info? 4 = some i := Option.isSome_iff_exists.1 (by kernel_rfl)
  have hz : Try.prog.cellsOf 4 = 1 := by kernel_rfl
  rw [run_equalIn_array w (n := 8) (e := 4) 9999 _ _ Try.underlying135 hi, hz]
  exact eqItems_bools Try.underlying4 (by kernel_rfl) pb qb w _ _ _ fun j hj => ⟨set8_get _ (List.mem_range.1 hj), set8_get _ (List.mem_range.1 hj)⟩
theorem told8_get (td : Nat → Int) {k : Nat} (hk : k < 8) : (told8 td)[k]? = some (.int .i64 (td k)) := by
  rcases (by omega : k = 0 ∨ k = 1 ∨ k = 2 ∨ k = 3 ∨ k = 4 ∨ k = 5 ∨ k = 6 ∨ k = 7) with rfl | rfl | rfl | rfl | rfl | rfl | rfl | rfl <;> rfl
theorem eqT (td : Nat → Int) (w : World) : (Op.equalIn 10000 117 (.agg (told8 td)) (.agg (told8 td))).run Try.prog w = .ok true w := by
  obtain ⟨i, hi⟩ : ∃ i, Try.prog.info? 3 = some i := Option.isSome_iff_exists.1 (by kernel_rfl)
  have hz : Try.prog.cellsOf 3 = 1 := by kernel_rfl
  rw [run_equalIn_array w (n := 8) (e := 3) 9999 _ _ Try.underlying117 hi, hz]
  have h := eqItems_ints (P := Try.prog) Try.underlying3 (by kernel_rfl) td td w (told8 td) (told8 td) (List.range 8) fun j hj => ⟨told8_get _ (List.mem_range.1 hj), told8_get _ (List.mem_range.1 hj)⟩
  have e : ((List.range 8).all fun j => td j == td j) = true := by simp
  rw [e] at h
  exact h
section
variable {E w : World} {F : Asn} {g gs n c nl cl : Nat} {s i : Int} {pb : Nat → Bool} {rn : Int} {td : Nat → Int} {A Al : Option Addr} {L : List Int} {lv : Value}
theorem renew_bad (hs : Sat E w (PermAt g gs s i pb lv rn td * F)) (hr : Go.Proofs.Ytpcoehbjbjfggaa.rd F 1 A n (ints L)) (hn : n ≤ 60000) (hbad : ¬ Good L ∨ L = []) :
    Calls Try.prog 70 #[.pointer (some ⟨g, 0, none⟩), .slice A n c] w fun e w' => e = .returned (.int .i64 60) ∧ Sat E w' (PermAt g gs s i pb lv rn td * F) := by
  have hno := hide (perm_none w g (some ⟨gs, 0, none⟩) (hs.asc.cell 0))
  have hof := hide (of_call E w _ A n c L hs hr.right hn)
  have hres : Hid (∃ cs : Nat → Bool, ∀ e w', OfP E (PermAt g gs s i pb lv rn td * F) L e w' → e = .returned (.tuple #[.agg (set8 cs), .bool false]) ∧ Sat E w' (PermAt g gs s i pb lv rn td * F)) := by
    rcases hbad with h | h
    · exact ⟨_, fun e w' ho => ⟨ho.2.1 h, ho.2.2⟩⟩
    · by_cases hg : Good L
      · exact ⟨memb L, fun e w' ho => ⟨by rw [ho.1 hg, h]; rfl, ho.2.2⟩⟩
      · exact ⟨_, fun e w' ho => ⟨ho.2.1 hg, ho.2.2⟩⟩
  obtain ⟨cs, hcs⟩ := unhide hres
  have HCS := hide hcs
  clear hcs hs hr hbad
  go_enter Try.func70, Try.ntmps70
  go_wp2_with (go_at_call 97; refine (unhide hno).mono ?_; rintro e w' ⟨rfl, rfl⟩)
  refine (unhide hof).mono ?_
  intro e w2 ho
  obtain ⟨rfl, hs2⟩ := unhide HCS _ _ ho
  have HS2 := hide hs2
  clear hs2 ho
  unfold set8
  go_wp2_with fail
  go_ret
  exact ⟨rfl, (unhide HS2).allocKeep _⟩
/-- What Renew leaves where the paths turn. -/
def RenewP (E : World) (F : Asn) (g gs : Nat) (s i : Int) (qb : Nat → Bool) (rn : Int) (td : Nat → Int) (e : Ending) (w' : World) : Prop :=
  ∃ A c M, e = .returned (.int .i64 0) ∧ ints M = shufL s ((riseL qb).length - 1) i (ints (riseL qb)) ∧ M.Perm (riseL qb) ∧
    Sat E w' (PermAt g gs s (i + ((riseL qb).length - 1 : Nat)) qb (.slice A M.length c) (wrap64 (rn + 1)) td * (sl 3 1 A M.length c (ints M) * F))
/-- What Renew leaves. -/
def RenewQ (E : World) (F : Asn) (g gs : Nat) (s i : Int) (pb qb : Nat → Bool) (lv : Value) (rn : Int) (td : Nat → Int) (same : Bool) (e : Ending) (w' : World) : Prop :=
  if same then e = .returned (.int .i64 0) ∧ Sat E w' (PermAt g gs s i pb lv rn td * F) else RenewP E F g gs s i qb rn td e w'
theorem permC_pb (gs : Nat) (pb qb : Nat → Bool) (lv : Value) (rn : Int) (td : Nat → Int) : ((((((((permC gs pb lv rn td).setIfInBounds 1 (.bool (qb 0))).setIfInBounds 2 (.bool (qb 1))).setIfInBounds 3 (.bool (qb 2))).setIfInBounds 4 (.bool (qb 3))).setIfInBounds 5 (.bool (qb 4))).setIfInBounds 6 (.bool (qb 5))).setIfInBounds 7 (.bool (qb 6))).setIfInBounds 8 (.bool (qb 7)) = permC gs qb lv rn td := by simp [permC]
theorem permPb {t : TypeId} (h : Sat E w (Asn.blk g t (permC gs pb lv rn td) * F)) (qb : Nat → Bool) : Sat E ((((((((w.setCell ⟨g, 1, none⟩ (.bool (qb 0))).setCell ⟨g, 2, none⟩ (.bool (qb 1))).setCell ⟨g, 3, none⟩ (.bool (qb 2))).setCell ⟨g, 4, none⟩ (.bool (qb 3))).setCell ⟨g, 5, none⟩ (.bool (qb 4))).setCell ⟨g, 6, none⟩ (.bool (qb 5))).setCell ⟨g, 7, none⟩ (.bool (qb 6))).setCell ⟨g, 8, none⟩ (.bool (qb 7))) (Asn.blk g t (permC gs qb lv rn td) * F) := by
  have h2 := (((((((h.set 1 (.bool (qb 0))).set 2 (.bool (qb 1))).set 3 (.bool (qb 2))).set 4 (.bool (qb 3))).set 5 (.bool (qb 4))).set 6 (.bool (qb 5))).set 7 (.bool (qb 6))).set 8 (.bool (qb 7))
  rw [permC_pb] at h2
  exact h2
set_option maxHeartbeats 4000000 in
set_option maxRecDepth 100000 in
theorem renew_ok (hs : Sat E w (PermAt g gs s i pb lv rn td * F)) (hr : Go.Proofs.Ytpcoehbjbjfggaa.rd F 1 A n (ints L)) (hn : n ≤ 60000) (hg : Good L) (hL : 0 < L.length) (h0 : 0 ≤ i) (hi : i ≤ 900000) :
    Calls Try.prog 70 #[.pointer (some ⟨g, 0, none⟩), .slice A n c] w (RenewQ E F g gs s i pb (memb L) lv rn td (b8 (memb L) pb)) := by
  have hno := hide (perm_none w g (some ⟨gs, 0, none⟩) (hs.asc.cell 0))
  have hof := hide (of_call E w _ A n c L hs hr.right hn)
  have HG := hide hg
  have HL := hide hL
  obtain ⟨qb, hqb⟩ : ∃ qb, qb = memb L := ⟨_, rfl⟩
  rw [← hqb]
  obtain ⟨bq, hbq⟩ : ∃ bq, bq = b8 qb pb := ⟨_, rfl⟩
  rw [← hbq]
  have he8 : ∀ w, (Op.equalIn 10000 135 (.agg (set8 qb)) (.agg (set8 pb))).run Try.prog w = .ok bq w := by rw [hbq]; exact eq8 qb pb
  unfold set8 at he8
  have HQB := hide hqb
  clear hs hr hg hL hbq hqb
  go_enter Try.func70, Try.ntmps70
  go_wp2_with (go_at_call 97; refine (unhide hno).mono ?_; rintro e w' ⟨rfl, rfl⟩)
  refine (unhide hof).mono ?_
  intro e w2 ho
  obtain ⟨h1, _, hs2⟩ := ho
  obtain rfl := h1 (unhide HG)
  rw [decide_eq_true (unhide HL)]
  rw [← unhide HQB]
  have HS3 := hide (hs2.alloc (set8 qb) 135)
  clear h1 hs2 hof
  unfold set8
  go_wp2_with fail
  refine wp_region_slr (Q := _) (E := E) (fun W => ∃ R, Sat E W ((Asn.blk w2.heap.size 135 (set8 qb) * (PermAt g gs s i pb lv rn td * F)) * R)) [] [] [] [] (fun _ => (0, #[], fun _ => undef)) [0, 1, 2, 3, 4, 5, 6] (by kernel_rfl) (by kernel_rfl) ((unhide HS3).perm (sep_one _).symm) (fun W R h => ⟨_, h.asc⟩) ?_
  iterate 7
    refine wpS_f _ rfl rfl (v := ?_) ?_ ?_
    rotate_left
    · rintro W ⟨R, hW⟩
      have a0 : W.cell? ⟨w2.heap.size, 0, none⟩ = some (.bool (qb 0)) := hW.asc.cell 0
      have a1 : W.cell? ⟨w2.heap.size, 1, none⟩ = some (.bool (qb 1)) := hW.asc.cell 1
      have a2 : W.cell? ⟨w2.heap.size, 2, none⟩ = some (.bool (qb 2)) := hW.asc.cell 2
      have a3 : W.cell? ⟨w2.heap.size, 3, none⟩ = some (.bool (qb 3)) := hW.asc.cell 3
      have a4 : W.cell? ⟨w2.heap.size, 4, none⟩ = some (.bool (qb 4)) := hW.asc.cell 4
      have a5 : W.cell? ⟨w2.heap.size, 5, none⟩ = some (.bool (qb 5)) := hW.asc.cell 5
      have a6 : W.cell? ⟨w2.heap.size, 6, none⟩ = some (.bool (qb 6)) := hW.asc.cell 6
      have a7 : W.cell? ⟨w2.heap.size, 7, none⟩ = some (.bool (qb 7)) := hW.asc.cell 7
      have b0 : W.cell? ⟨g, 1, none⟩ = some (.bool (pb 0)) := hW.asc.f2.asc.asc.cell 1
      have b1 : W.cell? ⟨g, 2, none⟩ = some (.bool (pb 1)) := hW.asc.f2.asc.asc.cell 2
      have b2 : W.cell? ⟨g, 3, none⟩ = some (.bool (pb 2)) := hW.asc.f2.asc.asc.cell 3
      have b3 : W.cell? ⟨g, 4, none⟩ = some (.bool (pb 3)) := hW.asc.f2.asc.asc.cell 4
      have b4 : W.cell? ⟨g, 5, none⟩ = some (.bool (pb 4)) := hW.asc.f2.asc.asc.cell 5
      have b5 : W.cell? ⟨g, 6, none⟩ = some (.bool (pb 5)) := hW.asc.f2.asc.asc.cell 6
      have b6 : W.cell? ⟨g, 7, none⟩ = some (.bool (pb 6)) := hW.asc.f2.asc.asc.cell 7
      have b7 : W.cell? ⟨g, 8, none⟩ = some (.bool (pb 7)) := hW.asc.f2.asc.asc.cell 8
      go_simp
      first | rfl | (rw [IntKind.wrap_i64]; omega)
    go_simp
  refine wpS_n (fun w3 hs3 => ?_)
  have hs4 := hs3.asc
  clear hs3
  cases bq
  · have a0 : w3.cell? ⟨w2.heap.size, 0, none⟩ = some (.bool (qb 0)) := hs4.cell 0
    have a1 : w3.cell? ⟨w2.heap.size, 1, none⟩ = some (.bool (qb 1)) := hs4.cell 1
    have a2 : w3.cell? ⟨w2.heap.size, 2, none⟩ = some (.bool (qb 2)) := hs4.cell 2
    have a3 : w3.cell? ⟨w2.heap.size, 3, none⟩ = some (.bool (qb 3)) := hs4.cell 3
    have a4 : w3.cell? ⟨w2.heap.size, 4, none⟩ = some (.bool (qb 4)) := hs4.cell 4
    have a5 : w3.cell? ⟨w2.heap.size, 5, none⟩ = some (.bool (qb 5)) := hs4.cell 5
    have a6 : w3.cell? ⟨w2.heap.size, 6, none⟩ = some (.bool (qb 6)) := hs4.cell 6
    have a7 : w3.cell? ⟨w2.heap.size, 7, none⟩ = some (.bool (qb 7)) := hs4.cell 7
    have b0 : w3.cell? ⟨g, 1, none⟩ = some (.bool (pb 0)) := hs4.f2.asc.asc.cell 1
    have b1 : w3.cell? ⟨g, 2, none⟩ = some (.bool (pb 1)) := hs4.f2.asc.asc.cell 2
    have b2 : w3.cell? ⟨g, 3, none⟩ = some (.bool (pb 2)) := hs4.f2.asc.asc.cell 3
    have b3 : w3.cell? ⟨g, 4, none⟩ = some (.bool (pb 3)) := hs4.f2.asc.asc.cell 4
    have b4 : w3.cell? ⟨g, 5, none⟩ = some (.bool (pb 4)) := hs4.f2.asc.asc.cell 5
    have b5 : w3.cell? ⟨g, 6, none⟩ = some (.bool (pb 5)) := hs4.f2.asc.asc.cell 6
    have b6 : w3.cell? ⟨g, 7, none⟩ = some (.bool (pb 6)) := hs4.f2.asc.asc.cell 7
    have b7 : w3.cell? ⟨g, 8, none⟩ = some (.bool (pb 7)) := hs4.f2.asc.asc.cell 8
    have bf : ∀ j, w3.frozen? ⟨g, j, none⟩ = false := fun j => hs4.f2.asc.asc.frozen j
    have hs5 := permPb hs4.f2.asc.asc qb
    have hbg := hide (begin_call E _ (F * (Asn.blk w2.heap.size 135 (set8 qb))) g gs s i qb lv rn td (hs5.perm (by unfold PermAt; simp only [sep_one]; ac_rfl)) h0 hi)
    clear hs4 hs5
    go_wp2_with fail
    refine (unhide hbg).mono ?_
    rintro e w4 ⟨⟨v, rfl⟩, A4, c4, M, h1, h2, hs5⟩
    have hfin : Hid (RenewP E F g gs s i qb rn td (.returned (.int .i64 0)) w4) := ⟨A4, c4, M, rfl, h1, h2, (hs5.perm (show _ = (PermAt g gs s (i + ((riseL qb).length - 1 : Nat)) qb (.slice A4 M.length c4) (wrap64 (rn + 1)) td * (sl 3 1 A4 M.length c4 (ints M) * F)) * Asn.blk w2.heap.size 135 (set8 qb) by ac_rfl)).left⟩
    clear h1 h2 hs5 hbg
    go_wp2_with fail
    go_ret
    exact unhide hfin
  · have HS5 := hide (show Sat E w3 (PermAt g gs s i pb lv rn td * F) from hs4.right.left)
    clear hs4
    go_wp2_with fail
    go_ret
    exact ⟨rfl, unhide HS5⟩
end
end Go.Proofs.Ytpcoehbjbjfggaa
