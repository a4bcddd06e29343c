/- The queue of pieces: Add; Piece of what is not there. -/
import Derived.Test.YtdfidijlconhnaaSqA
namespace Go.Proofs.Ytdfidijlconhnaa
open Go.RowKit Asn
/-- A piece: its bytes' slice, its two marks. -/
structure PR where
  a : Option Addr
  n : Nat
  c : Nat
  e : Bool
  f : Bool
def pieceC : List PR → List Value
  | [] => []
  | h :: l => .slice h.a h.n h.c :: .bool h.e :: .bool h.f :: pieceC l
theorem pieceC_len : ∀ H, (pieceC H).length = H.length * 3
  | [] => rfl
  | h :: l => by unfold pieceC; simp only [List.length_cons, pieceC_len l]; omega
theorem pieceC_append : ∀ H K, pieceC (H ++ K) = pieceC H ++ pieceC K
  | [], K => rfl
  | h :: l, K => by simp only [List.cons_append, pieceC, pieceC_append l K]
theorem pieceC_at : ∀ (H : List PR) (i : Nat) (h : PR), H[i]? = some h → (pieceC H)[i * 3]? = some (.slice h.a h.n h.c) ∧ (pieceC H)[i * 3 + 1]? = some (.bool h.e) ∧ (pieceC H)[i * 3 + 2]? = some (.bool h.f)
  | [], i, h, e => by simp at e
  | x :: l, 0, h, e => by
    obtain rfl : x = h := by simpa using e
    exact ⟨rfl, rfl, rfl⟩
  | x :: l, i + 1, h, e => by
    have := pieceC_at l i h (by simpa using e)
    rw [show (i + 1) * 3 = i * 3 + 3 by omega]
    exact this
theorem pieceC_one {H : List PR} : ∀ u ∈ pieceC H, u.oneCell' = true := by
  induction H with
  | nil => intro u hu; simp [pieceC] at hu
  | cons h l ih =>
    intro u hu
    simp only [pieceC, List.mem_cons] at hu
    rcases hu with rfl | rfl | rfl | hu
    · rfl
    · rfl
    · rfl
    · exact ih u hu
/-- A slice of bytes that may be read as long as F stays. -/
structure RB (F : Asn) (A : Option Addr) (n c : Nat) (l : List UInt8) : Prop where
  rd : rd F 1 A n (bytes l)
  nil : A = none → c = 0
  few : n ≤ 60000
theorem RB.left {F G : Asn} {A : Option Addr} {n c : Nat} {l : List UInt8} (h : RB F A n c l) : RB (F * G) A n c l := ⟨h.rd.left, h.nil, h.few⟩
theorem RB.right {F G : Asn} {A : Option Addr} {n c : Nat} {l : List UInt8} (h : RB F A n c l) : RB (G * F) A n c l := ⟨h.rd.right, h.nil, h.few⟩
theorem RB.perm {F G : Asn} {A : Option Addr} {n c : Nat} {l : List UInt8} (h : RB F A n c l) (e : F = G) : RB G A n c l := e ▸ h
theorem Sat.slNone' {E w : World} {e z n c : Nat} {A : Option Addr} {xs : List Value} (h : Sat E w (sl e z A n c xs)) : A = none → c = 0 := (h.perm (sep_one _).symm : Sat E w (sl e z A n c xs * 1)).slNone
theorem bytes_one {l : List UInt8} : ∀ u ∈ bytes l, u.oneCell' = true := by
  intro u hu
  obtain ⟨x, _, rfl⟩ := List.mem_map.1 hu
  rfl
/-- The queue's piece is that one. -/
def isP (X : Asn) (h : HR) (p : PR) : Prop := h.e = p.e ∧ h.f = p.f ∧ ∃ l, RB X h.a h.n h.c l ∧ RB X p.a p.n p.c l
theorem isP.left {X G : Asn} {h : HR} {p : PR} (hp : isP X h p) : isP (X * G) h p := ⟨hp.1, hp.2.1, hp.2.2.imp fun _ h => ⟨h.1.left, h.2.left⟩⟩
theorem isP.right {X G : Asn} {h : HR} {p : PR} (hp : isP X h p) : isP (G * X) h p := ⟨hp.1, hp.2.1, hp.2.2.imp fun _ h => ⟨h.1.right, h.2.right⟩⟩
theorem isP.perm {X G : Asn} {h : HR} {p : PR} (hp : isP X h p) (e : X = G) : isP G h p := e ▸ hp
/-- The new ones of the queue are those. -/
def newP (X : Asn) (H : List HR) (P : List PR) : Prop := ∀ (i : Nat) (h : HR) (p : PR), H[i]? = some h → P[i]? = some p → isP X h p ∧ h.k = false
def AddOk (E : World) (X F : Asn) (g most low next : Nat) (H : List HR) (row : List Int) (B : Option Addr) (d : Nat) (P : List PR) (e : Ending) (w' : World) : Prop :=
  e = .returned (.int .i64 0) ∧ ∃ G H2 A2 c2, H2.length = P.length ∧ newP (G * X) H2 P ∧ Sat E w' (QAt g most low next (H ++ H2) row A2 c2 B d * (G * (X * F)))
section
variable {E w : World} {F : Asn} {g most low next : Nat} {H : List HR} {row : List Int} {A B : Option Addr} {c d : Nat}
set_option maxHeartbeats 4000000 in
set_option maxRecDepth 100000 in
theorem sq_add {X : Asn} {P : List PR} {pA : Option Addr} {pc : Nat} (hs : Sat E w (QAt g most low next H row A c B d * (X * F))) (h1 : 1 ≤ most) (hm : most ≤ 100000) (hh : H.length ≤ 30000) (hp : P.length ≤ 30000) (hfit : (P.length : Int) ≤ most - H.length)
    (hr : rd X 3 pA P.length (pieceC P)) (hb : ∀ (i : Nat) (p : PR), P[i]? = some p → ∃ l, RB X p.a p.n p.c l) :
    Calls Try.prog 10 #[.pointer (some ⟨g, 0, none⟩), .slice pA P.length pc] w (AddOk E X F g most low next H row B d P) := by
  have hno := hide (sq_is hs h1)
  have HS0 := hide (hs.perm (sep_one _).symm)
  have HW : Hid (IntKind.i64.wrap ((most : Int) - H.length) = (most : Int) - H.length) := by show _ = _; rw [IntKind.wrap_i64]; omega
  obtain ⟨pn, hpn⟩ : ∃ pn, pn = P.length := ⟨_, rfl⟩
  obtain ⟨hq, hhq⟩ : ∃ hq, hq = H.length := ⟨_, rfl⟩
  have HPN := hide hpn
  have HHQ := hide hhq
  rw [← hpn] at hp hfit
  rw [← hhq] at HW hh hfit
  have HRD := hide hr
  have HB := hide hb
  rw [← hpn]
  clear hs hr hb hpn hhq
  go_enter Try.func10, Try.ntmps10
  go_wp2_with (go_at_call 57; refine (unhide hno).mono ?_; rintro e w' ⟨rfl, rfl⟩)
  refine wp_region_slr (Q := _) (E := E) (fun W => ∃ R, Sat E W ((QAt g most low next H row A c B d * (X * F)) * R)) [] [] [] [] (fun _ => (0, #[], fun _ => undef)) [0, 1, 2, 3, 4, 5, 6, 7, 8, 9, 10, 11, 12, 13] (by kernel_rfl) (by kernel_rfl) (unhide HS0) (fun W R h => ⟨_, h.asc⟩) ?_
  iterate 14
    refine wpS_f _ rfl rfl (v := ?_) ?_ ?_
    rotate_left
    · rintro W ⟨R, hW⟩
      have f1 : W.cell? ⟨g, 0, none⟩ = some (.int .i64 most) := hW.asc.asc.cell 0
      have f2 : W.cell? ⟨g, 3, none⟩ = some (.slice A hq c) := by rw [unhide HHQ]; exact hW.asc.asc.cell 3
      have f3 : IntKind.i64.wrap ((most : Int) - hq) = (most : Int) - hq := HW.out
      go_simp
      first | rfl | (rw [IntKind.wrap_i64]; omega)
    go_simp
  refine wpS_n (fun w3 hs3 => ?_)
  have hs4 := hs3.perm (sep_one _)
  have HS4 := hide hs4
  have hfit2 : ¬ (most : Int) - hq < pn := by omega
  clear hs3 hs4
  go_wp2_with fail
  go_loopw [6, 26] (fun _ s26 wr => ∃ (k c2 : Nat) (G : Asn) (H2 : List HR) (A2 : Option Addr), s26 = .int .i64 k ∧ k ≤ pn ∧ H2.length = k ∧ Hid (newP (G * X) H2 P) ∧ Sat E wr (QAt g most low next (H ++ H2) row A2 c2 B d * (G * (X * F)))) (fun _ s26 _ => pn - (intOf s26).toNat)
  case atStart => exact ⟨0, c, 1, [], A, rfl, Nat.zero_le _, rfl, hide (fun i h p hi _ => by simp at hi), (unhide HS4).perm (by rw [List.append_nil, one_sep])⟩
  case round =>
    obtain ⟨k, c2, G, H2, A2, rfl, hk, hl2, HN, hsr⟩ := hrel
    clear HS4 HS0
    by_cases hlt : k < pn
    · obtain ⟨p, hpk⟩ : ∃ p, P[k]? = some p := ⟨_, List.getElem?_eq_getElem (by have := unhide HPN; omega)⟩
      obtain ⟨l, hl⟩ := unhide HB k p hpk
      obtain ⟨o0, o1, o2⟩ := pieceC_at P k p hpk
      have hrd := RdW.of_rd (unhide HRD) hsr.right.right.left
      obtain ⟨ad, rfl, e0⟩ := hrd.at_ o0
      obtain ⟨ad', h, e1⟩ := hrd.2 (by have := unhide HPN; omega)
      obtain rfl : ad = ad' := by simpa using h
      have e2 := e1 _ _ o2
      have e1 := e1 _ _ o1
      rw [← add_fld] at e1 e2
      obtain ⟨a, n, c0, pe, pf⟩ := p
      dsimp only at *
      have hs5 := hsr.alloc #[.slice a n c0, .bool pe, .bool pf] 52
      have hcl := hide (clone_bytes E _ _ a n c0 (bytes l) hs5 hl.rd.left.right.right.right bytes_one hl.nil (by have := hl.few; omega))
      have HLL := hide hl
      have HPK := hide hpk
      have hap : ad.block < wr.heap.size := World.block_lt_of_cell? wr _ e0 |> fun h => by unfold Addr.add at h; split at h <;> exact h
      clear hsr hs5 hrd o0 o1 o2 h hl hpk
      go_wp2_with fail
      refine (unhide hcl).mono ?_
      rintro e w4 ⟨A3, c3, rfl, hs6⟩
      have v0 : w4.cell? ⟨wr.heap.size, 0, none⟩ = some (.slice a n c0) := hs6.f2.cell 0
      have v1 : w4.frozen? ⟨wr.heap.size, 0, none⟩ = false := hs6.f2.frozen 0
      have v2 : wr.heap.size < w4.heap.size := Sat.lt (o := .cells _ _ (0, 0)) hs6.f2
      have hs7 := (hs6.f2.set 0 (.slice A3 n c3)).perm (show _ = (Asn.blk wr.heap.size 52 #[.slice A3 n c3, .bool pe, .bool pf] * (sl 3 1 B row.length d (ints row) * ((sl 5 1 A3 n c3 (bytes l) * G) * (X * F)))) * (Asn.blk g 65 (queueC most low next A2 (H ++ H2).length c2 B row.length d) * sl 124 4 A2 (H ++ H2).length c2 (heldC (H ++ H2))) by unfold QAt; show Asn.blk _ _ #[_, _, _] * _ = _; ac_rfl)
      have hqk : (H ++ H2).length = hq + k := by rw [List.length_append, hl2, ← unhide HHQ]
      rw [hqk] at hs7
      have HQK := hide hqk
      have HS7 := hide hs7
      clear hs6 hs7 hcl e0 e1 e2 hqk hap
      go_wp2_with fail
      refine wp_region_slr (Q := _) (E := E) (fun W => ∃ R, Sat E W ((Asn.blk wr.heap.size 52 #[.slice A3 n c3, .bool pe, .bool pf] * (sl 3 1 B row.length d (ints row) * ((sl 5 1 A3 n c3 (bytes l) * G) * (X * F)))) * R)) [8, 11] [] [7] [4] (fun i_ => (124, #[.slice A3 n c3, .bool pe, .bool pf, .bool false], fun g_ => .slice (some ⟨g_, 0, none⟩) 1 1)) [0, 1, 2, 3, 4, 5, 6, 7, 8, 9, 10, 11] (by kernel_rfl) (by kernel_rfl) (unhide HS7) (fun W R h => ⟨_, h.asc⟩) ?_
      iterate 4
        refine wpS_f _ rfl rfl (v := ?_) ?_ ?_
        rotate_left
        · rintro W ⟨R, hW⟩
          have g0 : W.cell? ⟨wr.heap.size, 0, none⟩ = some (.slice A3 n c3) := hW.asc.cell 0
          have g1 : W.cell? ⟨wr.heap.size, 1, none⟩ = some (.bool pe) := hW.asc.cell 1
          have g2 : W.cell? ⟨wr.heap.size, 2, none⟩ = some (.bool pf) := hW.asc.cell 2
          go_simp
          first | rfl | (rw [IntKind.wrap_i64]; omega)
        go_simp
      refine wpS_r _ rfl rfl (v := ?_) ?_ ?_
      rotate_left
      · rintro W ⟨R, hW⟩
        have h0 : W.cell? ⟨g, 3, none⟩ = some (.slice A2 (hq + k) c2) := (hW.perm (show _ = Asn.blk g 65 (queueC most low next A2 (hq + k) c2 B row.length d) * (Asn.blk wr.heap.size 52 #[.slice A3 n c3, .bool pe, .bool pf] * (sl 3 1 B row.length d (ints row) * ((sl 5 1 A3 n c3 (bytes l) * G) * (X * F))) * sl 124 4 A2 (hq + k) c2 (heldC (H ++ H2)) * R) by ac_rfl)).cell 3
        go_simp
        first | rfl | (rw [IntKind.wrap_i64]; omega)
      go_simp
      iterate 2
        refine wpS_f _ rfl rfl (v := ?_) ?_ ?_
        rotate_left
        · rintro W ⟨R, hW⟩
          have g0 : W.cell? ⟨wr.heap.size, 0, none⟩ = some (.slice A3 n c3) := hW.asc.cell 0
          have g1 : W.cell? ⟨wr.heap.size, 1, none⟩ = some (.bool pe) := hW.asc.cell 1
          have g2 : W.cell? ⟨wr.heap.size, 2, none⟩ = some (.bool pf) := hW.asc.cell 2
          go_simp
          first | rfl | (rw [IntKind.wrap_i64]; omega)
        go_simp
      refine wpS_a _ rfl rfl (fun W => by unfold stp; go_simp; exact ⟨rfl, rfl⟩) (fun g_41 => ?_)
      go_simp
      refine wpS_e _ rfl rfl (fun W R hW => ?_)
      obtain ⟨A4, c4, w5, r_, hs_⟩ := Sat.append (P := Try.prog) (t := 61) (ty := 61) (d := 1) elt_held (hW.perm (show _ = sl 124 4 A2 (hq + k) c2 (heldC (H ++ H2)) * (Asn.blk g_41 124 #[.slice A3 n c3, .bool pe, .bool pf, .bool false] * (Asn.blk wr.heap.size 52 #[.slice A3 n c3, .bool pe, .bool pf] * (sl 3 1 B row.length d (ints row) * ((sl 5 1 A3 n c3 (bytes l) * G) * (X * F)))) * (Asn.blk g 65 (queueC most low next A2 (hq + k) c2 B row.length d) * R)) by ac_rfl)) (hW.asc.rdBlk (n := 1) (z := 4) rfl) (by intro u hu; simp at hu; rcases hu with rfl | rfl | rfl | rfl <;> rfl) (by unfold maxLen; omega) (by omega)
      refine stp_append rfl _ _ rfl rfl rfl r_ ?_
      refine ⟨(Asn.blk wr.heap.size 52 #[.slice A3 n c3, .bool pe, .bool pf] * (sl 3 1 B row.length d (ints row) * ((sl 5 1 A3 n c3 (bytes l) * G) * (X * F)))) * (Asn.blk g 65 (queueC most low next A2 (hq + k) c2 B row.length d) * (sl 124 4 A4 (hq + k + 1) c4 (heldC (H ++ H2) ++ [.slice A3 n c3, .bool pe, .bool pf, .bool false]) * Asn.blk g_41 124 #[.slice A3 n c3, .bool pe, .bool pf, .bool false])), fun W R h => ⟨_, h.asc⟩, (hs_).perm (by first | ac_rfl | (simp only [Asn.one_sep, Asn.sep_one]; ac_rfl)), ?_⟩
      clear hW r_
      go_simp
      iterate 2
        refine wpS_f _ rfl rfl (v := ?_) ?_ ?_
        rotate_left
        · rintro W ⟨R, hW⟩
          have g0 : W.cell? ⟨wr.heap.size, 0, none⟩ = some (.slice A3 n c3) := hW.asc.cell 0
          have g1 : W.cell? ⟨wr.heap.size, 1, none⟩ = some (.bool pe) := hW.asc.cell 1
          have g2 : W.cell? ⟨wr.heap.size, 2, none⟩ = some (.bool pf) := hW.asc.cell 2
          go_simp
          first | rfl | (rw [IntKind.wrap_i64]; omega)
        go_simp
      refine wpS_e _ rfl rfl (fun W R hW => ?_)
      have u0 : W.cell? ⟨g, 3, none⟩ = some (.slice A2 (hq + k) c2) := (hW.perm (show _ = Asn.blk g 65 (queueC most low next A2 (hq + k) c2 B row.length d) * (Asn.blk wr.heap.size 52 #[.slice A3 n c3, .bool pe, .bool pf] * (sl 3 1 B row.length d (ints row) * ((sl 5 1 A3 n c3 (bytes l) * G) * (X * F))) * (sl 124 4 A4 (hq + k + 1) c4 (heldC (H ++ H2) ++ [.slice A3 n c3, .bool pe, .bool pf, .bool false]) * Asn.blk g_41 124 #[.slice A3 n c3, .bool pe, .bool pf, .bool false]) * R) by ac_rfl)).cell 3
      have u1 : W.frozen? ⟨g, 3, none⟩ = false := (hW.perm (show _ = Asn.blk g 65 (queueC most low next A2 (hq + k) c2 B row.length d) * (Asn.blk wr.heap.size 52 #[.slice A3 n c3, .bool pe, .bool pf] * (sl 3 1 B row.length d (ints row) * ((sl 5 1 A3 n c3 (bytes l) * G) * (X * F))) * (sl 124 4 A4 (hq + k + 1) c4 (heldC (H ++ H2) ++ [.slice A3 n c3, .bool pe, .bool pf, .bool false]) * Asn.blk g_41 124 #[.slice A3 n c3, .bool pe, .bool pf, .bool false]) * R) by ac_rfl)).frozen 3
      have hst := hide (show Sat E _ ((Asn.blk wr.heap.size 52 #[.slice A3 n c3, .bool pe, .bool pf] * (sl 3 1 B row.length d (ints row) * ((sl 5 1 A3 n c3 (bytes l) * G) * (X * F)))) * (Asn.blk g 65 (queueC most low next A4 (hq + k + 1) c4 B row.length d) * (sl 124 4 A4 (hq + k + 1) c4 (heldC (H ++ H2) ++ [.slice A3 n c3, .bool pe, .bool pf, .bool false]) * Asn.blk g_41 124 #[.slice A3 n c3, .bool pe, .bool pf, .bool false])) * R) from ((hW.perm (show _ = Asn.blk g 65 (queueC most low next A2 (hq + k) c2 B row.length d) * (Asn.blk wr.heap.size 52 #[.slice A3 n c3, .bool pe, .bool pf] * (sl 3 1 B row.length d (ints row) * ((sl 5 1 A3 n c3 (bytes l) * G) * (X * F))) * (sl 124 4 A4 (hq + k + 1) c4 (heldC (H ++ H2) ++ [.slice A3 n c3, .bool pe, .bool pf, .bool false]) * Asn.blk g_41 124 #[.slice A3 n c3, .bool pe, .bool pf, .bool false]) * R) by ac_rfl)).set 3 (.slice A4 (hq + k + 1) c4)).perm (by first | ac_rfl | (simp only [Asn.one_sep, Asn.sep_one]; ac_rfl)))
      unfold stp
      go_simp
      refine (show ∃ F', _ from ⟨(Asn.blk wr.heap.size 52 #[.slice A3 n c3, .bool pe, .bool pf] * (sl 3 1 B row.length d (ints row) * ((sl 5 1 A3 n c3 (bytes l) * G) * (X * F)))) * (Asn.blk g 65 (queueC most low next A4 (hq + k + 1) c4 B row.length d) * (sl 124 4 A4 (hq + k + 1) c4 (heldC (H ++ H2) ++ [.slice A3 n c3, .bool pe, .bool pf, .bool false]) * Asn.blk g_41 124 #[.slice A3 n c3, .bool pe, .bool pf, .bool false])), fun W R h => ⟨_, h.asc⟩, unhide hst, ?_⟩)
      clear hst hW u0 u1
      go_simp
      refine wpS_n (fun w6 hs8 => ?_)
      clear hs_
      have hlen : (H ++ (H2 ++ [(⟨A3, n, c3, pe, pf, false⟩ : HR)])).length = hq + k + 1 := by rw [List.length_append, List.length_append, hl2, ← unhide HHQ]; rfl
      have hhc : heldC (H ++ (H2 ++ [(⟨A3, n, c3, pe, pf, false⟩ : HR)])) = heldC (H ++ H2) ++ [.slice A3 n c3, .bool pe, .bool pf, .bool false] := by rw [← List.append_assoc, heldC_append]; rfl
      have HS8 := hide (hs8.perm (show _ = QAt g most low next (H ++ (H2 ++ [⟨A3, n, c3, pe, pf, false⟩])) row A4 c4 B d * ((sl 5 1 A3 n c3 (bytes l) * (G * (Asn.blk g_41 124 #[.slice A3 n c3, .bool pe, .bool pf, .bool false] * Asn.blk wr.heap.size 52 #[.slice A3 n c3, .bool pe, .bool pf]))) * (X * F)) by unfold QAt; rw [hlen, hhc]; ac_rfl))
      have hnew : Hid (newP ((sl 5 1 A3 n c3 (bytes l) * (G * (Asn.blk g_41 124 #[.slice A3 n c3, .bool pe, .bool pf, .bool false] * Asn.blk wr.heap.size 52 #[.slice A3 n c3, .bool pe, .bool pf]))) * X) (H2 ++ [⟨A3, n, c3, pe, pf, false⟩]) P) := by
        intro i h p hi hpi
        by_cases hik : i < k
        · rw [List.getElem?_append_left (by omega)] at hi
          obtain ⟨m1, m2⟩ := unhide HN i h p hi hpi
          exact ⟨(m1.right (G := sl 5 1 A3 n c3 (bytes l) * (Asn.blk g_41 124 #[.slice A3 n c3, .bool pe, .bool pf, .bool false] * Asn.blk wr.heap.size 52 #[.slice A3 n c3, .bool pe, .bool pf]))).perm (by ac_rfl), m2⟩
        · rw [List.getElem?_append_right (by omega), hl2] at hi
          have hik0 : i = k := by
            have := (List.getElem?_eq_some_iff.1 hi).1
            simp at this; omega
          subst hik0
          simp at hi
          subst hi
          rw [unhide HPK] at hpi
          obtain rfl := Option.some.inj hpi
          have hll := unhide HLL
          exact ⟨⟨rfl, rfl, l, RB.left ⟨rd_sl.left, (unhide HS8).right.left.left.slNone', hll.few⟩, hll.right⟩, rfl⟩
      clear hs8 HS7 HN HLL hlen hhc
      go_wp2_with fail
      go_roundw
      case rel => exact ⟨k + 1, c4, _, _, A4, by go_num, by omega, by rw [List.length_append, hl2]; rfl, hnew, unhide HS8⟩
      case measure => simp [intOf]; omega
    · obtain rfl : k = pn := by omega
      have HFIN : Hid (AddOk E X F g most low next H row B d P (.returned (.int .i64 0)) wr) := ⟨rfl, G, H2, A2, c2, by rw [hl2]; exact unhide HPN, unhide HN, hsr⟩
      have hk0 : ¬ (k : Int) < k := by omega
      clear hsr hlt
      go_wp2_with fail
      go_ret
      exact unhide HFIN
set_option maxRecDepth 100000 in
/-- Add, of more than there is room for. -/
theorem sq_add_full {pn pc : Nat} {pA : Option Addr} (hs : Sat E w (QAt g most low next H row A c B d * F)) (h1 : 1 ≤ most) (hm : most ≤ 100000) (hh : H.length ≤ 30000) (hp : pn ≤ 30000) (hfit : ¬ (pn : Int) ≤ most - H.length) :
    Calls Try.prog 10 #[.pointer (some ⟨g, 0, none⟩), .slice pA pn pc] w fun e w' => e = .returned (.int .i64 8) ∧ Sat E w' (QAt g most low next H row A c B d * F) := by
  have hno := hide (sq_is hs h1)
  have HS0 := hide (hs.perm (sep_one _).symm)
  have HW : Hid (IntKind.i64.wrap ((most : Int) - H.length) = (most : Int) - H.length) := by show _ = _; rw [IntKind.wrap_i64]; omega
  obtain ⟨hq, hhq⟩ : ∃ hq, hq = H.length := ⟨_, rfl⟩
  have HHQ := hide hhq
  rw [← hhq] at HW hh hfit
  clear hs hhq
  go_enter Try.func10, Try.ntmps10
  go_wp2_with (go_at_call 57; refine (unhide hno).mono ?_; rintro e w' ⟨rfl, rfl⟩)
  refine wp_region_slr (Q := _) (E := E) (fun W => ∃ R, Sat E W ((QAt g most low next H row A c B d * F) * R)) [] [] [] [] (fun _ => (0, #[], fun _ => undef)) [0, 1, 2, 3, 4, 5, 6, 7, 8, 9, 10, 11, 12, 13] (by kernel_rfl) (by kernel_rfl) (unhide HS0) (fun W R h => ⟨_, h.asc⟩) ?_
  iterate 14
    refine wpS_f _ rfl rfl (v := ?_) ?_ ?_
    rotate_left
    · rintro W ⟨R, hW⟩
      have f1 : W.cell? ⟨g, 0, none⟩ = some (.int .i64 most) := hW.asc.asc.cell 0
      have f2 : W.cell? ⟨g, 3, none⟩ = some (.slice A hq c) := by rw [unhide HHQ]; exact hW.asc.asc.cell 3
      have f3 : IntKind.i64.wrap ((most : Int) - hq) = (most : Int) - hq := HW.out
      go_simp
      first | rfl | (rw [IntKind.wrap_i64]; omega)
    go_simp
  refine wpS_n (fun w3 hs3 => ?_)
  have HS4 := hide (hs3.perm (sep_one _))
  have hfit2 : (most : Int) - hq < pn := by omega
  clear hs3 hfit
  go_wp2_with fail
  go_ret
  exact ⟨rfl, unhide HS4⟩
theorem sq_piece_no {seq : Int} (hs : Sat E w (QAt g most low next H row A c B d * F)) (h1 : 1 ≤ most) (hb : low ≤ 100000) (hh : H.length ≤ 60000) (hno : ¬ ((low : Int) ≤ seq ∧ seq < (low + H.length : Nat))) :
    Calls Try.prog 26 #[.pointer (some ⟨g, 0, none⟩), .int .i64 seq] w fun e w' => e = .returned (.tuple #[.agg #[.slice none 0 0, .bool false, .bool false], .bool false]) ∧ Sat E w' (QAt g most low next H row A c B d * F) := by
  have hs0 := hs.allocKeep (.cells #[.slice none 0 0, .bool false, .bool false] 52 (0, 0))
  have hsA := hs.alloc #[.slice none 0 0, .bool false, .bool false] 52
  have hnn := hide (sq_is hs0 h1)
  have hto := hide (sq_total hs0 h1 hb (by omega))
  have c1 : (w.alloc (.cells #[.slice none 0 0, .bool false, .bool false] 52)).cell? ⟨g, 1, none⟩ = some (.int .i64 low) := hs0.asc.cell 1
  obtain ⟨q, hq⟩ : ∃ q, q = low + H.length := ⟨_, rfl⟩
  rw [← hq] at hno hto
  have HSA := hide hsA
  have HS0 := hide hs0
  clear hs hs0 hsA hq
  by_cases d1 : seq < low
  · clear hno hto
    go_enter Try.func26, Try.ntmps26
    go_wp2_with (go_at_call 57; refine (unhide hnn).mono ?_; rintro e w' ⟨rfl, rfl⟩)
    exact bodyPost_ret (v := .tuple #[.agg #[.slice none 0 0, .bool false, .bool false], .bool false]) (by simp [results, Try.results26, go_sem]) rfl ⟨rfl, unhide HS0⟩
  · have d2 : (q : Int) ≤ seq := by omega
    clear hno
    go_enter Try.func26, Try.ntmps26
    go_wp2_with (go_at_call 57; refine (unhide hnn).mono ?_; rintro e w' ⟨rfl, rfl⟩)
    refine (unhide hto).mono ?_
    rintro e w2 ⟨rfl, hbel⟩
    have hs2 := (unhide HSA).under hbel
    have t0 : w2.cell? ⟨w.heap.size, 0, none⟩ = some (.slice none 0 0) := hs2.cell 0
    have t1 : w2.cell? ⟨w.heap.size, 1, none⟩ = some (.bool false) := hs2.cell 1
    have t2 : w2.cell? ⟨w.heap.size, 2, none⟩ = some (.bool false) := hs2.cell 2
    have t3 : ∀ j, w2.frozen? ⟨w.heap.size, j, none⟩ = false := fun j => hs2.frozen j
    have t4 : w.heap.size < w2.heap.size := Sat.lt (o := .cells _ _ (0, 0)) hs2
    have hs6 := ((hs2.set 0 (.slice none 0 0)).set 1 (.bool false)).set 2 (.bool false)
    have HB := Lib.hid hs6.blk
    have HS6 := hide hs6.right
    clear hs2 hs6 hto hbel c1
    go_wp2_with fail
    exact bodyPost_ret (results_cell2 (p := 4) (u1 := 5) rfl _ _ _ _ _ _ _ rfl HB.out Try.underlying52 rfl (by kernel_rfl)) rfl ⟨rfl, unhide HS6⟩
end
end Go.Proofs.Ytdfidijlconhnaa
