/- JoinAll: the messages of any parts, told as the document's, and what was told and what is open is what was added. -/
import Derived.Test.YtpcoehbjbjfggaaJoinAll
import Derived.Test.YtpcoehbjbjfggaaJoinBack
namespace Go.Proofs.Ytpcoehbjbjfggaa
open Go.RowKit Asn

theorem allF_len (es : List Bool) : ∀ (ps : List (List UInt8)) (i : Nat) (o : List UInt8) (out : List (List UInt8)), (allF es i ps o out).1.length ≤ out.length + ps.length
  | [], _, _, _ => Nat.le_refl _
  | p :: ps, i, o, out => by
    unfold allF
    split
    · dsimp only; omega
    · split
      · dsimp only; omega
      · split
        · have := allF_len es ps (i + 1) [] (out ++ [o ++ p])
          simp only [List.length_append, List.length_cons, List.length_nil] at this ⊢
          omega
        · have := allF_len es ps (i + 1) (o ++ p) out
          simp only [List.length_cons] at this ⊢
          omega
/-- What was told, and what is open behind it, is what was added. -/
theorem allF_flat (es : List Bool) : ∀ (ps pre : List (List UInt8)) (o : List UInt8) (out : List (List UInt8)), out.flatten ++ o = pre.flatten →
    (allF es pre.length ps o out).2.1 ≤ (pre ++ ps).length ∧ ∃ o', (allF es pre.length ps o out).1.flatten ++ o' = ((pre ++ ps).take (allF es pre.length ps o out).2.1).flatten
  | [], pre, o, out, h => by
    unfold allF
    simp only [List.append_nil, List.take_length]
    exact ⟨Nat.le_refl _, o, h⟩
  | p :: ps, pre, o, out, h => by
    have e0 : pre.length ≤ (pre ++ p :: ps).length := by simp
    have e1 : (pre ++ p :: ps).take pre.length = pre := by rw [List.take_left']; rfl
    have e2 : pre ++ p :: ps = (pre ++ [p]) ++ ps := by simp
    have e3 : pre.length + 1 = (pre ++ [p]).length := by simp
    unfold allF
    split
    · exact ⟨e0, o, by dsimp only; rw [e1]; exact h⟩
    · split
      · exact ⟨e0, o, by dsimp only; rw [e1]; exact h⟩
      · split
        · rw [e2, e3]
          exact allF_flat es ps (pre ++ [p]) [] (out ++ [o ++ p]) (by simp [← h])
        · rw [e2, e3]
          exact allF_flat es ps (pre ++ [p]) (o ++ p) out (by simp [← h])

theorem ba_app (a b : List UInt8) : (⟨a.toArray⟩ ++ ⟨b.toArray⟩ : ByteArray) = ⟨(a ++ b).toArray⟩ := by
  apply ByteArray.ext
  simp
theorem flat_short {k b : Nat} : ∀ (ls : List (List UInt8)) (k : Nat), (∀ p ∈ ls, p.length ≤ b) → (ls.take k).flatten.length ≤ ls.length * b
  | [], _, _ => by simp
  | p :: ls, 0, _ => by simp
  | p :: ls, k + 1, h => by
    have := flat_short (k := k) ls k (fun q hq => h q (List.mem_cons_of_mem _ hq))
    have := h p List.mem_cons_self
    simp only [List.take_succ_cons, List.flatten_cons, List.length_append, List.length_cons, Nat.add_mul, Nat.one_mul] at *
    omega
theorem flat_take (L : List (List UInt8)) (j : Nat) : (L.take j).flatten.length ≤ L.flatten.length := by
  have h : L.flatten = (L.take j).flatten ++ (L.drop j).flatten := by rw [← List.flatten_append, List.take_append_drop]
  rw [h, List.length_append]
  omega
theorem flat_next {L : List (List UInt8)} {j : Nat} {p : List UInt8} (h : L[j]? = some p) : (L.take (j + 1)).flatten = (L.take j).flatten ++ p := by
  rw [List.take_add_one, h]
  simp

set_option maxRecDepth 100000 in
theorem joinAll_walk (W : World) (A B : Option Addr) (n c m d : Nat) (rs0 : List (Option Addr × Nat × Nat)) (ls0 : List (List UInt8)) (es : List Bool) (hrn : rs0.length = n) (hr0 : rd (Asn.exact W) 1 A n (hds rs0)) (hok0 : rowsOk (Asn.exact W) rs0 ls0) (hcap : ∀ r ∈ rs0, r.2.1 ≤ r.2.2) (hn : n ≤ 9223372036854775807)
    (he : rd (Asn.exact W) 1 B m (es.map Value.bool)) (hm : m ≤ 9223372036854775807) :
    Calls Try.prog 4 #[.slice A n c, .slice B m d] W fun e w' => e = .returned (.bool true) ∧ Below W.heap.size W w' := by
  have h20 : (cutFew ls0).length ≤ 20 := by unfold cutFew; simp; omega
  have hsz0 : ∀ p ∈ cutFew ls0, p.length ≤ 200 := by
    intro p hp
    unfold cutFew at hp
    obtain ⟨q, _, rfl⟩ := List.mem_map.1 hp
    simp; omega
  go_enter Try.func4, Try.ntmps4
  go_wp2_with fail
  refine (few_rows W W _ A n c rs0 ls0 (Sat.start W) hrn hr0 hok0 hcap hn).mono ?_
  rintro e w1 ⟨X1, A1, c1, rfl, hs1, hl1⟩
  generalize cutFew ls0 = ls at hs1 hl1 h20 hsz0
  clear hok0 hr0 hcap hrn
  go_wp2_with fail
  refine (joinAll W w1 _ A1 B ls.length c1 m d ls es hs1 hl1 he.right (by omega) hm).mono ?_
  rintro e w2 ⟨X2, A2, c2, rfl, hs2, hl2⟩
  have hfl := allF_flat es ls [] [] [] rfl
  have hle := allF_len es ls 0 [] []
  simp only [List.length_nil, List.nil_append, Nat.zero_add] at hfl hle
  obtain ⟨q, hq⟩ : ∃ q, q = allF es 0 ls [] [] := ⟨_, rfl⟩
  rw [← hq] at hfl hle hl2
  have HQ := Lib.hid hq
  rw [← hq]
  go_wp2_with fail
  refine (refAll W w2 _ A1 B ls.length c1 m d ls es hs2 hl1.right he.right.right (by omega) hm).mono ?_
  rintro e w3 ⟨X3, A3, c3, rfl, hs3, hl3⟩
  rw [← hq] at hl3
  rw [← hq]
  clear hq
  obtain ⟨L, k, er⟩ := q
  dsimp only at hfl hle hl2 hl3 ⊢
  obtain ⟨hk, o, hflat⟩ := hfl
  have HFL := Lib.hid hflat
  clear hflat hs1 hs2
  have hk2 : (k : Int) ≤ ls.length := by omega
  go_wp2_with (go_at_call 22; refine (refSame W _ _ A2 A3 L.length c2 L.length c3 L L hs3 hl2.right hl3 (by omega) (by omega)).mono ?_; rintro e w4 ⟨rfl, hb4⟩; rw [decide_eq_true (rfl : L = L)])
  have hs4 : Sat W w4 (X3 * (X2 * (X1 * Asn.exact W))) := hs3.under hb4
  clear hs3 hb4
  have hl1' := hl1.right (X := X2) |>.right (X := X3)
  have hl2' := hl2.right (X := X3)
  have hshort : ∀ j, (ls.take j).flatten.length ≤ 4000 := fun j => by
    have := flat_short (k := j) ls j hsz0
    have h2 : ls.length * 200 ≤ 20 * 200 := Nat.mul_le_mul_right _ h20
    omega
  have hLshort : L.flatten.length ≤ 4000 := by
    have h1 := congrArg List.length HFL.out
    have h2 := hshort k
    rw [List.length_append] at h1
    omega
  have HSH := Lib.hid hshort
  have HLS := hide hLshort
  clear hshort hLshort hsz0
  go_loopw [11, 13] (fun so i wx => ∃ (j : Nat) (t : List UInt8), so = .string ⟨t.toArray⟩ ∧ i = .int .i64 j ∧ j ≤ L.length ∧ Hid (t = (L.take j).flatten) ∧ w4 = wx) (fun _ i _ => L.length - (intOf i).toNat)
  case atStart => exact ⟨0, [], rfl, rfl, Nat.zero_le _, rfl, rfl⟩
  case round =>
    obtain ⟨j, t, rfl, rfl, hj, HT, rfl⟩ := hrel
    by_cases hlt : j < L.length
    · have hlk : L[j]? = some L[j] := List.getElem?_eq_getElem hlt
      generalize L[j] = p at hlk
      obtain ⟨ad, pA, pn, pc, rfl, hcell, hpr, hpn, hpl⟩ := hl2'.at_ hs4 hlk
      have hstr := (RdW.of_rd hpr hs4).str (P := Try.prog) (l := p) Try.underlying22 Try.underlying5 Try.underlying9 pc
      have htp : t.length + pn ≤ 4000 := by
        have h1 := flat_take L (j + 1)
        have h2 := unhide HLS
        rw [flat_next hlk, ← HT.out, List.length_append, hpl] at h1
        omega
      have HLK := Lib.hid hlk
      clear hlk
      go_wp2_with fail
      go_roundw
      case rel =>
        refine ⟨j + 1, t ++ p, by rw [ba_app], by go_num, by omega, ?_, trivial⟩
        show _ = _
        rw [flat_next HLK.out, HT.out]
      case measure => simp [intOf]; omega
    · have hjL : j = L.length := by omega
      subst hjL
      have HT2 : Hid (t = L.flatten) := by have := HT.out; rwa [List.take_length] at this
      clear HT hlt hj
      go_wp2_with fail
      go_loopw [12, 14] (fun so i wx => ∃ (j : Nat) (a : List UInt8), so = .string ⟨a.toArray⟩ ∧ i = .int .i64 j ∧ j ≤ k ∧ Hid (a = (ls.take j).flatten) ∧ w4 = wx) (fun _ i _ => k - (intOf i).toNat)
      case atStart => exact ⟨0, [], rfl, rfl, Nat.zero_le _, rfl, rfl⟩
      case round =>
        obtain ⟨j, a, rfl, rfl, hj, HA, rfl⟩ := hrel
        by_cases hlt : j < k
        · have hjl : j < ls.length := by omega
          have hlk : ls[j]? = some ls[j] := List.getElem?_eq_getElem hjl
          generalize ls[j] = p at hlk
          obtain ⟨ad, pA, pn, pc, rfl, hcell, hpr, hpn, hpl⟩ := hl1'.at_ hs4 hlk
          have hstr := (RdW.of_rd hpr hs4).str (P := Try.prog) (l := p) Try.underlying22 Try.underlying5 Try.underlying9 pc
          have htp : a.length + pn ≤ 4000 := by
            have h2 := HSH.out (j + 1)
            rw [flat_next hlk, ← HA.out, List.length_append, hpl] at h2
            omega
          have HLK := Lib.hid hlk
          clear hlk
          go_wp2_with fail
          go_roundw
          case rel =>
            refine ⟨j + 1, a ++ p, by rw [ba_app], by go_num, by omega, ?_, trivial⟩
            show _ = _
            rw [flat_next HLK.out, HA.out]
          case measure => simp [intOf]; omega
        · have hjk : j = k := by omega
          subst hjk
          have hat : a = t ++ o := by rw [HA.out, HT2.out, HFL.out]
          have hta : t.length ≤ a.length := by rw [hat, List.length_append]; omega
          have HAT := Lib.hid hat
          have hal : a.length ≤ 4000 := by rw [HA.out]; exact HSH.out j
          clear HA hlt hj hat
          obtain ⟨T, hT⟩ : ∃ T : ByteArray, T = ⟨t.toArray⟩ := ⟨_, rfl⟩
          obtain ⟨S, hS⟩ : ∃ S : ByteArray, S = ⟨a.toArray⟩ := ⟨_, rfl⟩
          have hsz : T.size ≤ S.size := by rw [hT, hS]; simpa [ByteArray.size] using hta
          have hsz2 : S.size ≤ 4000 := by rw [hS]; simpa [ByteArray.size] using hal
          have hex : S.extract 0 T.size = T := by
            rw [hT, hS, HAT.out]
            apply ByteArray.ext
            simp [ByteArray.size]
          have HEX := Lib.hid hex
          rw [← hT, ← hS]
          clear hT hS hta hal HAT hk2 hl2 hl2' hl3 HQ hex
          go_wp2_with (first
            | (go_at_call 15; refine (join12_awake W _ _ hs4).mono ?_; rintro e w5 ⟨rfl, hs5⟩)
            | (rw [HEX.out]))
          go_ret
          exact ⟨rfl, Sat.below (F := X3 * (X2 * X1)) (hs5.perm (by ac_rfl))⟩
end Go.Proofs.Ytpcoehbjbjfggaa
