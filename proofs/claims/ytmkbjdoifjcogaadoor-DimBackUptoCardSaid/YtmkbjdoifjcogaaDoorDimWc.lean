/- DimWc: reading on, by places: plain laws. No condition. -/
import Derived.Test.YtmkbjdoifjcogaaDoorDimWb
namespace Go.Proofs.YtmkbjdoifjcogaaDoor.HL
open Go
attribute [local irreducible] goFn thenS blockS bodyS CW RW DW GW QW NW SC Pick Picks SubL Rd NN ResOk SrcW subE hops hseg AW hgen HC qv bldv
set_option linter.unusedVariables false
set_option linter.unusedSimpArgs false

theorem digs_suffix : ∀ (l : List UInt8) (n : Int), (digsL l n).2 <:+ l
  | [], n => List.suffix_refl _
  | b :: r, n => by
    unfold digsL
    split
    · exact (digs_suffix r _).trans (List.suffix_cons b r)
    · exact List.suffix_refl _
theorem exp_suffix (l : List UInt8) : (expL l).2.2.1 <:+ l ∧ ((expL l).2.1 = 0 → (expL l).2.2.2 = (expL l).2.2.1.length) := by
  have h1 : bareL l <:+ l := by
    unfold bareL; split
    · exact List.tail_suffix l
    · exact List.suffix_refl _
  have h2 := (digs_suffix (bareL l) 0).trans h1
  unfold expL
  simp only
  repeat' split
  all_goals exact ⟨h2, fun h => by first | rfl | cases h⟩
theorem pow_suffix (l : List UInt8) : (powL l).2.2.1 <:+ l ∧ ((powL l).2.1 = 0 → (powL l).2.2.2 = (powL l).2.2.1.length) := by
  unfold powL
  split
  · rename_i r
    have := exp_suffix r
    exact ⟨this.1.trans (List.suffix_cons _ r), this.2⟩
  · exact ⟨List.suffix_refl _, fun _ => rfl⟩
theorem exp_err (l : List UInt8) : (expL l).2.1 = 0 ∨ (expL l).2.1 = 3 ∨ (expL l).2.1 = 51 := by
  unfold expL
  simp only
  repeat' split
  all_goals simp
theorem pow_err (l : List UInt8) : (powL l).2.1 = 0 ∨ (powL l).2.1 = 3 ∨ (powL l).2.1 = 51 := by
  unfold powL
  split
  · exact exp_err _
  · exact .inl rfl
theorem suffix_drop {α : Type} {r l : List α} (h : r <:+ l) : r = l.drop (l.length - r.length) := by
  obtain ⟨t, rfl⟩ := h
  rw [List.length_append, Nat.add_sub_cancel, List.drop_left]
theorem term_ok {s : ByteArray} {i : Nat} (h : (termV s i).2.2.2 = 0) : i < s.size ∧ 0 ≤ whichN (bt s (i : Int)) ∧ whichN (bt s (i : Int)) ≤ 7 ∧ (powL (s.data.toList.drop (i + 1))).2.1 = 0 ∧
    ∃ j : Nat, termV s i = (whichN (bt s (i : Int)), (powL (s.data.toList.drop (i + 1))).1, (j : Int), 0) ∧ i < j ∧ j ≤ s.size ∧ (powL (s.data.toList.drop (i + 1))).2.2.1 = s.data.toList.drop j := by
  have hw := whichN_range (bt s (i : Int))
  unfold termV at h ⊢
  by_cases h1 : s.size ≤ i
  · rw [if_pos h1] at h; cases h
  · rw [if_neg h1] at h ⊢
    by_cases h2 : whichN (bt s (i : Int)) < 0
    · rw [if_pos h2] at h; cases h
    · rw [if_neg h2] at h ⊢
      simp only at h ⊢
      by_cases h3 : (powL (s.data.toList.drop (i + 1))).2.1 = 0
      · rw [if_pos h3]
        have hp := pow_suffix (s.data.toList.drop (i + 1))
        have hl := (powL_len (s.data.toList.drop (i + 1))).1
        rw [List.length_drop, len_bytes] at hl
        have hd := suffix_drop hp.1
        rw [List.length_drop, len_bytes, List.drop_drop, ← hp.2 h3] at hd
        rw [← hp.2 h3] at hl
        refine ⟨by omega, by omega, by omega, h3, _, rfl, by omega, by omega, ?_⟩
        rw [hd]
        congr 1; omega
      · rw [if_neg h3] at h; exact absurd h h3
/-- one step of reading on -/
theorem parse_at (s : ByteArray) (f i : Nat) (hi : i ≤ s.size) (d : List Int) (sg : Int) :
    ((termV s i).2.2.2 ≠ 0 → parseL s.size (f + 1) (s.data.toList.drop i) d sg = (zeroD, (termV s i).2.2.2, (termV s i).2.2.1)) ∧
    (∀ (k : Nat) (n : Int) (j : Nat), termV s i = ((k : Int), n, (j : Int), 0) →
      (rightD (d.set k (d.getD k 0 + sg * n)) = false → parseL s.size (f + 1) (s.data.toList.drop i) d sg = (zeroD, 51, (i : Int))) ∧
      (rightD (d.set k (d.getD k 0 + sg * n)) = true →
        (j = s.size → parseL s.size (f + 1) (s.data.toList.drop i) d sg = (d.set k (d.getD k 0 + sg * n), 0, 0)) ∧
        (j < s.size → bt s (j : Int) = 32 → parseL s.size (f + 1) (s.data.toList.drop i) d sg = parseL s.size f (s.data.toList.drop (j + 1)) (d.set k (d.getD k 0 + sg * n)) 1) ∧
        (j < s.size → bt s (j : Int) = 47 → parseL s.size (f + 1) (s.data.toList.drop i) d sg = parseL s.size f (s.data.toList.drop (j + 1)) (d.set k (d.getD k 0 + sg * n)) (-1)) ∧
        (j < s.size → bt s (j : Int) ≠ 32 → bt s (j : Int) ≠ 47 → parseL s.size (f + 1) (s.data.toList.drop i) d sg = (zeroD, 3, (j : Int))))) := by
  have hL : ∀ k : Nat, (s.data.toList.drop k).length = s.size - k := fun k => by rw [List.length_drop, len_bytes]
  constructor
  · intro h
    unfold termV at h ⊢
    by_cases h1 : s.size ≤ i
    · rw [if_pos h1, List.drop_eq_nil_of_le (by rw [len_bytes]; exact h1)]; rfl
    · rw [if_neg h1] at h ⊢
      obtain ⟨b, e1, e2⟩ := drop_bt s i (by omega)
      have e3 : s.size - (b :: s.data.toList.drop (i + 1)).length = i := by rw [List.length_cons, hL]; omega
      rw [e1]
      rw [e2] at h ⊢
      unfold parseL
      by_cases h2 : whichN (b.toNat : Int) < 0
      · rw [if_pos h2, if_pos h2, e3]
      · rw [if_neg h2] at h ⊢
        rw [if_neg h2]
        simp only at h ⊢
        by_cases h3 : (powL (s.data.toList.drop (i + 1))).2.1 = 0
        · rw [if_pos h3] at h; exact absurd rfl h
        · rw [if_neg h3, if_pos h3]
  · intro k n j ht
    obtain ⟨h1, h2, h3, h4, j', h5, h6, h7, h8⟩ := term_ok (s := s) (i := i) (by rw [ht])
    rw [ht] at h5
    simp only [Prod.mk.injEq] at h5
    obtain ⟨e1, e2, e3, -⟩ := h5
    obtain rfl : j = j' := by omega
    obtain ⟨b, q1, q2⟩ := drop_bt s i h1
    have e4 : s.size - (b :: s.data.toList.drop (i + 1)).length = i := by rw [List.length_cons, hL]; omega
    have e5 : (whichN (b.toNat : Int)).toNat = k := by rw [← q2, ← e1]; omega
    rw [q1]
    have hgo : parseL s.size (f + 1) (b :: s.data.toList.drop (i + 1)) d sg = (if rightD (d.set k (d.getD k 0 + sg * n)) = false then (zeroD, 51, (i : Int)) else
      match s.data.toList.drop j with
      | [] => (d.set k (d.getD k 0 + sg * n), 0, 0)
      | 32 :: r2 => parseL s.size f r2 (d.set k (d.getD k 0 + sg * n)) 1
      | 47 :: r2 => parseL s.size f r2 (d.set k (d.getD k 0 + sg * n)) (-1)
      | c :: r2 => (zeroD, 3, (s.size - (c :: r2).length : Nat))) := by
      rw [parseL]
      simp only [e4, e5, h4, ← e2, h8]
      rw [if_neg (by rw [← q2]; omega), if_neg (by simp)]
      rfl
    rw [hgo]
    constructor
    · intro hr; rw [if_pos hr]
    · intro hr
      rw [if_neg (by rw [hr]; simp)]
      refine ⟨fun hj => ?_, fun hj hb => ?_, fun hj hb => ?_, fun hj hb hb2 => ?_⟩
      · rw [List.drop_eq_nil_of_le (by rw [len_bytes]; omega)]
      all_goals
        obtain ⟨c, p1, p2⟩ := drop_bt s j hj
        rw [p1]
      · obtain rfl : c = 32 := UInt8.toNat_inj.1 (by show c.toNat = 32; omega)
        rfl
      · obtain rfl : c = 47 := UInt8.toNat_inj.1 (by show c.toNat = 47; omega)
        rfl
      · have n1 : c ≠ 32 := fun h => hb (by rw [p2, h]; rfl)
        have n2 : c ≠ 47 := fun h => hb2 (by rw [p2, h]; rfl)
        have e6 : s.size - (c :: s.data.toList.drop (j + 1)).length = j := by rw [List.length_cons, hL]; omega
        split
        · rename_i h; cases h
        · rename_i h; exact absurd (List.cons.inj h).1 n1
        · rename_i h; exact absurd (List.cons.inj h).1 n2
        · rename_i h; rw [← h, e6]
def resP (x : List Int × Int × Int) : Value := .tuple #[dimV x.1, .int .i64 x.2.1, .int .i64 x.2.2]
theorem parseT_one {s : ByteArray} (h : s = ⟨#[49]⟩) : parseT s.data.toList = (zeroD, 0, 0) := by rw [h]; rfl
theorem parseT_no {s : ByteArray} (h : s ≠ ⟨#[49]⟩) : (1 < s.size ∧ bt s 0 = 49 → parseT s.data.toList = (zeroD, 3, 1)) ∧ (¬ (1 < s.size ∧ bt s 0 = 49) → parseT s.data.toList = parseL s.size (s.size + 1) s.data.toList zeroD 1 ∧ (0 < s.size → bt s 0 ≠ 49)) := by
  have h49 : s.data.toList ≠ [49] := fun e => h (ByteArray.ext (by rw [← Array.toList_inj, e]))
  have hcase : 0 < s.size → bt s 0 = 49 → ∃ r, s.data.toList = 49 :: r := by
    intro h0 hb
    obtain ⟨b, p1, p2⟩ := drop_bt s 0 h0
    rw [List.drop_zero] at p1
    have p2 : bt s 0 = (b.toNat : Int) := p2
    obtain rfl : b = 49 := UInt8.toNat_inj.1 (by show b.toNat = 49; omega)
    exact ⟨_, p1⟩
  constructor
  · rintro ⟨h1, h2⟩
    obtain ⟨r, hr⟩ := hcase (by omega) h2
    unfold parseT
    rw [if_neg h49, hr]
    rfl
  · intro hn
    have hb : 0 < s.size → bt s 0 ≠ 49 := by
      intro h0 hb
      obtain ⟨r, hr⟩ := hcase h0 hb
      have hlen := len_bytes s
      rw [hr, List.length_cons] at hlen
      cases r with
      | nil => exact h49 hr
      | cons x r => exact hn ⟨by rw [List.length_cons] at hlen; omega, hb⟩
    refine ⟨?_, hb⟩
    unfold parseT
    rw [if_neg h49]
    split
    · rename_i r e
      exfalso
      have hlen := len_bytes s
      rw [e, List.length_cons] at hlen
      refine hb (by omega) ?_
      unfold bt
      rw [e]; rfl
    · rw [len_bytes]
end Go.Proofs.YtmkbjdoifjcogaaDoor.HL
