/- NamesT: the table of distances as a plain law; a text is told by its runes. No condition. -/
import Derived.Test.YtmgjmjhnhgnfcaaDoorNamesG
import Derived.Lib.MapLaws
namespace Go.Proofs.YtmgjmjhnhgnfcaaDoor.HL
open Go
attribute [local irreducible] goFn thenS blockS bodyS CW RW DW GW QW NW SC Pick Picks SubL Rd NN ResOk SrcW subE hops hseg AW hgen HC qv
set_option linter.unusedVariables false
set_option linter.unusedSimpArgs false

theorem T_symm (e e' : Nat → Nat → Bool) (he : ∀ a b, e' b a = e a b) : ∀ (n i j : Nat), i + j ≤ n → T e i j = T e' j i := by
  intro n
  induction n with
  | zero => intro i j h; obtain rfl : i = 0 := (by omega); rw [T_0, T_s0]
  | succ n ih =>
    intro i j h
    cases i with
    | zero => rw [T_0, T_s0]
    | succ i =>
      cases j with
      | zero => rw [T_s0, T_0]
      | succ j =>
        rw [T_ss, T_ss, ih i (j + 1) (by omega), ih (i + 1) j (by omega), ih i j (by omega), ih (i - 1) (j - 1) (by omega), he i j, he (i - 1) j, he i (j - 1)]
        generalize (if e i j = true then T e' j i else T e' j i + 1) = q
        by_cases hc : 1 ≤ i ∧ 1 ≤ j ∧ e i (j - 1) = true ∧ e (i - 1) j = true
        · rw [if_pos hc, if_pos ⟨hc.2.1, hc.1, hc.2.2.2, hc.2.2.1⟩]
          omega
        · rw [if_neg hc, if_neg (fun h => hc ⟨h.2.1, h.1, h.2.2.2, h.2.2.1⟩)]
          omega
theorem T_congr (e e' : Nat → Nat → Bool) (I J : Nat) (he : ∀ a b, a < I → b < J → e a b = e' a b) : ∀ (n i j : Nat), i + j ≤ n → i ≤ I → j ≤ J → T e i j = T e' i j := by
  intro n
  induction n with
  | zero => intro i j h _ _; obtain rfl : i = 0 := (by omega); rw [T_0, T_0]
  | succ n ih =>
    intro i j h hi hj
    cases i with
    | zero => rw [T_0, T_0]
    | succ i =>
      cases j with
      | zero => rw [T_s0, T_s0]
      | succ j =>
        rw [T_ss, T_ss, ih i (j + 1) (by omega) (by omega) (by omega), ih (i + 1) j (by omega) (by omega) (by omega), ih i j (by omega) (by omega) (by omega), ih (i - 1) (j - 1) (by omega) (by omega) (by omega),
          he i j (by omega) (by omega), he i (j - 1) (by omega) (by omega), he (i - 1) j (by omega) (by omega)]
theorem T_dg (e : Nat → Nat → Bool) (i j : Nat) : T e (i + 1) (j + 1) ≤ T e i j + 1 := by
  have hq : (if e i j = true then T e i j else T e i j + 1) ≤ T e i j + 1 := by split <;> omega
  rw [T_ss]
  generalize (if e i j = true then T e i j else T e i j + 1) = q at hq ⊢
  split <;> omega
/-- what lies about a place -/
theorem T_near (e : Nat → Nat → Bool) : ∀ (n i j : Nat), i + j ≤ n → (T e i (j + 1) ≤ T e i j + 1 ∧ T e i j ≤ T e i (j + 1) + 1) ∧ (T e (i + 1) j ≤ T e i j + 1 ∧ T e i j ≤ T e (i + 1) j + 1) := by
  intro n
  induction n with
  | zero =>
    intro i j h; obtain rfl : i = 0 := (by omega); obtain rfl : j = 0 := (by omega)
    rw [T_0, T_0, T_s0]; omega
  | succ n ih =>
    intro i j h
    have hR : T e i (j + 1) ≤ T e i j + 1 := by
      cases i with
      | zero => rw [T_0, T_0]; omega
      | succ i =>
        rw [T_ss]
        generalize (if e i j = true then T e i j else T e i j + 1) = q
        split <;> omega
    have hD : T e (i + 1) j ≤ T e i j + 1 := by
      cases j with
      | zero => rw [T_s0, T_s0]; omega
      | succ j =>
        rw [T_ss]
        generalize (if e i j = true then T e i j else T e i j + 1) = q
        split <;> omega
    refine ⟨⟨hR, ?_⟩, hD, ?_⟩
    · cases i with
      | zero => rw [T_0, T_0]; omega
      | succ i =>
        have h1 := ih i j (by omega)
        have hq : T e i j ≤ (if e i j = true then T e i j else T e i j + 1) := by split <;> omega
        rw [T_ss]
        generalize (if e i j = true then T e i j else T e i j + 1) = q at hq ⊢
        have h4 := ih (i - 1) (j - 1) (by omega)
        split
        · rename_i hc
          have hj : j - 1 + 1 = j := by omega
          have hi : i - 1 + 1 = i := by omega
          have h5 := T_dg e i (j - 1)
          rw [hj, hi] at h4
          rw [hj] at h5
          omega
        · omega
    · cases j with
      | zero => rw [T_s0, T_s0]; omega
      | succ j =>
        have h1 := ih i j (by omega)
        have hq : T e i j ≤ (if e i j = true then T e i j else T e i j + 1) := by split <;> omega
        rw [T_ss]
        generalize (if e i j = true then T e i j else T e i j + 1) = q at hq ⊢
        have h4 := ih (i - 1) (j - 1) (by omega)
        split
        · rename_i hc
          have hj : j - 1 + 1 = j := by omega
          have hi : i - 1 + 1 = i := by omega
          have h5 := T_dg e (i - 1) j
          rw [hj, hi] at h4
          rw [hi] at h5
          omega
        · omega
theorem T_nr (e : Nat → Nat → Bool) (i j : Nat) : (T e i (j + 1) ≤ T e i j + 1 ∧ T e i j ≤ T e i (j + 1) + 1) ∧ (T e (i + 1) j ≤ T e i j + 1 ∧ T e i j ≤ T e (i + 1) j + 1) := T_near e (i + j) i j (Nat.le_refl _)
theorem T_max (e : Nat → Nat → Bool) : ∀ (n i j : Nat), i + j ≤ n → T e i j ≤ (max i j : Nat) ∧ (i : Int) - j ≤ T e i j ∧ (j : Int) - i ≤ T e i j := by
  intro n
  induction n with
  | zero => intro i j h; obtain rfl : i = 0 := (by omega); obtain rfl : j = 0 := (by omega); rw [T_0]; simp
  | succ n ih =>
    intro i j h
    cases i with
    | zero => rw [T_0]; omega
    | succ i =>
      cases j with
      | zero => rw [T_s0]; omega
      | succ j =>
        rw [T_ss]
        have h1 := ih i (j + 1) (by omega)
        have h2 := ih (i + 1) j (by omega)
        have h3 := ih i j (by omega)
        have h4 := ih (i - 1) (j - 1) (by omega)
        have hq : T e i j ≤ (if e i j = true then T e i j else T e i j + 1) ∧ (if e i j = true then T e i j else T e i j + 1) ≤ T e i j + 1 := by split <;> omega
        generalize (if e i j = true then T e i j else T e i j + 1) = q at hq ⊢
        split <;> omega
theorem T_zero (e : Nat → Nat → Bool) : ∀ (i : Nat), T e i i = 0 ↔ ∀ k, k < i → e k k = true := by
  intro i
  induction i with
  | zero => rw [T_0]; simp
  | succ i ih =>
    rw [T_ss]
    have h1 := (T_max e _ i (i + 1) (Nat.le_refl _)).2.2
    have h2 := (T_max e _ (i + 1) i (Nat.le_refl _)).2.1
    have h3 := T_rg e i i
    have h4 := T_rg e (i - 1) (i - 1)
    have hq : (if e i i = true then T e i i else T e i i + 1) = 0 ↔ (e i i = true ∧ T e i i = 0) := by
      by_cases hc : e i i = true
      · rw [if_pos hc]; exact ⟨fun h => ⟨hc, h⟩, fun h => h.2⟩
      · rw [if_neg hc]; exact ⟨fun h => by omega, fun h => absurd h.1 hc⟩
    have hq2 : 0 ≤ (if e i i = true then T e i i else T e i i + 1) := by split <;> omega
    have hr : (∀ k, k < i + 1 → e k k = true) ↔ (e i i = true ∧ T e i i = 0) := by
      rw [ih]
      constructor
      · intro h; exact ⟨h i (by omega), fun k hk => h k (by omega)⟩
      · rintro ⟨ha, hb⟩ k hk
        by_cases hki : k = i
        · rw [hki]; exact ha
        · exact hb k (by omega)
    rw [hr, ← hq]
    generalize (if e i i = true then T e i i else T e i i + 1) = q at hq2 ⊢
    split
    · omega
    · omega

/-! a text is told by its runes -/
/-- the bytes of a rune as names.runes tells it -/
def ownB (z : Int) : List UInt8 := if z < 0 then [UInt8.ofNat (-1 - z).toNat] else Lib.encodeRune z
theorem drop_cons_bt (s : ByteArray) (p : Nat) (h : p < s.size) : s.data.toList.drop p = s.data.toList.getD p 0 :: s.data.toList.drop (p + 1) := by
  have h' : p < s.data.toList.length := by rw [Array.length_toList]; exact h
  rw [List.drop_eq_getElem_cons h', List.getD_eq_getElem?_getD, List.getElem?_eq_getElem h']; rfl
theorem extract_toList (s : ByteArray) (p : Nat) : (s.extract p s.size).data.toList = s.data.toList.drop p := by
  rw [ByteArray.data_extract]
  have hs : s.data.size = s.size := rfl
  simp [List.take_of_length_le, hs]
theorem drop_rune (s : ByteArray) (p : Nat) (h : p < s.size) :
    s.data.toList.drop p = ownB (rI s true ⟨(Utf8.decode s p).1, p, (Utf8.decode s p).2⟩) ++ s.data.toList.drop (p + (Utf8.decode s p).2) := by
  have hw := width_ge s p
  by_cases hb : brk ⟨(Utf8.decode s p).1, p, (Utf8.decode s p).2⟩ = true
  · have hb' := hb
    unfold brk at hb'
    simp only [jC, jA] at hb'
    have hw1 : (Utf8.decode s p).2 = 1 := by omega
    have e : rI s true ⟨(Utf8.decode s p).1, p, (Utf8.decode s p).2⟩ = -1 - bt s p := by unfold rI; rw [hb]; rfl
    rw [e, hw1]
    have hr := bt_range s p
    unfold ownB
    rw [if_pos (by omega), drop_cons_bt s p h]
    have : (-1 - (-1 - bt s p)).toNat = (s.data.toList.getD p 0).toNat := by unfold bt; rw [Int.toNat_natCast]; omega
    rw [this]
    simp
  · have e : rI s true ⟨(Utf8.decode s p).1, p, (Utf8.decode s p).2⟩ = (Utf8.decode s p).1 := by unfold rI; simp [hb]
    rw [e]
    unfold ownB
    rw [if_neg (by omega)]
    have hd : Lib.decodeL (s.extract p s.size).data.toList = Utf8.decode s p := by
      rw [← decode_extract s p (by omega)]
      unfold Lib.decodeL
      rfl
    have hne : (s.extract p s.size).data.toList ≠ [] := by
      rw [extract_toList, drop_cons_bt s p h]; exact List.cons_ne_nil _ _
    have := Lib.encode_decode (s.extract p s.size).data.toList hne (by
      rw [hd]; intro hc; apply hb; unfold brk; simp [hc.1, hc.2])
    rw [hd, extract_toList] at this
    rw [this, ← List.drop_drop]
    exact (List.take_append_drop _ _).symm
theorem text_from (s : ByteArray) : ∀ (n p : Nat), s.size ≤ p + n → s.data.toList.drop p = ((rnFrom s p).map (rI s true)).flatMap ownB := by
  intro n
  induction n with
  | zero =>
    intro p h
    rw [rnFrom_ge (by omega), List.drop_eq_nil_of_le (by rw [Array.length_toList]; show s.size ≤ p; omega)]; rfl
  | succ n ih =>
    intro p h
    by_cases hp : p < s.size
    · rw [rnFrom_lt hp, List.map_cons, List.flatMap_cons, ← ih _ (by have := width_ge s p; omega)]
      exact drop_rune s p hp
    · rw [rnFrom_ge hp, List.drop_eq_nil_of_le (by rw [Array.length_toList]; show s.size ≤ p; omega)]; rfl
theorem text_of (s : ByteArray) : s.data.toList = (runesI s).flatMap ownB := text_from s s.size 0 (by omega)
theorem runesI_inj {s t : ByteArray} (h : runesI s = runesI t) : s = t := by
  apply ByteArray.ext
  apply Array.toList_inj.1
  rw [text_of s, text_of t, h]
theorem eqI_zero {X Y : List Int} (h : X.length = Y.length) : T (eqI X Y) X.length Y.length = 0 ↔ X = Y := by
  rw [← h, T_zero]
  unfold eqI
  constructor
  · intro hk
    apply List.ext_getElem h
    intro i h1 h2
    have := of_decide_eq_true (hk i h1)
    rwa [List.getD_eq_getElem?_getD, List.getD_eq_getElem?_getD, List.getElem?_eq_getElem h1, List.getElem?_eq_getElem h2] at this
  · rintro rfl k hk; simp
theorem dist_zero {X Y : List Int} : T (eqI X Y) X.length Y.length = 0 ↔ X = Y := by
  by_cases h : X.length = Y.length
  · exact eqI_zero h
  · have := T_max (eqI X Y) _ X.length Y.length (Nat.le_refl _)
    constructor
    · intro h0; omega
    · intro e; exact absurd (by rw [e]) h
theorem eqI_symm (X Y : List Int) (i j : Nat) : T (eqI X Y) i j = T (eqI Y X) j i := by
  refine T_symm _ _ (fun a b => ?_) _ _ _ (Nat.le_refl _)
  unfold eqI
  rw [Bool.eq_iff_iff]; simp only [jA]; exact eq_comm
theorem dist_more (X Y : List Int) (z : Int) : T (eqI X (Y ++ [z])) X.length Y.length = T (eqI X Y) X.length Y.length := by
  refine T_congr _ _ X.length Y.length (fun a b ha hb => ?_) _ _ _ (Nat.le_refl _) (Nat.le_refl _) (Nat.le_refl _)
  unfold eqI
  have : (Y ++ [z]).getD b 0 = Y.getD b 0 := by rw [List.getD_eq_getElem?_getD, List.getD_eq_getElem?_getD, List.getElem?_append_left hb]
  rw [this]
end Go.Proofs.YtmgjmjhnhgnfcaaDoor.HL
