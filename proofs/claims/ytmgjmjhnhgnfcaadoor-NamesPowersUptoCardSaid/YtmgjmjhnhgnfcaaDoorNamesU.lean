/- NamesU: the runes of a text as of a list of bytes; what is written rune by rune is read back. No condition. -/
import Derived.Test.YtmgjmjhnhgnfcaaDoorNamesT
namespace Go.Proofs.YtmgjmjhnhgnfcaaDoor.HL
open Go
attribute [local irreducible] goFn thenS blockS bodyS CW RW DW GW QW NW SC Pick Picks SubL Rd NN ResOk SrcW subE hops hseg AW hgen HC qv
set_option linter.unusedVariables false
set_option linter.unusedSimpArgs false

theorem decodeL_drop (s : ByteArray) (p : Nat) (hp : p ≤ s.size) : Lib.decodeL (s.data.toList.drop p) = Utf8.decode s p := by
  rw [← decode_extract s p hp, ← extract_toList]
  unfold Lib.decodeL
  rfl
theorem decodeL_pos (l : List UInt8) : 1 ≤ (Lib.decodeL l).2 := Lib.decodeL_width l
def rnL (p : Nat) (l : List UInt8) : List Rn :=
  if h : l = [] then [] else ⟨(Lib.decodeL l).1, p, (Lib.decodeL l).2⟩ :: rnL (p + (Lib.decodeL l).2) (l.drop (Lib.decodeL l).2)
termination_by l.length
decreasing_by
  have := decodeL_pos l
  have : 0 < l.length := List.length_pos_iff.2 h
  rw [List.length_drop]; omega
theorem rnL_nil (p : Nat) : rnL p [] = [] := by rw [rnL]; rfl
theorem rnL_cons (p : Nat) (l : List UInt8) (h : l ≠ []) : rnL p l = ⟨(Lib.decodeL l).1, p, (Lib.decodeL l).2⟩ :: rnL (p + (Lib.decodeL l).2) (l.drop (Lib.decodeL l).2) := by
  rw [rnL, dif_neg h]
theorem rnFrom_L (s : ByteArray) : ∀ (n p : Nat), s.size ≤ p + n → rnFrom s p = rnL p (s.data.toList.drop p) := by
  intro n
  induction n with
  | zero =>
    intro p h
    rw [rnFrom_ge (by omega), List.drop_eq_nil_of_le (by rw [Array.length_toList]; show s.size ≤ p; omega), rnL_nil]
  | succ n ih =>
    intro p h
    by_cases hp : p < s.size
    · rw [rnFrom_lt hp, rnL_cons _ _ (by rw [drop_cons_bt s p hp]; exact List.cons_ne_nil _ _), decodeL_drop s p (by omega), ih _ (by have := width_ge s p; omega), List.drop_drop]
    · rw [rnFrom_ge hp, List.drop_eq_nil_of_le (by rw [Array.length_toList]; show s.size ≤ p; omega), rnL_nil]
theorem rns_L (s : ByteArray) : rns s = rnL 0 s.data.toList := by
  unfold rns; rw [rnFrom_L s s.size 0 (by omega), List.drop_zero]
/-- a text of valid runes, one by one -/
def okR (r : Int) : Prop := 0 ≤ r ∧ r < 0xd800
theorem getD_app (l t : List UInt8) (k : Nat) (h : k < l.length) : (l ++ t).getD k 0 = l.getD k 0 := by
  rw [List.getD_eq_getElem?_getD, List.getD_eq_getElem?_getD, List.getElem?_append_left h]
theorem u8s_1 {l : List UInt8} {z : Int} (h : u8s l = [.int .u8 z]) : ∃ b : UInt8, l = [b] ∧ (b.toNat : Int) = z := by
  unfold u8s at h
  match l, h with
  | [b], h => refine ⟨b, rfl, ?_⟩; simpa using h
theorem u8s_2 {l : List UInt8} {y z : Int} (h : u8s l = [.int .u8 y, .int .u8 z]) : ∃ b c : UInt8, l = [b, c] ∧ (b.toNat : Int) = y ∧ (c.toNat : Int) = z := by
  unfold u8s at h
  match l, h with
  | [b, c], h => refine ⟨b, c, rfl, ?_⟩; simpa using h
theorem u8s_3 {l : List UInt8} {x y z : Int} (h : u8s l = [.int .u8 x, .int .u8 y, .int .u8 z]) : ∃ b c d : UInt8, l = [b, c, d] ∧ (b.toNat : Int) = x ∧ (c.toNat : Int) = y ∧ (d.toNat : Int) = z := by
  unfold u8s at h
  match l, h with
  | [b, c, d], h => refine ⟨b, c, d, rfl, ?_⟩; simpa using h
theorem decodeL_enc {r : Int} (h : okR r) (l : List UInt8) : Lib.decodeL (enc r ++ l) = (r.toNat, (enc r).length) := by
  obtain ⟨h0, h1⟩ := h
  rw [Lib.decodeL_N]
  by_cases q1 : r < 128
  · obtain ⟨b, e, hb⟩ := u8s_1 (enc1 h0 q1)
    rw [e]
    simp only [List.cons_append, List.nil_append, List.getD_cons_zero, List.length_cons, List.length_nil]
    rw [Lib.decodeN_ascii _ _ _ _ _ (by omega)]
    refine Prod.ext ?_ ?_ <;> dsimp only
    omega
  · by_cases q2 : r ≤ 2047
    · obtain ⟨b, c, e, hb, hc⟩ := u8s_2 (enc2 (by omega) q2)
      rw [e]
      simp only [List.cons_append, List.nil_append, List.getD_cons_zero, List.getD_cons_succ, List.length_cons, List.length_nil]
      unfold Lib.decodeN
      rw [if_neg (by omega), if_pos (by omega), if_pos (by omega)]
      refine Prod.ext ?_ ?_ <;> dsimp only
      omega
    · obtain ⟨b, c, d, e, hb, hc, hd⟩ := u8s_3 (enc3 (by omega) h1)
      rw [e]
      simp only [List.cons_append, List.nil_append, List.getD_cons_zero, List.getD_cons_succ, List.length_cons, List.length_nil]
      unfold Lib.decodeN
      rw [if_neg (by omega), if_neg (by omega), if_pos (by omega), if_pos (by omega)]
      refine Prod.ext ?_ ?_ <;> dsimp only
      omega
theorem enc_pos {r : Int} (h : okR r) : 1 ≤ (enc r).length := by have := enc_ne h.1 h.2; omega
theorem rnL_enc {r : Int} (h : okR r) (p : Nat) (l : List UInt8) : rnL p (enc r ++ l) = ⟨r.toNat, p, (enc r).length⟩ :: rnL (p + (enc r).length) l := by
  have hp := enc_pos h
  rw [rnL_cons _ _ (fun e => by rw [(List.append_eq_nil_iff.1 e).1] at hp; simp at hp), decodeL_enc h, List.drop_left]
/-- the runes of runes that were written -/
def wr : Nat → List Int → List Rn
  | _, [] => []
  | p, r :: rs => ⟨r.toNat, p, (enc r).length⟩ :: wr (p + (enc r).length) rs
theorem rnL_wr : ∀ (rs : List Int) (p : Nat) (l : List UInt8), (∀ r ∈ rs, okR r) → rnL p (rs.flatMap enc ++ l) = wr p rs ++ rnL (p + (rs.flatMap enc).length) l
  | [], p, l, _ => by simp [wr]
  | r :: rs, p, l, h => by
    rw [List.flatMap_cons, List.append_assoc, rnL_enc (h r (List.mem_cons_self ..)), rnL_wr rs _ l (fun x hx => h x (List.mem_cons_of_mem _ hx)), wr, List.cons_append, List.length_append, Nat.add_assoc]
theorem wr_length : ∀ (rs : List Int) (p : Nat), (wr p rs).length = rs.length
  | [], _ => rfl
  | r :: rs, p => by rw [wr, List.length_cons, wr_length rs, List.length_cons]
theorem wr_r : ∀ (rs : List Int) (p : Nat), (wr p rs).map (·.r) = rs.map (·.toNat)
  | [], _ => rfl
  | r :: rs, p => by rw [wr, List.map_cons, List.map_cons, wr_r rs]
/-- a letter behind a text is its last rune, whatever stands ahead -/
theorem decodeN_app (n b0 b1 b2 b3 c1 c2 c3 : Nat) (hn : 1 ≤ n) (h1 : 1 < n → c1 = b1) (k1 : n = 1 → c1 / 64 ≠ 2) (h2 : 2 < n → c2 = b2) (k2 : n = 2 → c2 / 64 ≠ 2) (h3 : 3 < n → c3 = b3) (k3 : n = 3 → c3 / 64 ≠ 2) :
    Lib.decodeN (n + 1) b0 c1 c2 c3 = Lib.decodeN n b0 b1 b2 b3 := by
  by_cases hb : b0 < 128
  · rw [Lib.decodeN_ascii _ _ _ _ _ hb, Lib.decodeN_ascii _ _ _ _ _ hb]
  · by_cases n1 : n = 1
    · rw [Lib.decodeN_alone _ _ _ _ _ (by omega) (.inr (k1 n1)), Lib.decodeN_alone _ _ _ _ _ (by omega) (.inl (by omega))]
    · have := h1 (by omega)
      subst this
      by_cases n2 : n = 2
      · have k2 := k2 n2
        subst n2
        simp [Lib.decodeN, k2]
      · have := h2 (by omega)
        subst this
        by_cases n3 : n = 3
        · have k3 := k3 n3
          subst n3
          simp [Lib.decodeN, k3]
        · have := h3 (by omega)
          subst this
          have a1 : (1 < n + 1) = True := eq_true (by omega)
          have a2 : (2 < n + 1) = True := eq_true (by omega)
          have a3 : (3 < n + 1) = True := eq_true (by omega)
          have b1 : (1 < n) = True := eq_true (by omega)
          have b2 : (2 < n) = True := eq_true (by omega)
          have b3 : (3 < n) = True := eq_true (by omega)
          simp only [Lib.decodeN, a1, a2, a3, b1, b2, b3]
theorem decodeL_app (l : List UInt8) (hl : l ≠ []) (c : UInt8) (hc : c.toNat < 128) : Lib.decodeL (l ++ [c]) = Lib.decodeL l := by
  have hp : 0 < l.length := List.length_pos_iff.2 hl
  rw [Lib.decodeL_N, Lib.decodeL_N, List.length_append, List.length_singleton]
  have g : ∀ k, k < l.length → ((l ++ [c]).getD k 0) = l.getD k 0 := fun k hk => getD_app l [c] k hk
  have g2 : ∀ k, k = l.length → ((l ++ [c]).getD k 0) = c := by
    rintro k rfl
    rw [List.getD_eq_getElem?_getD, List.getElem?_append_right (Nat.le_refl _)]; simp
  rw [g 0 hp]
  refine decodeN_app _ _ _ _ _ _ _ _ (by omega) (fun h => by rw [g 1 (by omega)]) (fun h => by rw [g2 1 h.symm]; omega) (fun h => by rw [g 2 (by omega)]) (fun h => by rw [g2 2 h.symm]; omega) (fun h => by rw [g 3 (by omega)]) (fun h => by rw [g2 3 h.symm]; omega)
theorem decodeL_one (c : UInt8) (hc : c.toNat < 128) : Lib.decodeL [c] = (c.toNat, 1) := by
  rw [Lib.decodeL_N]; exact Lib.decodeN_ascii _ _ _ _ _ hc
theorem rnL_app (c : UInt8) (hc : c.toNat < 128) : ∀ (n : Nat) (p : Nat) (l : List UInt8), l.length ≤ n → rnL p (l ++ [c]) = rnL p l ++ [⟨c.toNat, p + l.length, 1⟩] := by
  intro n
  induction n with
  | zero =>
    intro p l h
    obtain rfl : l = [] := List.eq_nil_of_length_eq_zero (by omega)
    rw [List.nil_append, rnL_nil, rnL_cons _ _ (List.cons_ne_nil _ _), decodeL_one c hc]
    simp [rnL_nil]
  | succ n ih =>
    intro p l h
    by_cases hl : l = []
    · subst hl
      rw [List.nil_append, rnL_nil, rnL_cons _ _ (List.cons_ne_nil _ _), decodeL_one c hc]
      simp [rnL_nil]
    · have hp : 0 < l.length := List.length_pos_iff.2 hl
      have hw := decodeL_pos l
      have hle := Lib.decodeL_le l hl
      rw [rnL_cons _ _ (by simp), decodeL_app l hl c hc, List.drop_append_of_le_length hle, ih _ _ (by rw [List.length_drop]; omega), rnL_cons p l hl, List.length_drop]
      simp only [List.cons_append, List.cons.injEq, true_and]
      congr 3
      omega
theorem rns_app (s : ByteArray) (c : UInt8) (hc : c.toNat < 128) : rns (s ++ ⟨#[c]⟩) = rns s ++ [⟨c.toNat, s.size, 1⟩] := by
  rw [rns_L, rns_L, ByteArray.data_append, Array.toList_append, rnL_app c hc _ _ _ (Nat.le_refl _), Nat.zero_add]
  rfl
end Go.Proofs.YtmgjmjhnhgnfcaaDoor.HL
