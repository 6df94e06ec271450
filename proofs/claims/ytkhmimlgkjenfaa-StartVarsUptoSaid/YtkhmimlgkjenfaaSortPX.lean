/- SortP: what a stable sort by insertion and by merging in place comes to, in plain lists. No condition. -/
import Derived.Test.YtkhmimlgkjenfaaFactsX
namespace Go.Proofs.Ytkhmimlgkjenfaa.HL
open Go
attribute [local irreducible] goFn thenS blockS bodyS CW RW DW GW QW NW SC Pick Picks SubL Rd NN ResOk SrcW subE hops hseg AW hgen HC qv bldv
set_option linter.unusedVariables false
set_option linter.unusedSimpArgs false

section
variable {α : Type}
structure Ord (lt : α → α → Prop) : Prop where
  asym : ∀ u v, lt u v → ¬ lt v u
  tr : ∀ u v w, ¬ lt v u → ¬ lt w v → ¬ lt w u
variable {lt : α → α → Prop}
def le (lt : α → α → Prop) (u v : α) : Prop := ¬ lt v u
abbrev Srt (lt : α → α → Prop) (l : List α) : Prop := l.Pairwise (le lt)
theorem Ord.le_of (h : Ord lt) {u v : α} (k : lt u v) : le lt u v := h.asym _ _ k
theorem Ord.le_tr (h : Ord lt) {u v w : α} (a : le lt u v) (b : le lt v w) : le lt u w := h.tr _ _ _ a b
theorem Ord.lt_le (h : Ord lt) {u v w : α} (a : lt u v) (b : le lt v w) : lt u w := Classical.byContradiction fun hn => h.tr v w u b hn a
theorem Ord.le_lt (h : Ord lt) {u v w : α} (a : le lt u v) (b : lt v w) : lt u w := Classical.byContradiction fun hn => h.tr w u v hn a b

/-! lists -/
theorem get_mid {P S : List α} {x : α} {k : Nat} (h : P.length = k) : (P ++ x :: S)[k]? = some x := by
  subst h; rw [List.getElem?_append_right (Nat.le_refl _)]; simp
theorem set_mid {P S : List α} {x y : α} {k : Nat} (h : P.length = k) : (P ++ x :: S).set k y = P ++ y :: S := by
  subst h; rw [List.set_append_right _ _ (Nat.le_refl _)]; simp
theorem get_app {P S : List α} {x : α} {k n : Nat} (h : P.length = k) (hs : S[n]? = some x) : (P ++ S)[k + n]? = some x := by
  subst h; rw [List.getElem?_append_right (by omega), Nat.add_sub_cancel_left]; exact hs
theorem get_appl {P S : List α} {x : α} {n : Nat} (hs : P[n]? = some x) : (P ++ S)[n]? = some x := by
  have : n < P.length := by
    rcases Nat.lt_or_ge n P.length with h | h
    · exact h
    · rw [List.getElem?_eq_none h] at hs; cases hs
  rw [List.getElem?_append_left this]; exact hs
theorem snoc_cases (l : List α) : l = [] ∨ ∃ t x, l = t ++ [x] := by
  rcases List.eq_nil_or_concat l with h | ⟨t, x, h⟩
  · exact .inl h
  · exact .inr ⟨t, x, by rw [h, List.concat_eq_append]⟩
theorem srt_app {A B : List α} : Srt lt (A ++ B) ↔ Srt lt A ∧ Srt lt B ∧ ∀ u ∈ A, ∀ v ∈ B, le lt u v := List.pairwise_append
theorem srt_ins (h : Ord lt) {E1 E2 : List α} {x : α} (hs : Srt lt (E1 ++ E2)) (h1 : ∀ t y, E1 = t ++ [y] → le lt y x) (h2 : ∀ y ∈ E2, le lt x y) : Srt lt (E1 ++ x :: E2) := by
  obtain ⟨s1, s2, s3⟩ := srt_app.1 hs
  refine srt_app.2 ⟨s1, List.pairwise_cons.2 ⟨h2, s2⟩, fun u hu v hv => ?_⟩
  rcases List.mem_cons.1 hv with rfl | hv
  · rcases snoc_cases E1 with he | ⟨t, y, he⟩
    · subst he; cases hu
    · have hy := h1 t y he
      subst he
      rcases List.mem_append.1 hu with hu | hu
      · have s := (srt_app.1 s1).2.2 u hu y (List.mem_singleton.2 rfl)
        exact h.le_tr s hy
      · rw [List.mem_singleton.1 hu]; exact hy
  · exact s3 u hu v hv
theorem srt_last (h : Ord lt) {A : List α} (hs : Srt lt A) {t : List α} {y : α} (e : A = t ++ [y]) : ∀ u ∈ A, le lt u y ∨ u = y := by
  intro u hu
  subst e
  rcases List.mem_append.1 hu with hu | hu
  · exact .inl ((srt_app.1 hs).2.2 u hu y (List.mem_singleton.2 rfl))
  · exact .inr (List.mem_singleton.1 hu)
theorem le_rfl' (h : Ord lt) (u : α) : le lt u u := fun k => h.asym _ _ k k
theorem cross (h : Ord lt) {A B : List α} (hA : Srt lt A) (hB : Srt lt B) (hn : ∀ t y z r, A = t ++ [y] → B = z :: r → le lt y z) : ∀ u ∈ A, ∀ v ∈ B, le lt u v := by
  intro u hu v hv
  rcases snoc_cases A with he | ⟨t, y, he⟩
  · subst he; cases hu
  · cases B with
    | nil => cases hv
    | cons z r =>
      have k := hn t y z r he rfl
      have k1 : le lt u y := by rcases srt_last h hA he u hu with k | k; exact k; subst k; exact le_rfl' h _
      have k2 : le lt z v := by rcases List.mem_cons.1 hv with rfl | hv; exact le_rfl' h _; exact (List.pairwise_cons.1 hB).1 v hv
      exact h.le_tr (h.le_tr k1 k) k2
theorem srt_halves (h : Ord lt) {A1 A2 B1 B2 D1 D2 : List α} (hA : Srt lt (A1 ++ A2)) (hB : Srt lt (B1 ++ B2)) (h1 : D1.Perm (A1 ++ B1)) (h2 : D2.Perm (A2 ++ B2)) (s1 : Srt lt D1) (s2 : Srt lt D2)
    (k1 : ∀ t y z r, A1 = t ++ [y] → B2 = z :: r → le lt y z) (k2 : ∀ t y z r, B1 = t ++ [y] → A2 = z :: r → le lt y z) : Srt lt (D1 ++ D2) := by
  obtain ⟨a1, a2, a3⟩ := srt_app.1 hA
  obtain ⟨b1, b2, b3⟩ := srt_app.1 hB
  refine srt_app.2 ⟨s1, s2, fun u hu v hv => ?_⟩
  rcases List.mem_append.1 (h1.mem_iff.1 hu) with hu | hu <;> rcases List.mem_append.1 (h2.mem_iff.1 hv) with hv | hv
  · exact a3 u hu v hv
  · exact cross h a1 b2 k1 u hu v hv
  · exact cross h b1 a2 k2 u hu v hv
  · exact b3 u hu v hv
theorem perm_halves {A1 A2 B1 B2 D1 D2 : List α} (h1 : D1.Perm (A1 ++ B1)) (h2 : D2.Perm (A2 ++ B2)) : (D1 ++ D2).Perm ((A1 ++ A2) ++ (B1 ++ B2)) := by
  refine (h1.append h2).trans ?_
  rw [List.append_assoc, List.append_assoc]
  refine List.Perm.append_left A1 ?_
  rw [← List.append_assoc, ← List.append_assoc]
  exact List.Perm.append_right B2 List.perm_append_comm

theorem srt_get {l : List α} {i j : Nat} {u v : α} (hs : Srt lt l) (hi : l[i]? = some u) (hj : l[j]? = some v) (h : i < j) : le lt u v := by
  obtain ⟨h1, rfl⟩ := List.getElem?_eq_some_iff.1 hi
  obtain ⟨h2, rfl⟩ := List.getElem?_eq_some_iff.1 hj
  exact List.pairwise_iff_getElem.1 hs i j h1 h2 h
theorem take_last {l : List α} {n : Nat} {t : List α} {y : α} (h : l.take n = t ++ [y]) : l[t.length]? = some y ∧ t.length + 1 = min n l.length := by
  have hl := congrArg List.length h
  rw [List.length_take, List.length_append, List.length_singleton] at hl
  refine ⟨?_, hl.symm⟩
  have : (l.take n)[t.length]? = some y := by rw [h]; exact get_mid rfl
  rwa [List.getElem?_take_of_lt (by omega)] at this
theorem drop_head {l : List α} {n : Nat} {z : α} {r : List α} (h : l.drop n = z :: r) : l[n]? = some z := by
  have : (l.drop n)[0]? = some z := by rw [h]; rfl
  rwa [List.getElem?_drop, Nat.add_zero] at this
theorem swap_dn {P t S : List α} {x y : α} {k1 k2 : Nat} (h1 : k1 = P.length + t.length + 1) (h2 : k2 = P.length + t.length) : ((P ++ (t ++ (y :: (x :: S)))).set k1 y).set k2 x = P ++ (t ++ (x :: (y :: S))) := by
  rw [show P ++ (t ++ (y :: (x :: S))) = (P ++ (t ++ [y])) ++ x :: S by simp, set_mid (by simp only [List.length_append, List.length_singleton]; omega), show (P ++ (t ++ [y])) ++ y :: S = (P ++ t) ++ y :: (y :: S) by simp,
    set_mid (by simp only [List.length_append]; omega)]
  simp
theorem swap_up {P t S : List α} {x y : α} {k1 k2 : Nat} (h1 : k1 = P.length + t.length) (h2 : k2 = P.length + t.length + 1) : ((P ++ (t ++ (x :: (y :: S)))).set k1 y).set k2 x = P ++ (t ++ (y :: (x :: S))) := by
  rw [← List.append_assoc, set_mid (by simp only [List.length_append]; omega), show (P ++ t) ++ y :: (y :: S) = (P ++ (t ++ [y])) ++ y :: S by simp, set_mid (by simp only [List.length_append, List.length_singleton]; omega)]
  simp

/-! blocks -/
def Blk (lt : α → α → Prop) (w : Nat) (l : List α) : Prop := ∀ k, Srt lt ((l.drop (k * w)).take w)
theorem blk_nil (w : Nat) : Blk lt w [] := fun k => by simp
theorem blk_whole {w : Nat} {l : List α} (h : Blk lt w l) (hl : l.length ≤ w) : Srt lt l := by
  have := h 0
  rwa [Nat.zero_mul, List.drop_zero, List.take_of_length_le hl] at this
theorem blk_snoc {w q : Nat} {P D : List α} (hP : Blk lt w P) (hq : P.length = q * w) (hD : Srt lt D) (hd : D.length ≤ w) : Blk lt w (P ++ D) := by
  intro k
  rcases Nat.lt_or_ge k q with h | h
  · have : k * w + w ≤ P.length := by rw [hq, ← Nat.succ_mul]; exact Nat.mul_le_mul_right w h
    rw [List.drop_append_of_le_length (by omega), List.take_append_of_le_length (by rw [List.length_drop]; omega)]
    exact hP k
  · have hle : P.length ≤ k * w := by rw [hq]; exact Nat.mul_le_mul_right w h
    obtain ⟨j, hj⟩ : ∃ j, k * w = P.length + j := ⟨k * w - P.length, by omega⟩
    have hdr : (P ++ D).drop (k * w) = D.drop j := by rw [hj, ← List.drop_drop, List.drop_left]
    rw [hdr]
    exact hD.sublist ((List.take_sublist _ _).trans (List.drop_sublist _ _))
theorem blk_drop {w n : Nat} {l : List α} (h : Blk lt w l) : Blk lt w (l.drop (n * w)) := by
  intro k
  have := h (n + k)
  rwa [Nat.add_mul, ← List.drop_drop] at this
theorem blk_take {w : Nat} {l : List α} (h : Blk lt w l) : Srt lt (l.take w) := by
  have := h 0
  rwa [Nat.zero_mul, List.drop_zero] at this
end
end Go.Proofs.Ytkhmimlgkjenfaa.HL
