/- LibO: arguments opened: slices of structs or arrays, rows of integers. No condition. -/
import Derived.Test.YtkhmimlgkjenfaaCloseGX
import Derived.ChangeArms
import Derived.OpenShut
namespace Go.Proofs.Ytkhmimlgkjenfaa.HL
open Go
set_option linter.unusedVariables false
open Go.ChangeShapes Go.WideShapes Go.ChangeAt Go.RowKit
open Go.ChangeMaps (open_string shut_string)

theorem addr_add2 (a : Addr) (q r : Nat) : (a.add q).add r = a.add (q + r) := by
  cases a with
  | mk b o s => by_cases hq : q = 0 <;> by_cases hr : r = 0 <;> cases s <;> simp [Addr.add, hq, hr, Nat.add_assoc]
theorem rdN_row {H : Hp} {a : Addr} {F : List Value} (h : ∀ k, k < F.length → H.cell? (a.add k) = F[k]?) : ∀ (m i : Nat), i + m ≤ F.length → rdN H a i m = some ((F.drop i).take m)
  | 0, i, _ => by simp [rdN]
  | m + 1, i, hi => by
    have hlt : i < F.length := by omega
    simp only [rdN]
    rw [h i hlt, List.getElem?_eq_getElem hlt]
    simp only
    rw [rdN_row h m (i + 1) (by omega), List.drop_eq_getElem_cons hlt, List.take_succ_cons]; rfl
theorem flat_len {α : Type} {f : α → List Value} {z : Nat} : ∀ {l : List α}, (∀ x ∈ l, (f x).length = z) → (l.flatMap f).length = l.length * z
  | [], _ => by simp
  | x :: l, h => by
    rw [List.flatMap_cons, List.length_append, flat_len fun y hy => h y (List.mem_cons_of_mem _ hy), h x (List.mem_cons_self ..), List.length_cons, Nat.add_mul]; omega
theorem flat_get {α : Type} {f : α → List Value} {z : Nat} : ∀ {l : List α} {i r : Nat} {x : α}, (∀ y ∈ l, (f y).length = z) → l[i]? = some x → r < z → (l.flatMap f)[i * z + r]? = (f x)[r]?
  | [], i, r, x, _, h, _ => by cases h
  | y :: l, 0, r, x, hz, h, hr => by
    have : y = x := by simpa using h
    subst this
    rw [Nat.zero_mul, Nat.zero_add, List.flatMap_cons, List.getElem?_append_left (by rw [hz y (List.mem_cons_self ..)]; exact hr)]
  | y :: l, i + 1, r, x, hz, h, hr => by
    have h : l[i]? = some x := by simpa using h
    have hy := hz y (List.mem_cons_self ..)
    rw [List.flatMap_cons, List.getElem?_append_right (by rw [hy, Nat.add_mul]; omega), hy]
    rw [show (i + 1) * z + r - z = i * z + r by rw [Nat.add_mul]; omega]
    exact flat_get (fun w hw => hz w (List.mem_cons_of_mem _ hw)) h hr
theorem choose_list {α β : Type} : ∀ {L : List β} {Q : Nat → α → β → Prop}, (∀ i y, L[i]? = some y → ∃ a, Q i a y) → ∃ l : List α, l.length = L.length ∧ ∀ i y, L[i]? = some y → ∃ a, l[i]? = some a ∧ Q i a y
  | [], Q, _ => ⟨[], rfl, fun i y h => by cases h⟩
  | b :: L, Q, h => by
    obtain ⟨a, ha⟩ := h 0 b rfl
    obtain ⟨l, h1, h2⟩ := choose_list (L := L) (Q := fun i => Q (i + 1)) fun i y hy => h (i + 1) y (by simpa using hy)
    refine ⟨a :: l, by simp [h1], fun i y hy => ?_⟩
    cases i with
    | zero =>
      have : b = y := by simpa using hy
      subst this
      exact ⟨a, rfl, ha⟩
    | succ i =>
      obtain ⟨c, h3, h4⟩ := h2 i y (by simpa using hy)
      exact ⟨c, by simpa using h3, h4⟩

section
variable {H : Type} {enc : TypeId × Value → H} {P : Program} {W : World}
def Pair2 {α β : Type} (R : α → β → Prop) (l : List α) (m : List β) : Prop := m.length = l.length ∧ ∀ (i : Nat) a b, l[i]? = some a → m[i]? = some b → R a b
theorem open_rows {α : Type} {dec : α → List Value} {R : α → DataW H → Prop} {t e : TypeId} {z fuel : Nat} {cs : List Value} {x : DataW H × List MemPlace} (ht : P.underlying t = some (.slice e)) (hc : P.cellsOf e = z) (hz : 0 < z)
    (hdec : ∀ fuel cs x, DataW.trod enc P W 0 (fun _ => true) true fuel e cs = some x → ∃ a, cs = dec a ∧ R a x.1) (h : DataW.trod enc P W 0 (fun _ => true) true fuel t cs = some x) :
    ∃ (a : Option Addr) (c : Nat) (l : List α), cs = [.slice a l.length c] ∧ Rs (allOf W) z a l.length c (l.flatMap dec) ∧ ((x.1 = .nil ∧ l = []) ∨ ∃ ds r, x.1 = .slice ds r ∧ Pair2 R l ds) := by
  rcases DataW.trod_slice ht h with ⟨h1, h2⟩ | ⟨a, len, cap, elems, rest, n, _, rfl, rfl, hb, hl, hm, hlen, hel, hsp, hns⟩
  · exact ⟨none, 0, [], h1, ⟨by simp, .inl ⟨none, 0, rfl, rfl⟩⟩, .inl ⟨by rw [h2], rfl⟩⟩
  · rw [hc] at hel
    obtain ⟨l, k1, k2⟩ := choose_list (L := elems) (Q := fun i (b : α) y => W.cells? 0 (a.add (i * z)) z = some (dec b) ∧ R b y.1) (by
      intro i y hy
      have hi : i < len := by
        rcases Nat.lt_or_ge i len with h | h
        · exact h
        · rw [List.getElem?_eq_none (by omega)] at hy; cases hy
      have hb' := hel i hi
      rw [hy, Option.bind_eq_some_iff] at hb'
      obtain ⟨cs', hcs, hy'⟩ := hb'
      obtain ⟨b, rfl, hR⟩ := hdec _ _ _ hy'
      exact ⟨b, hcs, hR⟩)
    have hll : l.length = len := by omega
    have hd : ∀ i b, l[i]? = some b → ∃ y, elems[i]? = some y ∧ W.cells? 0 (a.add (i * z)) z = some (dec b) ∧ R b y.1 := by
      intro i b hb
      have hi : i < elems.length := by
        rcases Nat.lt_or_ge i l.length with h | h
        · omega
        · rw [List.getElem?_eq_none h] at hb; cases hb
      obtain ⟨b', h3, h4⟩ := k2 i _ (List.getElem?_eq_getElem hi)
      rw [hb] at h3
      cases h3
      exact ⟨_, List.getElem?_eq_getElem hi, h4⟩
    have hdl : ∀ b ∈ l, (dec b).length = z := by
      intro b hb
      obtain ⟨i, hi⟩ := List.mem_iff_getElem?.1 hb
      obtain ⟨y, _, h4, _⟩ := hd i b hi
      exact (World.cells?_some h4).2.1
    have hfl := flat_len hdl
    have hcell : ∀ k, k < (l.flatMap dec).length → (allOf W).cell? (a.add k) = (l.flatMap dec)[k]? := by
      intro k hk
      rw [hfl] at hk
      have hr : k % z < z := Nat.mod_lt _ hz
      have hi : k / z < l.length := Nat.div_lt_of_lt_mul (by rw [Nat.mul_comm]; exact hk)
      have hk2 : k / z * z + k % z = k := by rw [Nat.mul_comm]; exact Nat.div_add_mod k z
      obtain ⟨y, h3, h4, _⟩ := hd _ _ (List.getElem?_eq_getElem hi)
      have h5 := (World.cells?_some h4).2.2 (k % z) hr
      have h6 := flat_get hdl (List.getElem?_eq_getElem hi) hr
      rw [hk2] at h6
      rw [addr_add2, hk2] at h5
      rw [h6, ← h5, allOf_cell]
    refine ⟨some a, cap, l, by rw [hll], ?_, .inr ⟨_, _, rfl, by rw [List.length_map, k1], ?_⟩⟩
    · refine ⟨hfl, ?_⟩
      by_cases h0 : l.length = 0
      · exact .inl ⟨_, _, by rw [h0], h0⟩
      · have hs : a.spot = none := by
          have hpos : 0 < (l.flatMap dec).length := by rw [hfl]; exact Nat.mul_pos (by omega) hz
          have := hcell 0 hpos
          rw [List.getElem?_eq_getElem hpos, allOf_cell] at this
          unfold World.cell? at this
          cases hsp : a.spot with
          | none => rfl
          | some s =>
            have hs2 : (a.add 0).spot = some s := by unfold Addr.add; simp [hsp]
            split at this
            · rw [hs2] at this; simp at this
            · cases this
        obtain ⟨b, off, sp⟩ := a
        simp only at hs
        subst hs
        refine .inr ⟨b, off, cap, rfl, by omega, ?_⟩
        have := rdN_row hcell (l.flatMap dec).length 0 (by omega)
        rw [List.drop_zero, List.take_of_length_le (Nat.le_refl _), hfl] at this
        exact this
    · intro i b d hb hd2
      obtain ⟨y, h3, _, h5⟩ := hd i b hb
      rw [List.getElem?_map, h3] at hd2
      cases hd2
      exact h5
end
end Go.Proofs.Ytkhmimlgkjenfaa.HL
