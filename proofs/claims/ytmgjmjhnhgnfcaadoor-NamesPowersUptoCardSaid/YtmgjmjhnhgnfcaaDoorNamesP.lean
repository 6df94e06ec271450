/- NamesP: plain laws of words, places and byte texts. No condition. -/
import Derived.Test.YtmgjmjhnhgnfcaaDoorNamesD
namespace Go.Proofs.YtmgjmjhnhgnfcaaDoor.HL
open Go
attribute [local irreducible] goFn thenS blockS bodyS CW RW DW GW QW NW SC Pick Picks SubL Rd NN ResOk SrcW subE hops hseg AW hgen HC qv
set_option linter.unusedVariables false
set_option linter.unusedSimpArgs false


theorem drop_at {α : Type} {l : List α} {n : Nat} {x : α} (h : l[n]? = some x) : l.drop n = x :: l.drop (n + 1) := by
  have hlt : n < l.length := by
    rcases Nat.lt_or_ge n l.length with h' | h'
    · exact h'
    · rw [List.getElem?_eq_none h'] at h; cases h
  rw [List.getElem?_eq_getElem hlt] at h
  cases h
  exact List.drop_eq_getElem_cons hlt

theorem toldR_enc (x : Rn) : (Utf8.encode (foldedF x.r)).data.toList = enc (foldedF x.r) := rfl
theorem bstr_app (a b : List UInt8) : bstr (a ++ b) = bstr a ++ bstr b := by
  apply ByteArray.ext
  rw [ByteArray.data_append]
  simp [bstr]
theorem bstr_enc (r : Int) : bstr (enc r) = Utf8.encode r := by
  unfold bstr enc
  apply ByteArray.ext
  simp
theorem bstr_size (l : List UInt8) : (bstr l).size = l.length := by simp [bstr, ByteArray.size]

theorem wgo_le (f : Int) (l : List Rn) : wgo f l ≤ l.length := by
  induction l generalizing f with
  | nil => exact Nat.le_refl _
  | cons x xs ih => rw [wgo_cons]; split; · have := ih (frst f x); simp only [List.length_cons]; omega
                    · omega
theorem rn_mem {s : ByteArray} {p : Nat} : ∀ {n : Nat} {x : Rn}, (rnFrom s p)[n]? = some x → x.p < s.size ∧ 1 ≤ x.w ∧ x.p + x.w ≤ s.size ∧ ((rnFrom s p)[n + 1]?.map (·.p) = if x.p + x.w < s.size then some (x.p + x.w) else none) ∧ p + n ≤ x.p := by
  intro n
  induction n generalizing p with
  | zero =>
    intro x h
    by_cases hp : p < s.size
    · rw [rnFrom_lt hp] at h ⊢
      simp only [List.getElem?_cons_zero, Option.some.injEq] at h
      subst h
      refine ⟨hp, width_ge s p, width_in s p hp, ?_, by dsimp only; omega⟩
      rw [List.getElem?_cons_succ]
      dsimp only
      by_cases hq : p + (Utf8.decode s p).2 < s.size
      · rw [if_pos hq, rnFrom_lt hq]; rfl
      · rw [if_neg hq, rnFrom_ge hq]; rfl
    · rw [rnFrom_ge hp] at h; cases h
  | succ n ih =>
    intro x h
    by_cases hp : p < s.size
    · rw [rnFrom_lt hp] at h ⊢
      rw [List.getElem?_cons_succ] at h
      obtain ⟨h1, h2, h3, h4, h5⟩ := ih h
      have := width_ge s p
      exact ⟨h1, h2, h3, by rw [List.getElem?_cons_succ]; exact h4, by omega⟩
    · rw [rnFrom_ge hp] at h; cases h
theorem posOf_get {s : ByteArray} {n : Nat} {x : Rn} (h : (rns s)[n]? = some x) : posOf s (rns s) n = x.p := by
  unfold posOf; rw [drop_at h]
theorem posOf_end {s : ByteArray} {n : Nat} (h : (rns s).length ≤ n) : posOf s (rns s) n = s.size := by
  unfold posOf; rw [List.drop_eq_nil_of_le h]
theorem posOf_next {s : ByteArray} {n : Nat} {x : Rn} (h : (rns s)[n]? = some x) : posOf s (rns s) (n + 1) = x.p + x.w := by
  obtain ⟨h1, h2, h3, h4, _⟩ := rn_mem h
  by_cases hq : x.p + x.w < s.size
  · rw [if_pos hq] at h4
    obtain ⟨y, hy, he⟩ := Option.map_eq_some_iff.1 h4
    rw [posOf_get hy]; exact he
  · rw [if_neg hq] at h4
    have h4 : (rns s)[n + 1]? = none := by
      cases e : (rns s)[n + 1]? with
      | none => rfl
      | some y => unfold rns at e; rw [e] at h4; cases h4
    rw [posOf_end (List.getElem?_eq_none_iff.1 h4)]; omega
theorem toldB_emp (l : List Rn) : toldB (l.take (wgo (-1) l)) = [] ↔ wgo (-1) l = 0 := by
  cases l with
  | nil => simp [wgo, toldB]
  | cons x xs =>
    rw [wgo_cons]
    by_cases h : moreP (-1) x
    · rw [if_pos h]
      have hc := (moreP_first x).1 h
      have hf := class_fold (r := x.r) (by rw [← cls_class (by omega)]; omega)
      have := enc_ne hf.1 hf.2
      constructor
      · intro e
        rw [Nat.add_comm, List.take_succ_cons] at e
        unfold toldB at e
        rw [List.flatMap_cons] at e
        exact absurd (List.append_eq_nil_iff.1 e).1 (fun e => this (by rw [e]; rfl))
      · intro e; omega
    · rw [if_neg h]; simp [toldB]
theorem bstr_emp (l : List UInt8) : bstr l = emp ↔ l = [] := by
  unfold bstr emp
  constructor
  · intro h; have := congrArg ByteArray.data h; simpa using this
  · rintro rfl; rfl
theorem wS_emp (s : ByteArray) : wS s = emp ↔ wN s = 0 := by unfold wS; rw [bstr_emp]; exact toldB_emp _
theorem wP_lt (s : ByteArray) : wN s < (rns s).length ↔ wP s < s.size := by
  unfold wP
  constructor
  · intro h
    obtain ⟨x, hx⟩ : ∃ x, (rns s)[wN s]? = some x := ⟨_, List.getElem?_eq_getElem h⟩
    rw [posOf_get hx]; exact (rn_mem hx).1
  · intro h
    rcases Nat.lt_or_ge (wN s) (rns s).length with h' | h'
    · exact h'
    · rw [posOf_end h'] at h; omega
theorem rns_le (s : ByteArray) : (rns s).length ≤ s.size := by
  rcases Nat.eq_zero_or_pos (rns s).length with h | h
  · omega
  · obtain ⟨x, hx⟩ : ∃ x, (rns s)[(rns s).length - 1]? = some x := ⟨_, List.getElem?_eq_getElem (by omega)⟩
    have := rn_mem hx
    omega
theorem rns_pos (s : ByteArray) (h : (rns s).length = 0) : s.size = 0 := by
  rcases Nat.eq_zero_or_pos s.size with h' | h'
  · exact h'
  · unfold rns at h; rw [rnFrom_lt h'] at h; simp at h

end Go.Proofs.YtmgjmjhnhgnfcaaDoor.HL
