/- DimA: dimensions as lists of eight exponents: product, quotient, power, root: plain laws. No condition. -/
import Derived.Test.YtmkbjdoifjcogaaDoorHLm
namespace Go.Proofs.YtmkbjdoifjcogaaDoor.HL
open Go
attribute [local irreducible] goFn thenS blockS bodyS CW RW DW GW QW NW SC Pick Picks SubL Rd NN ResOk SrcW subE hops hseg AW hgen HC qv bldv
set_option linter.unusedVariables false
set_option linter.unusedSimpArgs false

def okE (z : Int) : Bool := decide (-99 ≤ z) && decide (z ≤ 99)
theorem okE_iff (z : Int) : okE z = true ↔ -99 ≤ z ∧ z ≤ 99 := by simp [okE]
def rightD (d : List Int) : Bool := d.all okE
def zeroD : List Int := [0, 0, 0, 0, 0, 0, 0, 0]
def toldD (d : List Int) : List Int × Int := if rightD d = true then (d, 0) else (zeroD, 51)
def addD (a b : List Int) : List Int := List.zipWith (· + ·) a b
def subD (a b : List Int) : List Int := List.zipWith (· - ·) a b
def sumD (l : List (List Int)) : List Int := l.foldl addD zeroD
def mulD (l : List (List Int)) : List Int × Int := if l.all rightD = true then toldD (sumD l) else (zeroD, 1)
def quoD (a b : List Int) : List Int × Int := if rightD a = true ∧ rightD b = true then toldD (subD a b) else (zeroD, 1)
def powD (d : List Int) (n : Int) : List Int × Int :=
  if rightD d = true then (if d = zeroD then (d, 0) else if n < -99 ∨ n > 99 then (zeroD, 51) else toldD (d.map (· * n))) else (zeroD, 1)
def clampN (n : Int) : Int := if n > 1000 then 1000 else if n < -1000 then -1000 else n
def powR (d : List Int) (n : Int) : List Int × Int := if rightD d = true then toldD (d.map (· * clampN n)) else (zeroD, 1)
def rootD (d : List Int) (n : Int) : List Int × Int :=
  if rightD d = true ∧ 1 ≤ n then (if d.all (fun z => decide (z.tmod n = 0)) = true then (d.map (·.tdiv n), 0) else (zeroD, 10)) else (zeroD, 1)

theorem mul_bound {z n : Int} (hz : z ≠ 0) (hn : n < -99 ∨ n > 99) : ¬ (-99 ≤ z * n ∧ z * n ≤ 99) := by
  intro ⟨h1, h2⟩
  have a1 : (z * n).natAbs = z.natAbs * n.natAbs := Int.natAbs_mul ..
  have a2 : 1 ≤ z.natAbs := by omega
  have a3 : 100 ≤ n.natAbs := by omega
  have a4 : 1 * 100 ≤ z.natAbs * n.natAbs := Nat.mul_le_mul a2 a3
  omega
theorem zero_mul (n : Int) : zeroD.map (· * n) = zeroD := by simp [zeroD]
theorem ne_zeroD {d : List Int} (hl : d.length = 8) (h : d ≠ zeroD) : ∃ z ∈ d, z ≠ 0 := by
  refine Classical.byContradiction fun hc => h ?_
  have hall : ∀ z ∈ d, z = 0 := fun z hz => Classical.byContradiction fun h' => hc ⟨z, hz, h'⟩
  have : d = List.replicate 8 0 := List.eq_replicate_iff.2 ⟨hl, hall⟩
  rw [this]; rfl
theorem powD_R (d : List Int) (n : Int) (hl : d.length = 8) : powR d n = powD d n := by
  unfold powR powD
  by_cases hr : rightD d = true
  · rw [if_pos hr, if_pos hr]
    by_cases hz : d = zeroD
    · rw [if_pos hz, hz, zero_mul]; rfl
    · rw [if_neg hz]
      by_cases hn : n < -99 ∨ n > 99
      · rw [if_pos hn]
        obtain ⟨z, hm, hz0⟩ := ne_zeroD hl hz
        have hc : clampN n < -99 ∨ clampN n > 99 := by unfold clampN; (repeat' split) <;> omega
        unfold toldD
        rw [if_neg]
        intro hh
        have := (okE_iff _).1 (List.all_eq_true.1 hh _ (List.mem_map.2 ⟨z, hm, rfl⟩))
        exact mul_bound hz0 hc this
      · rw [if_neg hn]
        have : clampN n = n := by unfold clampN; rw [if_neg (by omega), if_neg (by omega)]
        rw [this]
  · rw [if_neg hr, if_neg hr]

/-! a row that is written cell by cell -/
def mix (k : Nat) (new old : List Int) : List Int := new.take k ++ old.drop k
theorem mix_zero (new old : List Int) : mix 0 new old = old := by simp [mix]
theorem mix_all {new old : List Int} {k : Nat} (h : new.length ≤ k) (h2 : old.length ≤ k) : mix k new old = new := by
  unfold mix; rw [List.take_of_length_le h, List.drop_eq_nil_of_le h2, List.append_nil]
theorem mix_len {new old : List Int} {k : Nat} (h : k ≤ new.length) (h2 : new.length = old.length) : (mix k new old).length = old.length := by
  unfold mix; rw [List.length_append, List.length_take, List.length_drop]; omega
theorem mix_get {new old : List Int} {k : Nat} (h : k < new.length) (h2 : new.length = old.length) : (mix k new old)[k]? = old[k]? := by
  unfold mix
  rw [List.getElem?_append_right (by rw [List.length_take]; omega), List.length_take, List.getElem?_drop]
  congr 1; omega
theorem mix_set {new old : List Int} {k : Nat} {z : Int} (h : k < new.length) (h2 : new.length = old.length) (hz : new[k]? = some z) : (mix k new old).set k z = mix (k + 1) new old := by
  unfold mix
  rw [List.set_append_right _ _ (by rw [List.length_take]; omega), List.length_take, List.take_add_one, hz]
  have e : k - min k new.length = 0 := by omega
  rw [e]
  obtain ⟨y, hy⟩ : ∃ y, old[k]? = some y := ⟨_, List.getElem?_eq_getElem (by omega)⟩
  have hd : old.drop k = y :: old.drop (k + 1) := by
    have hlt : k < old.length := by omega
    rw [List.getElem?_eq_getElem hlt] at hy
    cases hy
    exact List.drop_eq_getElem_cons hlt
  rw [hd]
  simp

/-! sums stay small -/
theorem addD_len {a b : List Int} (ha : a.length = 8) (hb : b.length = 8) : (addD a b).length = 8 := by unfold addD; rw [List.length_zipWith]; omega
theorem subD_len {a b : List Int} (ha : a.length = 8) (hb : b.length = 8) : (subD a b).length = 8 := by unfold subD; rw [List.length_zipWith]; omega
theorem sumD_len : ∀ (l : List (List Int)) (a : List Int), a.length = 8 → (∀ d ∈ l, d.length = 8) → (l.foldl addD a).length = 8
  | [], a, ha, _ => ha
  | d :: l, a, ha, h => sumD_len l _ (addD_len ha (h d (List.mem_cons_self ..))) fun x hx => h x (List.mem_cons_of_mem _ hx)
def smallD (b : Int) (d : List Int) : Prop := ∀ z ∈ d, -b ≤ z ∧ z ≤ b
theorem small_right {d : List Int} : rightD d = true ↔ smallD 99 d := by
  unfold rightD smallD
  rw [List.all_eq_true]
  exact forall_congr' fun z => forall_congr' fun _ => okE_iff z
theorem small_add {a b : List Int} {x y : Int} (ha : smallD x a) (hb : smallD y b) : smallD (x + y) (addD a b) := by
  intro z hz
  unfold addD at hz
  rw [List.zipWith_eq_zipWith_take_min] at hz
  obtain ⟨i, hi⟩ := List.mem_iff_getElem?.1 hz
  rw [List.getElem?_zipWith] at hi
  revert hi
  generalize hp : (a.take (min a.length b.length))[i]? = p
  generalize hq : (b.take (min a.length b.length))[i]? = q
  cases p with
  | none => intro hi; cases hi
  | some p =>
    cases q with
    | none => intro hi; cases hi
    | some q =>
      intro hi
      cases hi
      have h1 := ha p (List.mem_of_mem_take (List.mem_of_getElem? hp))
      have h2 := hb q (List.mem_of_mem_take (List.mem_of_getElem? hq))
      omega
theorem small_sum : ∀ (l : List (List Int)) (a : List Int) (x : Int), smallD x a → l.all rightD = true → smallD (x + 99 * l.length) (l.foldl addD a)
  | [], a, x, ha, _ => by simpa using ha
  | d :: l, a, x, ha, h => by
    rw [List.all_cons, jC] at h
    have := small_sum l (addD a d) (x + 99) (small_add ha (small_right.1 h.1)) h.2
    rw [List.foldl_cons, List.length_cons]
    intro z hz
    have := this z hz
    omega
theorem small_zero : smallD 0 zeroD := by
  intro z hz
  unfold zeroD at hz
  simp at hz
  omega
end Go.Proofs.YtmkbjdoifjcogaaDoor.HL
