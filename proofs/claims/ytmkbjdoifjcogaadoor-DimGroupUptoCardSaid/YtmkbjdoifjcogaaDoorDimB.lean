/- DimB: the group of dimensions: plain laws. No condition. -/
import Derived.Test.YtmkbjdoifjcogaaDoorDimA
namespace Go.Proofs.YtmkbjdoifjcogaaDoor.HL
open Go
attribute [local irreducible] goFn thenS blockS bodyS CW RW DW GW QW NW SC Pick Picks SubL Rd NN ResOk SrcW subE hops hseg AW hgen HC qv bldv
set_option linter.unusedVariables false
set_option linter.unusedSimpArgs false

theorem small_mono {x y : Int} {d : List Int} (h : smallD x d) (hxy : x ≤ y) : smallD y d := fun z hz => by have := h z hz; omega
theorem told_small {d : List Int} {x : Int} (h : smallD x d) (hx : x ≤ 99) : toldD d = (d, 0) := by
  unfold toldD; rw [if_pos (small_right.2 (small_mono h hx))]
theorem add_zeroL : ∀ {a : List Int}, a.length = 8 → addD zeroD a = a := by
  intro a ha
  match a, ha with
  | [a0, a1, a2, a3, a4, a5, a6, a7], _ => simp [addD, zeroD]
theorem add_comm' : ∀ (a b : List Int), addD a b = addD b a
  | [], [] => rfl
  | [], _ :: _ => rfl
  | _ :: _, [] => rfl
  | x :: a, y :: b => by
    have := add_comm' a b
    unfold addD at this ⊢
    rw [List.zipWith_cons_cons, List.zipWith_cons_cons, this, Int.add_comm]
theorem add_assoc' : ∀ (a b c : List Int), addD (addD a b) c = addD a (addD b c)
  | [], _, _ => by simp [addD]
  | _ :: _, [], _ => by simp [addD]
  | _ :: _, _ :: _, [] => by simp [addD]
  | x :: a, y :: b, z :: c => by
    have := add_assoc' a b c
    unfold addD at this ⊢
    simp only [List.zipWith_cons_cons, this, Int.add_assoc]
theorem sub_add : ∀ (a b : List Int), a.length = b.length → subD (addD a b) b = a
  | [], [], _ => rfl
  | x :: a, y :: b, h => by
    have := sub_add a b (by simpa using h)
    unfold subD addD at this ⊢
    rw [List.zipWith_cons_cons, List.zipWith_cons_cons, this]
    congr 1; omega
theorem sub_self' : ∀ (a : List Int), a.length = 8 → subD a a = zeroD := by
  intro a ha
  match a, ha with
  | [a0, a1, a2, a3, a4, a5, a6, a7], _ => simp [subD, zeroD]
theorem add_mul : ∀ (a : List Int) (m n : Int), addD (a.map (· * m)) (a.map (· * n)) = a.map (· * (m + n))
  | [], _, _ => rfl
  | x :: a, m, n => by
    have := add_mul a m n
    unfold addD at this ⊢
    simp only [List.map_cons, List.zipWith_cons_cons, this, Int.mul_add]
theorem small_mul {d : List Int} {x n y : Int} (h : smallD x d) (hn : -y ≤ n ∧ n ≤ y) (hx : 0 ≤ x) : smallD (x * y) (d.map (· * n)) := by
  intro z hz
  obtain ⟨w, hw, rfl⟩ := List.mem_map.1 hz
  have h1 := h w hw
  have a1 : (w * n).natAbs = w.natAbs * n.natAbs := Int.natAbs_mul ..
  have a2 : w.natAbs ≤ x.natAbs := by omega
  have a3 : n.natAbs ≤ y.natAbs := by omega
  have a4 := Nat.mul_le_mul a2 a3
  have a5 : (x * y).natAbs = x.natAbs * y.natAbs := Int.natAbs_mul ..
  have a6 : 0 ≤ x * y := Int.mul_nonneg hx (by omega)
  omega
theorem div_mul {d : List Int} {n : Int} (hn : n ≠ 0) : (d.map (· * n)).map (·.tdiv n) = d ∧ (d.map (· * n)).all (fun z => decide (z.tmod n = 0)) = true := by
  refine ⟨?_, ?_⟩
  · rw [List.map_map]
    have : ((fun z : Int => z.tdiv n) ∘ fun z => z * n) = id := by funext z; exact Int.mul_tdiv_cancel z hn
    rw [this, List.map_id]
  · rw [List.all_eq_true]
    intro z hz
    obtain ⟨w, _, rfl⟩ := List.mem_map.1 hz
    exact decide_eq_true (Int.mul_tmod_left w n)
theorem mul_two {a b : List Int} {x : Int} (ha : a.length = 8) (hx : smallD x a) (hy : smallD x b) (h : x ≤ 49) : mulD [a, b] = (addD a b, 0) := by
  have h99 : ∀ {d : List Int}, smallD x d → rightD d = true := fun hd => small_right.2 (small_mono hd (by omega))
  unfold mulD
  have : [a, b].all rightD = true := by simp [h99 hx, h99 hy]
  rw [if_pos this]
  have e : sumD [a, b] = addD a b := by
    show addD (addD zeroD a) b = _
    rw [add_zeroL ha]
  rw [e]
  exact told_small (x := x + x) (small_add hx hy) (by omega)
theorem mul_two' {a b : List Int} {x y : Int} (ha : a.length = 8) (hx : smallD x a) (hy : smallD y b) (h : x + y ≤ 99) (h0 : 0 ≤ x) (h1 : 0 ≤ y) : mulD [a, b] = (addD a b, 0) := by
  unfold mulD
  have : [a, b].all rightD = true := by simp [small_right.2 (small_mono hx (by omega : x ≤ 99)), small_right.2 (small_mono hy (by omega : y ≤ 99))]
  rw [if_pos this]
  have e : sumD [a, b] = addD a b := by
    show addD (addD zeroD a) b = _
    rw [add_zeroL ha]
  rw [e]
  exact told_small (x := x + y) (small_add hx hy) h
theorem pow_small {d : List Int} {n x y : Int} (h : smallD x d) (hn : -y ≤ n ∧ n ≤ y) (hx : 0 ≤ x) (hy : x * y ≤ 99) (hy2 : y ≤ 99) (hx2 : x ≤ 99) : powD d n = (d.map (· * n), 0) := by
  unfold powD
  rw [if_pos (small_right.2 (small_mono h hx2))]
  by_cases hz : d = zeroD
  · rw [if_pos hz, hz, zero_mul]
  · rw [if_neg hz, if_neg (by omega)]
    exact told_small (small_mul h hn hx) hy
/-- the law DimGroup, on lists -/
theorem group {a b c : List Int} {m n : Int} (ha : a.length = 8) (hb : b.length = 8) (hc : c.length = 8) (sa : smallD 16 a) (sb : smallD 16 b) (sc : smallD 16 c) (hm : -2 ≤ m ∧ m ≤ 2) (hn : 1 ≤ n ∧ n ≤ 4) :
    ∃ x w z p r, mulD [a, b] = (x, 0) ∧ mulD [b, a] = (x, 0) ∧ mulD [x, c] = (z, 0) ∧ mulD [b, c] = (w, 0) ∧ mulD [a, w] = (z, 0) ∧ quoD x b = (a, 0) ∧ quoD a a = (zeroD, 0) ∧ mulD [a, zeroD] = (a, 0) ∧
      powD a m = (p, 0) ∧ powD a n = (r, 0) ∧ powD a (m + n) = (addD p r, 0) ∧ mulD [p, r] = (addD p r, 0) ∧ rootD r n = (a, 0) ∧
      x.length = 8 ∧ w.length = 8 ∧ z.length = 8 ∧ p.length = 8 ∧ r.length = 8 := by
  have h0 : smallD 0 zeroD := small_zero
  have sx := small_add sa sb
  have sw := small_add sb sc
  have h2 := small_mul (y := 2) sa (by omega) (by decide)
  refine ⟨addD a b, addD b c, addD a (addD b c), a.map (· * m), a.map (· * n), ?_, ?_, ?_, ?_, ?_, ?_, ?_, ?_, ?_, ?_, ?_, ?_, ?_, addD_len ha hb, addD_len hb hc, addD_len ha (addD_len hb hc), by simpa using ha, by simpa using ha⟩
  · exact mul_two' ha sa sb (by decide) (by decide) (by decide)
  · rw [mul_two' hb sb sa (by decide) (by decide) (by decide), add_comm']
  · rw [mul_two' (addD_len ha hb) sx sc (by decide) (by decide) (by decide), add_assoc']
  · exact mul_two' hb sb sc (by decide) (by decide) (by decide)
  · exact mul_two' ha sa sw (by decide) (by decide) (by decide)
  · unfold quoD
    rw [if_pos ⟨small_right.2 (small_mono sx (by decide)), small_right.2 (small_mono sb (by decide))⟩, sub_add a b (by omega)]
    exact told_small sa (by decide)
  · unfold quoD
    rw [if_pos ⟨small_right.2 (small_mono sa (by decide)), small_right.2 (small_mono sa (by decide))⟩, sub_self' a ha]
    exact told_small h0 (by decide)
  · rw [mul_two' ha sa h0 (by decide) (by decide) (by decide), add_comm', add_zeroL ha]
  · exact pow_small (y := 2) sa (by omega) (by decide) (by decide) (by decide) (by decide)
  · exact pow_small (y := 4) sa (by omega) (by decide) (by decide) (by decide) (by decide)
  · rw [add_mul]; exact pow_small (y := 6) sa (by omega) (by decide) (by decide) (by decide) (by decide)
  · exact mul_two' (by simpa using ha) (small_mul (y := 2) sa (by omega) (by decide)) (small_mul (y := 4) sa (by omega) (by decide)) (by decide) (by decide) (by decide)
  · have := div_mul (d := a) (n := n) (by omega)
    unfold rootD
    rw [if_pos ⟨small_right.2 (small_mono (small_mul (y := 4) (n := n) sa (by omega) (by decide)) (by decide)), hn.1⟩, if_pos this.2, this.1]
end Go.Proofs.YtmkbjdoifjcogaaDoor.HL
