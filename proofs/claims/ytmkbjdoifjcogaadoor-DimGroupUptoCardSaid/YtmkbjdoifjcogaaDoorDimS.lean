/- DimS: reading a dimension's text: plain laws. No condition. -/
import Derived.Test.YtmkbjdoifjcogaaDoorDimR
namespace Go.Proofs.YtmkbjdoifjcogaaDoor.HL
open Go
attribute [local irreducible] goFn thenS blockS bodyS CW RW DW GW QW NW SC Pick Picks SubL Rd NN ResOk SrcW subE hops hseg AW hgen HC qv bldv
set_option linter.unusedVariables false
set_option linter.unusedSimpArgs false

def whichN (c : Int) : Int := if c = 76 then 0 else if c = 77 then 1 else if c = 84 then 2 else if c = 73 then 3 else if c = 72 then 4 else if c = 78 then 5 else if c = 74 then 6 else if c = 66 then 7 else -1
theorem whichN_range (c : Int) : -1 ≤ whichN c ∧ whichN c ≤ 7 := by unfold whichN; (repeat' split) <;> omega
def isD (b : UInt8) : Bool := decide (48 ≤ b.toNat) && decide (b.toNat ≤ 57)
/-- the digits ahead: their number, at most 1000, and what stands behind -/
def digsL : List UInt8 → Int → Int × List UInt8
  | [], n => (n, [])
  | b :: r, n => if isD b = true then digsL r (min (n * 10 + (b.toNat - 48)) 1000) else (n, b :: r)
theorem digsL_len : ∀ (l : List UInt8) (n : Int), (digsL l n).2.length ≤ l.length
  | [], n => Nat.le_refl _
  | b :: r, n => by
    unfold digsL; split
    · have := digsL_len r (min (n * 10 + (b.toNat - 48)) 1000); rw [List.length_cons]; omega
    · exact Nat.le_refl _
theorem digsL_range : ∀ (l : List UInt8) (n : Int), 0 ≤ n ∧ n ≤ 1000 → 0 ≤ (digsL l n).1 ∧ (digsL l n).1 ≤ 1000
  | [], n, h => h
  | b :: r, n, h => by
    unfold digsL; split
    · rename_i hb
      unfold isD at hb
      simp only [jC, jA] at hb
      exact digsL_range r _ (by omega)
    · exact h
/-- an exponent, behind ^: its value, the fault, what stands behind, how much stands behind the fault's place -/
def signL (l : List UInt8) : Bool := match l with | b :: _ => b == 45 | [] => false
def bareL (l : List UInt8) : List UInt8 := if signL l = true then l.tail else l
def expL (l : List UInt8) : Int × Int × List UInt8 × Nat :=
  let x := digsL (bareL l) 0
  if x.2.length = (bareL l).length then (0, 3, x.2, x.2.length)
  else if x.1 > 99 then (0, 51, x.2, l.length)
  else (if signL l = true then -x.1 else x.1, 0, x.2, x.2.length)
theorem bareL_len (l : List UInt8) : (bareL l).length ≤ l.length := by
  unfold bareL; split
  · rw [List.length_tail]; omega
  · exact Nat.le_refl _
theorem expL_len (l : List UInt8) : (expL l).2.2.1.length ≤ l.length ∧ (expL l).2.2.2 ≤ l.length := by
  have h1 := digsL_len (bareL l) 0
  have h2 := bareL_len l
  unfold expL
  simp only
  repeat' split
  all_goals simp only
  all_goals omega
theorem expL_range (l : List UInt8) : -99 ≤ (expL l).1 ∧ (expL l).1 ≤ 99 := by
  have h1 := digsL_range (bareL l) 0 (by omega)
  unfold expL
  simp only
  repeat' split
  all_goals simp only
  all_goals omega
/-- a term behind its letter -/
def powL (l : List UInt8) : Int × Int × List UInt8 × Nat := match l with
  | 94 :: r => expL r
  | l => (1, 0, l, l.length)
theorem powL_len (l : List UInt8) : (powL l).2.2.1.length ≤ l.length ∧ (powL l).2.2.2 ≤ l.length := by
  unfold powL
  split
  · rename_i r
    have := expL_len r
    rw [List.length_cons]; omega
  · exact ⟨Nat.le_refl _, Nat.le_refl _⟩
theorem powL_range (l : List UInt8) : -99 ≤ (powL l).1 ∧ (powL l).1 ≤ 99 := by
  unfold powL
  split
  · exact expL_range _
  · simp only; omega
/-- reading on: of a text of N bytes, what is left of it, the dimension so far, the sign -/
def parseL (N : Nat) : Nat → List UInt8 → List Int → Int → List Int × Int × Int
  | 0, _, _, _ => (zeroD, 3, 0)
  | _ + 1, [], _, _ => (zeroD, 3, N)
  | f + 1, b :: r, d, sg =>
    if whichN b.toNat < 0 then (zeroD, 3, (N - (b :: r).length : Nat)) else
    let x := powL r
    if x.2.1 ≠ 0 then (zeroD, x.2.1, (N - x.2.2.2 : Nat)) else
    let k := (whichN b.toNat).toNat
    let d' := d.set k (d.getD k 0 + sg * x.1)
    if rightD d' = false then (zeroD, 51, (N - (b :: r).length : Nat)) else
    match x.2.2.1 with
    | [] => (d', 0, 0)
    | 32 :: r2 => parseL N f r2 d' 1
    | 47 :: r2 => parseL N f r2 d' (-1)
    | c :: r2 => (zeroD, 3, (N - (c :: r2).length : Nat))
/-- a text's dimension -/
def parseT (l : List UInt8) : List Int × Int × Int :=
  if l = [49] then (zeroD, 0, 0) else
  match l with
  | 49 :: _ => (zeroD, 3, 1)
  | l => parseL l.length (l.length + 1) l zeroD 1
end Go.Proofs.YtmkbjdoifjcogaaDoor.HL
