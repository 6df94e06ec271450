/- DimQ: a dimension's text, as bytes: plain laws. No condition. -/
import Derived.Test.YtmkbjdoifjcogaaDoorDimP
namespace Go.Proofs.YtmkbjdoifjcogaaDoor.HL
open Go
attribute [local irreducible] goFn thenS blockS bodyS CW RW DW GW QW NW SC Pick Picks SubL Rd NN ResOk SrcW subE hops hseg AW hgen HC qv bldv
set_option linter.unusedVariables false
set_option linter.unusedSimpArgs false

def letB (i : Nat) : UInt8 := ([76, 77, 84, 73, 72, 78, 74, 66] : List UInt8).getD i 0
def termB (i : Nat) (z : Int) : List UInt8 := letB i :: (if z = 1 then [] else 94 :: Lib.itoa z)
def prS (out : List UInt8) (i : Nat) (z : Int) : List UInt8 := if z = 0 then out else (if out = [] then [] else out ++ [32]) ++ termB i z
def prL (d : List Int) : Nat → List UInt8
  | 0 => []
  | k + 1 => prS (prL d k) k (d.getD k 0)
def printT (d : List Int) : List UInt8 × Int := if rightD d = true then (if prL d 8 = [] then ([49], 0) else (prL d 8, 0)) else ([], 1)
theorem itoa_len {z : Int} (h : -99 ≤ z ∧ z ≤ 99) : (Lib.itoa z).length ≤ 3 := by
  unfold Lib.itoa
  split
  · have := dec_len (u := z.natAbs) (by omega)
    rw [List.length_cons]; omega
  · have := dec_len (u := z.toNat) (by omega)
    omega
theorem prS_len {out : List UInt8} {i : Nat} {z : Int} (h : -99 ≤ z ∧ z ≤ 99) : (prS out i z).length ≤ out.length + 6 := by
  have := itoa_len h
  unfold prS termB
  repeat' split
  all_goals simp
  all_goals omega
end Go.Proofs.YtmkbjdoifjcogaaDoor.HL
