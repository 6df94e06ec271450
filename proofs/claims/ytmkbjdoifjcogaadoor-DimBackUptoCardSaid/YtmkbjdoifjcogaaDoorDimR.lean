/- DimR: dim.Print: what it computes. No condition. -/
import Derived.Test.YtmkbjdoifjcogaaDoorDimQ
namespace Go.Proofs.YtmkbjdoifjcogaaDoor.HL
open Go
attribute [local irreducible] goFn thenS blockS bodyS CW RW DW GW QW NW SC Pick Picks SubL Rd NN ResOk SrcW subE hops hseg AW hgen HC qv bldv
set_option linter.unusedVariables false
set_option linter.unusedSimpArgs false

theorem prL_len {d : List Int} (hr : rightD d = true) : ∀ k, (prL d k).length ≤ 6 * k
  | 0 => by simp [prL]
  | k + 1 => by
    have ih := prL_len hr k
    have hz : -99 ≤ d.getD k 0 ∧ d.getD k 0 ≤ 99 := by
      rw [List.getD_eq_getElem?_getD]
      cases h : d[k]? with
      | none => exact ⟨by decide, by decide⟩
      | some z => exact right_at hr h
    have := prS_len (out := prL d k) (i := k) hz
    show (prS _ _ _).length ≤ _
    omega
end Go.Proofs.YtmkbjdoifjcogaaDoor.HL
