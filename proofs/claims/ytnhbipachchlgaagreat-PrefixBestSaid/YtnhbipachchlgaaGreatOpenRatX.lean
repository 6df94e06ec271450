/- OpenRat: OpenR: a number among the arguments, opened. No condition. -/
import Derived.Test.YtnhbipachchlgaaGreatClose7X
import Derived.Test.YtnhbipachchlgaaGreatLibOX
import Derived.Test.YtnhbipachchlgaaGreatPartsBX
namespace Go.Proofs.YtnhbipachchlgaaGreat.HL
open Go
set_option maxHeartbeats 8000000
set_option maxRecDepth 100000
set_option linter.unusedVariables false
open Go.ChangeShapes Go.WideShapes Go.ChangeAt Go.RowKit

theorem list2r {α : Type} {l : List α} (h : l.length = 2) : ∃ y0 y1, l = [y0, y1] := by
  match l, h with
  | [y0, y1], _ => exact ⟨y0, y1, rfl⟩
theorem str1r {H : Type} {enc : TypeId × Value → H} {W : World} {m : Nat} {c : Value} {y : DataW H × List MemPlace} (h : DataW.trod enc Tryz.prog W 0 (fun _ => true) true m 9 [c] = some y) : ∃ l, c = .string (bstr l) ∧ (l.length : Int) ≤ 9223372036854775807 := by
  obtain ⟨s, h1, h2, hs⟩ := DataW.trod_string Tryz.underlying9 h
  obtain ⟨l, rfl⟩ := bstr_of s
  cases h1
  have e : (bstr l).size = l.length := rfl
  have e2 : maxLen = 9223372036854775807 := by decide
  exact ⟨l, rfl, by omega⟩
theorem cell9r : Tryz.prog.cellsOf 9 = 1 := by kernel_rfl
theorem open_rat {H : Type} {enc : TypeId × Value → H} {W : World} {v : Value} {d : DataW H} {ps : List MemPlace} (hval : Value.okWide Tryz.prog W .any 0 26 v) (h : DataW.Trod enc Tryz.prog W 0 (fun _ => true) true 26 v d ps) :
    ∃ n d : List UInt8, v = ratV n d ∧ (n.length : Int) ≤ 9223372036854775807 ∧ (d.length : Int) ≤ 9223372036854775807 := by
  unfold Value.okWide at hval
  rw [Tryz.underlying26] at hval
  obtain ⟨cs, rfl, hsz, _⟩ := hval
  have hc2 : Tryz.prog.cellsOf 26 = 2 := by kernel_rfl
  rw [hc2] at hsz
  obtain ⟨fuel, hf⟩ := h
  obtain ⟨a, b, e⟩ := list2r (l := cs.toList) (by rw [Array.length_toList]; exact hsz)
  have e1 : (Value.agg cs).cells.toList = [a, b] := e
  rw [e1] at hf
  obtain ⟨xs, k, _, hx, _, hxl, hfl⟩ := DataW.trod_struct Tryz.underlying26 hf
  obtain ⟨y0, y1, rfl⟩ := list2r (l := xs) hxl
  have f0 : DataW.trod enc Tryz.prog W 0 (fun _ => true) true k 9 (([a, b].drop 0).take (Tryz.prog.cellsOf 9)) = some y0 := hfl 0 _ rfl
  have f1 : DataW.trod enc Tryz.prog W 0 (fun _ => true) true k 9 (([a, b].drop 1).take (Tryz.prog.cellsOf 9)) = some y1 := hfl 1 _ rfl
  rw [cell9r] at f0 f1
  obtain ⟨u, h0, hu⟩ := str1r (c := a) f0
  obtain ⟨w, h1, hw⟩ := str1r (c := b) f1
  refine ⟨u, w, ?_, hu, hw⟩
  rw [h0, h1] at e
  unfold ratV
  congr 1
  exact Array.toList_inj.1 e
end Go.Proofs.YtnhbipachchlgaaGreat.HL
