/- Close5: what a row's list gives; dimensions among the arguments. No condition. -/
import Derived.Test.YtmkbjdoifjcogaaDoorCards
import Derived.Test.YtmkbjdoifjcogaaDoorTie
import Derived.WalkKit
import Derived.ProofKit
import Derived.OpenShut
import Derived.Deep.DeepHandedRow
import Derived.PinnedBridge
import Derived.Lib.LaidTab
import Derived.Test.YtmkbjdoifjcogaaDoorDimV
import Derived.Test.YtmkbjdoifjcogaaDoorLibO
namespace Go.Proofs.YtmkbjdoifjcogaaDoor.HL
open Go
set_option linter.unusedVariables false
open Go.ChangeShapes Go.WideShapes Go.ChangeAt Go.RowKit
open Go.ChangeMaps (open_string shut_string)

theorem laidOut : laidOutB Tryd.prog = true := by kernel_rfl
theorem own0 : ownKnob Tryd.prog.godebug = none := by kernel_rfl
abbrev laid3 : List (String × DataW Unit) := [("math/bits.deBruijn32tab", Rows.laid_math_bits_deBruijn32tab), ("math/bits.deBruijn64tab", Rows.laid_math_bits_deBruijn64tab), ("internal/strconv.uint64pow10", Rows.laid_internal_strconv_uint64pow10)]
theorem pow_eq : (Rows.laid_internal_strconv_uint64pow10 : DataW Unit) = Lib.tabData .u64 Lib.pow10Tab := by kernel_rfl
theorem pows3 {W : World} (h : laidMetH Tryd.prog laid3 W) : PowH (allOf W) := by
  have h2 : laidMet Tryd.prog laid3 W := h
  have r := Lib.laidMet.reads h2 (n := "internal/strconv.uint64pow10") (d := Rows.laid_internal_strconv_uint64pow10) (List.mem_cons_of_mem _ (List.mem_cons_of_mem _ (List.mem_cons_self ..)))
  rw [pow_eq] at r
  obtain ⟨g, t, cs, fuel, p, hg, hty, hvar, hd⟩ := r
  have hg0 : Tryd.prog.globalNamed "internal/strconv.uint64pow10" = some 0 := by kernel_rfl
  obtain rfl := Option.some.inj (hg0.symm.trans hg)
  have hty0 : (Tryd.prog.globals[0]?).map (·.type) = some 75 := by kernel_rfl
  obtain rfl := Option.some.inj (hty0.symm.trans hty)
  have hcs := Lib.cells_of_tab (n := 20) Tryd.underlying75 Tryd.underlying65 (by kernel_rfl) (by kernel_rfl) hd
  unfold World.var? at hvar
  rw [hg0, Option.bind_some] at hvar
  split at hvar
  · rename_i cs' T fr hb
    refine ⟨0, T, fr, hg0, ?_⟩
    show W.heap[0]? = _
    rw [hb, ← hcs]
    cases hvar
    rfl
  · cases hvar

/-- a world for the witness -/
def litsOf : DataW Unit → List Value
  | .agg ds => ds.map fun d => match d with
    | .lit (.int k z) => .int k z
    | _ => .bool false
  | _ => []
def layLits (d : DataW Unit) : Obj → Obj
  | .cells _ t frozen => .cells (litsOf d).toArray t frozen
  | o => o
noncomputable def laidWorld3 (os : Os) : World :=
  { World.holding Tryd.prog os ⟨#[], #[], []⟩ with heap := (((World.holding Tryd.prog os ⟨#[], #[], []⟩).heap.modify 0 (layLits Rows.laid_internal_strconv_uint64pow10)).modify 1 (layLits Rows.laid_math_bits_deBruijn32tab)).modify 2 (layLits Rows.laid_math_bits_deBruijn64tab) }
set_option maxRecDepth 100000 in
theorem laid_met3 (os : Os) (args : Array Value) : laidMet Tryd.prog laid3 ((laidWorld3 os).forCall (fun _ _ => 0) ⟨#[], args, []⟩).memory :=
  laidMet_of_run' 8 (by kernel_rfl) (by kernel_rfl)

/-- what a dimension reads as -/
def dimD {H : Type} (d : List Int) : DataW H := .agg (d.map fun z => DataW.lit (Lit.int .i64 z))
def DimR {H : Type} (d : List Int) (x : DataW H) : Prop := d.length = 8 ∧ x = dimD d
theorem dim_cells {H : Type} {enc : TypeId × Value → H} {W : World} : ∀ fuel cs (x : DataW H × List MemPlace), DataW.trod enc Tryd.prog W 0 (fun _ => true) true fuel 24 cs = some x → ∃ d : List Int, cs = ints d ∧ DimR d x.1 := by
  intro fuel cs x h
  obtain ⟨d, h1, h2, h3, _⟩ := open_ints Tryd.underlying24 Tryd.underlying3 (by kernel_rfl) (by kernel_rfl) h
  exact ⟨d, h1, h2, h3⟩
theorem open_dim {H : Type} {enc : TypeId × Value → H} {W : World} {v : Value} {d : DataW H} {ps : List MemPlace} (hval : Value.okWide Tryd.prog W .any 0 24 v) (h : DataW.Trod enc Tryd.prog W 0 (fun _ => true) true 24 v d ps) :
    ∃ l : List Int, v = dimV l ∧ l.length = 8 ∧ d = dimD l := by
  unfold Value.okWide at hval
  rw [Tryd.underlying24] at hval
  obtain ⟨cs, rfl, _, _⟩ := hval
  obtain ⟨fuel, hf⟩ := h
  obtain ⟨l, h1, h2, h3⟩ := dim_cells _ _ _ hf
  exact ⟨l, by rw [dimV, ← h1]; rfl, h2, h3⟩
theorem open_dims {H : Type} {enc : TypeId × Value → H} {W : World} {v : Value} {d : DataW H} {ps : List MemPlace} (hval : Value.okWide Tryd.prog W .any 0 22 v) (h : DataW.Trod enc Tryd.prog W 0 (fun _ => true) true 22 v d ps) :
    ∃ (a : Option Addr) (c : Nat) (l : List (List Int)), v = .slice a l.length c ∧ Rs (allOf W) 8 a l.length c (l.flatMap ints) ∧ (∀ d ∈ l, d.length = 8) ∧ l.length ≤ Rows.uptoBulk d := by
  obtain ⟨a0, len, cap, rfl⟩ := okWide_slice Tryd.underlying22 hval
  obtain ⟨fuel, hf⟩ := h
  obtain ⟨a, c, l, h1, h2, h3⟩ := open_rows (z := 8) Tryd.underlying22 (by kernel_rfl) (by decide) dim_cells hf
  have e1 : (Value.slice a0 len cap).cells.toList = [.slice a0 len cap] := rfl
  rw [e1] at h1
  cases h1
  refine ⟨_, _, l, rfl, h2, ?_⟩
  rcases h3 with ⟨_, rfl⟩ | ⟨ds, r, h4, h5, h6⟩
  · exact ⟨fun d hd => (by cases hd), Nat.zero_le _⟩
  · refine ⟨fun d hd => ?_, ?_⟩
    · obtain ⟨i, hi⟩ := List.mem_iff_getElem?.1 hd
      have hlt : i < ds.length := by
        rcases Nat.lt_or_ge i l.length with h | h
        · omega
        · rw [List.getElem?_eq_none h] at hi; cases hi
      exact (h6 i d _ hi (List.getElem?_eq_getElem hlt)).1
    · have hb : ∀ ds : List (DataW H), ds.length ≤ Rows.uptoBulkAll ds := by
        intro ds
        induction ds with
        | nil => exact Nat.zero_le _
        | cons x ds ih =>
          have : 1 ≤ Rows.uptoBulk x := by
            unfold Rows.uptoBulk
            split <;> omega
          rw [Rows.uptoBulkAll, List.length_cons]; omega
      simp only at h4
      rw [h4, Rows.uptoBulk]
      have := hb ds
      omega
end Go.Proofs.YtmkbjdoifjcogaaDoor.HL
