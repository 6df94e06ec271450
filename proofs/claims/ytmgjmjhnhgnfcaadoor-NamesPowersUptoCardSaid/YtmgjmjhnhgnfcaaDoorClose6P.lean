/- Close6P: the closing's parts for a row that lays five variables. No condition. -/
import Derived.Test.YtmgjmjhnhgnfcaaDoorClose6
import Derived.Test.YtmgjmjhnhgnfcaaDoorNamesLa
namespace Go.Proofs.YtmgjmjhnhgnfcaaDoor.HL
open Go
set_option linter.unusedVariables false
open Go.ChangeShapes Go.WideShapes Go.ChangeAt Go.RowKit
open Go.ChangeMaps (open_string shut_string)

abbrev laid5 : List (String × DataW Unit) := [("math/bits.deBruijn32tab", Rows.laid_math_bits_deBruijn32tab), ("math/bits.deBruijn64tab", Rows.laid_math_bits_deBruijn64tab), ("internal/strconv.uint64pow10", Rows.laid_internal_strconv_uint64pow10), ("unicode/utf8.acceptRanges", Rows.laid_unicode_utf8_acceptRanges), ("unicode/utf8.first", Rows.laid_unicode_utf8_first)]
theorem pow_eq : (Rows.laid_internal_strconv_uint64pow10 : DataW Unit) = Lib.tabData .u64 Lib.pow10Tab := by kernel_rfl
theorem tabs5 {W : World} (h : laidMetH Tryd.prog laid5 W) : TabsH (allOf W) := by
  have h2 : laidMet Tryd.prog laid5 W := h
  have r1 := Lib.laidMet.reads h2 (n := "unicode/utf8.acceptRanges") (d := Rows.laid_unicode_utf8_acceptRanges) (List.mem_cons_of_mem _ (List.mem_cons_of_mem _ (List.mem_cons_of_mem _ (List.mem_cons_self ..))))
  have r2 := Lib.laidMet.reads h2 (n := "unicode/utf8.first") (d := Rows.laid_unicode_utf8_first) (List.mem_cons_of_mem _ (List.mem_cons_of_mem _ (List.mem_cons_of_mem _ (List.mem_cons_of_mem _ (List.mem_cons_self ..)))))
  rw [accept_eq] at r1
  rw [first_eq] at r2
  have t := utf8Tabs_of_readsT (U8Types.of260 Tryd.lays260) u8extra r2 r1
  have hc : ∀ a : Addr, (allOf W).cell? a = W.cell? a := fun a => rfl
  exact ⟨fun c hcc => by rw [hc]; exact t.1 c hcc, fun i hi => by rw [hc, hc]; exact t.2 i hi⟩
theorem pows5 {W : World} (h : laidMetH Tryd.prog laid5 W) : PowH (allOf W) := by
  have h2 : laidMet Tryd.prog laid5 W := h
  have r := Lib.laidMet.reads h2 (n := "internal/strconv.uint64pow10") (d := Rows.laid_internal_strconv_uint64pow10) (List.mem_cons_of_mem _ (List.mem_cons_of_mem _ (List.mem_cons_self ..)))
  rw [pow_eq] at r
  obtain ⟨g, t, cs, fuel, p, hg, hty, hvar, hd⟩ := r
  have hg3 : Tryd.prog.globalNamed "internal/strconv.uint64pow10" = some 3 := by kernel_rfl
  obtain rfl := Option.some.inj (hg3.symm.trans hg)
  have hty3 : (Tryd.prog.globals[3]?).map (·.type) = some 106 := by kernel_rfl
  obtain rfl := Option.some.inj (hty3.symm.trans hty)
  have hcs := Lib.cells_of_tab (n := 20) Tryd.underlying106 Tryd.underlying99 (by kernel_rfl) (by kernel_rfl) hd
  unfold World.var? at hvar
  rw [hg3, Option.bind_some] at hvar
  split at hvar
  · rename_i cs' T fr hb
    refine ⟨3, T, fr, hg3, ?_⟩
    show W.heap[3]? = _
    rw [hb, ← hcs]
    cases hvar
    rfl
  · cases hvar

/-- a world for the witness -/
def litsOf : DataW Unit → List Value
  | .agg ds => ds.map fun d => match d with
    | .lit (.int k z) => .int k z
    | _ => .bool false
  | _ => []
def layLits (d : DataW Unit) : Obj → Obj
  | .cells _ t frozen => .cells (litsOf d).toArray t frozen
  | o => o
noncomputable def laidWorld5 (os : Os) : World :=
  { laidWorld os with heap := (((laidWorld os).heap.modify 3 (layLits Rows.laid_internal_strconv_uint64pow10)).modify 4 (layLits Rows.laid_math_bits_deBruijn32tab)).modify 5 (layLits Rows.laid_math_bits_deBruijn64tab) }
set_option maxRecDepth 100000 in
theorem laid_met5 (os : Os) (args : Array Value) : laidMet Tryd.prog laid5 ((laidWorld5 os).forCall (fun _ _ => 0) ⟨#[], args, []⟩).memory :=
  laidMet_of_run' 8 (by kernel_rfl) (by kernel_rfl)
end Go.Proofs.YtmgjmjhnhgnfcaaDoor.HL
