/- Close6: what a row's list gives; a law that changes nothing that was there. No condition. -/
import Derived.Test.YtmgjmjhnhgnfcaaDoorCards
import Derived.Test.YtmgjmjhnhgnfcaaDoorTie
import Derived.WalkKit
import Derived.ProofKit
import Derived.OpenShut
import Derived.Deep.DeepHandedRow
import Derived.Lib.LaidU8T
import Derived.PinnedBridge
import Derived.Test.YtmgjmjhnhgnfcaaDoorNamesB
import Derived.Test.YtmgjmjhnhgnfcaaDoorCloseG
namespace Go.Proofs.YtmgjmjhnhgnfcaaDoor.HL
open Go
set_option linter.unusedVariables false
open Go.ChangeShapes Go.WideShapes Go.ChangeAt Go.RowKit
open Go.ChangeMaps (open_string shut_string)

theorem laidOut : laidOutB Tryd.prog = true := by kernel_rfl
theorem bulk_texts {H : Type} (D : List ByteArray) : D.length ≤ Rows.uptoBulkAll (strs D : List (DataW H)) ∧ ∀ u ∈ D, u.size ≤ Rows.uptoBulkAll (strs D : List (DataW H)) := by
  induction D with
  | nil => exact ⟨Nat.zero_le _, fun u hu => by cases hu⟩
  | cons s D ih =>
    have e : Rows.uptoBulkAll (strs (s :: D) : List (DataW H)) = s.data.toList.length + 1 + Rows.uptoBulkAll (strs D : List (DataW H)) := by
      unfold strs
      rw [List.map_cons, Rows.uptoBulkAll, Rows.uptoBulk]
    have es : s.data.toList.length = s.size := by rw [Array.length_toList]; rfl
    rw [e]
    refine ⟨by rw [List.length_cons]; omega, fun u hu => ?_⟩
    rcases List.mem_cons.1 hu with rfl | hu
    · omega
    · have := ih.2 u hu; omega
theorem own0 : ownKnob Tryd.prog.godebug = none := by kernel_rfl
theorem u8extra : U8Extra Tryd.prog Tryd.lays260_ren := ⟨by kernel_rfl, by kernel_rfl, by kernel_rfl, by kernel_rfl, by kernel_rfl, by kernel_rfl, by kernel_rfl⟩
theorem accept_eq : (Rows.laid_unicode_utf8_acceptRanges : DataW Unit) = Lib.acceptData := by kernel_rfl
theorem first_eq : Rows.laid_unicode_utf8_first = Lib.firstData := Pinned.utf8First_eq
theorem tabs_of {W : World} (h : laidMetH Tryd.prog [("unicode/utf8.acceptRanges", Rows.laid_unicode_utf8_acceptRanges), ("unicode/utf8.first", Rows.laid_unicode_utf8_first)] W) : TabsH (allOf W) := by
  have h2 : laidMet Tryd.prog [("unicode/utf8.acceptRanges", Rows.laid_unicode_utf8_acceptRanges), ("unicode/utf8.first", Rows.laid_unicode_utf8_first)] W := h
  have r1 := Lib.laidMet.reads h2 (n := "unicode/utf8.acceptRanges") (d := Rows.laid_unicode_utf8_acceptRanges) (List.mem_cons_self ..)
  have r2 := Lib.laidMet.reads h2 (n := "unicode/utf8.first") (d := Rows.laid_unicode_utf8_first) (List.mem_cons_of_mem _ (List.mem_cons_self ..))
  rw [accept_eq] at r1
  rw [first_eq] at r2
  have t := utf8Tabs_of_readsT (U8Types.of260 Tryd.lays260) u8extra r2 r1
  have hc : ∀ a : Addr, (allOf W).cell? a = W.cell? a := fun a => rfl
  exact ⟨fun c hcc => by rw [hc]; exact t.1 c hcc, fun i hi => by rw [hc, hc]; exact t.2 i hi⟩


/-- a world for the witness: the tables hold what their texts lay -/
def layFirst : Obj → Obj
  | .cells _ t frozen => .cells (Lib.firstTab.map (Value.int .u8)).toArray t frozen
  | o => o
def layAccept : Obj → Obj
  | .cells _ t frozen => .cells ((List.range 16).flatMap fun i => [Value.int .u8 (Lib.accLo i : Int), Value.int .u8 (Lib.accHi i : Int)]).toArray t frozen
  | o => o
noncomputable def laidWorld (os : Os) : World :=
  { World.holding Tryd.prog os ⟨#[], #[], []⟩ with heap := ((World.holding Tryd.prog os ⟨#[], #[], []⟩).heap.modify 0 layFirst).modify 1 layAccept }
set_option maxRecDepth 100000 in
theorem laid_met (os : Os) (args : Array Value) : laidMet Tryd.prog [("unicode/utf8.acceptRanges", Rows.laid_unicode_utf8_acceptRanges), ("unicode/utf8.first", Rows.laid_unicode_utf8_first)] ((laidWorld os).forCall (fun _ _ => 0) ⟨#[], args, []⟩).memory :=
  laidMet_of_run' 8 (by kernel_rfl) (by kernel_rfl)
end Go.Proofs.YtmgjmjhnhgnfcaaDoor.HL
