/- CloseG: how a law that answers true and changes nothing that was there closes its row: base the whole memory; the arguments read as before; slices of texts opened. No condition. -/
import Derived.Test.YtkhmimlgkjenfaaHLmX
import Derived.Test.YtkhmimlgkjenfaaProg
import Derived.WalkKit
import Derived.ProofKit
import Derived.OpenShut
import Derived.Deep.DeepHandedRow
import Derived.WideKeyArgs
import Derived.SliceStrings
namespace Go.Proofs.Ytkhmimlgkjenfaa.HL
open Go
set_option linter.unusedVariables false
open Go.ChangeShapes Go.WideShapes Go.ChangeAt Go.RowKit
open Go.ChangeMaps (open_string shut_string)

def allOf (W : World) : Hp := fun b => W.heap[b]?
theorem allOf_fit (W : World) : Fit W (allOf W) W := ⟨fun _ _ h => h, rfl, rfl⟩
theorem allOf_block {W w' : World} {H' : Hp} (hx : Ext (allOf W) H') (f : Fit W H' w') {i : Nat} (hi : i < W.heap.size) : w'.heap[i]? = W.heap[i]? := by
  have e : W.heap[i]? = some W.heap[i] := Array.getElem?_eq_getElem hi
  rw [e]
  exact f i _ (hx i _ e)
theorem allOf_kept {W w' : World} {H' : Hp} (hx : Ext (allOf W) H') (f : Fit W H' w') (may : MemPlace → Prop) : W.keptBut w' may := by
  refine ⟨f.os, f.output, fun i hi => ?_⟩
  rw [allOf_block hx f hi]
  cases e : W.heap[i]? with
  | none => rfl
  | some o => cases o <;> first | exact ⟨rfl, rfl, rfl, fun _ _ => rfl⟩ | exact .inr ⟨rfl, rfl⟩ | rfl
theorem allOf_cell (W : World) (a : Addr) : (allOf W).cell? a = W.cell? a := rfl
theorem allOf_same {W w' : World} {H' : Hp} (hx : Ext (allOf W) H') (f : Fit W H' w') {p : MemPlace} (hp : p.block < W.heap.size) : W.sameAt w' p := by
  cases p with
  | cell b o => exact World.cell?_of_block (w := W) (allOf_block hx f hp)
  | map b => exact allOf_block hx f hp
theorem trodAll_stays {H : Type} {enc : TypeId × Value → H} {P : Program} (hl : laidOutB P = true) {W W' : World} {sp : Nat → Bool} : ∀ {ts : List TypeId} {vs : List Value} {ds : List (DataW H)} {ps : List MemPlace}, (∀ t ∈ ts, P.readableRec t = true ∧ t < P.types.size) →
    DataW.TrodAll enc P W 0 (fun _ => true) true ts vs ds ps → (∀ x ∈ ps, W.sameAt W' x) → (∀ x ∈ ps, sp x.block = true) → DataW.TrodAll enc P W' 0 sp true ts vs ds ps
  | [], [], [], _, _, h, _, _ => h
  | _ :: _, _ :: _, _ :: _, _, hT, ⟨p, q, h1, h2, e⟩, hs, hsp =>
    ⟨p, q, WideElems.Trod_stays hl (hT _ (List.mem_cons.2 (.inl rfl))).1 (hT _ (List.mem_cons.2 (.inl rfl))).2 h1 (fun x hx => hs x (by rw [e]; exact List.mem_append_left _ hx)) (fun x hx => hsp x (by rw [e]; exact List.mem_append_left _ hx)),
      trodAll_stays hl (fun t ht => hT t (List.mem_cons.2 (.inr ht))) h2 (fun x hx => hs x (by rw [e]; exact List.mem_append_right _ hx)) (fun x hx => hsp x (by rw [e]; exact List.mem_append_right _ hx)), e⟩
theorem post_true {H : Type} {enc : TypeId × Value → H} {P : Program} {f : Func} {s : ChangeSpec} {W W' : World} {args : Array Value} {ds gs : List (DataW H)} {before : List MemPlace} {H' : Hp} {tb : TypeId}
    (hl : laidOutB P = true) (htb : (f.params.toList.all fun t => P.readableRec t && decide (t < P.types.size)) = true) (hr : f.resultTypes = #[tb]) (hu : P.underlying tb = some .bool) (hsv : s.vars = [])
    (hW : DataW.Whole enc P f.params.toList s.vars false W args.toList ds gs before) (hA : (s.fn H (ds ++ gs)).args = ds) (hR : (s.fn H (ds ++ gs)).results = [.lit (.bool true)]) (hV : (s.fn H (ds ++ gs)).vars = [])
    (hx : Ext (allOf W) H') (hf : Fit W H' W') : s.post enc P f false true false false W args (.bool true) W' := by
  have hts : ∀ t ∈ f.params.toList, P.readableRec t = true ∧ t < P.types.size := by
    intro t ht
    have := List.all_eq_true.1 htb t ht
    simpa only [jC, jA] using this
  have hW2 := hW
  obtain ⟨p, q, hA0, hV0, hps, _, _⟩ := hW
  rw [hsv] at hV0
  obtain ⟨rfl, rfl⟩ := trodVars_none hV0
  rw [List.append_nil] at hps
  subst hps
  have hlt : ∀ x ∈ before, x.block < W.heap.size := fun x hx => hW2.lt x hx
  have hold : ∀ x ∈ before, (fun b => decide (b < W.heap.size)) x.block = true := fun x hx => by simpa using hlt x hx
  have hA1 : DataW.TrodAll enc P W 0 (fun _ => true) true f.params.toList args.toList ds before := hA0
  refine ⟨ds, [], before, [], before, [], hW2, ?_, ?_, ?_, World.keptBut_mono (fun x hx => ⟨hx, ?_⟩) (allOf_kept hx hf (· ∈ before)), fun h => by cases h⟩
  · rw [hr, hR]
    exact trodAll_cons_mk (shut_bool hu _) trodAll_mk0
  · rw [hA]
    exact trodAll_stays hl hts hA1 (fun x h => allOf_same hx hf (hlt x h)) hold
  · rw [hV, hsv]; rfl
  · exact Or.inr (by simpa using hx)

end Go.Proofs.Ytkhmimlgkjenfaa.HL
