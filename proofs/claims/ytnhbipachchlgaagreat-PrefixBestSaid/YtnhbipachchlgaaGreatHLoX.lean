/- HLo: a call of a function that the model answers by itself (no body). No condition. -/
import Derived.Test.YtnhbipachchlgaaGreatHLmX
namespace Go.Proofs.YtnhbipachchlgaaGreat.HL
open Go
set_option linter.unusedSimpArgs false
set_option linter.unusedVariables false

def ExtIs (P : Program) (f : FuncId) (e : Array Value → Sem Value) : Prop :=
  ∃ fn, P.funcs[f]? = some fn ∧ fn.body.isNone = true ∧ (fn.name == "runtime.NumGoroutine") = false ∧ Extern.findNext fn = none ∧ Extern.find fn = some e
section
variable {P : Program} {l : Ents} {H : Hp} {L L' : List Res} {d : Option Tmp} {T : TypeId} {pos : String} {aft : Array Edge} {gd : Option (Nat × Bool)}
theorem hw_callExt {f : FuncId} {args : Array Value} {e : Array Value → Sem Value} {v : Value} {K : Next → Hp → Prop} (hx : ExtIs P f e) (hv : e args = pure v) (h : K (.value v) H) : hw P (callFunc f args) H K := by
  obtain ⟨fn, h1, h2, h3, h4, h5⟩ := hx
  unfold callFunc
  rw [hw_bind]
  show hw P _ H K
  simp only [h1]
  rw [if_neg (by rw [h3]; decide), if_pos h2]
  rw [hw_bind]
  show hw P _ H K
  simp only [h4, h5, hv]
  exact h
theorem hgen_callExt {f : FuncId} {args : Array Operand} {ats : Array TypeId} {vs : List Value} {e : Array Value → Sem Value} {v : Value} {K : Value → Hp → Prop}
    (hv : evs l true args.toList = some vs) (hx : ExtIs P f e) (he : e vs.toArray = pure v) (h : K v H) :
    hgen P l ⟨d, .call ⟨.value (.func f), args, ats⟩, T, pos, aft, gd⟩ H K := by
  obtain ⟨h1, h2⟩ := all_of_evs _ _ hv
  refine hgen_hw ?_ ?_
  · simp only [Op.operands, Call.operands, Array.toList_append, List.all_append, h1, Bool.and_true]
    rfl
  · simp only [execOp, resolve]
    rw [hw_bind]
    have hfv : evg l true (Operand.func f) = some (.func (.func f) #[] #[]) := rfl
    simp only [hfv, Option.getD_some, Deferred.ofValue, invoke]
    have e2 : (#[] ++ args.map (fun x => (evg l true x).getD undef) ++ #[] : Array Value) = vs.toArray := by
      apply Array.toList_inj.1
      simp [h2]
    refine hw_callExt (v := v) hx ?_ ?_
    · show e (#[] ++ args.map (fun x => (evg l true x).getD undef) ++ #[]) = pure v
      rw [e2]; exact he
    · exact h
theorem gw_callx {K : Value → List Res → Prop} {f : FuncId} {args : Array Operand} {ats : Array TypeId} {vs : List Value} {e : Array Value → Sem Value} {v : Value}
    (hv : evs l true args.toList = some vs) (hx : ExtIs P f e) (he : e vs.toArray = pure v) (h : K v L) : GW P l ⟨d, .call ⟨.value (.func f), args, ats⟩, T, pos, aft, gd⟩ H L K :=
  fun G hg => hgen_callExt hv hx he ⟨L, hg, h⟩
end
end Go.Proofs.YtnhbipachchlgaaGreat.HL
