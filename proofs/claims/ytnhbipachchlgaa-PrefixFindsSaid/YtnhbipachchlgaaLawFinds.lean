/- LawFinds: PfxCb: the closing of the law PrefixFinds: the given statement in full. No condition. -/
import Derived.Test.YtnhbipachchlgaaClose7
import Derived.Test.YtnhbipachchlgaaPrefsB
namespace Go.Proofs.Ytnhbipachchlgaa
namespace HL
open Go
open Go.ChangeShapes Go.WideShapes Go.ChangeAt Go.RowKit
open Go.ChangeMaps (open_string shut_string)
set_option linter.unusedVariables false
set_option linter.unusedSimpArgs false
set_option maxRecDepth 100000 in
theorem prefixFinds_contract (H : Type) (enc : TypeId × Value → H) (W : World) (base : Nat) (args : Array Value) (ds gs : List (DataW H)) (before : List MemPlace)
    (hval : ∀ (j : Nat) t v, Try.f4.params[j]? = some t → args[j]? = some v → Value.okWide Try.prog W .any base t v)
    (hW : DataW.Whole enc Try.prog Try.f4.params.toList Rows.prefixFindsSpec.vars false W args.toList ds gs before) :
    Calls Try.prog 4 args W fun e W' => ∃ v, e = .returned v ∧ Rows.prefixFindsSpec.post enc Try.prog Try.f4 false true false false W args v W' := by
  have hW' := hW
  obtain ⟨p, q, hA0, hV, rfl, hfz, hnd⟩ := hW
  have hA : DataW.TrodAll enc Try.prog W 0 (fun _ => true) true Try.f4.params.toList args.toList ds p := hA0
  rw [Try.params4] at hA hval
  obtain ⟨v0, vs0, d0, ds0, p0, q0, hargs0, rfl, rfl, h0, r0⟩ := trodAll_cons hA
  obtain ⟨rfl, rfl, rfl⟩ := trodAll_nil r0
  obtain rfl : args = #[v0] := by cases args; simp_all
  obtain ⟨rfl, rfl⟩ := trodVars_none hV
  obtain ⟨s0, rfl, rfl, rfl, hm0⟩ := open_string Try.underlying9 (hval 0 9 v0 rfl rfl) h0
  clear hA0
  simp only [List.append_nil] at hW'
  obtain ⟨l0, rfl⟩ := bstr_of s0
  have law := (finds_law l0 (allOf W)) (allOf W) (hs_nil _) W W (allOf_fit W)
  have htb : (Try.f4.params.toList.all fun t => (Try.prog).readableRec t && decide (t < (Try.prog).types.size)) = true := by kernel_rfl
  refine law.mono ?_
  rintro e W' ⟨v, H', he, hf, M, hM, hv⟩
  obtain rfl : v = .bool true := by first | exact hv | exact hv.1
  exact ⟨_, he, post_true laidOut htb rfl Try.underlying4 rfl hW' rfl rfl rfl hM.ext hf⟩

set_option maxRecDepth 100000 in
theorem prefixFinds_lifted (os : Os) (started : os.Started) (H : Type) (enc : TypeId × Value → H) :
    ReturnsInHanded {} Try.checked os 4 .any (Rows.prefixFindsSpec.pre6 enc Try.prog Try.f4 Rows.prefixFindsRow.domain false) (Rows.prefixFindsSpec.post enc Try.prog Try.f4 false true false false) := by
  refine returnsInHanded_of_change (C := Try.checked) own0 started (by kernel_rfl) Try.func4
    (ChangeSpec.witness6 (enc := enc) (C := Try.checked) false ⟨#[], #[.string ⟨#[]⟩], []⟩ 8 (by kernel_rfl) (by kernel_rfl) (by kernel_rfl) (by kernel_rfl)) ?_
  intro W base args ds gs before hval hW _ _
  exact prefixFinds_contract H enc W base args ds gs before hval hW
end HL
/-- THE GIVEN STATEMENT -/
theorem prefixFinds_said : Rows.PrefixFindsSaid :=
  OpenClaim.holds_of_wide 4 Try.f4 rfl rfl rfl rfl rfl rfl rfl ⟨rfl, rfl, rfl, rfl, rfl⟩ rfl rfl rfl rfl rfl (by kernel_rfl) Try.func4 (by kernel_rfl)
    (of_decide_eq_true (by kernel_rfl)) (by unfold Func.isWrapper; first | (rw [if_pos (by decide +kernel)]; kernel_rfl) | (rw [if_neg (by decide +kernel)]; exact ⟨rfl, rfl⟩))
    (fun os started H enc _ => HL.prefixFinds_lifted os started H enc)
end Go.Proofs.Ytnhbipachchlgaa
