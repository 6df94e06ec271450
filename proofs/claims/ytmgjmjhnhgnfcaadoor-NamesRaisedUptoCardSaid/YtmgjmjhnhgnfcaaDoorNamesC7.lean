/- NamesC7: the closing of the law NamesRaised: the given card. Conditions: the second form's bound. -/
import Derived.Test.YtmgjmjhnhgnfcaaDoorClose6
import Derived.Test.YtmgjmjhnhgnfcaaDoorNamesN
namespace Go.Proofs.YtmgjmjhnhgnfcaaDoor
namespace HL
open Go
open Go.ChangeShapes Go.WideShapes Go.ChangeAt Go.RowKit
open Go.ChangeMaps (open_string shut_string)
set_option linter.unusedVariables false
set_option maxRecDepth 100000 in
theorem namesRaised_contract (H : Type) (enc : TypeId × Value → H) (W : World) (base : Nat) (args : Array Value) (ds gs : List (DataW H)) (before : List MemPlace)
    (hval : ∀ (j : Nat) t v, Tryd.f8.params[j]? = some t → args[j]? = some v → Value.okWide Tryd.prog W .any base t v)
    (hW : DataW.Whole enc Tryd.prog Tryd.f8.params.toList Rows.namesRaisedSpec.vars false W args.toList ds gs before) (hk : Rows.uptoSmall H (ds ++ gs) = true) (hL : laidMetH Tryd.prog Rows.namesRaisedUptoRow.laid W) :
    Calls Tryd.prog 8 args W fun e W' => ∃ v, e = .returned v ∧ Rows.namesRaisedSpec.post enc Tryd.prog Tryd.f8 false true false false W args v W' := by
  have hW' := hW
  obtain ⟨p, q, hA0, hV, rfl, hfz, hnd⟩ := hW
  have hA : DataW.TrodAll enc Tryd.prog W 0 (fun _ => true) true Tryd.f8.params.toList args.toList ds p := hA0
  rw [Tryd.params8] at hA hval
  obtain ⟨v0, vs0, d0, ds0, p0, q0, hargs0, rfl, rfl, h0, r0⟩ := trodAll_cons hA
  obtain ⟨v1, vs1, d1, ds1, p1, q1, hargs1, rfl, rfl, h1, r1⟩ := trodAll_cons r0
  obtain ⟨rfl, rfl, rfl⟩ := trodAll_nil r1
  obtain rfl : args = #[v0, v1] := by cases args; simp_all
  obtain ⟨rfl, rfl⟩ := trodVars_none hV
  obtain ⟨n0, rfl, rfl, rfl, hwf0⟩ := open_int Tryd.underlying3 (hval 0 3 v0 rfl rfl) h0
  obtain ⟨s1, rfl, rfl, rfl, hm1⟩ := open_string Tryd.underlying9 (hval 1 9 v1 rfl rfl) h1
  clear hA0
  simp only [List.append_nil] at hW' hk
  have hsz := of_decide_eq_true hk
  simp only [Rows.uptoBulkAll, Rows.uptoBulk] at hsz
  have hr0 : -9223372036854775808 ≤ n0 ∧ n0 ≤ 9223372036854775807 := by
    have h := hwf0
    simp only [Lit.wf, Bool.and_eq_true, decide_eq_true_eq] at h
    have e1 : IntKind.i64.min = -9223372036854775808 := by decide
    have e2 : IntKind.i64.max = 9223372036854775807 := by decide
    omega
  have e1 : s1.data.toList.length = s1.size := by rw [Array.length_toList]; rfl
  have law := raised_law n0 s1 (allOf W) (tabs_of hL) hr0.1 hr0.2 (by omega) (allOf W) (hs_nil _) W W (allOf_fit W)
  have htb : (Tryd.f8.params.toList.all fun t => (Tryd.prog).readableRec t && decide (t < (Tryd.prog).types.size)) = true := by kernel_rfl
  refine law.mono ?_
  rintro e W' ⟨v, H', he, hf, M, hM, rfl⟩
  exact ⟨_, he, post_true laidOut htb rfl Tryd.underlying4 rfl hW' rfl rfl rfl hM.ext hf⟩

theorem namesRaised_reads (os : Os) {H : Type} (enc : TypeId × Value → H) : ∃ places, DataW.whole enc Tryd.prog ((laidWorld os).forCall (fun _ _ => 0) ⟨#[], #[.int .i64 0, .string .empty], []⟩).memory Tryd.f8.params.toList Rows.namesRaisedSpec.vars false (#[.int .i64 0, .string .empty] : Array Value).toList 8 = some ([.lit (.int .i64 0), .lit (.string [])], [], places) :=
  ⟨[], by kernel_rfl⟩
set_option maxRecDepth 100000 in
theorem namesRaised_liftedUpto (os : Os) (started : os.Started) (H : Type) (enc : TypeId × Value → H) (F : Stop.Interp) :
    ReturnsInHanded {} Tryd.checked os 8 .any ((Rows.OpenSpec.upto Rows.namesRaisedSpec).preRow enc Tryd.prog Tryd.f8 Rows.namesRaisedUptoRow.domain false Rows.namesRaisedUptoRow.laid) (((Rows.OpenSpec.upto Rows.namesRaisedSpec).at F).post enc Tryd.prog Tryd.f8 false true false false) := by
  obtain ⟨places, hx⟩ := namesRaised_reads os enc
  refine returnsInHanded_of_row (C := Tryd.checked) (s := Rows.OpenSpec.upto Rows.namesRaisedSpec) own0 started (by kernel_rfl) Tryd.func8
    (witness_row_at (enc := enc) (C := Tryd.checked) false (laidWorld os) #[.int .i64 0, .string .empty] rfl (by kernel_rfl) (by kernel_rfl) (by kernel_rfl)
      (OpenSpec.preRow_of_cond 8 hx (by kernel_rfl) (fun k hk => by cases hk; kernel_rfl) (by kernel_rfl) (laid_met os _))) ?_
  intro W base args ds gs before hval hW _ hcond _ hL _ _
  exact namesRaised_contract H enc W base args ds gs before hval hW (hcond _ rfl) hL
end HL
theorem namesRaised_saidUpto : Rows.NamesRaisedUptoSaid :=
  OpenClaim.holds_of_cond 8 Tryd.f8 rfl rfl rfl rfl rfl rfl rfl ⟨rfl, rfl, rfl, rfl, rfl⟩ rfl rfl rfl rfl rfl (by kernel_rfl) Tryd.func8 (by kernel_rfl)
    (of_decide_eq_true (by kernel_rfl)) (by unfold Func.isWrapper; first | (rw [if_pos (by decide +kernel)]; kernel_rfl) | (rw [if_neg (by decide +kernel)]; exact ⟨rfl, rfl⟩))
    (fun os started H enc _ F => by rw [OpenClaim.pre_eq_preRow]; exact HL.namesRaised_liftedUpto os started H enc F)
theorem namesRaised_plain (f : FuncId) (fn : Func) (hf : Tryd.pinned.checked.prog.funcNamed "cubit/cubitlaw06.NamesRaised" = some f) (hfn : Tryd.pinned.checked.prog.funcs[f]? = some fn) :
    false = Tryd.pinned.checked.prog.looks [] ∧ ∀ (j : Nat) t, fn.params[j]? = some t → Tryd.pinned.checked.prog.wantsStandIn t = false := by
  obtain rfl : f = 8 := Option.some.inj ((show Tryd.prog.funcNamed "cubit/cubitlaw06.NamesRaised" = some 8 by kernel_rfl).symm.trans hf) |>.symm
  obtain rfl : fn = Tryd.f8 := (Option.some.inj (Tryd.func8.symm.trans hfn)).symm
  refine ⟨by kernel_rfl, fun j t ht => ?_⟩
  have hall : (Tryd.f8.params.toList.all fun t => !Tryd.pinned.checked.prog.wantsStandIn t) = true := by kernel_rfl
  have := List.all_eq_true.1 hall t (by simpa using Array.mem_of_getElem? ht)
  simpa using this
/-- THE SECOND FORM's CARD -/
theorem namesRaised_cardUpto : Rows.NamesRaisedUptoCardSaid :=
  Claim7.holds_tied_plain_at .later [] _ _ _ _ namesRaised_saidUpto (fun _ h => by cases h) (by kernel_rfl) (fun _ h => by cases h) namesRaisedUpto_row_tie rfl ⟨rfl, rfl⟩ (by kernel_rfl) rfl namesRaised_plain (by kernel_rfl)
end Go.Proofs.YtmgjmjhnhgnfcaaDoor
