/- LawStands: PfxF: the law PrefixStands. No condition. PfxCa: the closing of the law PrefixStands: the given statement in full. No condition. -/
import Derived.Test.YtnhbipachchlgaaEng
import Derived.Test.YtnhbipachchlgaaPrefs
import Derived.Test.YtnhbipachchlgaaClose7
namespace Go.Proofs.Ytnhbipachchlgaa.HL
open Go
attribute [local irreducible] goFn thenS blockS bodyS CW RW DW GW QW NW SC Pick Picks SubL Rd NN ResOk SrcW subE hops hseg AW hgen HC qv bldv
set_option linter.unusedVariables false
set_option linter.unusedSimpArgs false

set_option maxHeartbeats 1000000 in
theorem stands_law (H : Hp) : SC Try.prog 3 [] H [] (fun v M => v = .bool true ∧ M = []) := by
  (refine SC_intro Try.func3 rfl (by kernel_rfl) (by rw [Try.ntmps3]; exact Nat.le_of_ble_eq_true rfl) ?_; simp only [Try.ntmps3, argE, Nat.reduceAdd])
  
  repeat' (first | (apply RW.q1; exact qt) | apply RW.nil | (refine hK _ _ ?_; clear hK; (repeat' (first | apply xs_n | apply xb_e | apply xb_n | apply xs_r | apply xb_r | apply xs_e | (apply xb_o; exact rfl) | apply xs_g | apply xb_g | fail))) | ((first | apply RW.a1 | apply RW.a0); (first | (apply gw_call (f := 7); exact rfl; exact go7; intro G hG; refine SC.mono (all_spec G) ?_; rintro v M ⟨ra, rc, rfl, rfl⟩; (try dsimp only [List.nil_append, List.cons_append])) | (apply gw_call (f := 9); exact rfl; exact go9; intro G hG; refine SC.mono (rall_spec G) ?_; rintro v M ⟨rb, rd, rfl, rfl⟩; (try dsimp only [List.nil_append, List.cons_append])) | (apply gw_call (f := 8); exact rfl; exact go8; intro G hG; refine SC.mono (same_spec G pfx _ _ _ _ 32 rfl (by decide) (sl_own (by (focus ((iterate 16 (try (first | exact pick0 | apply pickS))); done))) hG) (sl_own (by (focus ((iterate 16 (try (first | exact pick0 | apply pickS))); done))) hG)) ?_; rintro v M ⟨rfl, rfl⟩; (try dsimp only [List.nil_append, List.cons_append])) | (apply gw_asg; exact rfl) | (apply gw_seto; exact rfl; exact rfl; infer_instance; exact rfl; exact rfl) | (apply gw_sta; exact rfl; exact rfl; infer_instance; exact rfl; exact rfl; exact rfl; exact rfl) | (apply gw_st1; exact rfl; exact rfl; infer_instance; exact rfl; exact rfl; (first | omega | (simp only [List.length_set]; omega) | simp); (first | (dsimp only [List.set]; exact rfl) | exact rfl)) | (apply gw_so1; exact rfl; exact rfl; infer_instance; exact rfl; exact rfl; (first | omega | (simp only [List.length_map, List.length_set, zrow_len, List.length_cons, List.length_nil]; omega))) | (fail))) | apply CW_seq | apply CW_block | (apply CW_region; intro K hK) | ((first | apply CW_skip | apply CW_exit); (repeat' (first | apply xs_n | apply xb_e | apply xb_n | apply xs_r | apply xb_r | apply xs_e | (apply xb_o; exact rfl) | apply xs_g | apply xb_g | fail))) | (apply CW_condT; exact rfl; first | assumption | exact rfl) | (apply CW_condF; exact rfl; first | assumption | exact rfl) | (apply CW_cond; exact rfl; all_goals (intro hc; have hq := hc; (try simp only [jA, jB, jC, jD, jE, jF, jG, jH, jI, jJ, not_and, not_or, not_true_eq_false, not_false_eq_true, false_or, or_false, true_and, and_true, forall_const] at hc); (try contradiction); (try (exfalso; omega)))) | fail)
  refine CW_loop (fun m l L' => ∃ (i : Nat) (cs : List Value), m = 32 - i ∧ l = [(1, true, .slice ra 32 rc), (2, true, .int .i64 (i : Nat))] ∧ L' = [.own 28 5 ra 32 rc cs] ∧ cs.length = 160 ∧ i ≤ 32)
    ⟨_, _, _, ⟨0, pfx.flatMap encP, rfl, rfl, rfl, by decide +kernel, by omega⟩, by ((repeat (first | (apply subE_cons; exact rfl) | (apply subE_cons; apply look_int; exact rfl; omega))); exact subE_nil _), by ((repeat (first | (apply subl_cons; (focus ((iterate 16 (try (first | exact pick0 | apply pickS))); done))) | apply subl_nilown)); first | exact subl_nil | exact subl_refl)⟩ ?_
  rintro m l L' ⟨i, cs, rfl, rfl, rfl, hcs, hi⟩
  by_cases hin : i < 32
  · repeat' (first | (apply RW.q1; exact qt) | apply RW.nil | (refine hK _ _ ?_; clear hK; (repeat' (first | apply xs_n | apply xb_e | apply xb_n | apply xs_r | apply xb_r | apply xs_e | (apply xb_o; exact rfl) | apply xs_g | apply xb_g | fail))) | ((first | apply RW.a1 | apply RW.a0); (first | (apply gw_asg; exact rfl) | (apply gw_seto; exact rfl; exact rfl; infer_instance; exact rfl; exact rfl) | (apply gw_sta; exact rfl; exact rfl; infer_instance; exact rfl; exact rfl; exact rfl; exact rfl) | (apply gw_st1; exact rfl; exact rfl; infer_instance; exact rfl; exact rfl; (first | omega | (simp only [List.length_set]; omega) | simp); (first | (dsimp only [List.set]; exact rfl) | exact rfl)) | (apply gw_so1; exact rfl; exact rfl; infer_instance; exact rfl; exact rfl; (first | omega | (simp only [List.length_map, List.length_set, zrow_len, List.length_cons, List.length_nil]; omega))) | (fail))) | apply CW_seq | apply CW_block | (apply CW_region; intro K hK) | ((first | apply CW_skip | apply CW_exit); (repeat' (first | apply xs_n | apply xb_e | apply xb_n | apply xs_r | apply xb_r | apply xs_e | (apply xb_o; exact rfl) | apply xs_g | apply xb_g | fail))) | (apply CW_condT; exact rfl; first | assumption | exact rfl) | (apply CW_condF; exact rfl; first | assumption | exact rfl) | (apply CW_cond; exact rfl; all_goals (intro hc; have hq := hc; (try simp only [jA, jB, jC, jD, jE, jF, jG, jH, jI, jJ, not_and, not_or, not_true_eq_false, not_false_eq_true, false_or, or_false, true_and, and_true, forall_const] at hc); (try contradiction); (try (exfalso; omega)))) | fail)
    refine ⟨_, _, _, ⟨i + 1, _, rfl, rfl, rfl, ?_, by omega⟩, by ((repeat (first | (apply subE_cons; exact rfl) | (apply subE_cons; apply look_int; exact rfl; omega))); exact subE_nil _), by ((repeat (first | (apply subl_cons; (focus ((iterate 16 (try (first | exact pick0 | apply pickS))); done))) | apply subl_nilown)); first | exact subl_nil | exact subl_refl), by omega⟩
    rw [List.length_set]; exact hcs
  · obtain rfl : i = 32 := by omega
    repeat' (first | (apply RW.q1; exact qt) | apply RW.nil | (refine hK _ _ ?_; clear hK; (repeat' (first | apply xs_n | apply xb_e | apply xb_n | apply xs_r | apply xb_r | apply xs_e | (apply xb_o; exact rfl) | apply xs_g | apply xb_g | fail))) | ((first | apply RW.a1 | apply RW.a0); (first | (apply gw_call (f := 7); exact rfl; exact go7; intro G hG; refine SC.mono (all_spec G) ?_; rintro v M ⟨ra2, rc2, rfl, rfl⟩; (try dsimp only [List.nil_append, List.cons_append])) | (apply gw_call (f := 9); exact rfl; exact go9; intro G hG; refine SC.mono (rall_spec G) ?_; rintro v M ⟨rb2, rd2, rfl, rfl⟩; (try dsimp only [List.nil_append, List.cons_append])) | (apply gw_call (f := 8); exact rfl; exact go8; intro G hG; refine SC.mono (same_spec G pfx _ _ _ _ 32 rfl (by decide) (sl_own (by (focus ((iterate 16 (try (first | exact pick0 | apply pickS))); done))) hG) (sl_own (by (focus ((iterate 16 (try (first | exact pick0 | apply pickS))); done))) hG)) ?_; rintro v M ⟨rfl, rfl⟩; (try dsimp only [List.nil_append, List.cons_append])) | (apply gw_asg; exact rfl) | (apply gw_seto; exact rfl; exact rfl; infer_instance; exact rfl; exact rfl) | (apply gw_sta; exact rfl; exact rfl; infer_instance; exact rfl; exact rfl; exact rfl; exact rfl) | (apply gw_st1; exact rfl; exact rfl; infer_instance; exact rfl; exact rfl; (first | omega | (simp only [List.length_set]; omega) | simp); (first | (dsimp only [List.set]; exact rfl) | exact rfl)) | (apply gw_so1; exact rfl; exact rfl; infer_instance; exact rfl; exact rfl; (first | omega | (simp only [List.length_map, List.length_set, zrow_len, List.length_cons, List.length_nil]; omega))) | (fail))) | apply CW_seq | apply CW_block | (apply CW_region; intro K hK) | ((first | apply CW_skip | apply CW_exit); (repeat' (first | apply xs_n | apply xb_e | apply xb_n | apply xs_r | apply xb_r | apply xs_e | (apply xb_o; exact rfl) | apply xs_g | apply xb_g | fail))) | (apply CW_condT; exact rfl; first | assumption | exact rfl) | (apply CW_condF; exact rfl; first | assumption | exact rfl) | (apply CW_cond; exact rfl; all_goals (intro hc; have hq := hc; (try simp only [jA, jB, jC, jD, jE, jF, jG, jH, jI, jJ, not_and, not_or, not_true_eq_false, not_false_eq_true, false_or, or_false, true_and, and_true, forall_const] at hc); (try contradiction); (try (exfalso; omega)))) | fail)
    (refine CW_ret ?_; (repeat' (first | apply xs_n | apply xb_e | apply xb_n | apply xs_r | apply xb_r | apply xs_e | (apply xb_o; exact rfl) | apply xs_g | apply xb_g | fail)); refine bodyS_ret (L' := []) (rs := [.tmp 0]) (by kernel_rfl) (by (repeat (apply resok_tmp; exact rfl)); exact resok_nil) (by ((repeat (first | (apply subl_cons; (focus ((iterate 16 (try (first | exact pick0 | apply pickS))); done))) | apply subl_nilown)); first | exact subl_nil | exact subl_refl)) ?_)
    exact ⟨rfl, rfl⟩
end Go.Proofs.Ytnhbipachchlgaa.HL
namespace Go.Proofs.Ytnhbipachchlgaa
namespace HL
open Go
open Go.ChangeShapes Go.WideShapes Go.ChangeAt Go.RowKit
open Go.ChangeMaps (open_string shut_string)
set_option linter.unusedVariables false
set_option linter.unusedSimpArgs false
set_option maxRecDepth 100000 in
theorem prefixStands_contract (H : Type) (enc : TypeId × Value → H) (W : World) (base : Nat) (args : Array Value) (ds gs : List (DataW H)) (before : List MemPlace)
    (hval : ∀ (j : Nat) t v, Try.f3.params[j]? = some t → args[j]? = some v → Value.okWide Try.prog W .any base t v)
    (hW : DataW.Whole enc Try.prog Try.f3.params.toList Rows.prefixStandsSpec.vars false W args.toList ds gs before) :
    Calls Try.prog 3 args W fun e W' => ∃ v, e = .returned v ∧ Rows.prefixStandsSpec.post enc Try.prog Try.f3 false true false false W args v W' := by
  have hW' := hW
  obtain ⟨p, q, hA0, hV, rfl, hfz, hnd⟩ := hW
  have hA : DataW.TrodAll enc Try.prog W 0 (fun _ => true) true Try.f3.params.toList args.toList ds p := hA0
  rw [Try.params3] at hA hval
  obtain ⟨hargs, rfl, rfl⟩ := trodAll_nil hA
  obtain rfl : args = #[] := by cases args; simp_all
  obtain ⟨rfl, rfl⟩ := trodVars_none hV
  clear hA0
  simp only [List.append_nil] at hW'
  have law := (stands_law (allOf W)) (allOf W) (hs_nil _) W W (allOf_fit W)
  have htb : (Try.f3.params.toList.all fun t => (Try.prog).readableRec t && decide (t < (Try.prog).types.size)) = true := by kernel_rfl
  refine law.mono ?_
  rintro e W' ⟨v, H', he, hf, M, hM, hv⟩
  obtain rfl : v = .bool true := by first | exact hv | exact hv.1
  exact ⟨_, he, post_true laidOut htb rfl Try.underlying4 rfl hW' rfl rfl rfl hM.ext hf⟩

set_option maxRecDepth 100000 in
theorem prefixStands_lifted (os : Os) (started : os.Started) (H : Type) (enc : TypeId × Value → H) :
    ReturnsInHanded {} Try.checked os 3 .any (Rows.prefixStandsSpec.pre6 enc Try.prog Try.f3 Rows.prefixStandsRow.domain false) (Rows.prefixStandsSpec.post enc Try.prog Try.f3 false true false false) := by
  refine returnsInHanded_of_change (C := Try.checked) own0 started (by kernel_rfl) Try.func3
    (ChangeSpec.witness6 (enc := enc) (C := Try.checked) false ⟨#[], #[], []⟩ 8 (by kernel_rfl) (by kernel_rfl) (by kernel_rfl) (by kernel_rfl)) ?_
  intro W base args ds gs before hval hW _ _
  exact prefixStands_contract H enc W base args ds gs before hval hW
end HL
/-- THE GIVEN STATEMENT -/
theorem prefixStands_said : Rows.PrefixStandsSaid :=
  OpenClaim.holds_of_wide 3 Try.f3 rfl rfl rfl rfl rfl rfl rfl ⟨rfl, rfl, rfl, rfl, rfl⟩ rfl rfl rfl rfl rfl (by kernel_rfl) Try.func3 (by kernel_rfl)
    (of_decide_eq_true (by kernel_rfl)) (by unfold Func.isWrapper; first | (rw [if_pos (by decide +kernel)]; kernel_rfl) | (rw [if_neg (by decide +kernel)]; exact ⟨rfl, rfl⟩))
    (fun os started H enc _ => HL.prefixStands_lifted os started H enc)
end Go.Proofs.Ytnhbipachchlgaa
