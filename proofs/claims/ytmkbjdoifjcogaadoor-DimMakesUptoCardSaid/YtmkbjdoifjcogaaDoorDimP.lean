/- DimP: strconv.AppendInt of a number from -99 to 99. Condition: the row's length. -/
import Derived.Test.YtmkbjdoifjcogaaDoorDimO
namespace Go.Proofs.YtmkbjdoifjcogaaDoor.HL
open Go
attribute [local irreducible] goFn thenS blockS bodyS CW RW DW GW QW NW SC Pick Picks SubL Rd NN ResOk SrcW subE hops hseg AW hgen HC qv bldv
set_option linter.unusedVariables false
set_option linter.unusedSimpArgs false
set_option maxRecDepth 100000 in
theorem appInt_spec (i : Int) (h : -99 ≤ i ∧ i ≤ 99) (a : Option Addr) (n c : Nat) (cs : List Value) (hN : n ≤ 1000000) (H : Hp) :
    SC Tryd.prog 35 [.slice a n c, .int .i64 i, .int .i64 10] H [.own 5 1 a n c cs] (fun v M => ∃ a' c', v = .slice a' (n + (Lib.itoa i).length) c' ∧ M = [.own 5 1 a' (n + (Lib.itoa i).length) c' (cs ++ bytesV (Lib.itoa i))]) := by
  (refine SC_intro Tryd.func35 rfl (by kernel_rfl) (by rw [Tryd.ntmps35]; exact Nat.le_of_ble_eq_true rfl) ?_; simp only [Tryd.ntmps35, argE, Nat.reduceAdd])
  
  repeat' (first | (apply RW.q1; (first | ((first | apply q_move | apply q_asgn); exact rfl))) | apply RW.nil | (refine hK _ _ ?_; clear hK; (repeat' (first | apply xs_n | apply xb_e | apply xb_n | apply xs_r | apply xb_r | apply xs_e | (apply xb_o; exact rfl) | apply xs_g | apply xb_g | fail))) | ((first | apply RW.a1 | apply RW.a0); (first | (apply gw_callc (f := 41) (M := [.own 5 1 _ _ _ _]); exact rfl; exact go41; ((repeat ((apply picks_cons; (focus ((iterate 9 (try (first | exact pick0 | apply pickS))); done))))); exact picks_nil); intro G hG; refine SC.mono (appI_spec i h _ n _ _ hN G) ?_; rintro v M ⟨a1, c1, rfl, rfl⟩; (try dsimp only [List.nil_append, List.cons_append])) | (fail))) | apply CW_seq | apply CW_block | (apply CW_region; intro K hK) | ((first | apply CW_skip | apply CW_exit); (repeat' (first | apply xs_n | apply xb_e | apply xb_n | apply xs_r | apply xb_r | apply xs_e | (apply xb_o; exact rfl) | apply xs_g | apply xb_g | fail))) | (apply CW_condT; exact rfl; first | assumption | exact rfl) | (apply CW_condF; exact rfl; first | assumption | exact rfl) | (apply CW_cond; exact rfl; all_goals (intro hc; have hq := hc; (try simp only [jA, jB, jC, jD, jE, jF, jG, jH, jI, jJ, not_and, not_or, not_true_eq_false, not_false_eq_true, false_or, or_false, true_and, and_true, forall_const] at hc); (try contradiction); (try (exfalso; omega)))) | fail)
  (refine CW_ret ?_; (repeat' (first | apply xs_n | apply xb_e | apply xb_n | apply xs_r | apply xb_r | apply xs_e | (apply xb_o; exact rfl) | apply xs_g | apply xb_g | fail)); refine bodyS_ret (L' := [.own 5 1 a1 _ c1 _]) (rs := [.tmp 6]) (by kernel_rfl) (by (repeat (apply resok_tmp; exact rfl)); exact resok_nil) (by ((repeat (first | (apply subl_cons; (focus ((iterate 9 (try (first | exact pick0 | apply pickS))); done))) | apply subl_nilown)); first | exact subl_nil | exact subl_refl)) ?_)
  exact ⟨a1, c1, rfl, rfl⟩
end Go.Proofs.YtmkbjdoifjcogaaDoor.HL
