/- DimO: AppendInt of a number from -99 to 99. Condition: the row's length. -/
import Derived.Test.YtmkbjdoifjcogaaDoorDimN
namespace Go.Proofs.YtmkbjdoifjcogaaDoor.HL
open Go
attribute [local irreducible] goFn thenS blockS bodyS CW RW DW GW QW NW SC Pick Picks SubL Rd NN ResOk SrcW subE hops hseg AW hgen HC qv bldv
set_option linter.unusedVariables false
set_option linter.unusedSimpArgs false

theorem dec_len {u : Nat} (h : u < 100) : (Lib.decDigits u).length ≤ 2 := by
  rw [Lib.decDigits]
  split
  · simp
  · rw [Lib.decDigits, dif_pos (by omega)]; simp
theorem wrap_all : ∀ k : Fin 99, IntKind.u64.wrap (-(k.val : Int) - 1) = 18446744073709551615 - k.val ∧ IntKind.u64.wrap (0 - (18446744073709551615 - (k.val : Int))) = ((k.val + 1 : Nat) : Int) := by decide +kernel
set_option maxRecDepth 100000 in
theorem appI_spec (i : Int) (h : -99 ≤ i ∧ i ≤ 99) (a : Option Addr) (n c : Nat) (cs : List Value) (hN : n ≤ 1000000) (H : Hp) :
    SC Tryd.prog 41 [.slice a n c, .int .i64 i, .int .i64 10] H [.own 5 1 a n c cs] (fun v M => ∃ a' c', v = .slice a' (n + (Lib.itoa i).length) c' ∧ M = [.own 5 1 a' (n + (Lib.itoa i).length) c' (cs ++ bytesV (Lib.itoa i))]) := by
  by_cases hi : i < 0
  · obtain ⟨k, hk⟩ : ∃ k : Fin 99, i = -(k.val : Int) - 1 := ⟨⟨(-i - 1).toNat, by omega⟩, by simp; omega⟩
    obtain ⟨w1, w2⟩ := wrap_all k
    have hkl := k.isLt
    have hit : Lib.itoa i = 45 :: Lib.decDigits (k.val + 1) := by
      unfold Lib.itoa; rw [if_pos hi]; congr 2; omega
    rw [hit]
    have hdl := dec_len (u := k.val + 1) (by omega)
    rw [← hk] at w1
    (refine SC_intro Tryd.func41 rfl (by kernel_rfl) (by rw [Tryd.ntmps41]; exact Nat.le_of_ble_eq_true rfl) ?_; simp only [Tryd.ntmps41, argE, Nat.reduceAdd])
    
    repeat' (first | (apply RW.q1; (first | (apply q_cint; exact rfl; exact w1) | (apply q_neg; exact rfl; exact w2) | (first | ((first | apply q_move | apply q_asgn); exact rfl) | (apply q_cmp; exact rfl; exact rfl; exact rfl) | (apply q_bld; exact rfl; (first | assumption)) | (apply q_cint; exact rfl; (first | assumption | (apply w_in; simp only [inb]; omega) | exact rfl)) | (apply q_neg; exact rfl; (first | assumption | (apply w_in; simp only [inb]; omega) | exact rfl)) | (apply q_blt; exact rfl; (first | assumption | exact rfl))))) | apply RW.nil | (refine hK _ _ ?_; clear hK; (repeat' (first | apply xs_n | apply xb_e | apply xb_n | apply xs_r | apply xb_r | apply xs_e | (apply xb_o; exact rfl) | apply xs_g | apply xb_g | fail))) | ((first | apply RW.a1 | apply RW.a0); (first | (apply gw_callc (f := 44) (M := [.own 5 1 _ _ _ _]); exact rfl; exact go44; ((repeat ((apply picks_cons; (focus ((iterate 9 (try (first | exact pick0 | apply pickS))); done))))); exact picks_nil); intro G hG; refine SC.mono (appU_spec (k.val + 1) (by omega) _ (n + 1) _ _ (by omega) hdl G) ?_; rintro v M ⟨a1, c1, rfl, rfl⟩; (try dsimp only [List.nil_append, List.cons_append])) | (apply gw_lit1; exact rfl; exact rfl; exact rfl; exact rfl; decide; intro b) | (apply gw_lit2; exact rfl; exact rfl; exact rfl; exact rfl; intro b) | (apply gw_lit3; exact rfl; exact rfl; exact rfl; exact rfl; exact rfl; intro b) | (apply gw_ap1; exact rfl; exact rfl; infer_instance; infer_instance; exact rfl; exact rfl; exact rfl; exact rfl; omega; intro a c) | (apply gw_ap1n; exact rfl; exact rfl; infer_instance; exact rfl; exact rfl; exact rfl; exact rfl; omega; intro a c) | (fail))) | apply CW_seq | apply CW_block | (apply CW_region; intro K hK) | ((first | apply CW_skip | apply CW_exit); (repeat' (first | apply xs_n | apply xb_e | apply xb_n | apply xs_r | apply xb_r | apply xs_e | (apply xb_o; exact rfl) | apply xs_g | apply xb_g | fail))) | (apply CW_condT; exact rfl; first | assumption | exact rfl) | (apply CW_condF; exact rfl; first | assumption | exact rfl) | (apply CW_cond; exact rfl; all_goals (intro hc; have hq := hc; (try simp only [jA, jB, jC, jD, jE, jF, jG, jH, jI, jJ, not_and, not_or, not_true_eq_false, not_false_eq_true, false_or, or_false, true_and, and_true, forall_const] at hc); (try contradiction); (try (exfalso; omega)))) | fail)
    (refine CW_ret ?_; (repeat' (first | apply xs_n | apply xb_e | apply xb_n | apply xs_r | apply xb_r | apply xs_e | (apply xb_o; exact rfl) | apply xs_g | apply xb_g | fail)); refine bodyS_ret (L' := [.own 5 1 a1 _ c1 _]) (rs := [.tmp 6]) (by kernel_rfl) (by (repeat (apply resok_tmp; exact rfl)); exact resok_nil) (by ((repeat (first | (apply subl_cons; (focus ((iterate 9 (try (first | exact pick0 | apply pickS))); done))) | apply subl_nilown)); first | exact subl_nil | exact subl_refl)) ?_)
    refine ⟨a1, c1, ?_, ?_⟩
    · simp [resOne]; omega
    · simp; omega
  · have hit : Lib.itoa i = Lib.decDigits i.toNat := by unfold Lib.itoa; rw [if_neg hi]
    rw [hit]
    obtain ⟨u, rfl⟩ : ∃ u : Nat, i = (u : Int) := ⟨i.toNat, by omega⟩
    rw [Int.toNat_natCast]
    have hdl := dec_len (u := u) (by omega)
    (refine SC_intro Tryd.func41 rfl (by kernel_rfl) (by rw [Tryd.ntmps41]; exact Nat.le_of_ble_eq_true rfl) ?_; simp only [Tryd.ntmps41, argE, Nat.reduceAdd])
    
    repeat' (first | (apply RW.q1; (first | ((first | apply q_move | apply q_asgn); exact rfl) | (apply q_cmp; exact rfl; exact rfl; exact rfl) | (apply q_bld; exact rfl; (first | assumption)) | (apply q_cint; exact rfl; (first | assumption | (apply w_in; simp only [inb]; omega) | exact rfl)) | (apply q_neg; exact rfl; (first | assumption | (apply w_in; simp only [inb]; omega) | exact rfl)) | (apply q_blt; exact rfl; (first | assumption | exact rfl)))) | apply RW.nil | (refine hK _ _ ?_; clear hK; (repeat' (first | apply xs_n | apply xb_e | apply xb_n | apply xs_r | apply xb_r | apply xs_e | (apply xb_o; exact rfl) | apply xs_g | apply xb_g | fail))) | ((first | apply RW.a1 | apply RW.a0); (first | (apply gw_callc (f := 44) (M := [.own 5 1 _ _ _ _]); exact rfl; exact go44; ((repeat ((apply picks_cons; (focus ((iterate 9 (try (first | exact pick0 | apply pickS))); done))))); exact picks_nil); intro G hG; refine SC.mono (appU_spec u (by omega) _ n _ _ (by omega) hdl G) ?_; rintro v M ⟨a1, c1, rfl, rfl⟩; (try dsimp only [List.nil_append, List.cons_append])) | (apply gw_lit1; exact rfl; exact rfl; exact rfl; exact rfl; decide; intro b) | (apply gw_lit2; exact rfl; exact rfl; exact rfl; exact rfl; intro b) | (apply gw_lit3; exact rfl; exact rfl; exact rfl; exact rfl; exact rfl; intro b) | (apply gw_ap1; exact rfl; exact rfl; infer_instance; infer_instance; exact rfl; exact rfl; exact rfl; exact rfl; omega; intro a c) | (apply gw_ap1n; exact rfl; exact rfl; infer_instance; exact rfl; exact rfl; exact rfl; exact rfl; omega; intro a c) | (fail))) | apply CW_seq | apply CW_block | (apply CW_region; intro K hK) | ((first | apply CW_skip | apply CW_exit); (repeat' (first | apply xs_n | apply xb_e | apply xb_n | apply xs_r | apply xb_r | apply xs_e | (apply xb_o; exact rfl) | apply xs_g | apply xb_g | fail))) | (apply CW_condT; exact rfl; first | assumption | exact rfl) | (apply CW_condF; exact rfl; first | assumption | exact rfl) | (apply CW_cond; exact rfl; all_goals (intro hc; have hq := hc; (try simp only [jA, jB, jC, jD, jE, jF, jG, jH, jI, jJ, not_and, not_or, not_true_eq_false, not_false_eq_true, false_or, or_false, true_and, and_true, forall_const] at hc); (try contradiction); (try (exfalso; omega)))) | fail)
    (refine CW_ret ?_; (repeat' (first | apply xs_n | apply xb_e | apply xb_n | apply xs_r | apply xb_r | apply xs_e | (apply xb_o; exact rfl) | apply xs_g | apply xb_g | fail)); refine bodyS_ret (L' := [.own 5 1 a1 _ c1 _]) (rs := [.tmp 6]) (by kernel_rfl) (by (repeat (apply resok_tmp; exact rfl)); exact resok_nil) (by ((repeat (first | (apply subl_cons; (focus ((iterate 9 (try (first | exact pick0 | apply pickS))); done))) | apply subl_nilown)); first | exact subl_nil | exact subl_refl)) ?_)
    exact ⟨a1, c1, rfl, rfl⟩
end Go.Proofs.YtmkbjdoifjcogaaDoor.HL
