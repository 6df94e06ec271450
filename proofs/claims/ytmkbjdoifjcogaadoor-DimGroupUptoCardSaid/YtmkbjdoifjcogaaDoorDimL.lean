/- DimL: lent: a copy with one more behind it. Condition: the list's length. -/
import Derived.Test.YtmkbjdoifjcogaaDoorDimK
namespace Go.Proofs.YtmkbjdoifjcogaaDoor.HL
open Go
attribute [local irreducible] goFn thenS blockS bodyS CW RW DW GW QW NW SC Pick Picks SubL Rd NN ResOk SrcW subE hops hseg AW hgen HC qv bldv
set_option linter.unusedVariables false
set_option linter.unusedSimpArgs false

def markD : List Int := [0, 0, 0, 0, 0, 0, 0, 4321]
theorem rows_one (l : List (List Int)) : (l.flatMap ints).all isOne = true := by
  rw [List.all_eq_true]
  intro v hv
  obtain ⟨d, _, hd⟩ := List.mem_flatMap.1 hv
  exact List.all_eq_true.1 (ints_one d) v hd
theorem rows_len : ∀ {l : List (List Int)}, (∀ d ∈ l, d.length = 8) → (l.flatMap ints).length = l.length * 8
  | [], _ => rfl
  | d :: l, h => by
    rw [List.flatMap_cons, List.length_append, rows_len (fun x hx => h x (List.mem_cons_of_mem _ hx)), ints_len (h d (List.mem_cons_self ..)), List.length_cons]; omega
set_option maxRecDepth 100000 in
theorem lent_spec (l : List (List Int)) (hl : ∀ d ∈ l, d.length = 8) (a : Option Addr) (n c : Nat) (hn : l.length = n) (hN : n ≤ 1048576) (H : Hp) (hx : Rs H 8 a n c (l.flatMap ints)) :
    SC Tryd.prog 8 [.slice a n c] H [] (fun v M => ∃ b d, v = .slice b n d ∧ M = [.own 24 8 b (n + 1) d (l.flatMap ints ++ ints markD)]) := by
  have hlen := rows_len hl
  (refine SC_intro Tryd.func8 rfl (by kernel_rfl) (by rw [Tryd.ntmps8]; exact Nat.le_of_ble_eq_true rfl) ?_; simp only [Tryd.ntmps8, argE, Nat.reduceAdd])
  repeat' (first | (apply RW.q1; (first | ((first | apply q_move | apply q_asgn | apply q_lens | apply q_lenv | apply q_lena); exact rfl) | (apply q_bld; exact rfl; (first | exact bld24_7 _ | assumption)) | (apply q_slo; exact rfl; exact rfl; infer_instance; omega) | (apply q_slx; exact rfl; exact rfl; infer_instance; omega) | (apply q_slxr; exact rfl; exact rfl; assumption; omega) | (apply q_slrs; exact rfl; exact rfl; assumption; omega) | (apply q_slp; exact rfl; exact rfl; omega) | (apply q_sls; exact rfl; exact rfl; exact rfl; exact rfl; (first | (apply bnd_lo <;> omega) | (apply bnd_hi <;> omega) | (apply bnd_lh <;> omega) | exact bnd_no)) | (apply q_blt; exact rfl; (first | assumption | exact rfl)))) | apply RW.nil | (refine hK _ _ ?_; clear hK; (repeat' (first | apply xs_n | apply xb_e | apply xb_n | apply xs_r | apply xb_r | apply xs_e | (apply xb_o; exact rfl) | apply xs_g | apply xb_g | fail))) | ((first | apply RW.a1 | apply RW.a0); (first | (refine GW.nilown (gw_append (e := 24) (z := 8) (n := 0) (m := n) (cs := []) rfl rfl rfl rfl pick0 (src_rs hx) subl_refl (by rw [hlen, hn]) (rows_one l) (by omega) (by omega) (fun a' c' => ?_)); rw [List.nil_append, Nat.zero_add]) | (apply gw_lit1; exact rfl; exact rfl; exact rfl; exact rfl; decide; intro b) | (apply gw_lit2; exact rfl; exact rfl; exact rfl; exact rfl; intro b) | (apply gw_lit3; exact rfl; exact rfl; exact rfl; exact rfl; exact rfl; intro b) | (apply gw_ap1; exact rfl; exact rfl; infer_instance; infer_instance; exact rfl; exact rfl; exact rfl; exact rfl; omega; intro a c) | (apply gw_ap1n; exact rfl; exact rfl; infer_instance; exact rfl; exact rfl; exact rfl; exact rfl; omega; intro a c) | (fail))) | apply CW_seq | apply CW_block | (apply CW_region; intro K hK) | ((first | apply CW_skip | apply CW_exit); (repeat' (first | apply xs_n | apply xb_e | apply xb_n | apply xs_r | apply xb_r | apply xs_e | (apply xb_o; exact rfl) | apply xs_g | apply xb_g | fail))) | (apply CW_condT; exact rfl; first | assumption | exact rfl) | (apply CW_condF; exact rfl; first | assumption | exact rfl) | (apply CW_cond; exact rfl; all_goals (intro hc; have hq := hc; (try simp only [jA, jB, jC, jD, jE, jF, jG, jH, jI, jJ, not_and, not_or, not_true_eq_false, not_false_eq_true, false_or, or_false, true_and, and_true, forall_const] at hc); (try contradiction))) | fail)
  (refine CW_ret ?_; (repeat' (first | apply xs_n | apply xb_e | apply xb_n | apply xs_r | apply xb_r | apply xs_e | (apply xb_o; exact rfl) | apply xs_g | apply xb_g | fail)); refine bodyS_ret (L' := [.own 24 8 _ (n + 1) _ _]) (rs := [.tmp 2]) (by kernel_rfl) (by (repeat (apply resok_tmp; exact rfl)); exact resok_nil) (by ((repeat (first | (apply subl_cons; (focus ((iterate 9 (try (first | exact pick0 | apply pickS))); done))) | apply subl_nilown)); first | exact subl_nil | exact subl_refl)) ?_)
  exact ⟨_, _, rfl, rfl⟩
end Go.Proofs.YtmkbjdoifjcogaaDoor.HL
