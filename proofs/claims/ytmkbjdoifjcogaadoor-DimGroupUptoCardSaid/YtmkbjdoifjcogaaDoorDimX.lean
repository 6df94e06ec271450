/- DimX: the table of kinds: plain laws; both functions that lay it. No condition. -/
import Derived.Test.YtmkbjdoifjcogaaDoorDimV
namespace Go.Proofs.YtmkbjdoifjcogaaDoor.HL
open Go
attribute [local irreducible] goFn thenS blockS bodyS CW RW DW GW QW NW SC Pick Picks SubL Rd NN ResOk SrcW subE hops hseg AW hgen HC qv bldv
set_option linter.unusedVariables false
set_option linter.unusedSimpArgs false

/-- a kind: its name, its dimension's text, its dimension -/
abbrev Kd := List UInt8 × List UInt8 × List Int
def kindsT : List Kd := [
  ([110, 117, 109, 98, 101, 114], [49], [0, 0, 0, 0, 0, 0, 0, 0]),
  ([108, 101, 110, 103, 116, 104], [76], [1, 0, 0, 0, 0, 0, 0, 0]),
  ([109, 97, 115, 115], [77], [0, 1, 0, 0, 0, 0, 0, 0]),
  ([116, 105, 109, 101], [84], [0, 0, 1, 0, 0, 0, 0, 0]),
  ([99, 117, 114, 114, 101, 110, 116], [73], [0, 0, 0, 1, 0, 0, 0, 0]),
  ([116, 101, 109, 112, 101, 114, 97, 116, 117, 114, 101], [72], [0, 0, 0, 0, 1, 0, 0, 0]),
  ([97, 109, 111, 117, 110, 116], [78], [0, 0, 0, 0, 0, 1, 0, 0]),
  ([108, 105, 103, 104, 116], [74], [0, 0, 0, 0, 0, 0, 1, 0]),
  ([105, 110, 102, 111, 114, 109, 97, 116, 105, 111, 110], [66], [0, 0, 0, 0, 0, 0, 0, 1]),
  ([118, 111, 108, 117, 109, 101], [76, 94, 51], [3, 0, 0, 0, 0, 0, 0, 0]),
  ([115, 112, 101, 101, 100], [76, 32, 84, 94, 45, 49], [1, 0, -1, 0, 0, 0, 0, 0]),
  ([102, 111, 114, 99, 101], [76, 32, 77, 32, 84, 94, 45, 50], [1, 1, -2, 0, 0, 0, 0, 0]),
  ([101, 110, 101, 114, 103, 121], [76, 94, 50, 32, 77, 32, 84, 94, 45, 50], [2, 1, -2, 0, 0, 0, 0, 0]),
  ([100, 101, 110, 115, 105, 116, 121], [76, 94, 45, 51, 32, 77], [-3, 1, 0, 0, 0, 0, 0, 0]),
  ([97, 99, 116, 105, 111, 110], [76, 94, 50, 32, 77, 32, 84, 94, 45, 49], [2, 1, -1, 0, 0, 0, 0, 0]),
  ([99, 104, 97, 114, 103, 101], [84, 32, 73], [0, 0, 1, 1, 0, 0, 0, 0]),
  ([118, 111, 108, 116, 97, 103, 101], [76, 94, 50, 32, 77, 32, 84, 94, 45, 51, 32, 73, 94, 45, 49], [2, 1, -3, -1, 0, 0, 0, 0]),
  ([114, 101, 115, 105, 115, 116, 97, 110, 99, 101], [76, 94, 50, 32, 77, 32, 84, 94, 45, 51, 32, 73, 94, 45, 50], [2, 1, -3, -2, 0, 0, 0, 0]),
  ([99, 111, 110, 100, 117, 99, 116, 97, 110, 99, 101], [76, 94, 45, 50, 32, 77, 94, 45, 49, 32, 84, 94, 51, 32, 73, 94, 50], [-2, -1, 3, 2, 0, 0, 0, 0]),
  ([99, 97, 112, 97, 99, 105, 116, 97, 110, 99, 101], [76, 94, 45, 50, 32, 77, 94, 45, 49, 32, 84, 94, 52, 32, 73, 94, 50], [-2, -1, 4, 2, 0, 0, 0, 0]),
  ([105, 110, 100, 117, 99, 116, 97, 110, 99, 101], [76, 94, 50, 32, 77, 32, 84, 94, 45, 50, 32, 73, 94, 45, 50], [2, 1, -2, -2, 0, 0, 0, 0]),
  ([102, 108, 117, 120], [76, 94, 50, 32, 77, 32, 84, 94, 45, 50, 32, 73, 94, 45, 49], [2, 1, -2, -1, 0, 0, 0, 0]),
  ([102, 105, 101, 108, 100], [77, 32, 84, 94, 45, 50, 32, 73, 94, 45, 49], [0, 1, -2, -1, 0, 0, 0, 0]),
  ([97, 114, 101, 97], [76, 94, 50], [2, 0, 0, 0, 0, 0, 0, 0]),
  ([102, 114, 101, 113, 117, 101, 110, 99, 121], [84, 94, 45, 49], [0, 0, -1, 0, 0, 0, 0, 0]),
  ([97, 99, 99, 101, 108, 101, 114, 97, 116, 105, 111, 110], [76, 32, 84, 94, 45, 50], [1, 0, -2, 0, 0, 0, 0, 0]),
  ([112, 114, 101, 115, 115, 117, 114, 101], [76, 94, 45, 49, 32, 77, 32, 84, 94, 45, 50], [-1, 1, -2, 0, 0, 0, 0, 0]),
  ([112, 111, 119, 101, 114], [76, 94, 50, 32, 77, 32, 84, 94, 45, 51], [2, 1, -3, 0, 0, 0, 0, 0]),
  ([109, 111, 109, 101, 110, 116, 117, 109], [76, 32, 77, 32, 84, 94, 45, 49], [1, 1, -1, 0, 0, 0, 0, 0]),
  ([101, 110, 116, 114, 111, 112, 121], [76, 94, 50, 32, 77, 32, 84, 94, 45, 50, 32, 72, 94, 45, 49], [2, 1, -2, 0, -1, 0, 0, 0])]
theorem kinds_all : kindsT.all (fun x => decide (printT x.2.2 = (x.2.1, 0)) && decide (x.2.2.length = 8) && rightD x.2.2) = true := by decide +kernel
theorem kinds_at {x : Kd} (h : x ∈ kindsT) : printT x.2.2 = (x.2.1, 0) ∧ x.2.2.length = 8 ∧ rightD x.2.2 = true := by
  have := List.all_eq_true.1 kinds_all x h
  simp only [jC, jA] at this
  exact ⟨this.1.1, this.1.2, this.2⟩
theorem kinds_names : (kindsT.map (·.1)).Nodup := by decide +kernel
theorem kinds_dims : (kindsT.map (·.2.2)).Nodup := by decide +kernel
theorem kinds_len : kindsT.length = 30 := rfl
def kindCells : List Value := kindsT.flatMap fun x => [.string (bstr x.1), .string (bstr x.2.1)]
def kindRows : List Value := kindsT.flatMap fun x => .string (bstr x.1) :: ints x.2.2

set_option maxRecDepth 100000 in
theorem kinds_spec (H : Hp) : SC Tryd.prog 33 [] H [] (fun v M => ∃ a, v = .slice a 60 60 ∧ M = [.own 9 1 a 60 60 kindCells]) := by
  (refine SC_intro Tryd.func33 rfl (by kernel_rfl) (by rw [Tryd.ntmps33]; exact Nat.le_of_ble_eq_true rfl) ?_; simp only [Tryd.ntmps33, argE, Nat.reduceAdd])
  repeat' (first | (apply RW.q1; (first | (apply q_asgn; exact rfl) | (apply q_bld; exact rfl; (first | assumption)))) | apply RW.nil | (refine hK _ _ ?_; clear hK; (repeat' (first | apply xs_n | apply xb_e | apply xb_n | apply xs_r | apply xb_r | apply xs_e | (apply xb_o; exact rfl) | apply xs_g | apply xb_g | fail))) | ((first | apply RW.a1 | apply RW.a0); (first | (refine gw_litn (cs := kindCells) rfl rfl (by kernel_rfl) (by kernel_rfl) (by kernel_rfl) (by decide) (fun b => ?_)) | (apply gw_lit1; exact rfl; exact rfl; exact rfl; exact rfl; decide; intro b) | (apply gw_lit2; exact rfl; exact rfl; exact rfl; exact rfl; intro b) | (apply gw_lit3; exact rfl; exact rfl; exact rfl; exact rfl; exact rfl; intro b) | (fail))) | apply CW_seq | apply CW_block | (apply CW_region; intro K hK) | ((first | apply CW_skip | apply CW_exit); (repeat' (first | apply xs_n | apply xb_e | apply xb_n | apply xs_r | apply xb_r | apply xs_e | (apply xb_o; exact rfl) | apply xs_g | apply xb_g | fail))) | (apply CW_condT; exact rfl; first | assumption | exact rfl) | (apply CW_condF; exact rfl; first | assumption | exact rfl) | (apply CW_cond; exact rfl; all_goals (intro hc; have hq := hc; (try simp only [jA, jB, jC, jD, jE, jF, jG, jH, jI, jJ, not_and, not_or, not_true_eq_false, not_false_eq_true, false_or, or_false, true_and, and_true, forall_const] at hc); (try contradiction))) | fail)
  (refine CW_ret ?_; (repeat' (first | apply xs_n | apply xb_e | apply xb_n | apply xs_r | apply xb_r | apply xs_e | (apply xb_o; exact rfl) | apply xs_g | apply xb_g | fail)); refine bodyS_ret (L' := [.own 9 1 (some ⟨b, 0, none⟩) 60 60 kindCells]) (rs := [.tmp 0]) (by kernel_rfl) (by (repeat (apply resok_tmp; exact rfl)); exact resok_nil) (by ((repeat (first | (apply subl_cons; (focus ((iterate 9 (try (first | exact pick0 | apply pickS))); done))) | apply subl_nilown)); first | exact subl_nil | exact subl_refl)) ?_)
  exact ⟨_, rfl, rfl⟩

set_option maxHeartbeats 1000000 in
set_option maxRecDepth 100000 in
theorem rkinds_spec (H : Hp) : SC Tryd.prog 34 [] H [] (fun v M => ∃ a, v = .slice a 30 30 ∧ M = [.own 54 9 a 30 30 kindRows]) := by
  (refine SC_intro Tryd.func34 rfl (by kernel_rfl) (by rw [Tryd.ntmps34]; exact Nat.le_of_ble_eq_true rfl) ?_; simp only [Tryd.ntmps34, argE, Nat.reduceAdd])
  repeat' (first | (apply RW.q1; (first | (apply q_asgn; exact rfl) | (apply q_bld; exact rfl; (first | exact bld24_ | exact bld24_0 _ | exact bld24_0_1 _ _ | exact bld24_0_1_2 _ _ _ | exact bld24_0_1_2_3 _ _ _ _ | exact bld24_0_1_2_3_4 _ _ _ _ _ | exact bld24_0_1_2_3_4_5 _ _ _ _ _ _ | exact bld24_0_1_2_3_4_5_6 _ _ _ _ _ _ _ | exact bld24_0_1_2_3_4_5_6_7 _ _ _ _ _ _ _ _ | exact bld54_0_1 _ _ _ _ _ _ _ _ _ | assumption)))) | apply RW.nil | (refine hK _ _ ?_; clear hK; (repeat' (first | apply xs_n | apply xb_e | apply xb_n | apply xs_r | apply xb_r | apply xs_e | (apply xb_o; exact rfl) | apply xs_g | apply xb_g | fail))) | ((first | apply RW.a1 | apply RW.a0); (first | (refine gw_litn (cs := kindRows) rfl rfl (by kernel_rfl) (by kernel_rfl) (by kernel_rfl) (by decide) (fun b => ?_)) | (apply gw_lit1; exact rfl; exact rfl; exact rfl; exact rfl; decide; intro b) | (apply gw_lit2; exact rfl; exact rfl; exact rfl; exact rfl; intro b) | (apply gw_lit3; exact rfl; exact rfl; exact rfl; exact rfl; exact rfl; intro b) | (fail))) | apply CW_seq | apply CW_block | (apply CW_region; intro K hK) | ((first | apply CW_skip | apply CW_exit); (repeat' (first | apply xs_n | apply xb_e | apply xb_n | apply xs_r | apply xb_r | apply xs_e | (apply xb_o; exact rfl) | apply xs_g | apply xb_g | fail))) | (apply CW_condT; exact rfl; first | assumption | exact rfl) | (apply CW_condF; exact rfl; first | assumption | exact rfl) | (apply CW_cond; exact rfl; all_goals (intro hc; have hq := hc; (try simp only [jA, jB, jC, jD, jE, jF, jG, jH, jI, jJ, not_and, not_or, not_true_eq_false, not_false_eq_true, false_or, or_false, true_and, and_true, forall_const] at hc); (try contradiction))) | fail)
  (refine CW_ret ?_; (repeat' (first | apply xs_n | apply xb_e | apply xb_n | apply xs_r | apply xb_r | apply xs_e | (apply xb_o; exact rfl) | apply xs_g | apply xb_g | fail)); refine bodyS_ret (L' := [.own 54 9 (some ⟨b, 0, none⟩) 30 30 kindRows]) (rs := [.tmp 0]) (by kernel_rfl) (by (repeat (apply resok_tmp; exact rfl)); exact resok_nil) (by ((repeat (first | (apply subl_cons; (focus ((iterate 9 (try (first | exact pick0 | apply pickS))); done))) | apply subl_nilown)); first | exact subl_nil | exact subl_refl)) ?_)
  exact ⟨_, rfl, rfl⟩
end Go.Proofs.YtmkbjdoifjcogaaDoor.HL
