/- DimW: the letters, the exponents and the faults of a text: what the program's and the document's compute. Condition: the text's length. -/
import Derived.Test.YtmkbjdoifjcogaaDoorDimV
namespace Go.Proofs.YtmkbjdoifjcogaaDoor.HL
open Go
attribute [local irreducible] goFn thenS blockS bodyS CW RW DW GW QW NW SC Pick Picks SubL Rd NN ResOk SrcW subE hops hseg AW hgen HC qv bldv
set_option linter.unusedVariables false
set_option linter.unusedSimpArgs false

theorem bt_range (s : ByteArray) (i : Int) : 0 ≤ bt s i ∧ bt s i ≤ 255 := by
  unfold bt
  have := (s.data.toList.getD i.toNat 0).toNat_lt
  omega
theorem drop_bt (s : ByteArray) (i : Nat) (h : i < s.size) : ∃ b : UInt8, s.data.toList.drop i = b :: s.data.toList.drop (i + 1) ∧ bt s (i : Int) = (b.toNat : Int) := by
  have hl : i < s.data.toList.length := by rw [Array.length_toList]; exact h
  refine ⟨s.data.toList[i], List.drop_eq_getElem_cons hl, ?_⟩
  unfold bt
  rw [Int.toNat_natCast, List.getD_eq_getElem?_getD, List.getElem?_eq_getElem hl]; rfl
theorem len_bytes (s : ByteArray) : s.data.toList.length = s.size := by rw [Array.length_toList]; rfl
theorem let_dec : ∀ k : Fin 8, Utf8.decode letT k.val = ((letB k.val).toNat, 1) := by decide +kernel
theorem let_no {c : Int} (h : ∀ k : Nat, k < 8 → c ≠ ((letB k).toNat : Int)) : whichN c = -1 := by
  have h0 : c ≠ 76 := h 0 (by decide)
  have h1 : c ≠ 77 := h 1 (by decide)
  have h2 : c ≠ 84 := h 2 (by decide)
  have h3 : c ≠ 73 := h 3 (by decide)
  have h4 : c ≠ 72 := h 4 (by decide)
  have h5 : c ≠ 78 := h 5 (by decide)
  have h6 : c ≠ 74 := h 6 (by decide)
  have h7 : c ≠ 66 := h 7 (by decide)
  unfold whichN
  rw [if_neg h0, if_neg h1, if_neg h2, if_neg h3, if_neg h4, if_neg h5, if_neg h6, if_neg h7]

set_option maxRecDepth 100000 in
theorem letter_spec (c : Int) (H : Hp) : SC Tryd.prog 43 [.int .u8 c] H [] (fun v M => v = .int .i64 (whichN c) ∧ M = []) := by
  (refine SC_intro Tryd.func43 rfl (by kernel_rfl) (by rw [Tryd.ntmps43]; exact Nat.le_of_ble_eq_true rfl) ?_; simp only [Tryd.ntmps43, argE, Nat.reduceAdd])
  repeat' (first | (apply RW.q1; (first | ((first | apply q_move | apply q_asgn); exact rfl) | (apply q_add; exact rfl; exact rfl; (first | assumption | (apply w_in; simp only [inb]; omega) | exact rfl)) | (apply q_cmp; exact rfl; exact rfl; exact rfl) | (apply q_ixstr; exact rfl; exact rfl; omega; omega))) | apply RW.nil | (refine hK _ _ ?_; clear hK; (repeat' (first | apply xs_n | apply xb_e | apply xb_n | apply xs_r | apply xb_r | apply xs_e | (apply xb_o; exact rfl) | apply xs_g | apply xb_g | fail))) | ((first | apply RW.a1 | apply RW.a0); (first | (fail))) | apply CW_seq | apply CW_block | (apply CW_region; intro K hK) | ((first | apply CW_skip | apply CW_exit); (repeat' (first | apply xs_n | apply xb_e | apply xb_n | apply xs_r | apply xb_r | apply xs_e | (apply xb_o; exact rfl) | apply xs_g | apply xb_g | fail))) | (apply CW_condT; exact rfl; first | assumption | exact rfl) | (apply CW_condF; exact rfl; first | assumption | exact rfl) | (apply CW_cond; exact rfl; all_goals (intro hc; have hq := hc; (try simp only [jA, jB, jC, jD, jE, jF, jG, jH, jI, jJ, not_and, not_or, not_true_eq_false, not_false_eq_true, false_or, or_false, true_and, and_true, forall_const] at hc); (try contradiction); (try (exfalso; omega)))) | fail)
  refine CW_loop (fun m l L => ∃ (i : Nat), m = 8 - i ∧ l = [(0, true, .int .u8 c), (3, true, .int .i64 (i : Nat))] ∧ L = [] ∧ i ≤ 8 ∧ ∀ k : Nat, k < i → c ≠ ((letB k).toNat : Int))
    ⟨_, _, _, ⟨0, rfl, rfl, rfl, by omega, fun k hk => absurd hk (Nat.not_lt_zero k)⟩, by ((repeat (first | (apply subE_cons; exact rfl) | (apply subE_cons; apply look_int; exact rfl; omega))); exact subE_nil _), by ((repeat (first | (apply subl_cons; (focus ((iterate 9 (try (first | exact pick0 | apply pickS))); done))) | apply subl_nilown)); first | exact subl_nil | exact subl_refl)⟩ ?_
  rintro m l L ⟨i, rfl, rfl, rfl, h1, h2⟩
  by_cases hlt : i < 8
  · have hbt : bt ⟨#[76, 77, 84, 73, 72, 78, 74, 66]⟩ (i : Int) = ((letB i).toNat : Int) := let_bt ⟨i, hlt⟩
    
    repeat' (first | (apply RW.q1; (first | (apply q_ixstr; exact rfl; exact rfl; omega; (show _ < ((8 : Nat) : Int); omega)) | (first | ((first | apply q_move | apply q_asgn); exact rfl) | (apply q_add; exact rfl; exact rfl; (first | assumption | (apply w_in; simp only [inb]; omega) | exact rfl)) | (apply q_cmp; exact rfl; exact rfl; exact rfl) | (apply q_ixstr; exact rfl; exact rfl; omega; omega)))) | apply RW.nil | (refine hK _ _ ?_; clear hK; (repeat' (first | apply xs_n | apply xb_e | apply xb_n | apply xs_r | apply xb_r | apply xs_e | (apply xb_o; exact rfl) | apply xs_g | apply xb_g | fail))) | ((first | apply RW.a1 | apply RW.a0); (first | (fail))) | apply CW_seq | apply CW_block | (apply CW_region; intro K hK) | ((first | apply CW_skip | apply CW_exit); (repeat' (first | apply xs_n | apply xb_e | apply xb_n | apply xs_r | apply xb_r | apply xs_e | (apply xb_o; exact rfl) | apply xs_g | apply xb_g | fail))) | (apply CW_condT; exact rfl; first | assumption | exact rfl) | (apply CW_condF; exact rfl; first | assumption | exact rfl) | (apply CW_cond; exact rfl; all_goals (intro hc; have hq := hc; (try simp only [jA, jB, jC, jD, jE, jF, jG, jH, jI, jJ, not_and, not_or, not_true_eq_false, not_false_eq_true, false_or, or_false, true_and, and_true, forall_const] at hc); (try contradiction); (try (exfalso; omega)))) | fail)
    · (refine CW_ret ?_; (repeat' (first | apply xs_n | apply xb_e | apply xb_n | apply xs_r | apply xb_r | apply xs_e | (apply xb_o; exact rfl) | apply xs_g | apply xb_g | fail)); refine bodyS_ret (L' := []) (rs := [.tmp 2]) (by kernel_rfl) (by (repeat (apply resok_tmp; exact rfl)); exact resok_nil) (by ((repeat (first | (apply subl_cons; (focus ((iterate 9 (try (first | exact pick0 | apply pickS))); done))) | apply subl_nilown)); first | exact subl_nil | exact subl_refl)) ?_)
      refine ⟨?_, rfl⟩
      have := (let_all ⟨i, hlt⟩).1
      simp only at this
      rw [show c = ((letB i).toNat : Int) by omega, this]; rfl
    · refine ⟨_, _, _, ⟨i + 1, rfl, rfl, rfl, by omega, fun k hk => ?_⟩, by ((repeat (first | (apply subE_cons; exact rfl) | (apply subE_cons; apply look_int; exact rfl; omega))); exact subE_nil _), by ((repeat (first | (apply subl_cons; (focus ((iterate 9 (try (first | exact pick0 | apply pickS))); done))) | apply subl_nilown)); first | exact subl_nil | exact subl_refl), by omega⟩
      rcases Nat.lt_or_ge k i with h | h
      · exact h2 k h
      · obtain rfl : k = i := by omega
        omega
  · obtain rfl : i = 8 := by omega
    repeat' (first | (apply RW.q1; (first | ((first | apply q_move | apply q_asgn); exact rfl) | (apply q_add; exact rfl; exact rfl; (first | assumption | (apply w_in; simp only [inb]; omega) | exact rfl)) | (apply q_cmp; exact rfl; exact rfl; exact rfl) | (apply q_ixstr; exact rfl; exact rfl; omega; omega))) | apply RW.nil | (refine hK _ _ ?_; clear hK; (repeat' (first | apply xs_n | apply xb_e | apply xb_n | apply xs_r | apply xb_r | apply xs_e | (apply xb_o; exact rfl) | apply xs_g | apply xb_g | fail))) | ((first | apply RW.a1 | apply RW.a0); (first | (fail))) | apply CW_seq | apply CW_block | (apply CW_region; intro K hK) | ((first | apply CW_skip | apply CW_exit); (repeat' (first | apply xs_n | apply xb_e | apply xb_n | apply xs_r | apply xb_r | apply xs_e | (apply xb_o; exact rfl) | apply xs_g | apply xb_g | fail))) | (apply CW_condT; exact rfl; first | assumption | exact rfl) | (apply CW_condF; exact rfl; first | assumption | exact rfl) | (apply CW_cond; exact rfl; all_goals (intro hc; have hq := hc; (try simp only [jA, jB, jC, jD, jE, jF, jG, jH, jI, jJ, not_and, not_or, not_true_eq_false, not_false_eq_true, false_or, or_false, true_and, and_true, forall_const] at hc); (try contradiction); (try (exfalso; omega)))) | fail)
    (refine CW_ret ?_; (repeat' (first | apply xs_n | apply xb_e | apply xb_n | apply xs_r | apply xb_r | apply xs_e | (apply xb_o; exact rfl) | apply xs_g | apply xb_g | fail)); refine bodyS_ret (L' := []) (rs := [.tmp 2]) (by kernel_rfl) (by (repeat (apply resok_tmp; exact rfl)); exact resok_nil) (by ((repeat (first | (apply subl_cons; (focus ((iterate 9 (try (first | exact pick0 | apply pickS))); done))) | apply subl_nilown)); first | exact subl_nil | exact subl_refl)) ?_)
    exact ⟨by rw [let_no h2]; rfl, rfl⟩

set_option maxRecDepth 100000 in
theorem which_spec (c : Int) (H : Hp) : SC Tryd.prog 36 [.int .i32 c] H [] (fun v M => v = .int .i64 (whichN c) ∧ M = []) := by
  (refine SC_intro Tryd.func36 rfl (by kernel_rfl) (by rw [Tryd.ntmps36]; exact Nat.le_of_ble_eq_true rfl) ?_; simp only [Tryd.ntmps36, argE, Nat.reduceAdd])
  repeat' (first | (apply RW.q1; (first | ((first | apply q_move | apply q_asgn); exact rfl) | (apply q_cmp; exact rfl; exact rfl; exact rfl) | (apply q_ext; exact rfl; exact rfl))) | apply RW.nil | (refine hK _ _ ?_; clear hK; (repeat' (first | apply xs_n | apply xb_e | apply xb_n | apply xs_r | apply xb_r | apply xs_e | (apply xb_o; exact rfl) | apply xs_g | apply xb_g | fail))) | ((first | apply RW.a1 | apply RW.a0); (first | (apply gw_range; exact rfl; intro it) | (fail))) | apply CW_seq | apply CW_block | (apply CW_region; intro K hK) | ((first | apply CW_skip | apply CW_exit); (repeat' (first | apply xs_n | apply xb_e | apply xb_n | apply xs_r | apply xb_r | apply xs_e | (apply xb_o; exact rfl) | apply xs_g | apply xb_g | fail))) | (apply CW_condT; exact rfl; first | assumption | exact rfl) | (apply CW_condF; exact rfl; first | assumption | exact rfl) | (apply CW_cond; exact rfl; all_goals (intro hc; have hq := hc; (try simp only [jA, jB, jC, jD, jE, jF, jG, jH, jI, jJ, not_and, not_or, not_true_eq_false, not_false_eq_true, false_or, or_false, true_and, and_true, forall_const] at hc); (try contradiction); (try (exfalso; omega)))) | fail)
  refine CW_loop (fun m l L => ∃ (i : Nat), m = 8 - i ∧ l = [(0, true, .int .i32 c), (5, true, .pointer (some ⟨it, 0, none⟩))] ∧ L = [.obj it (.stringIter letT i)] ∧ i ≤ 8 ∧ ∀ k : Nat, k < i → c ≠ ((letB k).toNat : Int))
    ⟨_, _, _, ⟨0, rfl, rfl, rfl, by omega, fun k hk => absurd hk (Nat.not_lt_zero k)⟩, by ((repeat (first | (apply subE_cons; exact rfl) | (apply subE_cons; apply look_int; exact rfl; omega))); exact subE_nil _), by ((repeat (first | (apply subl_cons; (focus ((iterate 9 (try (first | exact pick0 | apply pickS))); done))) | apply subl_nilown)); first | exact subl_nil | exact subl_refl)⟩ ?_
  rintro m l L ⟨i, rfl, rfl, rfl, h1, h2⟩
  have hsz : letT.size = 8 := rfl
  by_cases hlt : i < 8
  · have hd := let_dec ⟨i, hlt⟩
    simp only at hd
    
    repeat' (first | (apply RW.q1; (first | ((first | apply q_move | apply q_asgn); exact rfl) | (apply q_cmp; exact rfl; exact rfl; exact rfl) | (apply q_ext; exact rfl; exact rfl))) | apply RW.nil | (refine hK _ _ ?_; clear hK; (repeat' (first | apply xs_n | apply xb_e | apply xb_n | apply xs_r | apply xb_r | apply xs_e | (apply xb_o; exact rfl) | apply xs_g | apply xb_g | fail))) | ((first | apply RW.a1 | apply RW.a0); (first | (apply gw_nxt; exact rfl; infer_instance; (intro hn; exfalso; omega); intro _; rw [hd]) | (apply gw_range; exact rfl; intro it) | (fail))) | apply CW_seq | apply CW_block | (apply CW_region; intro K hK) | ((first | apply CW_skip | apply CW_exit); (repeat' (first | apply xs_n | apply xb_e | apply xb_n | apply xs_r | apply xb_r | apply xs_e | (apply xb_o; exact rfl) | apply xs_g | apply xb_g | fail))) | (apply CW_condT; exact rfl; first | assumption | exact rfl) | (apply CW_condF; exact rfl; first | assumption | exact rfl) | (apply CW_cond; exact rfl; all_goals (intro hc; have hq := hc; (try simp only [jA, jB, jC, jD, jE, jF, jG, jH, jI, jJ, not_and, not_or, not_true_eq_false, not_false_eq_true, false_or, or_false, true_and, and_true, forall_const] at hc); (try contradiction); (try (exfalso; omega)))) | fail)
    · (refine CW_ret ?_; (repeat' (first | apply xs_n | apply xb_e | apply xb_n | apply xs_r | apply xb_r | apply xs_e | (apply xb_o; exact rfl) | apply xs_g | apply xb_g | fail)); refine bodyS_ret (L' := []) (rs := [.tmp 2]) (by kernel_rfl) (by (repeat (apply resok_tmp; exact rfl)); exact resok_nil) (by ((repeat (first | (apply subl_cons; (focus ((iterate 9 (try (first | exact pick0 | apply pickS))); done))) | apply subl_nilown)); first | exact subl_nil | exact subl_refl)) ?_)
      refine ⟨?_, rfl⟩
      have := (let_all ⟨i, hlt⟩).1
      simp only at this
      rw [show c = ((letB i).toNat : Int) by omega, this]; rfl
    · refine ⟨_, _, _, ⟨i + 1, rfl, rfl, rfl, by omega, fun k hk => ?_⟩, by ((repeat (first | (apply subE_cons; exact rfl) | (apply subE_cons; apply look_int; exact rfl; omega))); exact subE_nil _), by ((repeat (first | (apply subl_cons; (focus ((iterate 9 (try (first | exact pick0 | apply pickS))); done))) | apply subl_nilown)); first | exact subl_nil | exact subl_refl), by omega⟩
      rcases Nat.lt_or_ge k i with h | h
      · exact h2 k h
      · obtain rfl : k = i := by omega
        omega
  · obtain rfl : i = 8 := by omega
    repeat' (first | (apply RW.q1; (first | ((first | apply q_move | apply q_asgn); exact rfl) | (apply q_cmp; exact rfl; exact rfl; exact rfl) | (apply q_ext; exact rfl; exact rfl))) | apply RW.nil | (refine hK _ _ ?_; clear hK; (repeat' (first | apply xs_n | apply xb_e | apply xb_n | apply xs_r | apply xb_r | apply xs_e | (apply xb_o; exact rfl) | apply xs_g | apply xb_g | fail))) | ((first | apply RW.a1 | apply RW.a0); (first | (apply gw_nxt; exact rfl; infer_instance; rotate_left; (intro hn; exfalso; omega); intro _) | (apply gw_range; exact rfl; intro it) | (fail))) | apply CW_seq | apply CW_block | (apply CW_region; intro K hK) | ((first | apply CW_skip | apply CW_exit); (repeat' (first | apply xs_n | apply xb_e | apply xb_n | apply xs_r | apply xb_r | apply xs_e | (apply xb_o; exact rfl) | apply xs_g | apply xb_g | fail))) | (apply CW_condT; exact rfl; first | assumption | exact rfl) | (apply CW_condF; exact rfl; first | assumption | exact rfl) | (apply CW_cond; exact rfl; all_goals (intro hc; have hq := hc; (try simp only [jA, jB, jC, jD, jE, jF, jG, jH, jI, jJ, not_and, not_or, not_true_eq_false, not_false_eq_true, false_or, or_false, true_and, and_true, forall_const] at hc); (try contradiction); (try (exfalso; omega)))) | fail)
    (refine CW_ret ?_; (repeat' (first | apply xs_n | apply xb_e | apply xb_n | apply xs_r | apply xb_r | apply xs_e | (apply xb_o; exact rfl) | apply xs_g | apply xb_g | fail)); refine bodyS_ret (L' := []) (rs := [.tmp 2]) (by kernel_rfl) (by (repeat (apply resok_tmp; exact rfl)); exact resok_nil) (by ((repeat (first | (apply subl_cons; (focus ((iterate 9 (try (first | exact pick0 | apply pickS))); done))) | apply subl_nilown)); first | exact subl_nil | exact subl_refl)) ?_)
    exact ⟨by rw [let_no h2]; rfl, rfl⟩
end Go.Proofs.YtmkbjdoifjcogaaDoor.HL
