/- NamesK: the document's like and Far: the same table. Conditions: the library's tables stand. -/
import Derived.Test.YtmgjmjhnhgnfcaaDoorNamesT
namespace Go.Proofs.YtmgjmjhnhgnfcaaDoor.HL
open Go
attribute [local irreducible] goFn thenS blockS bodyS CW RW DW GW QW NW SC Pick Picks SubL Rd NN ResOk SrcW subE hops hseg AW hgen HC qv
set_option linter.unusedVariables false
set_option linter.unusedSimpArgs false

theorem brk_own (s : ByteArray) (x : Rn) : (brk x = true → rI s true x = -1 - bt s x.p) ∧ (brk x = false → rI s true x = x.r) := by
  unfold rI
  constructor <;> intro h <;> simp [h]
set_option maxRecDepth 100000 in
theorem like_spec (s t : ByteArray) (x y : Rn) (hx : x.p < s.size) (hy : y.p < t.size) (H : Hp) :
    SC Tryd.prog 36 [.string s, .agg (rnV x).toArray, .string t, .agg (rnV y).toArray] H [] (fun v M => v = .bool (decide (rI s true x = rI t true y)) ∧ M = []) := by
  have hbx := bt_range s x.p
  have hby := bt_range t y.p
  have h1 := brk_own s x
  have h2 := brk_own t y
  cases ex : brk x <;> cases ey : brk y
  all_goals
    rw [ex] at h1
    rw [ey] at h2
    unfold rnV
    rw [ex, ey]
    (refine SC_intro Tryd.func36 rfl (by kernel_rfl) (by rw [Tryd.ntmps36]; exact Nat.le_of_ble_eq_true rfl) ?_; simp only [Tryd.ntmps36, argE, Nat.reduceAdd])
    repeat' (first | ((first | (first | apply RW.q1 | (apply DW.q1; exact rfl)) | ((first | apply RW.qg | (apply DW.qg; exact rfl)); (first | exact gv_1 rfl rfl | exact gv_0 rfl rfl | exact gv_1g rfl rfl | exact gv_0g rfl rfl); (intro hg; have hg' := hg; (try simp only [jC, jD, jA, jB, jE, jG, jF, jH] at hg')))); (first | ((first | apply q_move | apply q_asgn); (first | exact rfl | (apply ev_g; exact rfl; first | assumption | (focus (simp_all; done))))) | (apply q_cmp; (first | exact rfl | (apply ev_g; exact rfl; first | assumption | (focus (simp_all; done)))); (first | exact rfl | (apply ev_g; exact rfl; first | assumption | (focus (simp_all; done)))); exact rfl) | (apply q_ldb; exact rfl; (first | exact rfl | (apply ev_g; exact rfl; first | assumption | (focus (simp_all; done)))); infer_instance; exact rfl) | ((first | (apply q_ldo; exact rfl; (first | exact rfl | (apply ev_g; exact rfl; first | assumption | (focus (simp_all; done)))); infer_instance) | (apply q_ldr; exact rfl; (first | exact rfl | (apply ev_g; exact rfl; first | assumption | (focus (simp_all; done)))); assumption)); (first | exact rfl | (apply ix_map; assumption; omega) | (apply ix_set; first | omega | (simp only [List.length_map]; omega)) | (apply ix_int; first | omega | (simp only [List.length_map]; omega)) | (apply ix_elem; assumption; omega) | (apply ix_fld; assumption; omega; decide) | (apply ix_id; assumption; omega))) | (apply q_ldc; exact rfl; (first | exact rfl | (apply ev_g; exact rfl; first | assumption | (focus (simp_all; done)))); assumption) | (apply q_fdb0; (first | exact rfl | (apply ev_g; exact rfl; first | assumption | (focus (simp_all; done)))); exact rfl; infer_instance) | (apply q_fdb; (first | exact rfl | (apply ev_g; exact rfl; first | assumption | (focus (simp_all; done)))); exact rfl; infer_instance) | (apply q_fdo; (first | exact rfl | (apply ev_g; exact rfl; first | assumption | (focus (simp_all; done)))); exact rfl; infer_instance; infer_instance; omega) | (apply q_fdr; (first | exact rfl | (apply ev_g; exact rfl; first | assumption | (focus (simp_all; done)))); exact rfl; infer_instance; assumption; omega) | ((first | apply q_and | apply q_or); (first | exact rfl | (apply ev_g; exact rfl; first | assumption | (focus (simp_all; done)))); (first | exact rfl | exact ev_t rfl | (apply ev_p; exact rfl; intro h; first | exact h | (focus (simp_all; done)) | (simp only [jC, jD, jA, jE, jB, jG, jH] at h ⊢; omega) | (exfalso; simp only [jC, jA] at h; omega)))) | (apply q_pickT; (first | exact rfl | (apply ev_g; exact rfl; first | assumption | (focus (simp_all; done)))); assumption; (first | exact rfl | (apply ev_g; exact rfl; first | assumption | (focus (simp_all; done)))); exact ⟨_, rfl⟩) | (apply q_pickF; (first | exact rfl | (apply ev_g; exact rfl; first | assumption | (focus (simp_all; done)))); assumption; (first | exact rfl | (apply ev_g; exact rfl; first | assumption | (focus (simp_all; done)))); exact ⟨_, rfl⟩) | (apply q_pick; (first | exact rfl | (apply ev_g; exact rfl; first | assumption | (focus (simp_all; done)))); (first | exact rfl | exact ev_t rfl | (apply ev_p; exact rfl; intro h; first | exact h | (focus (simp_all; done)) | (simp only [jC, jD, jA, jE, jB, jG, jH] at h ⊢; omega) | (exfalso; simp only [jC, jA] at h; omega))); (first | exact rfl | exact ev_t rfl | (apply ev_p; exact rfl; intro h; first | exact h | (focus (simp_all; done)) | (simp only [jC, jD, jA, jE, jB, jG, jH] at h ⊢; omega) | (exfalso; simp only [jC, jA] at h; omega)))) | (apply q_ixstr; (first | exact rfl | (apply ev_g; exact rfl; first | assumption | (focus (simp_all; done)))); (first | exact rfl | (apply ev_g; exact rfl; first | assumption | (focus (simp_all; done)))); omega; omega) | (apply q_fdv; (first | exact rfl | (apply ev_g; exact rfl; first | assumption | (focus (simp_all; done)))); exact rfl; (first | (apply partv1; exact rfl; first | exact rfl | assumption) | (apply partvN; exact rfl; exact rfl))))) | apply RW.nil | (refine hK _ _ ?_; clear hK; (repeat' (first | apply xs_n | apply xb_e | apply xb_n | apply xs_r | apply xb_r | apply xs_e | (apply xb_o; exact rfl) | apply xs_g | apply xb_g | fail))) | ((first | apply RW.a1 | apply RW.a0 | (apply DW.a1; exact rfl) | (apply DW.a0; exact rfl) | (apply RW.at; (apply gv_is; (first | exact gv_1 rfl rfl | exact gv_0 rfl rfl | exact gv_1g rfl rfl | exact gv_0g rfl rfl); first | assumption | exact rfl | (apply decide_eq_true; omega) | (apply decide_eq_false; omega) | (simp only [jK, jE, jF, jA, jB, jC, jD, jG, jH] <;> omega))) | (apply DW.at; exact rfl; (apply gv_is; (first | exact gv_1 rfl rfl | exact gv_0 rfl rfl | exact gv_1g rfl rfl | exact gv_0g rfl rfl); first | assumption | exact rfl | (apply decide_eq_true; omega) | (apply decide_eq_false; omega) | (simp only [jK, jE, jF, jA, jB, jC, jD, jG, jH] <;> omega)))); (first | (apply gw_box; exact rfl; exact rfl; intro b) | (fail))) | ((first | apply RW.s1 | apply RW.s0 | (apply DW.sa; exact rfl)); (apply gv_is; (first | exact gv_1 rfl rfl | exact gv_0 rfl rfl | exact gv_1g rfl rfl | exact gv_0g rfl rfl); first | assumption | exact rfl | (apply decide_eq_true; omega) | (apply decide_eq_false; omega) | (simp only [jK, jE, jF, jA, jB, jC, jD, jG, jH] <;> omega))) | apply CW_seq | apply CW_block | (apply CW_region; intro K hK) | ((first | apply CW_skip | apply CW_exit); (repeat' (first | apply xs_n | apply xb_e | apply xb_n | apply xs_r | apply xb_r | apply xs_e | (apply xb_o; exact rfl) | apply xs_g | apply xb_g | fail))) | (apply CW_condT; exact rfl; first | assumption | exact rfl) | (apply CW_condF; exact rfl; first | assumption | exact rfl) | (apply CW_cond; exact rfl; all_goals (intro hc; have hq := hc; (try simp only [jA, jB, jC, jD, jE, jF, jG, jH, jI, jJ, not_and, not_or] at hc); (try contradiction))) | (refine CW_draw (id := 2) [(0, false), (1, false), (2, false), (3, false), (4, false), (5, false), (6, false), (7, false), (8, false), (9, false), (10, false), (11, false), (12, false), (13, false), (14, false), (15, false), (16, false), (17, false)] mixed (by kernel_rfl) (fun K hK => ?_)) | apply DW.nil | fail)
    all_goals (refine CW_ret ?_; (repeat' (first | apply xs_n | apply xb_e | apply xb_n | apply xs_r | apply xb_r | apply xs_e | (apply xb_o; exact rfl) | apply xs_g | apply xb_g | fail)); refine bodyS_ret (L' := []) (rs := [.tmp 8]) (by kernel_rfl) (by (repeat (apply resok_tmp; exact rfl)); exact resok_nil) (by ((repeat (first | (apply subl_cons; (focus ((iterate 9 (try (first | exact pick0 | apply pickS))); done))) | apply subl_nilown)); first | exact subl_nil | exact subl_refl)) ?_)
    all_goals refine ⟨ret_bool ?_, rfl⟩
    all_goals first
      | (rw [h1.1 rfl, h2.1 rfl])
      | (rw [h1.1 rfl, h2.2 rfl])
      | (rw [h1.2 rfl, h2.1 rfl])
      | (rw [h1.2 rfl, h2.2 rfl])
    all_goals simp
    all_goals omega

theorem rns_get (s : ByteArray) : ∀ {n : Nat} {x : Rn}, (rns s)[n]? = some x → x.p < s.size ∧ (runesI s).getD n 0 = rI s true x := by
  intro n x h
  refine ⟨(rn_mem h).1, ?_⟩
  unfold runesI
  rw [List.getD_eq_getElem?_getD, List.getElem?_map, h]; rfl
theorem get_if {α : Type} (l : List α) (x0 : α) {n : Nat} {p : Prop} (h : p → n < l.length) : ∃ x, p → l[n]? = some x := by
  by_cases hp : p
  · exact ⟨_, fun _ => List.getElem?_eq_getElem (h hp)⟩
  · exact ⟨x0, fun h => absurd h hp⟩
end Go.Proofs.YtmgjmjhnhgnfcaaDoor.HL
