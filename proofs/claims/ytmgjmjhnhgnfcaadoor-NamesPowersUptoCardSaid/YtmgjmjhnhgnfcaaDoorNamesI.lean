/- NamesI: the laws' common test, awake: it answers true. Conditions: the text's length; the library's tables stand. -/
import Derived.Test.YtmgjmjhnhgnfcaaDoorNamesH
namespace Go.Proofs.YtmgjmjhnhgnfcaaDoor.HL
open Go
attribute [local irreducible] goFn thenS blockS bodyS CW RW DW GW QW NW SC Pick Picks SubL Rd NN ResOk SrcW subE hops hseg AW hgen HC qv
set_option linter.unusedVariables false
set_option linter.unusedSimpArgs false

/-! closed texts -/
def rnF : Nat → ByteArray → Nat → List Rn
  | 0, _, _ => []
  | n + 1, s, p => if p < s.size then ⟨(Utf8.decode s p).1, p, (Utf8.decode s p).2⟩ :: rnF n s (p + (Utf8.decode s p).2) else []
theorem rnF_eq (s : ByteArray) : ∀ (n p : Nat), s.size ≤ p + n → rnFrom s p = rnF n s p := by
  intro n
  induction n with
  | zero => intro p h; rw [rnFrom_ge (by omega)]; rfl
  | succ n ih =>
    intro p h
    rw [rnF]
    by_cases hp : p < s.size
    · rw [if_pos hp, rnFrom_lt hp, ih _ (by have := width_ge s p; omega)]
    · rw [if_neg hp, rnFrom_ge hp]
theorem rns_fuel {s : ByteArray} (n : Nat) {l : List Rn} (h : s.size ≤ n) (hl : rnF n s 0 = l) : rns s = l := by
  unfold rns; rw [rnF_eq s n 0 (by omega), hl]
def Tn (e : Nat → Nat → Bool) : Nat → Nat → Nat → Int
  | 0, _, _ => 0
  | _ + 1, 0, j => j
  | _ + 1, i + 1, 0 => ((i + 1 : Nat) : Int)
  | n + 1, i + 1, j + 1 =>
    if 1 ≤ i ∧ 1 ≤ j ∧ e i (j - 1) = true ∧ e (i - 1) j = true then min (min (min (Tn e n i (j + 1) + 1) (Tn e n (i + 1) j + 1)) (if e i j then Tn e n i j else Tn e n i j + 1)) (Tn e n (i - 1) (j - 1) + 1)
    else min (min (Tn e n i (j + 1) + 1) (Tn e n (i + 1) j + 1)) (if e i j then Tn e n i j else Tn e n i j + 1)
theorem Tn_eq (e : Nat → Nat → Bool) : ∀ (n i j : Nat), i + j < n → T e i j = Tn e n i j := by
  intro n
  induction n with
  | zero => intro i j h; omega
  | succ n ih =>
    intro i j h
    cases i with
    | zero => rw [T_0, Tn]
    | succ i =>
      cases j with
      | zero => rw [T_s0, Tn]
      | succ j =>
        rw [T_ss, Tn, ih i (j + 1) (by omega), ih (i + 1) j (by omega), ih i j (by omega), ih (i - 1) (j - 1) (by omega)]

abbrev tMu : ByteArray := { data := #[194, 181, 109] }
abbrev tPw : ByteArray := { data := #[226, 129, 187, 194, 185, 194, 178, 120] }
abbrev tA : ByteArray := { data := #[109, 101, 116, 114, 101] }
abbrev tB : ByteArray := { data := #[109, 101, 116, 101, 114] }
theorem fold_mu : foldT tMu = ({ data := #[206, 188, 109] }, 0, 0) := by
  have h : rns tMu = [⟨181, 0, 2⟩, ⟨109, 2, 1⟩] := rns_fuel 3 (by decide) (by kernel_rfl)
  have hN : wN tMu = 2 := by unfold wN; rw [h]; decide
  have hS : wS tMu = { data := #[206, 188, 109] } := by unfold wS; rw [hN, h]; kernel_rfl
  have hP : wP tMu = 3 := by unfold wP; rw [hN, h]; kernel_rfl
  unfold foldT
  rw [hS, hP]
  decide
theorem power_pw : powT tPw 0 = (-12, 7, 0) := by
  have h : rns (tPw.extract (0 : Int).toNat tPw.size) = [⟨8315, 0, 3⟩, ⟨185, 3, 2⟩, ⟨178, 5, 2⟩, ⟨120, 7, 1⟩] := rns_fuel 8 (by decide) (by kernel_rfl)
  unfold powT
  rw [if_neg (by decide), h]
  decide
theorem far_ab : farT tA tB = (1, 0) := by
  have hA : rns tA = [⟨109, 0, 1⟩, ⟨101, 1, 1⟩, ⟨116, 2, 1⟩, ⟨114, 3, 1⟩, ⟨101, 4, 1⟩] := rns_fuel 5 (by decide) (by kernel_rfl)
  have hB : rns tB = [⟨109, 0, 1⟩, ⟨101, 1, 1⟩, ⟨116, 2, 1⟩, ⟨101, 3, 1⟩, ⟨114, 4, 1⟩] := rns_fuel 5 (by decide) (by kernel_rfl)
  unfold farT runesI
  rw [if_neg (by decide), hA, hB, Tn_eq _ 11 _ _ (by decide)]
  decide +kernel

set_option maxRecDepth 100000 in
theorem awake_spec (H : Hp) (hT : TabsH H) : SC Tryd.prog 15 [] H [] (fun v M => v = .bool true ∧ M = []) := by
  (refine SC_intro Tryd.func15 rfl (by kernel_rfl) (by rw [Tryd.ntmps15]; exact Nat.le_of_ble_eq_true rfl) ?_; simp only [Tryd.ntmps15, argE, Nat.reduceAdd])
  repeat' (first | ((first | apply RW.q1 | (apply RW.qg; (first | exact gv_1 rfl rfl | exact gv_0 rfl rfl | exact gv_1g rfl rfl | exact gv_0g rfl rfl); (intro hg; have hg' := hg; (try simp only [jC, jD, jA, jB, jE, jG, jF, jH] at hg')))); (first | ((first | apply q_move | apply q_asgn); (first | exact rfl | (apply ev_g; exact rfl; first | assumption | (focus (simp_all; done))))) | (apply q_cmp; (first | exact rfl | (apply ev_g; exact rfl; first | assumption | (focus (simp_all; done)))); (first | exact rfl | (apply ev_g; exact rfl; first | assumption | (focus (simp_all; done)))); exact rfl) | (apply q_ext; (first | exact rfl | (apply ev_g; exact rfl; first | assumption | (focus (simp_all; done)))); exact rfl) | ((first | apply q_and | apply q_or); (first | exact rfl | (apply ev_g; exact rfl; first | assumption | (focus (simp_all; done)))); (first | exact rfl | exact ev_t rfl | (apply ev_p; exact rfl; intro h; first | exact h | (focus (simp_all; done)) | (simp only [jC, jD, jA, jE, jB, jG, jH] at h ⊢; omega) | (exfalso; simp only [jC, jA] at h; omega)))) | (apply q_pickT; (first | exact rfl | (apply ev_g; exact rfl; first | assumption | (focus (simp_all; done)))); assumption; (first | exact rfl | (apply ev_g; exact rfl; first | assumption | (focus (simp_all; done)))); exact ⟨_, rfl⟩) | (apply q_pickF; (first | exact rfl | (apply ev_g; exact rfl; first | assumption | (focus (simp_all; done)))); assumption; (first | exact rfl | (apply ev_g; exact rfl; first | assumption | (focus (simp_all; done)))); exact ⟨_, rfl⟩) | (apply q_pick; (first | exact rfl | (apply ev_g; exact rfl; first | assumption | (focus (simp_all; done)))); (first | exact rfl | exact ev_t rfl | (apply ev_p; exact rfl; intro h; first | exact h | (focus (simp_all; done)) | (simp only [jC, jD, jA, jE, jB, jG, jH] at h ⊢; omega) | (exfalso; simp only [jC, jA] at h; omega))); (first | exact rfl | exact ev_t rfl | (apply ev_p; exact rfl; intro h; first | exact h | (focus (simp_all; done)) | (simp only [jC, jD, jA, jE, jB, jG, jH] at h ⊢; omega) | (exfalso; simp only [jC, jA] at h; omega)))) | (apply q_scmp; (first | exact rfl | (apply ev_g; exact rfl; first | assumption | (focus (simp_all; done)))); (first | exact rfl | (apply ev_g; exact rfl; first | assumption | (focus (simp_all; done)))); exact rfl))) | apply RW.nil | (refine hK _ _ ?_; clear hK; (repeat' (first | apply xs_n | apply xb_e | apply xb_n | apply xs_r | apply xb_r | apply xs_e | (apply xb_o; exact rfl) | apply xs_g | apply xb_g | fail))) | (apply RW.c1; (first | (apply nw_call; exact rfl; exact go21; (intro G hG; exact (class_spec 37 _ (by decide) (by decide)).mono (fun v M h => h.1))))) | ((first | apply RW.a1 | apply RW.a0 | (apply RW.at; (apply gv_is; (first | exact gv_1 rfl rfl | exact gv_0 rfl rfl | exact gv_1g rfl rfl | exact gv_0g rfl rfl); first | assumption | exact rfl | (apply decide_eq_true; omega) | (apply decide_eq_false; omega) | (simp only [jK, jE, jF, jA, jB, jC, jD, jG, jH] <;> omega)))); (first | (refine gw_call rfl go17 (fun G hG => SC.mono (fold_spec tMu G (hT.ext hG.ext) (by decide)) ?_); rintro v M ⟨rfl, rfl⟩; (try dsimp only [List.nil_append, List.cons_append]); rw [fold_mu]; unfold tup3) | (refine gw_call ?_ go17 (fun G hG => SC.mono (fold_spec tMu G (hT.ext hG.ext) (by decide)) ?_); ((repeat (apply evs_c; (first | exact rfl | (apply ev_g; exact rfl; first | assumption | (focus (simp_all; done)))))); exact evs_n); rintro v M ⟨rfl, rfl⟩; (try dsimp only [List.nil_append, List.cons_append]); rw [fold_mu]; unfold tup3) | (refine gw_call rfl go26 (fun G hG => SC.mono (power_spec tPw 0 G (by decide)) ?_); rintro v M ⟨rfl, rfl⟩; (try dsimp only [List.nil_append, List.cons_append]); rw [power_pw]; unfold int3) | (refine gw_call ?_ go26 (fun G hG => SC.mono (power_spec tPw 0 G (by decide)) ?_); ((repeat (apply evs_c; (first | exact rfl | (apply ev_g; exact rfl; first | assumption | (focus (simp_all; done)))))); exact evs_n); rintro v M ⟨rfl, rfl⟩; (try dsimp only [List.nil_append, List.cons_append]); rw [power_pw]; unfold int3) | (refine gw_call rfl go13 (fun G hG => SC.mono (far_spec tA tB G (hT.ext hG.ext)) ?_); rintro v M ⟨rfl, rfl⟩; (try dsimp only [List.nil_append, List.cons_append]); rw [far_ab]) | (refine gw_call ?_ go13 (fun G hG => SC.mono (far_spec tA tB G (hT.ext hG.ext)) ?_); ((repeat (apply evs_c; (first | exact rfl | (apply ev_g; exact rfl; first | assumption | (focus (simp_all; done)))))); exact evs_n); rintro v M ⟨rfl, rfl⟩; (try dsimp only [List.nil_append, List.cons_append]); rw [far_ab]) | (fail))) | ((first | apply RW.s1 | apply RW.s0); (apply gv_is; (first | exact gv_1 rfl rfl | exact gv_0 rfl rfl | exact gv_1g rfl rfl | exact gv_0g rfl rfl); first | assumption | exact rfl | (apply decide_eq_true; omega) | (apply decide_eq_false; omega) | (simp only [jK, jE, jF, jA, jB, jC, jD, jG, jH] <;> omega))) | (apply RW.cg; (first | exact gv_1 rfl rfl | exact gv_0 rfl rfl | exact gv_1g rfl rfl | exact gv_0g rfl rfl); (intro hg; have hg' := hg; (try simp only [jC, jD, jA, jB, jE, jG, jF, jH] at hg'); first | (apply nw_call; ((repeat (apply evs_c; (first | exact rfl | (apply ev_g; exact rfl; first | assumption | (focus (simp_all; done)))))); exact evs_n); exact go21; (intro G hG; exact (class_spec 37 _ (by decide) (by decide)).mono (fun v M h => h.1))))) | apply CW_seq | apply CW_block | (apply CW_region; intro K hK) | ((first | apply CW_skip | apply CW_exit); (repeat' (first | apply xs_n | apply xb_e | apply xb_n | apply xs_r | apply xb_r | apply xs_e | (apply xb_o; exact rfl) | apply xs_g | apply xb_g | fail))) | (apply CW_condT; exact rfl; first | assumption | exact rfl) | (apply CW_condF; exact rfl; first | assumption | exact rfl) | (apply CW_cond; exact rfl; all_goals (intro hc; have hq := hc; (try simp only [jA, jB, jC, jD, jE, jF, jG, jH, jI, jJ, not_and, not_or] at hc); (try contradiction))) | fail)
  all_goals (refine CW_ret ?_; (repeat' (first | apply xs_n | apply xb_e | apply xb_n | apply xs_r | apply xb_r | apply xs_e | (apply xb_o; exact rfl) | apply xs_g | apply xb_g | fail)); refine bodyS_ret (L' := []) (rs := [.tmp 0]) (by kernel_rfl) (by (repeat (apply resok_tmp; exact rfl)); exact resok_nil) (by ((repeat (first | (apply subl_cons; (focus ((iterate 9 (try (first | exact pick0 | apply pickS))); done))) | apply subl_nilown)); first | exact subl_nil | exact subl_refl)) ?_)
  all_goals exact ⟨by kernel_rfl, rfl⟩

end Go.Proofs.YtmgjmjhnhgnfcaaDoor.HL
