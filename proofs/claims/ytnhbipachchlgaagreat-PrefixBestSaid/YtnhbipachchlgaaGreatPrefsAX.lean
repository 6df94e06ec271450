/- PrefsA: PfxA: the exponents of the prefixes. No condition. PfxB: the prefixes, as a table; their factors. No condition. PfxC: All. No condition. PfxE0: prefixes compared. No condition. PfxG: a prefix found by its name or symbol: plain laws. No condition. PfxH: symbols, named, symbol, Find. No condition. PfxJ: the field of a row; known. No condition. -/
import Derived.Test.YtnhbipachchlgaaGreatEngX
import Derived.Test.YtnhbipachchlgaaGreatPartsBX
import Derived.Test.YtnhbipachchlgaaGreatHLnX
namespace Go.Proofs.YtnhbipachchlgaaGreat.HL
open Go
attribute [local irreducible] goFn thenS blockS bodyS CW RW DW GW QW NW SC Pick Picks SubL Rd NN ResOk SrcW subE hops hseg AW hgen HC qv bldv
set_option maxHeartbeats 8000000
set_option maxRecDepth 100000
set_option linter.unusedVariables false
set_option linter.unusedSimpArgs false

theorem m_deca (H : Hp) : SC Tryz.prog 32 [] H [] (fun v M => v = .int .i64 (1) ∧ M = []) := by
  (refine SC_intro Tryz.func32 rfl (by kernel_rfl) (by rw [Tryz.ntmps32]; exact Nat.le_of_ble_eq_true rfl) ?_; simp only [Tryz.ntmps32, argE, Nat.reduceAdd])
  repeat' (first | (apply RW.q1; exact qt) | refine xsg cts ?_ | (apply CW_condT; exact rfl; exact ar) | (apply CW_condF; exact rfl; exact ar) | (refine hK _ _ ?_; clear hK; refine xsg xsl ?_) | ((first | apply RW.a1 | apply RW.a0); (first | (apply gw_asg; exact rfl) | (fail))) | (apply CW_region; intro K hK) | (apply CW_condX; exact rfl; exact tst; exact tst; all_goals (intro hq hc; try exact nx)))
  (refine CW_ret ?_; refine xsg xsl ?_; refine bR [.tmp 0] [] ?_)
  exact ⟨ret_i64 (by decide), rfl⟩
theorem m_hecto (H : Hp) : SC Tryz.prog 33 [] H [] (fun v M => v = .int .i64 (2) ∧ M = []) := by
  (refine SC_intro Tryz.func33 rfl (by kernel_rfl) (by rw [Tryz.ntmps33]; exact Nat.le_of_ble_eq_true rfl) ?_; simp only [Tryz.ntmps33, argE, Nat.reduceAdd])
  repeat' (first | (apply RW.q1; exact qt) | refine xsg cts ?_ | (apply CW_condT; exact rfl; exact ar) | (apply CW_condF; exact rfl; exact ar) | (refine hK _ _ ?_; clear hK; refine xsg xsl ?_) | (apply RW.c1; (first | (apply nw_call (f := 32); exact rfl; exact go32; (intro G hG; exact (m_deca _).mono (fun v M h => h.1))))) | ((first | apply RW.a1 | apply RW.a0); (first | (apply gw_asg; exact rfl) | (fail))) | (apply CW_region; intro K hK) | (apply CW_condX; exact rfl; exact tst; exact tst; all_goals (intro hq hc; try exact nx)))
  (refine CW_ret ?_; refine xsg xsl ?_; refine bR [.tmp 0] [] ?_)
  exact ⟨ret_i64 (by decide), rfl⟩
theorem m_kilo (H : Hp) : SC Tryz.prog 34 [] H [] (fun v M => v = .int .i64 (3) ∧ M = []) := by
  (refine SC_intro Tryz.func34 rfl (by kernel_rfl) (by rw [Tryz.ntmps34]; exact Nat.le_of_ble_eq_true rfl) ?_; simp only [Tryz.ntmps34, argE, Nat.reduceAdd])
  repeat' (first | (apply RW.q1; exact qt) | refine xsg cts ?_ | (apply CW_condT; exact rfl; exact ar) | (apply CW_condF; exact rfl; exact ar) | (refine hK _ _ ?_; clear hK; refine xsg xsl ?_) | (apply RW.c1; (first | (apply nw_call (f := 32); exact rfl; exact go32; (intro G hG; exact (m_deca _).mono (fun v M h => h.1))) | (apply nw_call (f := 33); exact rfl; exact go33; (intro G hG; exact (m_hecto _).mono (fun v M h => h.1))))) | ((first | apply RW.a1 | apply RW.a0); (first | (apply gw_asg; exact rfl) | (fail))) | (apply CW_region; intro K hK) | (apply CW_condX; exact rfl; exact tst; exact tst; all_goals (intro hq hc; try exact nx)))
  (refine CW_ret ?_; refine xsg xsl ?_; refine bR [.tmp 0] [] ?_)
  exact ⟨ret_i64 (by decide), rfl⟩
theorem m_mega (H : Hp) : SC Tryz.prog 35 [] H [] (fun v M => v = .int .i64 (6) ∧ M = []) := by
  (refine SC_intro Tryz.func35 rfl (by kernel_rfl) (by rw [Tryz.ntmps35]; exact Nat.le_of_ble_eq_true rfl) ?_; simp only [Tryz.ntmps35, argE, Nat.reduceAdd])
  repeat' (first | (apply RW.q1; exact qt) | refine xsg cts ?_ | (apply CW_condT; exact rfl; exact ar) | (apply CW_condF; exact rfl; exact ar) | (refine hK _ _ ?_; clear hK; refine xsg xsl ?_) | (apply RW.c1; (first | (apply nw_call (f := 34); exact rfl; exact go34; (intro G hG; exact (m_kilo _).mono (fun v M h => h.1))))) | ((first | apply RW.a1 | apply RW.a0); (first | (apply gw_asg; exact rfl) | (fail))) | (apply CW_region; intro K hK) | (apply CW_condX; exact rfl; exact tst; exact tst; all_goals (intro hq hc; try exact nx)))
  (refine CW_ret ?_; refine xsg xsl ?_; refine bR [.tmp 0] [] ?_)
  exact ⟨ret_i64 (by decide), rfl⟩
theorem m_giga (H : Hp) : SC Tryz.prog 36 [] H [] (fun v M => v = .int .i64 (9) ∧ M = []) := by
  (refine SC_intro Tryz.func36 rfl (by kernel_rfl) (by rw [Tryz.ntmps36]; exact Nat.le_of_ble_eq_true rfl) ?_; simp only [Tryz.ntmps36, argE, Nat.reduceAdd])
  repeat' (first | (apply RW.q1; exact qt) | refine xsg cts ?_ | (apply CW_condT; exact rfl; exact ar) | (apply CW_condF; exact rfl; exact ar) | (refine hK _ _ ?_; clear hK; refine xsg xsl ?_) | (apply RW.c1; (first | (apply nw_call (f := 34); exact rfl; exact go34; (intro G hG; exact (m_kilo _).mono (fun v M h => h.1))) | (apply nw_call (f := 35); exact rfl; exact go35; (intro G hG; exact (m_mega _).mono (fun v M h => h.1))))) | ((first | apply RW.a1 | apply RW.a0); (first | (apply gw_asg; exact rfl) | (fail))) | (apply CW_region; intro K hK) | (apply CW_condX; exact rfl; exact tst; exact tst; all_goals (intro hq hc; try exact nx)))
  (refine CW_ret ?_; refine xsg xsl ?_; refine bR [.tmp 0] [] ?_)
  exact ⟨ret_i64 (by decide), rfl⟩
theorem m_tera (H : Hp) : SC Tryz.prog 37 [] H [] (fun v M => v = .int .i64 (12) ∧ M = []) := by
  (refine SC_intro Tryz.func37 rfl (by kernel_rfl) (by rw [Tryz.ntmps37]; exact Nat.le_of_ble_eq_true rfl) ?_; simp only [Tryz.ntmps37, argE, Nat.reduceAdd])
  repeat' (first | (apply RW.q1; exact qt) | refine xsg cts ?_ | (apply CW_condT; exact rfl; exact ar) | (apply CW_condF; exact rfl; exact ar) | (refine hK _ _ ?_; clear hK; refine xsg xsl ?_) | (apply RW.c1; (first | (apply nw_call (f := 36); exact rfl; exact go36; (intro G hG; exact (m_giga _).mono (fun v M h => h.1))) | (apply nw_call (f := 34); exact rfl; exact go34; (intro G hG; exact (m_kilo _).mono (fun v M h => h.1))))) | ((first | apply RW.a1 | apply RW.a0); (first | (apply gw_asg; exact rfl) | (fail))) | (apply CW_region; intro K hK) | (apply CW_condX; exact rfl; exact tst; exact tst; all_goals (intro hq hc; try exact nx)))
  (refine CW_ret ?_; refine xsg xsl ?_; refine bR [.tmp 0] [] ?_)
  exact ⟨ret_i64 (by decide), rfl⟩
theorem m_peta (H : Hp) : SC Tryz.prog 38 [] H [] (fun v M => v = .int .i64 (15) ∧ M = []) := by
  (refine SC_intro Tryz.func38 rfl (by kernel_rfl) (by rw [Tryz.ntmps38]; exact Nat.le_of_ble_eq_true rfl) ?_; simp only [Tryz.ntmps38, argE, Nat.reduceAdd])
  repeat' (first | (apply RW.q1; exact qt) | refine xsg cts ?_ | (apply CW_condT; exact rfl; exact ar) | (apply CW_condF; exact rfl; exact ar) | (refine hK _ _ ?_; clear hK; refine xsg xsl ?_) | (apply RW.c1; (first | (apply nw_call (f := 34); exact rfl; exact go34; (intro G hG; exact (m_kilo _).mono (fun v M h => h.1))) | (apply nw_call (f := 37); exact rfl; exact go37; (intro G hG; exact (m_tera _).mono (fun v M h => h.1))))) | ((first | apply RW.a1 | apply RW.a0); (first | (apply gw_asg; exact rfl) | (fail))) | (apply CW_region; intro K hK) | (apply CW_condX; exact rfl; exact tst; exact tst; all_goals (intro hq hc; try exact nx)))
  (refine CW_ret ?_; refine xsg xsl ?_; refine bR [.tmp 0] [] ?_)
  exact ⟨ret_i64 (by decide), rfl⟩
theorem m_exa (H : Hp) : SC Tryz.prog 39 [] H [] (fun v M => v = .int .i64 (18) ∧ M = []) := by
  (refine SC_intro Tryz.func39 rfl (by kernel_rfl) (by rw [Tryz.ntmps39]; exact Nat.le_of_ble_eq_true rfl) ?_; simp only [Tryz.ntmps39, argE, Nat.reduceAdd])
  repeat' (first | (apply RW.q1; exact qt) | refine xsg cts ?_ | (apply CW_condT; exact rfl; exact ar) | (apply CW_condF; exact rfl; exact ar) | (refine hK _ _ ?_; clear hK; refine xsg xsl ?_) | (apply RW.c1; (first | (apply nw_call (f := 34); exact rfl; exact go34; (intro G hG; exact (m_kilo _).mono (fun v M h => h.1))) | (apply nw_call (f := 38); exact rfl; exact go38; (intro G hG; exact (m_peta _).mono (fun v M h => h.1))))) | ((first | apply RW.a1 | apply RW.a0); (first | (apply gw_asg; exact rfl) | (fail))) | (apply CW_region; intro K hK) | (apply CW_condX; exact rfl; exact tst; exact tst; all_goals (intro hq hc; try exact nx)))
  (refine CW_ret ?_; refine xsg xsl ?_; refine bR [.tmp 0] [] ?_)
  exact ⟨ret_i64 (by decide), rfl⟩
theorem m_zetta (H : Hp) : SC Tryz.prog 40 [] H [] (fun v M => v = .int .i64 (21) ∧ M = []) := by
  (refine SC_intro Tryz.func40 rfl (by kernel_rfl) (by rw [Tryz.ntmps40]; exact Nat.le_of_ble_eq_true rfl) ?_; simp only [Tryz.ntmps40, argE, Nat.reduceAdd])
  repeat' (first | (apply RW.q1; exact qt) | refine xsg cts ?_ | (apply CW_condT; exact rfl; exact ar) | (apply CW_condF; exact rfl; exact ar) | (refine hK _ _ ?_; clear hK; refine xsg xsl ?_) | (apply RW.c1; (first | (apply nw_call (f := 39); exact rfl; exact go39; (intro G hG; exact (m_exa _).mono (fun v M h => h.1))) | (apply nw_call (f := 34); exact rfl; exact go34; (intro G hG; exact (m_kilo _).mono (fun v M h => h.1))))) | ((first | apply RW.a1 | apply RW.a0); (first | (apply gw_asg; exact rfl) | (fail))) | (apply CW_region; intro K hK) | (apply CW_condX; exact rfl; exact tst; exact tst; all_goals (intro hq hc; try exact nx)))
  (refine CW_ret ?_; refine xsg xsl ?_; refine bR [.tmp 0] [] ?_)
  exact ⟨ret_i64 (by decide), rfl⟩
theorem m_yotta (H : Hp) : SC Tryz.prog 41 [] H [] (fun v M => v = .int .i64 (24) ∧ M = []) := by
  (refine SC_intro Tryz.func41 rfl (by kernel_rfl) (by rw [Tryz.ntmps41]; exact Nat.le_of_ble_eq_true rfl) ?_; simp only [Tryz.ntmps41, argE, Nat.reduceAdd])
  repeat' (first | (apply RW.q1; exact qt) | refine xsg cts ?_ | (apply CW_condT; exact rfl; exact ar) | (apply CW_condF; exact rfl; exact ar) | (refine hK _ _ ?_; clear hK; refine xsg xsl ?_) | (apply RW.c1; (first | (apply nw_call (f := 34); exact rfl; exact go34; (intro G hG; exact (m_kilo _).mono (fun v M h => h.1))) | (apply nw_call (f := 40); exact rfl; exact go40; (intro G hG; exact (m_zetta _).mono (fun v M h => h.1))))) | ((first | apply RW.a1 | apply RW.a0); (first | (apply gw_asg; exact rfl) | (fail))) | (apply CW_region; intro K hK) | (apply CW_condX; exact rfl; exact tst; exact tst; all_goals (intro hq hc; try exact nx)))
  (refine CW_ret ?_; refine xsg xsl ?_; refine bR [.tmp 0] [] ?_)
  exact ⟨ret_i64 (by decide), rfl⟩
theorem m_ronna (H : Hp) : SC Tryz.prog 42 [] H [] (fun v M => v = .int .i64 (27) ∧ M = []) := by
  (refine SC_intro Tryz.func42 rfl (by kernel_rfl) (by rw [Tryz.ntmps42]; exact Nat.le_of_ble_eq_true rfl) ?_; simp only [Tryz.ntmps42, argE, Nat.reduceAdd])
  repeat' (first | (apply RW.q1; exact qt) | refine xsg cts ?_ | (apply CW_condT; exact rfl; exact ar) | (apply CW_condF; exact rfl; exact ar) | (refine hK _ _ ?_; clear hK; refine xsg xsl ?_) | (apply RW.c1; (first | (apply nw_call (f := 34); exact rfl; exact go34; (intro G hG; exact (m_kilo _).mono (fun v M h => h.1))) | (apply nw_call (f := 41); exact rfl; exact go41; (intro G hG; exact (m_yotta _).mono (fun v M h => h.1))))) | ((first | apply RW.a1 | apply RW.a0); (first | (apply gw_asg; exact rfl) | (fail))) | (apply CW_region; intro K hK) | (apply CW_condX; exact rfl; exact tst; exact tst; all_goals (intro hq hc; try exact nx)))
  (refine CW_ret ?_; refine xsg xsl ?_; refine bR [.tmp 0] [] ?_)
  exact ⟨ret_i64 (by decide), rfl⟩
theorem m_quetta (H : Hp) : SC Tryz.prog 43 [] H [] (fun v M => v = .int .i64 (30) ∧ M = []) := by
  (refine SC_intro Tryz.func43 rfl (by kernel_rfl) (by rw [Tryz.ntmps43]; exact Nat.le_of_ble_eq_true rfl) ?_; simp only [Tryz.ntmps43, argE, Nat.reduceAdd])
  repeat' (first | (apply RW.q1; exact qt) | refine xsg cts ?_ | (apply CW_condT; exact rfl; exact ar) | (apply CW_condF; exact rfl; exact ar) | (refine hK _ _ ?_; clear hK; refine xsg xsl ?_) | (apply RW.c1; (first | (apply nw_call (f := 34); exact rfl; exact go34; (intro G hG; exact (m_kilo _).mono (fun v M h => h.1))) | (apply nw_call (f := 42); exact rfl; exact go42; (intro G hG; exact (m_ronna _).mono (fun v M h => h.1))))) | ((first | apply RW.a1 | apply RW.a0); (first | (apply gw_asg; exact rfl) | (fail))) | (apply CW_region; intro K hK) | (apply CW_condX; exact rfl; exact tst; exact tst; all_goals (intro hq hc; try exact nx)))
  (refine CW_ret ?_; refine xsg xsl ?_; refine bR [.tmp 0] [] ?_)
  exact ⟨ret_i64 (by decide), rfl⟩
theorem m_deci (H : Hp) : SC Tryz.prog 44 [] H [] (fun v M => v = .int .i64 (-1) ∧ M = []) := by
  (refine SC_intro Tryz.func44 rfl (by kernel_rfl) (by rw [Tryz.ntmps44]; exact Nat.le_of_ble_eq_true rfl) ?_; simp only [Tryz.ntmps44, argE, Nat.reduceAdd])
  repeat' (first | (apply RW.q1; exact qt) | refine xsg cts ?_ | (apply CW_condT; exact rfl; exact ar) | (apply CW_condF; exact rfl; exact ar) | (refine hK _ _ ?_; clear hK; refine xsg xsl ?_) | (apply RW.c1; (first | (apply nw_call (f := 32); exact rfl; exact go32; (intro G hG; exact (m_deca _).mono (fun v M h => h.1))))) | ((first | apply RW.a1 | apply RW.a0); (first | (apply gw_asg; exact rfl) | (fail))) | (apply CW_region; intro K hK) | (apply CW_condX; exact rfl; exact tst; exact tst; all_goals (intro hq hc; try exact nx)))
  (refine CW_ret ?_; refine xsg xsl ?_; refine bR [.tmp 0] [] ?_)
  exact ⟨ret_i64 (by decide), rfl⟩
theorem m_centi (H : Hp) : SC Tryz.prog 45 [] H [] (fun v M => v = .int .i64 (-2) ∧ M = []) := by
  (refine SC_intro Tryz.func45 rfl (by kernel_rfl) (by rw [Tryz.ntmps45]; exact Nat.le_of_ble_eq_true rfl) ?_; simp only [Tryz.ntmps45, argE, Nat.reduceAdd])
  repeat' (first | (apply RW.q1; exact qt) | refine xsg cts ?_ | (apply CW_condT; exact rfl; exact ar) | (apply CW_condF; exact rfl; exact ar) | (refine hK _ _ ?_; clear hK; refine xsg xsl ?_) | (apply RW.c1; (first | (apply nw_call (f := 33); exact rfl; exact go33; (intro G hG; exact (m_hecto _).mono (fun v M h => h.1))))) | ((first | apply RW.a1 | apply RW.a0); (first | (apply gw_asg; exact rfl) | (fail))) | (apply CW_region; intro K hK) | (apply CW_condX; exact rfl; exact tst; exact tst; all_goals (intro hq hc; try exact nx)))
  (refine CW_ret ?_; refine xsg xsl ?_; refine bR [.tmp 0] [] ?_)
  exact ⟨ret_i64 (by decide), rfl⟩
theorem m_milli (H : Hp) : SC Tryz.prog 46 [] H [] (fun v M => v = .int .i64 (-3) ∧ M = []) := by
  (refine SC_intro Tryz.func46 rfl (by kernel_rfl) (by rw [Tryz.ntmps46]; exact Nat.le_of_ble_eq_true rfl) ?_; simp only [Tryz.ntmps46, argE, Nat.reduceAdd])
  repeat' (first | (apply RW.q1; exact qt) | refine xsg cts ?_ | (apply CW_condT; exact rfl; exact ar) | (apply CW_condF; exact rfl; exact ar) | (refine hK _ _ ?_; clear hK; refine xsg xsl ?_) | (apply RW.c1; (first | (apply nw_call (f := 34); exact rfl; exact go34; (intro G hG; exact (m_kilo _).mono (fun v M h => h.1))))) | ((first | apply RW.a1 | apply RW.a0); (first | (apply gw_asg; exact rfl) | (fail))) | (apply CW_region; intro K hK) | (apply CW_condX; exact rfl; exact tst; exact tst; all_goals (intro hq hc; try exact nx)))
  (refine CW_ret ?_; refine xsg xsl ?_; refine bR [.tmp 0] [] ?_)
  exact ⟨ret_i64 (by decide), rfl⟩
theorem m_micro (H : Hp) : SC Tryz.prog 47 [] H [] (fun v M => v = .int .i64 (-6) ∧ M = []) := by
  (refine SC_intro Tryz.func47 rfl (by kernel_rfl) (by rw [Tryz.ntmps47]; exact Nat.le_of_ble_eq_true rfl) ?_; simp only [Tryz.ntmps47, argE, Nat.reduceAdd])
  repeat' (first | (apply RW.q1; exact qt) | refine xsg cts ?_ | (apply CW_condT; exact rfl; exact ar) | (apply CW_condF; exact rfl; exact ar) | (refine hK _ _ ?_; clear hK; refine xsg xsl ?_) | (apply RW.c1; (first | (apply nw_call (f := 35); exact rfl; exact go35; (intro G hG; exact (m_mega _).mono (fun v M h => h.1))))) | ((first | apply RW.a1 | apply RW.a0); (first | (apply gw_asg; exact rfl) | (fail))) | (apply CW_region; intro K hK) | (apply CW_condX; exact rfl; exact tst; exact tst; all_goals (intro hq hc; try exact nx)))
  (refine CW_ret ?_; refine xsg xsl ?_; refine bR [.tmp 0] [] ?_)
  exact ⟨ret_i64 (by decide), rfl⟩
theorem m_nano (H : Hp) : SC Tryz.prog 48 [] H [] (fun v M => v = .int .i64 (-9) ∧ M = []) := by
  (refine SC_intro Tryz.func48 rfl (by kernel_rfl) (by rw [Tryz.ntmps48]; exact Nat.le_of_ble_eq_true rfl) ?_; simp only [Tryz.ntmps48, argE, Nat.reduceAdd])
  repeat' (first | (apply RW.q1; exact qt) | refine xsg cts ?_ | (apply CW_condT; exact rfl; exact ar) | (apply CW_condF; exact rfl; exact ar) | (refine hK _ _ ?_; clear hK; refine xsg xsl ?_) | (apply RW.c1; (first | (apply nw_call (f := 36); exact rfl; exact go36; (intro G hG; exact (m_giga _).mono (fun v M h => h.1))))) | ((first | apply RW.a1 | apply RW.a0); (first | (apply gw_asg; exact rfl) | (fail))) | (apply CW_region; intro K hK) | (apply CW_condX; exact rfl; exact tst; exact tst; all_goals (intro hq hc; try exact nx)))
  (refine CW_ret ?_; refine xsg xsl ?_; refine bR [.tmp 0] [] ?_)
  exact ⟨ret_i64 (by decide), rfl⟩
theorem m_pico (H : Hp) : SC Tryz.prog 49 [] H [] (fun v M => v = .int .i64 (-12) ∧ M = []) := by
  (refine SC_intro Tryz.func49 rfl (by kernel_rfl) (by rw [Tryz.ntmps49]; exact Nat.le_of_ble_eq_true rfl) ?_; simp only [Tryz.ntmps49, argE, Nat.reduceAdd])
  repeat' (first | (apply RW.q1; exact qt) | refine xsg cts ?_ | (apply CW_condT; exact rfl; exact ar) | (apply CW_condF; exact rfl; exact ar) | (refine hK _ _ ?_; clear hK; refine xsg xsl ?_) | (apply RW.c1; (first | (apply nw_call (f := 37); exact rfl; exact go37; (intro G hG; exact (m_tera _).mono (fun v M h => h.1))))) | ((first | apply RW.a1 | apply RW.a0); (first | (apply gw_asg; exact rfl) | (fail))) | (apply CW_region; intro K hK) | (apply CW_condX; exact rfl; exact tst; exact tst; all_goals (intro hq hc; try exact nx)))
  (refine CW_ret ?_; refine xsg xsl ?_; refine bR [.tmp 0] [] ?_)
  exact ⟨ret_i64 (by decide), rfl⟩
theorem m_femto (H : Hp) : SC Tryz.prog 50 [] H [] (fun v M => v = .int .i64 (-15) ∧ M = []) := by
  (refine SC_intro Tryz.func50 rfl (by kernel_rfl) (by rw [Tryz.ntmps50]; exact Nat.le_of_ble_eq_true rfl) ?_; simp only [Tryz.ntmps50, argE, Nat.reduceAdd])
  repeat' (first | (apply RW.q1; exact qt) | refine xsg cts ?_ | (apply CW_condT; exact rfl; exact ar) | (apply CW_condF; exact rfl; exact ar) | (refine hK _ _ ?_; clear hK; refine xsg xsl ?_) | (apply RW.c1; (first | (apply nw_call (f := 38); exact rfl; exact go38; (intro G hG; exact (m_peta _).mono (fun v M h => h.1))))) | ((first | apply RW.a1 | apply RW.a0); (first | (apply gw_asg; exact rfl) | (fail))) | (apply CW_region; intro K hK) | (apply CW_condX; exact rfl; exact tst; exact tst; all_goals (intro hq hc; try exact nx)))
  (refine CW_ret ?_; refine xsg xsl ?_; refine bR [.tmp 0] [] ?_)
  exact ⟨ret_i64 (by decide), rfl⟩
theorem m_atto (H : Hp) : SC Tryz.prog 51 [] H [] (fun v M => v = .int .i64 (-18) ∧ M = []) := by
  (refine SC_intro Tryz.func51 rfl (by kernel_rfl) (by rw [Tryz.ntmps51]; exact Nat.le_of_ble_eq_true rfl) ?_; simp only [Tryz.ntmps51, argE, Nat.reduceAdd])
  repeat' (first | (apply RW.q1; exact qt) | refine xsg cts ?_ | (apply CW_condT; exact rfl; exact ar) | (apply CW_condF; exact rfl; exact ar) | (refine hK _ _ ?_; clear hK; refine xsg xsl ?_) | (apply RW.c1; (first | (apply nw_call (f := 39); exact rfl; exact go39; (intro G hG; exact (m_exa _).mono (fun v M h => h.1))))) | ((first | apply RW.a1 | apply RW.a0); (first | (apply gw_asg; exact rfl) | (fail))) | (apply CW_region; intro K hK) | (apply CW_condX; exact rfl; exact tst; exact tst; all_goals (intro hq hc; try exact nx)))
  (refine CW_ret ?_; refine xsg xsl ?_; refine bR [.tmp 0] [] ?_)
  exact ⟨ret_i64 (by decide), rfl⟩
theorem m_zepto (H : Hp) : SC Tryz.prog 52 [] H [] (fun v M => v = .int .i64 (-21) ∧ M = []) := by
  (refine SC_intro Tryz.func52 rfl (by kernel_rfl) (by rw [Tryz.ntmps52]; exact Nat.le_of_ble_eq_true rfl) ?_; simp only [Tryz.ntmps52, argE, Nat.reduceAdd])
  repeat' (first | (apply RW.q1; exact qt) | refine xsg cts ?_ | (apply CW_condT; exact rfl; exact ar) | (apply CW_condF; exact rfl; exact ar) | (refine hK _ _ ?_; clear hK; refine xsg xsl ?_) | (apply RW.c1; (first | (apply nw_call (f := 40); exact rfl; exact go40; (intro G hG; exact (m_zetta _).mono (fun v M h => h.1))))) | ((first | apply RW.a1 | apply RW.a0); (first | (apply gw_asg; exact rfl) | (fail))) | (apply CW_region; intro K hK) | (apply CW_condX; exact rfl; exact tst; exact tst; all_goals (intro hq hc; try exact nx)))
  (refine CW_ret ?_; refine xsg xsl ?_; refine bR [.tmp 0] [] ?_)
  exact ⟨ret_i64 (by decide), rfl⟩
theorem m_yocto (H : Hp) : SC Tryz.prog 53 [] H [] (fun v M => v = .int .i64 (-24) ∧ M = []) := by
  (refine SC_intro Tryz.func53 rfl (by kernel_rfl) (by rw [Tryz.ntmps53]; exact Nat.le_of_ble_eq_true rfl) ?_; simp only [Tryz.ntmps53, argE, Nat.reduceAdd])
  repeat' (first | (apply RW.q1; exact qt) | refine xsg cts ?_ | (apply CW_condT; exact rfl; exact ar) | (apply CW_condF; exact rfl; exact ar) | (refine hK _ _ ?_; clear hK; refine xsg xsl ?_) | (apply RW.c1; (first | (apply nw_call (f := 41); exact rfl; exact go41; (intro G hG; exact (m_yotta _).mono (fun v M h => h.1))))) | ((first | apply RW.a1 | apply RW.a0); (first | (apply gw_asg; exact rfl) | (fail))) | (apply CW_region; intro K hK) | (apply CW_condX; exact rfl; exact tst; exact tst; all_goals (intro hq hc; try exact nx)))
  (refine CW_ret ?_; refine xsg xsl ?_; refine bR [.tmp 0] [] ?_)
  exact ⟨ret_i64 (by decide), rfl⟩
theorem m_ronto (H : Hp) : SC Tryz.prog 54 [] H [] (fun v M => v = .int .i64 (-27) ∧ M = []) := by
  (refine SC_intro Tryz.func54 rfl (by kernel_rfl) (by rw [Tryz.ntmps54]; exact Nat.le_of_ble_eq_true rfl) ?_; simp only [Tryz.ntmps54, argE, Nat.reduceAdd])
  repeat' (first | (apply RW.q1; exact qt) | refine xsg cts ?_ | (apply CW_condT; exact rfl; exact ar) | (apply CW_condF; exact rfl; exact ar) | (refine hK _ _ ?_; clear hK; refine xsg xsl ?_) | (apply RW.c1; (first | (apply nw_call (f := 42); exact rfl; exact go42; (intro G hG; exact (m_ronna _).mono (fun v M h => h.1))))) | ((first | apply RW.a1 | apply RW.a0); (first | (apply gw_asg; exact rfl) | (fail))) | (apply CW_region; intro K hK) | (apply CW_condX; exact rfl; exact tst; exact tst; all_goals (intro hq hc; try exact nx)))
  (refine CW_ret ?_; refine xsg xsl ?_; refine bR [.tmp 0] [] ?_)
  exact ⟨ret_i64 (by decide), rfl⟩
theorem m_quecto (H : Hp) : SC Tryz.prog 55 [] H [] (fun v M => v = .int .i64 (-30) ∧ M = []) := by
  (refine SC_intro Tryz.func55 rfl (by kernel_rfl) (by rw [Tryz.ntmps55]; exact Nat.le_of_ble_eq_true rfl) ?_; simp only [Tryz.ntmps55, argE, Nat.reduceAdd])
  repeat' (first | (apply RW.q1; exact qt) | refine xsg cts ?_ | (apply CW_condT; exact rfl; exact ar) | (apply CW_condF; exact rfl; exact ar) | (refine hK _ _ ?_; clear hK; refine xsg xsl ?_) | (apply RW.c1; (first | (apply nw_call (f := 43); exact rfl; exact go43; (intro G hG; exact (m_quetta _).mono (fun v M h => h.1))))) | ((first | apply RW.a1 | apply RW.a0); (first | (apply gw_asg; exact rfl) | (fail))) | (apply CW_region; intro K hK) | (apply CW_condX; exact rfl; exact tst; exact tst; all_goals (intro hq hc; try exact nx)))
  (refine CW_ret ?_; refine xsg xsl ?_; refine bR [.tmp 0] [] ?_)
  exact ⟨ret_i64 (by decide), rfl⟩
theorem m_kibi (H : Hp) : SC Tryz.prog 56 [] H [] (fun v M => v = .int .i64 (1) ∧ M = []) := by
  (refine SC_intro Tryz.func56 rfl (by kernel_rfl) (by rw [Tryz.ntmps56]; exact Nat.le_of_ble_eq_true rfl) ?_; simp only [Tryz.ntmps56, argE, Nat.reduceAdd])
  repeat' (first | (apply RW.q1; exact qt) | refine xsg cts ?_ | (apply CW_condT; exact rfl; exact ar) | (apply CW_condF; exact rfl; exact ar) | (refine hK _ _ ?_; clear hK; refine xsg xsl ?_) | ((first | apply RW.a1 | apply RW.a0); (first | (apply gw_asg; exact rfl) | (fail))) | (apply CW_region; intro K hK) | (apply CW_condX; exact rfl; exact tst; exact tst; all_goals (intro hq hc; try exact nx)))
  (refine CW_ret ?_; refine xsg xsl ?_; refine bR [.tmp 0] [] ?_)
  exact ⟨ret_i64 (by decide), rfl⟩
theorem m_mebi (H : Hp) : SC Tryz.prog 57 [] H [] (fun v M => v = .int .i64 (2) ∧ M = []) := by
  (refine SC_intro Tryz.func57 rfl (by kernel_rfl) (by rw [Tryz.ntmps57]; exact Nat.le_of_ble_eq_true rfl) ?_; simp only [Tryz.ntmps57, argE, Nat.reduceAdd])
  repeat' (first | (apply RW.q1; exact qt) | refine xsg cts ?_ | (apply CW_condT; exact rfl; exact ar) | (apply CW_condF; exact rfl; exact ar) | (refine hK _ _ ?_; clear hK; refine xsg xsl ?_) | (apply RW.c1; (first | (apply nw_call (f := 56); exact rfl; exact go56; (intro G hG; exact (m_kibi _).mono (fun v M h => h.1))))) | ((first | apply RW.a1 | apply RW.a0); (first | (apply gw_asg; exact rfl) | (fail))) | (apply CW_region; intro K hK) | (apply CW_condX; exact rfl; exact tst; exact tst; all_goals (intro hq hc; try exact nx)))
  (refine CW_ret ?_; refine xsg xsl ?_; refine bR [.tmp 0] [] ?_)
  exact ⟨ret_i64 (by decide), rfl⟩
theorem m_gibi (H : Hp) : SC Tryz.prog 58 [] H [] (fun v M => v = .int .i64 (3) ∧ M = []) := by
  (refine SC_intro Tryz.func58 rfl (by kernel_rfl) (by rw [Tryz.ntmps58]; exact Nat.le_of_ble_eq_true rfl) ?_; simp only [Tryz.ntmps58, argE, Nat.reduceAdd])
  repeat' (first | (apply RW.q1; exact qt) | refine xsg cts ?_ | (apply CW_condT; exact rfl; exact ar) | (apply CW_condF; exact rfl; exact ar) | (refine hK _ _ ?_; clear hK; refine xsg xsl ?_) | (apply RW.c1; (first | (apply nw_call (f := 56); exact rfl; exact go56; (intro G hG; exact (m_kibi _).mono (fun v M h => h.1))) | (apply nw_call (f := 57); exact rfl; exact go57; (intro G hG; exact (m_mebi _).mono (fun v M h => h.1))))) | ((first | apply RW.a1 | apply RW.a0); (first | (apply gw_asg; exact rfl) | (fail))) | (apply CW_region; intro K hK) | (apply CW_condX; exact rfl; exact tst; exact tst; all_goals (intro hq hc; try exact nx)))
  (refine CW_ret ?_; refine xsg xsl ?_; refine bR [.tmp 0] [] ?_)
  exact ⟨ret_i64 (by decide), rfl⟩
theorem m_tebi (H : Hp) : SC Tryz.prog 59 [] H [] (fun v M => v = .int .i64 (4) ∧ M = []) := by
  (refine SC_intro Tryz.func59 rfl (by kernel_rfl) (by rw [Tryz.ntmps59]; exact Nat.le_of_ble_eq_true rfl) ?_; simp only [Tryz.ntmps59, argE, Nat.reduceAdd])
  repeat' (first | (apply RW.q1; exact qt) | refine xsg cts ?_ | (apply CW_condT; exact rfl; exact ar) | (apply CW_condF; exact rfl; exact ar) | (refine hK _ _ ?_; clear hK; refine xsg xsl ?_) | (apply RW.c1; (first | (apply nw_call (f := 58); exact rfl; exact go58; (intro G hG; exact (m_gibi _).mono (fun v M h => h.1))) | (apply nw_call (f := 56); exact rfl; exact go56; (intro G hG; exact (m_kibi _).mono (fun v M h => h.1))))) | ((first | apply RW.a1 | apply RW.a0); (first | (apply gw_asg; exact rfl) | (fail))) | (apply CW_region; intro K hK) | (apply CW_condX; exact rfl; exact tst; exact tst; all_goals (intro hq hc; try exact nx)))
  (refine CW_ret ?_; refine xsg xsl ?_; refine bR [.tmp 0] [] ?_)
  exact ⟨ret_i64 (by decide), rfl⟩
theorem m_pebi (H : Hp) : SC Tryz.prog 60 [] H [] (fun v M => v = .int .i64 (5) ∧ M = []) := by
  (refine SC_intro Tryz.func60 rfl (by kernel_rfl) (by rw [Tryz.ntmps60]; exact Nat.le_of_ble_eq_true rfl) ?_; simp only [Tryz.ntmps60, argE, Nat.reduceAdd])
  repeat' (first | (apply RW.q1; exact qt) | refine xsg cts ?_ | (apply CW_condT; exact rfl; exact ar) | (apply CW_condF; exact rfl; exact ar) | (refine hK _ _ ?_; clear hK; refine xsg xsl ?_) | (apply RW.c1; (first | (apply nw_call (f := 56); exact rfl; exact go56; (intro G hG; exact (m_kibi _).mono (fun v M h => h.1))) | (apply nw_call (f := 59); exact rfl; exact go59; (intro G hG; exact (m_tebi _).mono (fun v M h => h.1))))) | ((first | apply RW.a1 | apply RW.a0); (first | (apply gw_asg; exact rfl) | (fail))) | (apply CW_region; intro K hK) | (apply CW_condX; exact rfl; exact tst; exact tst; all_goals (intro hq hc; try exact nx)))
  (refine CW_ret ?_; refine xsg xsl ?_; refine bR [.tmp 0] [] ?_)
  exact ⟨ret_i64 (by decide), rfl⟩
theorem m_exbi (H : Hp) : SC Tryz.prog 61 [] H [] (fun v M => v = .int .i64 (6) ∧ M = []) := by
  (refine SC_intro Tryz.func61 rfl (by kernel_rfl) (by rw [Tryz.ntmps61]; exact Nat.le_of_ble_eq_true rfl) ?_; simp only [Tryz.ntmps61, argE, Nat.reduceAdd])
  repeat' (first | (apply RW.q1; exact qt) | refine xsg cts ?_ | (apply CW_condT; exact rfl; exact ar) | (apply CW_condF; exact rfl; exact ar) | (refine hK _ _ ?_; clear hK; refine xsg xsl ?_) | (apply RW.c1; (first | (apply nw_call (f := 56); exact rfl; exact go56; (intro G hG; exact (m_kibi _).mono (fun v M h => h.1))) | (apply nw_call (f := 60); exact rfl; exact go60; (intro G hG; exact (m_pebi _).mono (fun v M h => h.1))))) | ((first | apply RW.a1 | apply RW.a0); (first | (apply gw_asg; exact rfl) | (fail))) | (apply CW_region; intro K hK) | (apply CW_condX; exact rfl; exact tst; exact tst; all_goals (intro hq hc; try exact nx)))
  (refine CW_ret ?_; refine xsg xsl ?_; refine bR [.tmp 0] [] ?_)
  exact ⟨ret_i64 (by decide), rfl⟩
theorem m_zebi (H : Hp) : SC Tryz.prog 62 [] H [] (fun v M => v = .int .i64 (7) ∧ M = []) := by
  (refine SC_intro Tryz.func62 rfl (by kernel_rfl) (by rw [Tryz.ntmps62]; exact Nat.le_of_ble_eq_true rfl) ?_; simp only [Tryz.ntmps62, argE, Nat.reduceAdd])
  repeat' (first | (apply RW.q1; exact qt) | refine xsg cts ?_ | (apply CW_condT; exact rfl; exact ar) | (apply CW_condF; exact rfl; exact ar) | (refine hK _ _ ?_; clear hK; refine xsg xsl ?_) | (apply RW.c1; (first | (apply nw_call (f := 61); exact rfl; exact go61; (intro G hG; exact (m_exbi _).mono (fun v M h => h.1))) | (apply nw_call (f := 56); exact rfl; exact go56; (intro G hG; exact (m_kibi _).mono (fun v M h => h.1))))) | ((first | apply RW.a1 | apply RW.a0); (first | (apply gw_asg; exact rfl) | (fail))) | (apply CW_region; intro K hK) | (apply CW_condX; exact rfl; exact tst; exact tst; all_goals (intro hq hc; try exact nx)))
  (refine CW_ret ?_; refine xsg xsl ?_; refine bR [.tmp 0] [] ?_)
  exact ⟨ret_i64 (by decide), rfl⟩
theorem m_yobi (H : Hp) : SC Tryz.prog 63 [] H [] (fun v M => v = .int .i64 (8) ∧ M = []) := by
  (refine SC_intro Tryz.func63 rfl (by kernel_rfl) (by rw [Tryz.ntmps63]; exact Nat.le_of_ble_eq_true rfl) ?_; simp only [Tryz.ntmps63, argE, Nat.reduceAdd])
  repeat' (first | (apply RW.q1; exact qt) | refine xsg cts ?_ | (apply CW_condT; exact rfl; exact ar) | (apply CW_condF; exact rfl; exact ar) | (refine hK _ _ ?_; clear hK; refine xsg xsl ?_) | (apply RW.c1; (first | (apply nw_call (f := 56); exact rfl; exact go56; (intro G hG; exact (m_kibi _).mono (fun v M h => h.1))) | (apply nw_call (f := 62); exact rfl; exact go62; (intro G hG; exact (m_zebi _).mono (fun v M h => h.1))))) | ((first | apply RW.a1 | apply RW.a0); (first | (apply gw_asg; exact rfl) | (fail))) | (apply CW_region; intro K hK) | (apply CW_condX; exact rfl; exact tst; exact tst; all_goals (intro hq hc; try exact nx)))
  (refine CW_ret ?_; refine xsg xsl ?_; refine bR [.tmp 0] [] ?_)
  exact ⟨ret_i64 (by decide), rfl⟩
end Go.Proofs.YtnhbipachchlgaaGreat.HL
namespace Go.Proofs.YtnhbipachchlgaaGreat.HL
open Go
attribute [local irreducible] goFn thenS blockS bodyS CW RW DW GW QW NW SC Pick Picks SubL Rd NN ResOk SrcW subE hops hseg AW hgen HC qv bldv
set_option linter.unusedVariables false
set_option linter.unusedSimpArgs false

structure Px where
  nm : List UInt8
  sy : List UInt8
  pw : Int
  bn : Bool
deriving DecidableEq
def pfx : List Px := [
  ⟨[100, 101, 99, 97], [100, 97], 1, false⟩,
  ⟨[104, 101, 99, 116, 111], [104], 2, false⟩,
  ⟨[107, 105, 108, 111], [107], 3, false⟩,
  ⟨[109, 101, 103, 97], [77], 6, false⟩,
  ⟨[103, 105, 103, 97], [71], 9, false⟩,
  ⟨[116, 101, 114, 97], [84], 12, false⟩,
  ⟨[112, 101, 116, 97], [80], 15, false⟩,
  ⟨[101, 120, 97], [69], 18, false⟩,
  ⟨[122, 101, 116, 116, 97], [90], 21, false⟩,
  ⟨[121, 111, 116, 116, 97], [89], 24, false⟩,
  ⟨[114, 111, 110, 110, 97], [82], 27, false⟩,
  ⟨[113, 117, 101, 116, 116, 97], [81], 30, false⟩,
  ⟨[100, 101, 99, 105], [100], -1, false⟩,
  ⟨[99, 101, 110, 116, 105], [99], -2, false⟩,
  ⟨[109, 105, 108, 108, 105], [109], -3, false⟩,
  ⟨[109, 105, 99, 114, 111], [206, 188], -6, false⟩,
  ⟨[110, 97, 110, 111], [110], -9, false⟩,
  ⟨[112, 105, 99, 111], [112], -12, false⟩,
  ⟨[102, 101, 109, 116, 111], [102], -15, false⟩,
  ⟨[97, 116, 116, 111], [97], -18, false⟩,
  ⟨[122, 101, 112, 116, 111], [122], -21, false⟩,
  ⟨[121, 111, 99, 116, 111], [121], -24, false⟩,
  ⟨[114, 111, 110, 116, 111], [114], -27, false⟩,
  ⟨[113, 117, 101, 99, 116, 111], [113], -30, false⟩,
  ⟨[107, 105, 98, 105], [75, 105], 1, true⟩,
  ⟨[109, 101, 98, 105], [77, 105], 2, true⟩,
  ⟨[103, 105, 98, 105], [71, 105], 3, true⟩,
  ⟨[116, 101, 98, 105], [84, 105], 4, true⟩,
  ⟨[112, 101, 98, 105], [80, 105], 5, true⟩,
  ⟨[101, 120, 98, 105], [69, 105], 6, true⟩,
  ⟨[122, 101, 98, 105], [90, 105], 7, true⟩,
  ⟨[121, 111, 98, 105], [89, 105], 8, true⟩]
theorem pfx_len : pfx.length = 32 := rfl
theorem pfx_pw : ∀ x ∈ pfx, x.pw.natAbs ≤ 30 := by decide
theorem pfx_nz : ∀ x ∈ pfx, x.pw ≠ 0 := by decide
def byP (x : Px) : Nat := if x.bn = true then 1024 else 10
def facN (x : Px) : List UInt8 := Lib.decDigits (powN (byP x) 1 x.pw)
def facD (x : Px) : List UInt8 := Lib.decDigits (powN 1 (byP x) x.pw)
abbrev encP (x : Px) : List Value := [.string (bstr x.nm), .string (bstr x.sy), .string (bstr (facN x)), .string (bstr (facD x)), .bool x.bn]
abbrev enc47 (x : Px) : List Value := [.string (bstr x.nm), .string (bstr x.sy), .int .i64 x.pw, .bool x.bn]
abbrev enc53 (x : Px) : List Value := [.string (bstr x.nm), .string (bstr x.sy), .int .i64 x.pw]
instance : Enc encP 5 := ⟨fun _ => rfl⟩
instance : Enc enc47 4 := ⟨fun _ => rfl⟩
instance : Enc enc53 3 := ⟨fun _ => rfl⟩
theorem byP_le (x : Px) : byP x ≤ 1024 ∧ 1 < byP x := by unfold byP; split <;> omega
theorem pow_small {B k : Nat} (hB : B ≤ 1024) (hk : k ≤ 30) : (Lib.decDigits (B ^ k)).length ≤ 600 := by
  refine (dec_len_lt _ 599).1 ?_
  have h1 : B ^ k ≤ 1024 ^ k := Nat.pow_le_pow_left hB k
  have h2 : 1024 ^ k ≤ 1024 ^ 30 := Nat.pow_le_pow_right (by decide) hk
  have h3 : (1024 : Nat) ^ 30 < 10 ^ (599 + 1) := by decide +kernel
  omega
theorem fac_ok {B : Nat} {e : Int} (hB : B ≤ 1024) (h1 : 1 < B) (he : e.natAbs ≤ 30) : (Lib.decDigits (powN B 1 e)).length ≤ 600 ∧ (Lib.decDigits (powN 1 B e)).length ≤ 600 ∧ 0 < powN 1 B e ∧ (powN B 1 e).gcd (powN 1 B e) = 1 := by
  unfold powN
  have hp := pow_small hB he
  have hq := Nat.pow_pos (n := e.natAbs) (show 0 < B by omega)
  split
  · rw [Nat.one_pow]; exact ⟨one_dec, hp, hq, Nat.gcd_one_left _⟩
  · rw [Nat.one_pow]; exact ⟨hp, one_dec, by decide, Nat.gcd_one_right _⟩
theorem fac_told {x : Px} (hx : x ∈ pfx) : toldV (fn (powN (byP x) 1 x.pw : Int) (powN 1 (byP x) x.pw : Int)) (fd (powN (byP x) 1 x.pw : Int) (powN 1 (byP x) x.pw : Int)) = .tuple #[ratV (facN x) (facD x), .int .i64 0] := by
  obtain ⟨h1, h2⟩ := byP_le x
  obtain ⟨a1, a2, a3, a4⟩ := fac_ok h1 h2 (pfx_pw x hx)
  exact told_dec a1 a2 a3 a4
theorem bl_1024 : bl 1024 = 11 := by decide +kernel
theorem powP_spec (x : Px) (hx : x ∈ pfx) (H : Hp) : SC Tryz.prog 64 [ratV (decB (byP x : Int)) [49], .int .i64 x.pw] H [] (fun v M => v = .tuple #[ratV (facN x) (facD x), .int .i64 0] ∧ M = []) := by
  obtain ⟨h1, h2⟩ := byP_le x
  have hp := pfx_pw x hx
  have hb := bl_mono h1 (by omega)
  rw [bl_1024] at hb
  have hb1 : bl 1 = 1 := by decide +kernel
  have hm : (max (bl (byP x)) (bl 1) - 1) * x.pw.natAbs ≤ 2400 := by
    rw [hb1]
    have : (max (bl (byP x)) 1 - 1) * x.pw.natAbs ≤ 10 * 30 := Nat.mul_le_mul (by omega) hp
    omega
  have hl : (Lib.decDigits (byP x)).length ≤ 600 := by have := pow_small (k := 1) h1 (by decide); rwa [Nat.pow_one] at this
  have e49 : ([49] : List UInt8) = Lib.decDigits 1 := by rw [dec_small (by decide)]; rfl
  have h := pow_ok (decB (byP x : Int)) [49] (byP x) 1 x.pw (by rw [decB_nat, e49]; exact readQ_dec hl one_dec (by decide) (Nat.gcd_one_right _)) (by omega) (by omega) hm H
  rw [fac_told hx] at h
  exact h
theorem e10 : (⟨#[49, 48]⟩ : ByteArray) = bstr (Lib.decDigits 10) := by rw [dec_step (by decide), dec_small (by decide)]; rfl
theorem e1024 : (⟨#[49, 48, 50, 52]⟩ : ByteArray) = bstr (Lib.decDigits 1024) := by rw [dec_step (by decide), dec_step (by decide), dec_step (by decide), dec_small (by decide)]; rfl
theorem e1 : (⟨#[49]⟩ : ByteArray) = bstr (Lib.decDigits 1) := by rw [dec_small (by decide)]; rfl
end Go.Proofs.YtnhbipachchlgaaGreat.HL
namespace Go.Proofs.YtnhbipachchlgaaGreat.HL
open Go
attribute [local irreducible] goFn thenS blockS bodyS CW RW DW GW QW NW SC Pick Picks SubL Rd NN ResOk SrcW subE hops hseg AW hgen HC qv bldv
set_option linter.unusedVariables false
set_option linter.unusedSimpArgs false

theorem all_spec (H : Hp) : SC Tryz.prog 12 [] H [] (fun v M => ∃ a c, v = .slice a 32 c ∧ M = [.own 30 5 a 32 c (pfx.flatMap encP)]) := by
  (refine SC_intro Tryz.func12 rfl (by kernel_rfl) (by rw [Tryz.ntmps12]; exact Nat.le_of_ble_eq_true rfl) ?_; simp only [Tryz.ntmps12, argE, Nat.reduceAdd])
  
  repeat' (first | ((first | apply RW.q1 | (apply DW.q1; exact rfl)); (first | (apply q_bld; exact rfl; first | exact bld30_0_1_2_3 _ _ _ _ _ | exact bld72_0_1_2_3 _ _ _ _) | exact qt)) | refine xsg cts ?_ | (apply CW_condT; exact rfl; exact ar) | (apply CW_condF; exact rfl; exact ar) | (refine hK _ _ ?_; clear hK; refine xsg xsl ?_) | ((first | apply RW.c1 | (apply DW.c1; exact rfl; exact rfl) | (apply DW.c1t; exact rfl)); (first | (apply nw_call (f := 32); exact rfl; exact go32; (intro G hG; exact (m_deca _).mono (fun v M h => h.1))) | (apply nw_call (f := 33); exact rfl; exact go33; (intro G hG; exact (m_hecto _).mono (fun v M h => h.1))) | (apply nw_call (f := 34); exact rfl; exact go34; (intro G hG; exact (m_kilo _).mono (fun v M h => h.1))) | (apply nw_call (f := 35); exact rfl; exact go35; (intro G hG; exact (m_mega _).mono (fun v M h => h.1))) | (apply nw_call (f := 36); exact rfl; exact go36; (intro G hG; exact (m_giga _).mono (fun v M h => h.1))) | (apply nw_call (f := 37); exact rfl; exact go37; (intro G hG; exact (m_tera _).mono (fun v M h => h.1))) | (apply nw_call (f := 38); exact rfl; exact go38; (intro G hG; exact (m_peta _).mono (fun v M h => h.1))) | (apply nw_call (f := 39); exact rfl; exact go39; (intro G hG; exact (m_exa _).mono (fun v M h => h.1))) | (apply nw_call (f := 40); exact rfl; exact go40; (intro G hG; exact (m_zetta _).mono (fun v M h => h.1))) | (apply nw_call (f := 41); exact rfl; exact go41; (intro G hG; exact (m_yotta _).mono (fun v M h => h.1))) | (apply nw_call (f := 42); exact rfl; exact go42; (intro G hG; exact (m_ronna _).mono (fun v M h => h.1))) | (apply nw_call (f := 43); exact rfl; exact go43; (intro G hG; exact (m_quetta _).mono (fun v M h => h.1))) | (apply nw_call (f := 44); exact rfl; exact go44; (intro G hG; exact (m_deci _).mono (fun v M h => h.1))) | (apply nw_call (f := 45); exact rfl; exact go45; (intro G hG; exact (m_centi _).mono (fun v M h => h.1))) | (apply nw_call (f := 46); exact rfl; exact go46; (intro G hG; exact (m_milli _).mono (fun v M h => h.1))) | (apply nw_call (f := 47); exact rfl; exact go47; (intro G hG; exact (m_micro _).mono (fun v M h => h.1))) | (apply nw_call (f := 48); exact rfl; exact go48; (intro G hG; exact (m_nano _).mono (fun v M h => h.1))) | (apply nw_call (f := 49); exact rfl; exact go49; (intro G hG; exact (m_pico _).mono (fun v M h => h.1))) | (apply nw_call (f := 50); exact rfl; exact go50; (intro G hG; exact (m_femto _).mono (fun v M h => h.1))) | (apply nw_call (f := 51); exact rfl; exact go51; (intro G hG; exact (m_atto _).mono (fun v M h => h.1))) | (apply nw_call (f := 52); exact rfl; exact go52; (intro G hG; exact (m_zepto _).mono (fun v M h => h.1))) | (apply nw_call (f := 53); exact rfl; exact go53; (intro G hG; exact (m_yocto _).mono (fun v M h => h.1))) | (apply nw_call (f := 54); exact rfl; exact go54; (intro G hG; exact (m_ronto _).mono (fun v M h => h.1))) | (apply nw_call (f := 55); exact rfl; exact go55; (intro G hG; exact (m_quecto _).mono (fun v M h => h.1))) | (apply nw_call (f := 56); exact rfl; exact go56; (intro G hG; exact (m_kibi _).mono (fun v M h => h.1))) | (apply nw_call (f := 57); exact rfl; exact go57; (intro G hG; exact (m_mebi _).mono (fun v M h => h.1))) | (apply nw_call (f := 58); exact rfl; exact go58; (intro G hG; exact (m_gibi _).mono (fun v M h => h.1))) | (apply nw_call (f := 59); exact rfl; exact go59; (intro G hG; exact (m_tebi _).mono (fun v M h => h.1))) | (apply nw_call (f := 60); exact rfl; exact go60; (intro G hG; exact (m_pebi _).mono (fun v M h => h.1))) | (apply nw_call (f := 61); exact rfl; exact go61; (intro G hG; exact (m_exbi _).mono (fun v M h => h.1))) | (apply nw_call (f := 62); exact rfl; exact go62; (intro G hG; exact (m_zebi _).mono (fun v M h => h.1))) | (apply nw_call (f := 63); exact rfl; exact go63; (intro G hG; exact (m_yobi _).mono (fun v M h => h.1))))) | (refine xsg ahd ?_; (first | (refine gw_litn (cs := pfx.flatMap enc47) rfl rfl rfl rfl rfl (by decide) (fun lb => ?_)) | (apply gw_asg; exact rfl) | ((first | apply gw_alloc | apply gx_alloc); exact rfl; intro b) | (apply gw_lit1; exact rfl; exact rfl; exact rfl; exact rfl; decide; intro b) | (apply gw_lit2; exact rfl; exact rfl; exact rfl; exact rfl; intro b) | (apply gw_lit3; exact rfl; exact rfl; exact rfl; exact rfl; exact rfl; intro b) | (apply gw_ap1; exact rfl; exact rfl; infer_instance; infer_instance; exact rfl; exact rfl; exact rfl; exact rfl; omega; intro a c) | (apply gw_ap1n; exact rfl; exact rfl; infer_instance; exact rfl; exact rfl; exact rfl; exact rfl; omega; intro a c) | (refine gw_stx sto ?_) | (fail))) | (apply CW_region; intro K hK) | (apply CW_condX; exact rfl; exact tst; exact tst; all_goals (intro hq hc; try exact no)) | (refine CW_drawS (id := 8) [1, 4, 8, 9] [([1, 4, 8, 9], [1], [(0, false), (2, false), (3, false), (1, true), (4, true), (5, false), (6, false), (7, false), (8, true), (9, true), (10, false)]), ([1, 8, 4, 9], [1, 8], [(0, false), (2, false), (3, false), (1, true), (8, true), (4, true), (5, false), (6, false), (7, false), (9, true), (10, false)]), ([8, 1, 4, 9], [8, 1], [(0, false), (2, false), (3, false), (8, true), (1, true), (4, true), (5, false), (6, false), (7, false), (9, true), (10, false)])] mixed (by kernel_rfl) ⟨fun K hK => ?_, fun K hK => ?_, fun K hK => ?_, trivial⟩))
  refine CW_loop (fun m l L => ∃ (i : Nat) (ra oa : Option Addr) (rn rc on oc : Nat) (cs os : List Value), m = 32 - i ∧ l = [(1, true, .slice oa on oc), (71, true, .slice ra rn rc), (72, true, .int .i64 (rn : Nat)), (73, true, .int .i64 (i : Nat))] ∧
      L = [.own 30 5 oa on oc os, .own 72 4 ra rn rc cs] ∧ rn = 32 ∧ cs = pfx.flatMap enc47 ∧ i ≤ 32 ∧ on = i ∧ os = (pfx.take i).flatMap encP)
    ⟨_, _, _, ⟨0, _, none, _, _, 0, 0, _, [], rfl, rfl, rfl, rfl, rfl, by omega, rfl, rfl⟩, by exact sbe, by exact sbl⟩ ?_
  rintro m l L ⟨i, ra, oa, rn, rc, on, oc, cs, os, rfl, rfl, rfl, rfl, rfl, h1, rfl, rfl⟩
  by_cases hi : on < 32
  · obtain ⟨x, hx⟩ : ∃ x, pfx[on]? = some x := ⟨_, List.getElem?_eq_getElem (by rw [pfx_len]; exact hi)⟩
    have hxm := List.mem_of_getElem? hx
    have hP := powP_spec x hxm
    have hO := fun G => of_spec (byP x : Int) G (by have := byP_le x; omega)
    have hel : ∀ j : Nat, j = on * 4 → ((pfx.flatMap enc47).drop j).take 4 = enc47 x := by
      rintro j rfl
      have := ix_elem (enc := enc47) (i := (on : Int)) hx (Int.toNat_natCast on)
      rwa [Int.toNat_natCast] at this
    have htk : (pfx.take (on + 1)).flatMap encP = (pfx.take on).flatMap encP ++ encP x := by
      rw [List.take_add_one, hx, List.flatMap_append]; simp
    cases hb : x.bn with
    | true =>
      have e : byP x = 1024 := by unfold byP; rw [hb]; rfl
      rw [e] at hP hO
      
      repeat' (first | ((first | apply RW.q1 | (apply DW.q1; exact rfl)); (first | (apply q_lao; exact rfl; exact rfl; infer_instance; exact hel _ (by omega); exact rfl; decide) | (apply q_bld; exact rfl; first | exact bld30_0_1_2_3 _ _ _ _ _ | exact bld72_0_1_2_3 _ _ _ _) | exact qt)) | refine xsg cts ?_ | (apply CW_condT; exact rfl; exact ar) | (apply CW_condF; exact rfl; exact ar) | (refine hK _ _ ?_; clear hK; refine xsg xsl ?_) | (refine xsg ahd ?_; (first | ((first | apply gw_callE (f := 20) | apply gx_callE (f := 20)); exact rfl; exact go20; intro G hG; exact hO G) | ((first | apply gw_callE (f := 64) | apply gx_callE (f := 64)); exact rfl; exact go64; intro G hG; exact hP G) | (apply gw_asg; exact rfl) | ((first | apply gw_alloc | apply gx_alloc); exact rfl; intro b) | (apply gw_lit1; exact rfl; exact rfl; exact rfl; exact rfl; decide; intro b) | (apply gw_lit2; exact rfl; exact rfl; exact rfl; exact rfl; intro b) | (apply gw_lit3; exact rfl; exact rfl; exact rfl; exact rfl; exact rfl; intro b) | (apply gw_ap1; exact rfl; exact rfl; infer_instance; infer_instance; exact rfl; exact rfl; exact rfl; exact rfl; omega; intro a c) | (apply gw_ap1n; exact rfl; exact rfl; infer_instance; exact rfl; exact rfl; exact rfl; exact rfl; omega; intro a c) | (refine gw_stx sto ?_) | (fail))) | (apply CW_region; intro K hK) | (apply CW_condX; exact rfl; exact tst; exact tst; all_goals (intro hq hc; try exact no)) | (refine CW_drawS (id := 8) [1, 4, 8, 9] [([1, 4, 8, 9], [1], [(0, false), (2, false), (3, false), (1, true), (4, true), (5, false), (6, false), (7, false), (8, true), (9, true), (10, false)]), ([1, 8, 4, 9], [1, 8], [(0, false), (2, false), (3, false), (1, true), (8, true), (4, true), (5, false), (6, false), (7, false), (9, true), (10, false)]), ([8, 1, 4, 9], [8, 1], [(0, false), (2, false), (3, false), (8, true), (1, true), (4, true), (5, false), (6, false), (7, false), (9, true), (10, false)])] mixed (by kernel_rfl) ⟨fun K hK => ?_, fun K hK => ?_, fun K hK => ?_, trivial⟩))
      all_goals exact ⟨_, _, _, ⟨on + 1, _, _, _, _, _, _, _, _, rfl, rfl, rfl, rfl, rfl, by omega, rfl, htk.symm⟩, by exact sbe, by exact sbl, by omega⟩
    | false =>
      have e : byP x = 10 := by unfold byP; rw [hb]; rfl
      rw [e] at hP hO
      
      repeat' (first | ((first | apply RW.q1 | (apply DW.q1; exact rfl)); (first | (apply q_lao; exact rfl; exact rfl; infer_instance; exact hel _ (by omega); exact rfl; decide) | (apply q_bld; exact rfl; first | exact bld30_0_1_2_3 _ _ _ _ _ | exact bld72_0_1_2_3 _ _ _ _) | exact qt)) | refine xsg cts ?_ | (apply CW_condT; exact rfl; exact ar) | (apply CW_condF; exact rfl; exact ar) | (refine hK _ _ ?_; clear hK; refine xsg xsl ?_) | (refine xsg ahd ?_; (first | ((first | apply gw_callE (f := 20) | apply gx_callE (f := 20)); exact rfl; exact go20; intro G hG; exact hO G) | ((first | apply gw_callE (f := 64) | apply gx_callE (f := 64)); exact rfl; exact go64; intro G hG; exact hP G) | (apply gw_asg; exact rfl) | ((first | apply gw_alloc | apply gx_alloc); exact rfl; intro b) | (apply gw_lit1; exact rfl; exact rfl; exact rfl; exact rfl; decide; intro b) | (apply gw_lit2; exact rfl; exact rfl; exact rfl; exact rfl; intro b) | (apply gw_lit3; exact rfl; exact rfl; exact rfl; exact rfl; exact rfl; intro b) | (apply gw_ap1; exact rfl; exact rfl; infer_instance; infer_instance; exact rfl; exact rfl; exact rfl; exact rfl; omega; intro a c) | (apply gw_ap1n; exact rfl; exact rfl; infer_instance; exact rfl; exact rfl; exact rfl; exact rfl; omega; intro a c) | (refine gw_stx sto ?_) | (fail))) | (apply CW_region; intro K hK) | (apply CW_condX; exact rfl; exact tst; exact tst; all_goals (intro hq hc; try exact no)) | (refine CW_drawS (id := 8) [1, 4, 8, 9] [([1, 4, 8, 9], [1], [(0, false), (2, false), (3, false), (1, true), (4, true), (5, false), (6, false), (7, false), (8, true), (9, true), (10, false)]), ([1, 8, 4, 9], [1, 8], [(0, false), (2, false), (3, false), (1, true), (8, true), (4, true), (5, false), (6, false), (7, false), (9, true), (10, false)]), ([8, 1, 4, 9], [8, 1], [(0, false), (2, false), (3, false), (8, true), (1, true), (4, true), (5, false), (6, false), (7, false), (9, true), (10, false)])] mixed (by kernel_rfl) ⟨fun K hK => ?_, fun K hK => ?_, fun K hK => ?_, trivial⟩))
      all_goals exact ⟨_, _, _, ⟨on + 1, _, _, _, _, _, _, _, _, rfl, rfl, rfl, rfl, rfl, by omega, rfl, htk.symm⟩, by exact sbe, by exact sbl, by omega⟩
  · obtain rfl : on = 32 := by omega
    rw [show pfx.take 32 = pfx from rfl]
    
    repeat' (first | ((first | apply RW.q1 | (apply DW.q1; exact rfl)); (first | (apply q_bld; exact rfl; first | exact bld30_0_1_2_3 _ _ _ _ _ | exact bld72_0_1_2_3 _ _ _ _) | exact qt)) | refine xsg cts ?_ | (apply CW_condT; exact rfl; exact ar) | (apply CW_condF; exact rfl; exact ar) | (refine hK _ _ ?_; clear hK; refine xsg xsl ?_) | (refine xsg ahd ?_; (first | (apply gw_asg; exact rfl) | ((first | apply gw_alloc | apply gx_alloc); exact rfl; intro b) | (apply gw_lit1; exact rfl; exact rfl; exact rfl; exact rfl; decide; intro b) | (apply gw_lit2; exact rfl; exact rfl; exact rfl; exact rfl; intro b) | (apply gw_lit3; exact rfl; exact rfl; exact rfl; exact rfl; exact rfl; intro b) | (apply gw_ap1; exact rfl; exact rfl; infer_instance; infer_instance; exact rfl; exact rfl; exact rfl; exact rfl; omega; intro a c) | (apply gw_ap1n; exact rfl; exact rfl; infer_instance; exact rfl; exact rfl; exact rfl; exact rfl; omega; intro a c) | (refine gw_stx sto ?_) | (fail))) | (apply CW_region; intro K hK) | (apply CW_condX; exact rfl; exact tst; exact tst; all_goals (intro hq hc; try exact no)) | (refine CW_drawS (id := 8) [1, 4, 8, 9] [([1, 4, 8, 9], [1], [(0, false), (2, false), (3, false), (1, true), (4, true), (5, false), (6, false), (7, false), (8, true), (9, true), (10, false)]), ([1, 8, 4, 9], [1, 8], [(0, false), (2, false), (3, false), (1, true), (8, true), (4, true), (5, false), (6, false), (7, false), (9, true), (10, false)]), ([8, 1, 4, 9], [8, 1], [(0, false), (2, false), (3, false), (8, true), (1, true), (4, true), (5, false), (6, false), (7, false), (9, true), (10, false)])] mixed (by kernel_rfl) ⟨fun K hK => ?_, fun K hK => ?_, fun K hK => ?_, trivial⟩))
    (refine CW_ret ?_; refine xsg xsl ?_; refine bR [.tmp 0] [.own 30 5 oa 32 oc (pfx.flatMap encP)] ?_)
    exact ⟨oa, oc, rfl, rfl⟩
end Go.Proofs.YtnhbipachchlgaaGreat.HL
namespace Go.Proofs.YtnhbipachchlgaaGreat.HL
open Go
attribute [local irreducible] goFn thenS blockS bodyS CW RW DW GW QW NW SC Pick Picks SubL Rd NN ResOk SrcW subE hops hseg AW hgen HC qv bldv
set_option linter.unusedVariables false
set_option linter.unusedSimpArgs false

theorem partv2 {P : Program} {t : TypeId} {cs : Array Value} {off n : Nat} {ds : TypeDesc} {vs : Array Value} [hu : Und P t ds] [hz : Szc P t n] (hd : descAgg ds = true) (h : cs.extract off (off + n) = vs) : partv P t cs off = some (.agg vs) := by
  unfold partv
  rw [hu.h]
  simp only [hd, hz.h, if_true, h]
theorem eqR_refl (e : Nat) (a b : ByteArray) : eqF Tryz.prog (e + 1 + 1) 26 (.agg #[.string a, .string b]) (.agg #[.string a, .string b]) = some true := by
  have h : ∀ c : ByteArray, eqF Tryz.prog (e + 1) 9 (.string c) (.string c) = some true := fun c => by rw [eqF_str, decide_eq_true rfl]
  rw [eqF_struct Tryz.stoodInHeld26]
  refine eqFs_cons (r := true) (c := true) (by decide) (a := .string a) (b := .string a) (partv1 rfl rfl) (partv1 rfl rfl) (h a) ?_
  exact eqFs_cons (r := true) (c := true) (by decide) (a := .string b) (b := .string b) (partv1 rfl rfl) (partv1 rfl rfl) (h b) eqFs_nil
theorem eqP_refl (e : Nat) (a b c d : ByteArray) (f : Bool) : eqF Tryz.prog (e + 1 + 1 + 1) 30 (.agg #[.string a, .string b, .string c, .string d, .bool f]) (.agg #[.string a, .string b, .string c, .string d, .bool f]) = some true := by
  have h : ∀ c : ByteArray, eqF Tryz.prog (e + 1 + 1) 9 (.string c) (.string c) = some true := fun c => by rw [eqF_str, decide_eq_true rfl]
  have hb : eqF Tryz.prog (e + 1 + 1) 4 (.bool f) (.bool f) = some true := by rw [eqF_bool]; simp
  rw [eqF_struct Tryz.stoodInHeld30]
  refine eqFs_cons (r := true) (c := true) (by decide) (a := .string a) (b := .string a) (partv1 rfl rfl) (partv1 rfl rfl) (h a) ?_
  refine eqFs_cons (r := true) (c := true) (by decide) (a := .string b) (b := .string b) (partv1 rfl rfl) (partv1 rfl rfl) (h b) ?_
  refine eqFs_cons (r := true) (c := true) (by decide) (a := .agg #[.string c, .string d]) (b := .agg #[.string c, .string d]) (partv2 rfl rfl) (partv2 rfl rfl) (eqR_refl e c d) ?_
  exact eqFs_cons (r := true) (c := true) (by decide) (a := .bool f) (b := .bool f) (partv1 rfl rfl) (partv1 rfl rfl) hb eqFs_nil
theorem guard28 : (Tryz.prog).eqGuardType (Tryz.prog).depth 30 = false := Tryz.eqGuardType30
theorem guard26 : (Tryz.prog).eqGuardType (Tryz.prog).depth 26 = false := Tryz.eqGuardType26
end Go.Proofs.YtnhbipachchlgaaGreat.HL
namespace Go.Proofs.YtnhbipachchlgaaGreat.HL
open Go
attribute [local irreducible] goFn thenS blockS bodyS CW RW DW GW QW NW SC Pick Picks SubL Rd NN ResOk SrcW subE hops hseg AW hgen HC qv bldv
set_option linter.unusedVariables false
set_option linter.unusedSimpArgs false

theorem find_at {α : Type} {p : α → Bool} : ∀ {l : List α} {i : Nat} {x : α}, (∀ y ∈ l.take i, p y = false) → l[i]? = some x → p x = true → l.find? p = some x
  | [], _, _, _, h, _ => by simp at h
  | y :: l, 0, x, _, h, hx => by
    obtain rfl : y = x := by simpa using h
    rw [List.find?_cons, hx]
  | y :: l, i + 1, x, hn, h, hx => by
    rw [List.find?_cons, hn y (by simp)]
    exact find_at (i := i) (fun z hz => hn z (by simp [hz])) (by simpa using h) hx
theorem find_no {α : Type} {p : α → Bool} {l : List α} (h : ∀ y ∈ l, p y = false) : l.find? p = none := by
  rw [List.find?_eq_none]
  intro y hy
  rw [h y hy]; decide
theorem take_more {α : Type} {p : α → Bool} {l : List α} {i : Nat} {x : α} (h : ∀ y ∈ l.take i, p y = false) (hx : l[i]? = some x) (hp : p x = false) : ∀ y ∈ l.take (i + 1), p y = false := by
  intro y hy
  rw [List.take_add_one, hx, List.mem_append] at hy
  rcases hy with hy | hy
  · exact h y hy
  · obtain rfl : y = x := by simpa using hy
    exact hp
def mu : List UInt8 := [206, 188]
def symT (s : List UInt8) : List UInt8 := if s = [194, 181] ∨ s = [117] then mu else s
def namedP (s : List UInt8) : Option Px := pfx.find? (fun x => decide (x.nm = s))
def symP (s : List UInt8) : Option Px := pfx.find? (fun x => decide (x.sy = symT s))
def findP (s : List UInt8) : Option Px := (namedP s).or (symP s)
def preV : Option Px → Value
  | some x => .agg (encP x).toArray
  | none => .agg #[.string ⟨#[]⟩, .string ⟨#[]⟩, .string ⟨#[]⟩, .string ⟨#[]⟩, .bool false]
def outP (o : Option Px) : Value := .tuple #[preV o, .bool o.isSome]
end Go.Proofs.YtnhbipachchlgaaGreat.HL
namespace Go.Proofs.YtnhbipachchlgaaGreat.HL
open Go
attribute [local irreducible] goFn thenS blockS bodyS CW RW DW GW QW NW SC Pick Picks SubL Rd NN ResOk SrcW subE hops hseg AW hgen HC qv bldv
set_option linter.unusedVariables false
set_option linter.unusedSimpArgs false

section
variable {P : Program} {l : Ents} {H : Hp} {L : List Res} {d : Option Tmp} {T : TypeId} {pos : String} {aft : Array Edge} {gd : Option (Nat × Bool)} {t ty : TypeId} {x y : Operand} {a b : List UInt8}
theorem q_sbT (hx : evg l true x = some (.string (bstr a))) (hy : evg l true y = some (.string (bstr b))) (h : a = b) : QW P l H L ⟨d, .binOp .eql t x y ty, T, pos, aft, gd⟩ (.bool true) := by
  rw [← decide_eq_true h]; exact q_sbeq hx hy
theorem q_sbF (hx : evg l true x = some (.string (bstr a))) (hy : evg l true y = some (.string (bstr b))) (h : a ≠ b) : QW P l H L ⟨d, .binOp .eql t x y ty, T, pos, aft, gd⟩ (.bool false) := by
  rw [← decide_eq_false h]; exact q_sbeq hx hy
end
theorem bb_ne {a b : List UInt8} (h : a ≠ b) : (bstr a == bstr b) = false := by rw [bb_eq, bstr_dec, decide_eq_false h]
theorem bb_self (a : List UInt8) : (bstr a == bstr a) = true := by rw [bb_eq, decide_eq_true rfl]
abbrev muE (k : List UInt8) (n : Nat) : MapEntry := { key := .string (bstr k), val := .agg #[.string (bstr mu)], born := n }
theorem find_mu1 : Instr.findNow .string (.string (bstr [117])) [muE [194, 181] 0] 0 = some none := by
  simp only [Instr.findNow, Instr.sameNow, bb_ne (show ([117] : List UInt8) ≠ [194, 181] by decide)]
theorem symbols_spec (H : Hp) : SC Tryz.prog 95 [] H [] (fun v M => ∃ b, v = .map (some b) ∧ M = [.obj b (.map #[muE [194, 181] 0, muE [117] 1] 2)]) := by
  (refine SC_intro Tryz.func95 rfl (by kernel_rfl) (by rw [Tryz.ntmps95]; exact Nat.le_of_ble_eq_true rfl) ?_; simp only [Tryz.ntmps95, argE, Nat.reduceAdd])
  repeat' (first | (apply RW.q1; (first | (apply q_bld; exact rfl; first | exact bld107_0 _) | exact qt)) | refine xsg cts ?_ | (apply CW_condT; exact rfl; exact ar) | (apply CW_condF; exact rfl; exact ar) | (refine hK _ _ ?_; clear hK; refine xsg xsl ?_) | ((first | apply RW.a1 | apply RW.a0); (first | (refine gw_mkmap fun mb => ?_) | (apply gw_insert (key := bstr [194, 181]); exact rfl; exact rfl; exact rfl; infer_instance; exact rfl) | (apply gw_insert (key := bstr [117]); exact rfl; exact rfl; exact rfl; infer_instance; exact find_mu1) | (apply gw_asg; exact rfl) | (fail))) | (apply CW_region; intro K hK) | (apply CW_condX; exact rfl; exact tst; exact tst; all_goals (intro hq hc; try exact nx)))
  (refine CW_ret ?_; refine xsg xsl ?_; refine bR [.tmp 0] [.obj mb (.map #[muE [194, 181] 0, muE [117] 1] 2)] ?_)
  exact ⟨_, rfl, rfl⟩
theorem pfx_el {x : Px} {i : Nat} (hx : pfx[i]? = some x) {j : Nat} (hj : j = i * 5) : ((pfx.flatMap encP).drop j).take 5 = encP x := by
  subst hj
  have := ix_elem (enc := encP) (i := (i : Int)) hx (Int.toNat_natCast i)
  rwa [Int.toNat_natCast] at this
theorem pfx_at {i : Nat} (h : i < 32) : ∃ x, pfx[i]? = some x := ⟨_, List.getElem?_eq_getElem (by rw [pfx_len]; exact h)⟩
abbrev zP : List Value := [.string ⟨#[]⟩, .string ⟨#[]⟩, .string ⟨#[]⟩, .string ⟨#[]⟩, .bool false]
theorem named_spec (s : List UInt8) (ra : Option Addr) (rc : Nat) (H : Hp) (hr : Rs H 5 ra 32 rc (pfx.flatMap encP)) :
    SC Tryz.prog 65 [.slice ra 32 rc, .string (bstr s)] H [] (fun v M => v = outP (namedP s) ∧ M = []) := by
  (refine SC_intro Tryz.func65 rfl (by kernel_rfl) (by rw [Tryz.ntmps65]; exact Nat.le_of_ble_eq_true rfl) ?_; simp only [Tryz.ntmps65, argE, Nat.reduceAdd])
  
  repeat' (first | (apply RW.q1; (first | (apply q_bld; exact rfl; first | exact bld30_) | exact qt)) | refine xsg cts ?_ | (apply CW_condT; exact rfl; exact ar) | (apply CW_condF; exact rfl; exact ar) | (refine hK _ _ ?_; clear hK; refine xsg xsl ?_) | ((first | apply RW.a1 | apply RW.a0); (first | (apply gw_alloc (d := some 4); exact rfl; intro b4) | (apply gw_asg; exact rfl) | (apply gw_alloc; exact rfl; intro b) | (refine gw_stx sto ?_) | (fail))) | (apply CW_region; intro K hK) | (apply CW_condX; exact rfl; exact tst; exact tst; all_goals (intro hq hc; try exact no)))
  refine CW_loop (fun m l L' => ∃ i : Nat, m = 32 - i ∧ l = [(1, true, .string (bstr s)), (4, true, .pointer (some ⟨b4, 0, none⟩)), (8, true, .slice ra 32 rc), (9, true, .int .i64 32), (10, true, .int .i64 (i : Nat))] ∧
      L' = [.box b4 30 zP] ∧ i ≤ 32 ∧ ∀ y ∈ pfx.take i, decide (y.nm = s) = false)
    ⟨_, _, _, ⟨0, rfl, rfl, rfl, by omega, by simp⟩, by exact sbe, by exact sbl⟩ ?_
  rintro m l L' ⟨i, rfl, rfl, rfl, hi, hno⟩
  by_cases hin : i < 32
  · obtain ⟨x, hx⟩ := pfx_at hin
    by_cases hnm : x.nm = s
    · have hres : namedP s = some x := find_at hno hx (decide_eq_true hnm)
      repeat' (first | (apply RW.q1; (first | (apply q_lar; exact rfl; exact rfl; exact hr; exact pfx_el hx (by omega); exact rfl; decide) | (apply q_sbT; exact rfl; exact rfl; exact hnm) | (apply q_bld; exact rfl; first | exact bld30_) | exact qt)) | refine xsg cts ?_ | (apply CW_condT; exact rfl; exact ar) | (apply CW_condF; exact rfl; exact ar) | (refine hK _ _ ?_; clear hK; refine xsg xsl ?_) | ((first | apply RW.a1 | apply RW.a0); (first | (apply gw_asg; exact rfl) | (apply gw_alloc; exact rfl; intro b) | (refine gw_stx sto ?_) | (fail))) | (apply CW_region; intro K hK) | (apply CW_condX; exact rfl; exact tst; exact tst; all_goals (intro hq hc; try exact no)))
      (refine CW_ret ?_; refine xsg xsl ?_; refine bodyS_ret (L' := []) (rs := [.cell 4 30, .tmp 5]) (by kernel_rfl) (by (repeat (first | (apply resok_tmp; exact rfl) | (apply resok_cell; exact rfl; exact rfl; (focus ((iterate 16 (try (first | exact pick0 | apply pickS))); done)); (first | exact rfl | assumption | (simp only [List.length_map]; omega)); decide))); exact resok_nil) (by exact sbl) ?_)
      rw [hres]; exact ⟨rfl, rfl⟩
    · repeat' (first | (apply RW.q1; (first | (apply q_lar; exact rfl; exact rfl; exact hr; exact pfx_el hx (by omega); exact rfl; decide) | (apply q_sbF; exact rfl; exact rfl; exact hnm) | (apply q_bld; exact rfl; first | exact bld30_) | exact qt)) | refine xsg cts ?_ | (apply CW_condT; exact rfl; exact ar) | (apply CW_condF; exact rfl; exact ar) | (refine hK _ _ ?_; clear hK; refine xsg xsl ?_) | ((first | apply RW.a1 | apply RW.a0); (first | (apply gw_asg; exact rfl) | (apply gw_alloc; exact rfl; intro b) | (refine gw_stx sto ?_) | (fail))) | (apply CW_region; intro K hK) | (apply CW_condX; exact rfl; exact tst; exact tst; all_goals (intro hq hc; try exact no)))
      exact ⟨_, _, _, ⟨i + 1, rfl, rfl, rfl, by omega, take_more hno hx (decide_eq_false hnm)⟩, by exact sbe, by exact sbl, by omega⟩
  · obtain rfl : i = 32 := by omega
    have hres : namedP s = none := find_no hno
    repeat' (first | (apply RW.q1; (first | (apply q_bld; exact rfl; first | exact bld30_) | exact qt)) | refine xsg cts ?_ | (apply CW_condT; exact rfl; exact ar) | (apply CW_condF; exact rfl; exact ar) | (refine hK _ _ ?_; clear hK; refine xsg xsl ?_) | ((first | apply RW.a1 | apply RW.a0); (first | (apply gw_asg; exact rfl) | (apply gw_alloc; exact rfl; intro b) | (refine gw_stx sto ?_) | (fail))) | (apply CW_region; intro K hK) | (apply CW_condX; exact rfl; exact tst; exact tst; all_goals (intro hq hc; try exact no)))
    (refine CW_ret ?_; refine xsg xsl ?_; refine bodyS_ret (L' := []) (rs := [.cell 4 30, .tmp 5]) (by kernel_rfl) (by (repeat (first | (apply resok_tmp; exact rfl) | (apply resok_cell; exact rfl; exact rfl; (focus ((iterate 16 (try (first | exact pick0 | apply pickS))); done)); (first | exact rfl | assumption | (simp only [List.length_map]; omega)); decide))); exact resok_nil) (by exact sbl) ?_)
    rw [hres]; exact ⟨rfl, rfl⟩
theorem find_muT (s : List UInt8) (h : s = [194, 181] ∨ s = [117]) : ∃ k, Instr.findNow .string (.string (bstr s)) [muE [194, 181] 0, muE [117] 1] 0 = some (some (k, .agg #[.string (bstr mu)])) := by
  rcases h with rfl | rfl
  · exact ⟨0, by simp only [Instr.findNow, Instr.sameNow, bb_self]⟩
  · exact ⟨1, by simp only [Instr.findNow, Instr.sameNow, bb_self, bb_ne (show ([117] : List UInt8) ≠ [194, 181] by decide)]⟩
theorem find_muF (s : List UInt8) (h : ¬ (s = [194, 181] ∨ s = [117])) : Instr.findNow .string (.string (bstr s)) [muE [194, 181] 0, muE [117] 1] 0 = some none := by
  simp only [Instr.findNow, Instr.sameNow, bb_ne fun e => h (.inl e), bb_ne fun e => h (.inr e)]
theorem symbol_spec (s : List UInt8) (ra : Option Addr) (rc : Nat) (H : Hp) (hr : Rs H 5 ra 32 rc (pfx.flatMap encP)) :
    SC Tryz.prog 67 [.slice ra 32 rc, .string (bstr s)] H [] (fun v M => v = outP (symP s) ∧ M = []) := by
  by_cases hs : s = [194, 181] ∨ s = [117]
  · have hT : symT s = mu := if_pos hs
    obtain ⟨k, hk⟩ := find_muT s hs
    (refine SC_intro Tryz.func67 rfl (by kernel_rfl) (by rw [Tryz.ntmps67]; exact Nat.le_of_ble_eq_true rfl) ?_; simp only [Tryz.ntmps67, argE, Nat.reduceAdd])
    
    repeat' (first | (apply RW.q1; (first | (apply q_bld; exact rfl; first | exact bld30_) | exact qt)) | refine xsg cts ?_ | (apply CW_condT; exact rfl; exact ar) | (apply CW_condF; exact rfl; exact ar) | (refine hK _ _ ?_; clear hK; refine xsg xsl ?_) | ((first | apply RW.a1 | apply RW.a0); (first | (apply gw_alloc (d := some 4); exact rfl; intro b4) | (apply gw_call (f := 95); exact rfl; exact go95; intro G hG; refine SC.mono (symbols_spec G) ?_; rintro v M ⟨mb, rfl, rfl⟩; (try dsimp only [jL, jM])) | (apply gw_lookup; exact rfl; exact rfl; infer_instance; exact hk) | (apply gw_asg; exact rfl) | (apply gw_alloc; exact rfl; intro b) | (refine gw_stx sto ?_) | (fail))) | (apply CW_region; intro K hK) | (apply CW_condX; exact rfl; exact tst; exact tst; all_goals (intro hq hc; try exact no)))
    refine CW_loop (fun m l L' => ∃ i : Nat, m = 32 - i ∧ l = [(1, true, .string (bstr mu)), (4, true, .pointer (some ⟨b4, 0, none⟩)), (19, true, .slice ra 32 rc), (20, true, .int .i64 32), (21, true, .int .i64 (i : Nat))] ∧
        L' = [.box b4 30 zP] ∧ i ≤ 32 ∧ ∀ y ∈ pfx.take i, decide (y.sy = symT s) = false)
      ⟨_, _, _, ⟨0, rfl, rfl, rfl, by omega, by simp⟩, by exact sbe, by exact sbl⟩ ?_
    rintro m l L' ⟨i, rfl, rfl, rfl, hi, hno⟩
    by_cases hin : i < 32
    · obtain ⟨x, hx⟩ := pfx_at hin
      by_cases hnm : x.sy = symT s
      · have hres : symP s = some x := find_at hno hx (decide_eq_true hnm)
        have hnm2 : x.sy = mu := hnm.trans hT
        repeat' (first | (apply RW.q1; (first | (apply q_lar; exact rfl; exact rfl; exact hr; exact pfx_el hx (by omega); exact rfl; decide) | (apply q_sbT; exact rfl; exact rfl; exact hnm2) | (apply q_bld; exact rfl; first | exact bld30_) | exact qt)) | refine xsg cts ?_ | (apply CW_condT; exact rfl; exact ar) | (apply CW_condF; exact rfl; exact ar) | (refine hK _ _ ?_; clear hK; refine xsg xsl ?_) | ((first | apply RW.a1 | apply RW.a0); (first | (apply gw_asg; exact rfl) | (apply gw_alloc; exact rfl; intro b) | (refine gw_stx sto ?_) | (fail))) | (apply CW_region; intro K hK) | (apply CW_condX; exact rfl; exact tst; exact tst; all_goals (intro hq hc; try exact no)))
        (refine CW_ret ?_; refine xsg xsl ?_; refine bodyS_ret (L' := []) (rs := [.cell 4 30, .tmp 5]) (by kernel_rfl) (by (repeat (first | (apply resok_tmp; exact rfl) | (apply resok_cell; exact rfl; exact rfl; (focus ((iterate 16 (try (first | exact pick0 | apply pickS))); done)); (first | exact rfl | assumption | (simp only [List.length_map]; omega)); decide))); exact resok_nil) (by exact sbl) ?_)
        rw [hres]; exact ⟨rfl, rfl⟩
      · have hnm2 : x.sy ≠ mu := fun e => hnm (e.trans hT.symm)
        repeat' (first | (apply RW.q1; (first | (apply q_lar; exact rfl; exact rfl; exact hr; exact pfx_el hx (by omega); exact rfl; decide) | (apply q_sbF; exact rfl; exact rfl; exact hnm2) | (apply q_bld; exact rfl; first | exact bld30_) | exact qt)) | refine xsg cts ?_ | (apply CW_condT; exact rfl; exact ar) | (apply CW_condF; exact rfl; exact ar) | (refine hK _ _ ?_; clear hK; refine xsg xsl ?_) | ((first | apply RW.a1 | apply RW.a0); (first | (apply gw_asg; exact rfl) | (apply gw_alloc; exact rfl; intro b) | (refine gw_stx sto ?_) | (fail))) | (apply CW_region; intro K hK) | (apply CW_condX; exact rfl; exact tst; exact tst; all_goals (intro hq hc; try exact no)))
        exact ⟨_, _, _, ⟨i + 1, rfl, rfl, rfl, by omega, take_more hno hx (decide_eq_false hnm)⟩, by exact sbe, by exact sbl, by omega⟩
    · obtain rfl : i = 32 := by omega
      have hres : symP s = none := find_no hno
      repeat' (first | (apply RW.q1; (first | (apply q_bld; exact rfl; first | exact bld30_) | exact qt)) | refine xsg cts ?_ | (apply CW_condT; exact rfl; exact ar) | (apply CW_condF; exact rfl; exact ar) | (refine hK _ _ ?_; clear hK; refine xsg xsl ?_) | ((first | apply RW.a1 | apply RW.a0); (first | (apply gw_asg; exact rfl) | (apply gw_alloc; exact rfl; intro b) | (refine gw_stx sto ?_) | (fail))) | (apply CW_region; intro K hK) | (apply CW_condX; exact rfl; exact tst; exact tst; all_goals (intro hq hc; try exact no)))
      (refine CW_ret ?_; refine xsg xsl ?_; refine bodyS_ret (L' := []) (rs := [.cell 4 30, .tmp 5]) (by kernel_rfl) (by (repeat (first | (apply resok_tmp; exact rfl) | (apply resok_cell; exact rfl; exact rfl; (focus ((iterate 16 (try (first | exact pick0 | apply pickS))); done)); (first | exact rfl | assumption | (simp only [List.length_map]; omega)); decide))); exact resok_nil) (by exact sbl) ?_)
      rw [hres]; exact ⟨rfl, rfl⟩
  · have hT : symT s = s := if_neg hs
    have hk := find_muF s hs
    (refine SC_intro Tryz.func67 rfl (by kernel_rfl) (by rw [Tryz.ntmps67]; exact Nat.le_of_ble_eq_true rfl) ?_; simp only [Tryz.ntmps67, argE, Nat.reduceAdd])
    
    repeat' (first | (apply RW.q1; (first | (apply q_bld; exact rfl; first | exact bld30_) | exact qt)) | refine xsg cts ?_ | (apply CW_condT; exact rfl; exact ar) | (apply CW_condF; exact rfl; exact ar) | (refine hK _ _ ?_; clear hK; refine xsg xsl ?_) | ((first | apply RW.a1 | apply RW.a0); (first | (apply gw_alloc (d := some 4); exact rfl; intro b4) | (apply gw_call (f := 95); exact rfl; exact go95; intro G hG; refine SC.mono (symbols_spec G) ?_; rintro v M ⟨mb, rfl, rfl⟩; (try dsimp only [jL, jM])) | (apply gw_lookup; exact rfl; exact rfl; infer_instance; exact hk) | (apply gw_asg; exact rfl) | (apply gw_alloc; exact rfl; intro b) | (refine gw_stx sto ?_) | (fail))) | (apply CW_region; intro K hK) | (apply CW_condX; exact rfl; exact tst; exact tst; all_goals (intro hq hc; try exact no)))
    refine CW_loop (fun m l L' => ∃ i : Nat, m = 32 - i ∧ l = [(1, true, .string (bstr s)), (4, true, .pointer (some ⟨b4, 0, none⟩)), (19, true, .slice ra 32 rc), (20, true, .int .i64 32), (21, true, .int .i64 (i : Nat))] ∧
        L' = [.box b4 30 zP] ∧ i ≤ 32 ∧ ∀ y ∈ pfx.take i, decide (y.sy = symT s) = false)
      ⟨_, _, _, ⟨0, rfl, rfl, rfl, by omega, by simp⟩, by exact sbe, by exact sbl⟩ ?_
    rintro m l L' ⟨i, rfl, rfl, rfl, hi, hno⟩
    by_cases hin : i < 32
    · obtain ⟨x, hx⟩ := pfx_at hin
      by_cases hnm : x.sy = symT s
      · have hres : symP s = some x := find_at hno hx (decide_eq_true hnm)
        have hnm2 : x.sy = s := hnm.trans hT
        repeat' (first | (apply RW.q1; (first | (apply q_lar; exact rfl; exact rfl; exact hr; exact pfx_el hx (by omega); exact rfl; decide) | (apply q_sbT; exact rfl; exact rfl; exact hnm2) | (apply q_bld; exact rfl; first | exact bld30_) | exact qt)) | refine xsg cts ?_ | (apply CW_condT; exact rfl; exact ar) | (apply CW_condF; exact rfl; exact ar) | (refine hK _ _ ?_; clear hK; refine xsg xsl ?_) | ((first | apply RW.a1 | apply RW.a0); (first | (apply gw_asg; exact rfl) | (apply gw_alloc; exact rfl; intro b) | (refine gw_stx sto ?_) | (fail))) | (apply CW_region; intro K hK) | (apply CW_condX; exact rfl; exact tst; exact tst; all_goals (intro hq hc; try exact no)))
        (refine CW_ret ?_; refine xsg xsl ?_; refine bodyS_ret (L' := []) (rs := [.cell 4 30, .tmp 5]) (by kernel_rfl) (by (repeat (first | (apply resok_tmp; exact rfl) | (apply resok_cell; exact rfl; exact rfl; (focus ((iterate 16 (try (first | exact pick0 | apply pickS))); done)); (first | exact rfl | assumption | (simp only [List.length_map]; omega)); decide))); exact resok_nil) (by exact sbl) ?_)
        rw [hres]; exact ⟨rfl, rfl⟩
      · have hnm2 : x.sy ≠ s := fun e => hnm (e.trans hT.symm)
        repeat' (first | (apply RW.q1; (first | (apply q_lar; exact rfl; exact rfl; exact hr; exact pfx_el hx (by omega); exact rfl; decide) | (apply q_sbF; exact rfl; exact rfl; exact hnm2) | (apply q_bld; exact rfl; first | exact bld30_) | exact qt)) | refine xsg cts ?_ | (apply CW_condT; exact rfl; exact ar) | (apply CW_condF; exact rfl; exact ar) | (refine hK _ _ ?_; clear hK; refine xsg xsl ?_) | ((first | apply RW.a1 | apply RW.a0); (first | (apply gw_asg; exact rfl) | (apply gw_alloc; exact rfl; intro b) | (refine gw_stx sto ?_) | (fail))) | (apply CW_region; intro K hK) | (apply CW_condX; exact rfl; exact tst; exact tst; all_goals (intro hq hc; try exact no)))
        exact ⟨_, _, _, ⟨i + 1, rfl, rfl, rfl, by omega, take_more hno hx (decide_eq_false hnm)⟩, by exact sbe, by exact sbl, by omega⟩
    · obtain rfl : i = 32 := by omega
      have hres : symP s = none := find_no hno
      repeat' (first | (apply RW.q1; (first | (apply q_bld; exact rfl; first | exact bld30_) | exact qt)) | refine xsg cts ?_ | (apply CW_condT; exact rfl; exact ar) | (apply CW_condF; exact rfl; exact ar) | (refine hK _ _ ?_; clear hK; refine xsg xsl ?_) | ((first | apply RW.a1 | apply RW.a0); (first | (apply gw_asg; exact rfl) | (apply gw_alloc; exact rfl; intro b) | (refine gw_stx sto ?_) | (fail))) | (apply CW_region; intro K hK) | (apply CW_condX; exact rfl; exact tst; exact tst; all_goals (intro hq hc; try exact no)))
      (refine CW_ret ?_; refine xsg xsl ?_; refine bodyS_ret (L' := []) (rs := [.cell 4 30, .tmp 5]) (by kernel_rfl) (by (repeat (first | (apply resok_tmp; exact rfl) | (apply resok_cell; exact rfl; exact rfl; (focus ((iterate 16 (try (first | exact pick0 | apply pickS))); done)); (first | exact rfl | assumption | (simp only [List.length_map]; omega)); decide))); exact resok_nil) (by exact sbl) ?_)
      rw [hres]; exact ⟨rfl, rfl⟩
theorem preV_cells (o : Option Px) : ∃ (v1 v2 v3 v4 : ByteArray) (v5 : Bool), preV o = .agg #[.string v1, .string v2, .string v3, .string v4, .bool v5] := by cases o <;> exact ⟨_, _, _, _, _, rfl⟩
theorem pfind_spec (s : List UInt8) (H : Hp) : SC Tryz.prog 18 [.string (bstr s)] H [] (fun v M => v = outP (findP s) ∧ M = []) := by
  cases hn : namedP s with
  | some x =>
    have hres : findP s = some x := by unfold findP; rw [hn]; rfl
    (refine SC_intro Tryz.func18 rfl (by kernel_rfl) (by rw [Tryz.ntmps18]; exact Nat.le_of_ble_eq_true rfl) ?_; simp only [Tryz.ntmps18, argE, Nat.reduceAdd])
    repeat' (first | (apply RW.q1; exact qt) | refine xsg cts ?_ | (apply CW_condT; exact rfl; exact ar) | (apply CW_condF; exact rfl; exact ar) | (refine hK _ _ ?_; clear hK; refine xsg xsl ?_) | ((first | apply RW.a1 | apply RW.a0); (first | (apply gw_call (f := 12); exact rfl; exact go12; intro G hG; refine SC.mono (all_spec G) ?_; rintro v M ⟨ra, rc, rfl, rfl⟩; (try dsimp only [jL, jM])) | (apply gw_callE (f := 65); exact rfl; exact go65; intro G hG; exact named_spec s _ _ G (sl_own (by exact pkx) hG); rw [hn]) | (apply gw_asg; exact rfl) | (apply gw_alloc; exact rfl; intro b) | (refine gw_stx sto ?_) | (fail))) | (apply CW_region; intro K hK) | (apply CW_condX; exact rfl; exact tst; exact tst; all_goals (intro hq hc; try exact no)))
    (refine CW_ret ?_; refine xsg xsl ?_; refine bodyS_ret (L' := []) (rs := [.cell 2 30, .tmp 3]) (by kernel_rfl) (by (repeat (first | (apply resok_tmp; exact rfl) | (apply resok_cell; exact rfl; exact rfl; (focus ((iterate 16 (try (first | exact pick0 | apply pickS))); done)); (first | exact rfl | assumption | (simp only [List.length_map]; omega)); decide))); exact resok_nil) (by exact sbl) ?_)
    rw [hres]; exact ⟨rfl, rfl⟩
  | none =>
    have hres : findP s = symP s := by unfold findP; rw [hn]; rfl
    rw [hres]
    obtain ⟨v1, v2, v3, v4, v5, hv⟩ := preV_cells (symP s)
    unfold outP
    rw [hv]
    (refine SC_intro Tryz.func18 rfl (by kernel_rfl) (by rw [Tryz.ntmps18]; exact Nat.le_of_ble_eq_true rfl) ?_; simp only [Tryz.ntmps18, argE, Nat.reduceAdd])
    repeat' (first | (apply RW.q1; exact qt) | refine xsg cts ?_ | (apply CW_condT; exact rfl; exact ar) | (apply CW_condF; exact rfl; exact ar) | (refine hK _ _ ?_; clear hK; refine xsg xsl ?_) | ((first | apply RW.a1 | apply RW.a0); (first | (apply gw_call (f := 12); exact rfl; exact go12; intro G hG; refine SC.mono (all_spec G) ?_; rintro v M ⟨ra, rc, rfl, rfl⟩; (try dsimp only [jL, jM])) | (apply gw_callE (f := 65); exact rfl; exact go65; intro G hG; exact named_spec s _ _ G (sl_own (by exact pkx) hG); rw [hn]) | (apply gw_callE (f := 67); exact rfl; exact go67; intro G hG; exact symbol_spec s _ _ G (sl_own (by exact pkx) hG); unfold outP; rw [hv]) | (apply gw_asg; exact rfl) | (apply gw_alloc; exact rfl; intro b) | (refine gw_stx sto ?_) | (fail))) | (apply CW_region; intro K hK) | (apply CW_condX; exact rfl; exact tst; exact tst; all_goals (intro hq hc; try exact no)))
    (refine CW_ret ?_; refine xsg xsl ?_; refine bodyS_ret (L' := []) (rs := [.cell 2 30, .tmp 3]) (by kernel_rfl) (by (repeat (first | (apply resok_tmp; exact rfl) | (apply resok_cell; exact rfl; exact rfl; (focus ((iterate 16 (try (first | exact pick0 | apply pickS))); done)); (first | exact rfl | assumption | (simp only [List.length_map]; omega)); decide))); exact resok_nil) (by exact sbl) ?_)
    exact ⟨rfl, rfl⟩
end Go.Proofs.YtnhbipachchlgaaGreat.HL
namespace Go.Proofs.YtnhbipachchlgaaGreat.HL
open Go
attribute [local irreducible] goFn thenS blockS bodyS CW RW DW GW QW NW SC Pick Picks SubL Rd NN ResOk SrcW subE hops hseg AW hgen HC qv bldv
set_option linter.unusedVariables false
set_option linter.unusedSimpArgs false

theorem decD1000 : (⟨#[49, 48, 48, 48]⟩ : ByteArray) = bstr (Lib.decDigits 1000) := by rw [dec_step (by decide), dec_step (by decide), dec_step (by decide), dec_small (by decide)]; rfl
theorem kilo_is : findP [107] = some ⟨[107, 105, 108, 111], [107], 3, false⟩ := by decide +kernel
theorem fac_kilo : bstr (facN ⟨[107, 105, 108, 111], [107], 3, false⟩) = ⟨#[49, 48, 48, 48]⟩ ∧ bstr (facD ⟨[107, 105, 108, 111], [107], 3, false⟩) = ⟨#[49]⟩ := by
  unfold facN facD
  rw [show powN (byP ⟨[107, 105, 108, 111], [107], 3, false⟩) 1 3 = 1000 by decide +kernel, show powN 1 (byP ⟨[107, 105, 108, 111], [107], 3, false⟩) 3 = 1 by decide +kernel, decD1000, e1]
  exact ⟨rfl, rfl⟩
theorem kilo_out : outP (findP [107]) = .tuple #[.agg #[.string ⟨#[107, 105, 108, 111]⟩, .string ⟨#[107]⟩, .string ⟨#[49, 48, 48, 48]⟩, .string ⟨#[49]⟩, .bool false], .bool true] := by
  rw [kilo_is]
  show Value.tuple #[.agg #[.string (bstr [107, 105, 108, 111]), .string (bstr [107]), .string (bstr (facN ⟨[107, 105, 108, 111], [107], 3, false⟩)), .string (bstr (facD ⟨[107, 105, 108, 111], [107], 3, false⟩)), .bool false], .bool true] = _
  rw [fac_kilo.1, fac_kilo.2]
  rfl
theorem known_spec (H : Hp) : SC Tryz.prog 8 [] H [] (fun v M => v = .bool true ∧ M = []) := by
  have hk := fun G => pfind_spec [107] G
  rw [kilo_out] at hk
  (refine SC_intro Tryz.func8 rfl (by kernel_rfl) (by rw [Tryz.ntmps8]; exact Nat.le_of_ble_eq_true rfl) ?_; simp only [Tryz.ntmps8, argE, Nat.reduceAdd])
  
  repeat' (first | (apply RW.q1; (first | (apply q_sbT (a := [107, 105, 108, 111]) (b := [107, 105, 108, 111]); exact rfl; exact rfl; exact rfl) | (apply q_steq; exact rfl; exact rfl; exact guard26; exact eqR_refl 9998 _ _) | (apply q_bld; exact rfl; first | exact bld26_0_1 _ _) | exact qt)) | (apply RW.qg; exact gvx; refine hgx tst ?_; intro hg hg'; (first | (apply q_sbT (a := [107, 105, 108, 111]) (b := [107, 105, 108, 111]); exact evgx; exact rfl; exact rfl) | (apply q_steq; exact evgx; exact evgx; exact guard26; exact eqR_refl 9998 _ _) | (apply q_bld; exact rfl; first | exact bld26_0_1 _ _) | exact qu)) | refine xsg cts ?_ | (apply CW_condT; exact rfl; exact ar) | (apply CW_condF; exact rfl; exact ar) | ((first | apply RW.s1 | apply RW.s0); exact gva) | (refine hK _ _ ?_; clear hK; refine xsg xsl ?_) | ((first | apply RW.a1 | apply RW.a0 | (apply RW.at; exact gva)); (first | (apply gw_callE (f := 18); exact evx; exact go18; intro G hG; exact hk G) | (apply gw_call (f := 12); exact evx; exact go12; intro G hG; refine SC.mono (all_spec G) ?_; rintro v M ⟨ra, rc, rfl, rfl⟩; (try dsimp only [jL, jM])) | (apply gw_asg; exact rfl) | (apply gw_alloc; exact rfl; intro b) | (refine gw_stx sto ?_) | (fail))) | (apply CW_region; intro K hK) | (apply CW_condX; exact rfl; exact tst; exact tst; all_goals (intro hq hc; try exact no)))
  (refine CW_ret ?_; refine xsg xsl ?_; refine bR [.tmp 0] [] ?_)
  exact ⟨rfl, rfl⟩
end Go.Proofs.YtnhbipachchlgaaGreat.HL
