/- QuoB: RatNd: Rat.Set, Rat.Neg and rat.Neg. Condition: the numbers' size. RatNe: rat.Cmp answers at any two texts. Condition: the texts' lengths. -/
import Derived.Test.YtnhbipachchlgaaGreatEngX
import Derived.Test.YtnhbipachchlgaaGreatQuoAX
namespace Go.Proofs.YtnhbipachchlgaaGreat.HL
open Go
attribute [local irreducible] goFn thenS blockS bodyS CW RW DW GW QW NW SC Pick Picks SubL Rd NN ResOk SrcW subE hops hseg AW hgen HC qv bldv
set_option maxHeartbeats 8000000
set_option maxRecDepth 100000
set_option linter.unusedVariables false
set_option linter.unusedSimpArgs false

theorem ratSet_spec (bz : Nat) (TB : TypeId) (c0 c1 c2 c3 : Value) (p q : Int) (bx ox : Nat) (H : Hp) (hx : RatW H [.box bz TB [c0, c1, c2, c3]] bx ox p q) (hp : (wd p).length ≤ 1000000) (hq : (wd q).length ≤ 1000000) :
    SC Tryz.prog 133 [.pointer (some ⟨bz, 0, none⟩), .pointer (some ⟨bx, ox, none⟩)] H [.box bz TB [c0, c1, c2, c3]] (fun v M => v = .pointer (some ⟨bz, 0, none⟩) ∧ ∃ pa pc qa qc, M = [.box bz TB (ratB p (den q) pa pc qa qc), intR p pa pc, intR (den q) qa qc]) := by
  (refine SC_intro Tryz.func133 rfl (by kernel_rfl) (by rw [Tryz.ntmps133]; exact Nat.le_of_ble_eq_true rfl) ?_; simp only [Tryz.ntmps133, argE, Nat.reduceAdd])
  
  repeat' (first | ((first | apply RW.q1 | (apply DW.q1; exact rfl)); exact qt) | refine xsg cts ?_ | (apply CW_condT; exact rfl; exact ar) | (apply CW_condF; exact rfl; exact ar) | (refine hK _ _ ?_; clear hK; refine xsg xsl ?_) | (refine xsg ahd ?_; (first | (apply gw_call (f := 91); exact rfl; exact go91; intro G hG; refine SC.mono (num_spec p q bx ox G ((hx.sub (by exact sbl)).base hG) (by omega)) ?_; rintro v M ⟨e1, ea, ec, rfl, rfl⟩; (try dsimp only [jL, jM])) | (apply gw_call (f := 83); exact rfl; exact go83; intro G hG; refine SC.mono (denom_spec p q bx ox G ((hx.sub (by exact sbl)).base hG) (by omega)) ?_; rintro v M ⟨f1, fa, fc, rfl, rfl⟩; (try dsimp only [jL, jM])) | (apply gw_stb; exact rfl; exact rfl; infer_instance; exact rfl; exact rfl; (first | exact Nat.le_refl 4 | exact Nat.le_add_left 2 2 | (show _ ≤ 4; omega)); exact rfl; exact rfl) | (apply gw_asg; exact rfl) | (refine gw_stx sto ?_) | (fail))) | (apply CW_region; intro K hK) | (apply CW_condX; exact rfl; exact tst; exact tst; all_goals (intro hq hc; try exact no)) | (refine CW_draw (id := 2) [] [(0, false), (1, false), (2, false), (3, false), (4, false), (5, false), (6, false), (7, false), (8, false), (9, false), (10, true), (11, false), (12, false), (13, true)] mixed (by kernel_rfl) (fun K hK => ?_)))
  all_goals (refine CW_ret ?_; refine xsg xsl ?_; refine bR [.tmp 4] [.box bz TB (ratB p (den q) ea ec fa fc), intR p ea ec, intR (den q) fa fc] ?_)
  all_goals exact ⟨rfl, ea, ec, fa, fc, rfl⟩
theorem neg_flag (p : Int) : (!decide (p < 0) && !decide (p.sign = 0)) = decide (-p < 0) := by
  rcases Int.lt_trichotomy p 0 with h | h | h
  · rw [decide_eq_true h, decide_eq_false (p := -p < 0) (by omega)]; rfl
  · subst h; rfl
  · rw [decide_eq_false (p := p < 0) (by omega), Int.sign_eq_one_of_pos h, decide_eq_true (p := -p < 0) (by omega)]; rfl
theorem ratNeg_spec (bz : Nat) (TB : TypeId) (c0 c1 c2 c3 : Value) (p q : Int) (bx ox : Nat) (H : Hp) (hx : RatW H [] bx ox p q) (hp : (wd p).length ≤ 1000000) (hq : (wd q).length ≤ 1000000) :
    SC Tryz.prog 107 [.pointer (some ⟨bz, 0, none⟩), .pointer (some ⟨bx, ox, none⟩)] H [.box bz TB [c0, c1, c2, c3]] (fun v M => v = .pointer (some ⟨bz, 0, none⟩) ∧ ∃ pa pc qa qc, M = [.box bz TB (ratB (-p) (den q) pa pc qa qc), intR (-p) pa pc, intR (den q) qa qc]) := by
  have hf := neg_flag p
  (refine SC_intro Tryz.func107 rfl (by kernel_rfl) (by rw [Tryz.ntmps107]; exact Nat.le_of_ble_eq_true rfl) ?_; simp only [Tryz.ntmps107, argE, Nat.reduceAdd])
  
  repeat' (first | (apply RW.q1; exact qt) | (apply RW.qg; exact gvx; refine hgx tst ?_; intro hg hg'; exact qu) | refine xsg cts ?_ | (apply CW_condT; exact rfl; exact ar) | (apply CW_condF; exact rfl; exact ar) | ((first | apply RW.s1 | apply RW.s0); exact gva) | (refine hK _ _ ?_; clear hK; refine xsg xsl ?_) | (apply RW.c1; (first | (apply nw_call (f := 98); exact rfl; exact go98; (intro G hG; exact (sign_spec p bz 0 _ _ (ratW_own (by exact pkx) (by exact pkx) (by exact pkx) hG _).1).mono (fun v M h => h.1))))) | ((first | apply RW.a1 | apply RW.a0 | (apply RW.at; exact gva)); (first | (apply gw_callc (f := 133) (M := [.box bz TB _]); exact evx; exact go133; exact pcs; intro G hG; refine SC.mono (ratSet_spec bz TB c0 c1 c2 c3 p q bx ox G ⟨hx.1.up hG.ext, hx.2.up hG.ext⟩ hp hq) ?_; rintro v M ⟨rfl, ea, ec, fa, fc, rfl⟩; (try dsimp only [jL, jM])) | (apply gw_asg; exact rfl) | (refine gw_stx sto ?_) | (fail))) | (apply RW.cg; exact gvx; refine hgx tst ?_; intro hg hg'; first | (apply nw_call (f := 98); exact evx; exact go98; (intro G hG; exact (sign_spec p bz 0 _ _ (ratW_own (by exact pkx) (by exact pkx) (by exact pkx) hG _).1).mono (fun v M h => h.1)))) | (apply CW_region; intro K hK) | (apply CW_condX; exact rfl; exact tst; exact tst; all_goals (intro hq hc; try exact no)))
  all_goals rw [hf]
  all_goals refine CW_drop [.box bz TB (ratB (-p) (den q) ea ec fa fc), intR (-p) ea ec, intR (den q) fa fc] ?_ ?_
  · unfold ratB intR
    rw [wd_neg]
    exact sbl
  · (refine CW_ret ?_; refine xsg xsl ?_; refine bR [.tmp 4] [.box bz TB (ratB (-p) (den q) ea ec fa fc), intR (-p) ea ec, intR (den q) fa fc] ?_)
    exact ⟨rfl, ea, ec, fa, fc, rfl⟩
theorem neg1_spec (p q : Int) (bz bx : Nat) (H : Hp) (hx : RatW H [] bx 0 p q) (hp : (wd p).length ≤ 1000000) (hq : (wd q).length ≤ 1000000) :
    SC Tryz.prog 106 [ratP bz, ratP bx] H [.box bz 90 zero4] (fun v M => CbPost (.ok (-p, den q)) bz v M) := by
  (refine SC_intro Tryz.func106 rfl (by kernel_rfl) (by rw [Tryz.ntmps106]; exact Nat.le_of_ble_eq_true rfl) ?_; simp only [Tryz.ntmps106, argE, Nat.reduceAdd])
  repeat' (first | (apply RW.q1; exact qt) | refine xsg cts ?_ | (apply CW_condT; exact rfl; exact ar) | (apply CW_condF; exact rfl; exact ar) | (refine hK _ _ ?_; clear hK; refine xsg xsl ?_) | ((first | apply RW.a1 | apply RW.a0); (first | (apply gw_callc (f := 107) (M := [.box bz 90 zero4]); exact rfl; exact go107; exact pcs; intro G hG; refine SC.mono (ratNeg_spec bz 90 _ _ _ _ p q bx 0 G (hx.base (hG.sub subl_nil)) hp hq) ?_; rintro v M ⟨rfl, pa, pc, qa, qc, rfl⟩; (try dsimp only [jL, jM])) | (apply gw_asg; exact rfl) | (fail))) | (apply CW_region; intro K hK) | (apply CW_condX; exact rfl; exact tst; exact tst; all_goals (intro hq hc; try exact no)))
  (refine CW_ret ?_; refine xsg xsl ?_; refine bR [.tmp 4] [.box bz 90 (ratB (-p) (den q) pa pc qa qc), intR (-p) pa pc, intR (den q) qa qc] ?_)
  exact ⟨rfl, pa, pc, qa, qc, rfl⟩
theorem neg_ok (n d : List UInt8) (a : Int) (q : Nat) (h : readQ n d = some (a, q)) (H : Hp) : SC Tryz.prog 74 [ratV n d] H [] (fun v M => v = toldV (-a) (q : Int) ∧ M = []) := by
  obtain ⟨k1, k2, k3⟩ := readQ_pos h
  have hT := fun G => one_ok n d a q h 106 #[] go106 (.ok (-a, den (q : Int))) (by rw [den_pos k1]; exact ⟨by rw [wd_neg]; omega, by omega⟩) G
    (fun G' hx bz bx u => neg1_spec a q bz bx G' u (by omega) (by omega))
  rw [den_pos k1] at hT
  have e : twoV (.ok (-a, (q : Int))) = toldV (-a) (q : Int) := rfl
  rw [e] at hT
  obtain ⟨tx, ty, te, hsh⟩ := told_shape (-a) (q : Int)
  rw [hsh] at hT ⊢
  (refine SC_intro Tryz.func74 rfl (by kernel_rfl) (by rw [Tryz.ntmps74]; exact Nat.le_of_ble_eq_true rfl) ?_; simp only [Tryz.ntmps74, argE, Nat.reduceAdd])
  repeat' (first | (apply RW.q1; exact qt) | refine xsg cts ?_ | (apply CW_condT; exact rfl; exact ar) | (apply CW_condF; exact rfl; exact ar) | (refine hK _ _ ?_; clear hK; refine xsg xsl ?_) | ((first | apply RW.a1 | apply RW.a0); (first | (apply gw_callE (f := 89); exact rfl; exact go89; intro G hG; exact hT G) | (apply gw_asg; exact rfl) | (apply gw_alloc; exact rfl; intro b) | (apply gw_box; exact rfl; exact rfl; intro b) | (refine gw_stx sto ?_) | (fail))) | (apply CW_region; intro K hK) | (apply CW_condX; exact rfl; exact tst; exact tst; all_goals (intro hq hc; try exact no)))
  all_goals (refine CW_ret ?_; refine xsg xsl ?_; refine bodyS_ret (L' := []) (rs := [.cell 2 26, .tmp 3]) (by kernel_rfl) (by (repeat (first | (apply resok_tmp; exact rfl) | (apply resok_cell; exact rfl; exact rfl; (focus ((iterate 16 (try (first | exact pick0 | apply pickS))); done)); (first | exact rfl | assumption | (simp only [List.length_map]; omega)); decide))); exact resok_nil) (by exact sbl) ?_)
  all_goals exact ⟨rfl, rfl⟩
end Go.Proofs.YtnhbipachchlgaaGreat.HL
namespace Go.Proofs.YtnhbipachchlgaaGreat.HL
open Go
attribute [local irreducible] goFn thenS blockS bodyS CW RW DW GW QW NW SC Pick Picks SubL Rd NN ResOk SrcW subE hops hseg AW hgen HC qv bldv
set_option linter.unusedVariables false
set_option linter.unusedSimpArgs false

end Go.Proofs.YtnhbipachchlgaaGreat.HL
