/- QuoB: RatNd: Rat.Set, Rat.Neg and rat.Neg. Condition: the numbers' size. RatNe: rat.Cmp answers at any two texts. Condition: the texts' lengths. -/
import Derived.Test.YtnhbipachchlgaaGreatEng
import Derived.Test.YtnhbipachchlgaaGreatQuoA
namespace Go.Proofs.YtnhbipachchlgaaGreat.HL
open Go
attribute [local irreducible] goFn thenS blockS bodyS CW RW DW GW QW NW SC Pick Picks SubL Rd NN ResOk SrcW subE hops hseg AW hgen HC qv bldv
set_option linter.unusedVariables false
set_option linter.unusedSimpArgs false

set_option maxHeartbeats 4000000 in
set_option maxRecDepth 100000 in
theorem ratSet_spec (bz : Nat) (TB : TypeId) (c0 c1 c2 c3 : Value) (p q : Int) (bx ox : Nat) (H : Hp) (hx : RatW H [.box bz TB [c0, c1, c2, c3]] bx ox p q) (hp : (wd p).length ≤ 1000000) (hq : (wd q).length ≤ 1000000) :
    SC Tryz.prog 133 [.pointer (some ⟨bz, 0, none⟩), .pointer (some ⟨bx, ox, none⟩)] H [.box bz TB [c0, c1, c2, c3]] (fun v M => v = .pointer (some ⟨bz, 0, none⟩) ∧ ∃ pa pc qa qc, M = [.box bz TB (ratB p (den q) pa pc qa qc), intR p pa pc, intR (den q) qa qc]) := by
  (refine SC_intro Tryz.func133 rfl (by kernel_rfl) (by rw [Tryz.ntmps133]; exact Nat.le_of_ble_eq_true rfl) ?_; simp only [Tryz.ntmps133, argE, Nat.reduceAdd])
  
  repeat' (first | ((first | apply RW.q1 | (apply DW.q1; exact rfl)); exact qt) | apply RW.nil | (refine hK _ _ ?_; clear hK; refine xsg xsl ?_) | ((first | apply RW.a1 | apply RW.a0 | (apply DW.a1; exact rfl; exact rfl) | (apply DW.a0; exact rfl; exact rfl) | (apply DW.ag1; exact rfl)); (first | (apply gw_call (f := 91); exact rfl; exact go91; intro G hG; refine SC.mono (num_spec p q bx ox G ((hx.sub (by exact sbl)).base hG) (by omega)) ?_; rintro v M ⟨e1, ea, ec, rfl, rfl⟩; (try dsimp only [List.nil_append, List.cons_append])) | (apply gw_call (f := 83); exact rfl; exact go83; intro G hG; refine SC.mono (denom_spec p q bx ox G ((hx.sub (by exact sbl)).base hG) (by omega)) ?_; rintro v M ⟨f1, fa, fc, rfl, rfl⟩; (try dsimp only [List.nil_append, List.cons_append])) | (apply gw_stb; exact rfl; exact rfl; infer_instance; exact rfl; exact rfl; (first | exact Nat.le_refl 4 | exact Nat.le_add_left 2 2 | (show _ ≤ 4; omega)); exact rfl; exact rfl) | (apply gw_asg; exact rfl) | (refine gw_stx sto ?_) | (fail))) | apply CW_seq | apply CW_block | (apply CW_region; intro K hK) | ((first | apply CW_skip | apply CW_exit); refine xsg xsl ?_) | (apply CW_condT; exact rfl; first | assumption | exact rfl) | (apply CW_condF; exact rfl; first | assumption | exact rfl) | (apply CW_condX; exact rfl; exact tst; exact tst; all_goals (intro hq hc; (try contradiction); (try (exfalso; omega)))) | (refine CW_draw (id := 2) [] [(0, false), (1, false), (2, false), (3, false), (4, false), (5, false), (6, false), (7, false), (8, false), (9, false), (10, true), (11, false), (12, false), (13, true)] mixed (by kernel_rfl) (fun K hK => ?_)) | apply DW.nil | fail)
  all_goals (refine CW_ret ?_; refine xsg xsl ?_; refine bodyS_ret (L' := [.box bz TB (ratB p (den q) ea ec fa fc), intR p ea ec, intR (den q) fa fc]) (rs := [.tmp 4]) (by kernel_rfl) (by (repeat (apply resok_tmp; exact rfl)); exact resok_nil) (by exact sbl) ?_)
  all_goals exact ⟨rfl, ea, ec, fa, fc, rfl⟩
theorem neg_flag (p : Int) : (!decide (p < 0) && !decide (p.sign = 0)) = decide (-p < 0) := by
  rcases Int.lt_trichotomy p 0 with h | h | h
  · rw [decide_eq_true h, decide_eq_false (p := -p < 0) (by omega)]; rfl
  · subst h; rfl
  · rw [decide_eq_false (p := p < 0) (by omega), Int.sign_eq_one_of_pos h, decide_eq_true (p := -p < 0) (by omega)]; rfl
set_option maxHeartbeats 4000000 in
set_option maxRecDepth 100000 in
theorem ratNeg_spec (bz : Nat) (TB : TypeId) (c0 c1 c2 c3 : Value) (p q : Int) (bx ox : Nat) (H : Hp) (hx : RatW H [] bx ox p q) (hp : (wd p).length ≤ 1000000) (hq : (wd q).length ≤ 1000000) :
    SC Tryz.prog 107 [.pointer (some ⟨bz, 0, none⟩), .pointer (some ⟨bx, ox, none⟩)] H [.box bz TB [c0, c1, c2, c3]] (fun v M => v = .pointer (some ⟨bz, 0, none⟩) ∧ ∃ pa pc qa qc, M = [.box bz TB (ratB (-p) (den q) pa pc qa qc), intR (-p) pa pc, intR (den q) qa qc]) := by
  have hf := neg_flag p
  (refine SC_intro Tryz.func107 rfl (by kernel_rfl) (by rw [Tryz.ntmps107]; exact Nat.le_of_ble_eq_true rfl) ?_; simp only [Tryz.ntmps107, argE, Nat.reduceAdd])
  
  repeat' (first | (apply RW.q1; exact qt) | (apply RW.qg; exact gvx; intro hg; have hg' := hg; (try simp only [jC, jD, jA, jB, jE, jG, jF, jH] at hg'); exact qu) | apply RW.nil | (refine hK _ _ ?_; clear hK; refine xsg xsl ?_) | (apply RW.c1; (first | (apply nw_call (f := 98); exact rfl; exact go98; (intro G hG; exact (sign_spec p bz 0 _ _ (ratW_own (by exact pkx) (by exact pkx) (by exact pkx) hG _).1).mono (fun v M h => h.1))))) | ((first | apply RW.a1 | apply RW.a0 | (apply RW.at; exact gva)); (first | (apply gw_callc (f := 133) (M := [.box bz TB _]); exact evx; exact go133; ((repeat ((apply picks_cons; (focus ((iterate 16 (try (first | exact pick0 | apply pickS))); done))))); exact picks_nil); intro G hG; refine SC.mono (ratSet_spec bz TB c0 c1 c2 c3 p q bx ox G ⟨hx.1.up hG.ext, hx.2.up hG.ext⟩ hp hq) ?_; rintro v M ⟨rfl, ea, ec, fa, fc, rfl⟩; (try dsimp only [List.nil_append, List.cons_append])) | (apply gw_asg; exact rfl) | (refine gw_stx sto ?_) | (fail))) | ((first | apply RW.s1 | apply RW.s0); exact gva) | (apply RW.cg; exact gvx; intro hg; have hg' := hg; (try simp only [jC, jD, jA, jB, jE, jG, jF, jH] at hg'); first | (apply nw_call (f := 98); exact evx; exact go98; (intro G hG; exact (sign_spec p bz 0 _ _ (ratW_own (by exact pkx) (by exact pkx) (by exact pkx) hG _).1).mono (fun v M h => h.1)))) | apply CW_seq | apply CW_block | (apply CW_region; intro K hK) | ((first | apply CW_skip | apply CW_exit); refine xsg xsl ?_) | (apply CW_condT; exact rfl; first | assumption | exact rfl) | (apply CW_condF; exact rfl; first | assumption | exact rfl) | (apply CW_condX; exact rfl; exact tst; exact tst; all_goals (intro hq hc; (try contradiction); (try (exfalso; omega)))) | fail)
  all_goals rw [hf]
  all_goals refine CW_drop [.box bz TB (ratB (-p) (den q) ea ec fa fc), intR (-p) ea ec, intR (den q) fa fc] ?_ ?_
  · unfold ratB intR
    rw [wd_neg]
    exact sbl
  · (refine CW_ret ?_; refine xsg xsl ?_; refine bodyS_ret (L' := [.box bz TB (ratB (-p) (den q) ea ec fa fc), intR (-p) ea ec, intR (den q) fa fc]) (rs := [.tmp 4]) (by kernel_rfl) (by (repeat (apply resok_tmp; exact rfl)); exact resok_nil) (by exact sbl) ?_)
    exact ⟨rfl, ea, ec, fa, fc, rfl⟩
set_option maxRecDepth 100000 in
theorem neg1_spec (p q : Int) (bz bx : Nat) (H : Hp) (hx : RatW H [] bx 0 p q) (hp : (wd p).length ≤ 1000000) (hq : (wd q).length ≤ 1000000) :
    SC Tryz.prog 106 [ratP bz, ratP bx] H [.box bz 90 zero4] (fun v M => CbPost (.ok (-p, den q)) bz v M) := by
  (refine SC_intro Tryz.func106 rfl (by kernel_rfl) (by rw [Tryz.ntmps106]; exact Nat.le_of_ble_eq_true rfl) ?_; simp only [Tryz.ntmps106, argE, Nat.reduceAdd])
  repeat' (first | (apply RW.q1; exact qt) | apply RW.nil | (refine hK _ _ ?_; clear hK; refine xsg xsl ?_) | ((first | apply RW.a1 | apply RW.a0); (first | (apply gw_callc (f := 107) (M := [.box bz 90 zero4]); exact rfl; exact go107; ((repeat ((apply picks_cons; (focus ((iterate 16 (try (first | exact pick0 | apply pickS))); done))))); exact picks_nil); intro G hG; refine SC.mono (ratNeg_spec bz 90 _ _ _ _ p q bx 0 G (hx.base (hG.sub subl_nil)) hp hq) ?_; rintro v M ⟨rfl, pa, pc, qa, qc, rfl⟩; (try dsimp only [List.nil_append, List.cons_append])) | (apply gw_asg; exact rfl) | (fail))) | apply CW_seq | apply CW_block | (apply CW_region; intro K hK) | ((first | apply CW_skip | apply CW_exit); refine xsg xsl ?_) | (apply CW_condT; exact rfl; first | assumption | exact rfl) | (apply CW_condF; exact rfl; first | assumption | exact rfl) | (apply CW_condX; exact rfl; exact tst; exact tst; all_goals (intro hq hc; (try contradiction); (try (exfalso; omega)))) | fail)
  (refine CW_ret ?_; refine xsg xsl ?_; refine bodyS_ret (L' := [.box bz 90 (ratB (-p) (den q) pa pc qa qc), intR (-p) pa pc, intR (den q) qa qc]) (rs := [.tmp 4]) (by kernel_rfl) (by (repeat (apply resok_tmp; exact rfl)); exact resok_nil) (by exact sbl) ?_)
  exact ⟨rfl, pa, pc, qa, qc, rfl⟩
set_option maxRecDepth 100000 in
theorem neg_ok (n d : List UInt8) (a : Int) (q : Nat) (h : readQ n d = some (a, q)) (H : Hp) : SC Tryz.prog 74 [ratV n d] H [] (fun v M => v = toldV (-a) (q : Int) ∧ M = []) := by
  obtain ⟨k1, k2, k3⟩ := readQ_pos h
  have hT := fun G => one_ok n d a q h 106 #[] go106 (.ok (-a, den (q : Int))) (by rw [den_pos k1]; exact ⟨by rw [wd_neg]; omega, by omega⟩) G
    (fun G' hx bz bx u => neg1_spec a q bz bx G' u (by omega) (by omega))
  rw [den_pos k1] at hT
  have e : twoV (.ok (-a, (q : Int))) = toldV (-a) (q : Int) := rfl
  rw [e] at hT
  obtain ⟨tx, ty, te, hsh⟩ := told_shape (-a) (q : Int)
  rw [hsh] at hT ⊢
  (refine SC_intro Tryz.func74 rfl (by kernel_rfl) (by rw [Tryz.ntmps74]; exact Nat.le_of_ble_eq_true rfl) ?_; simp only [Tryz.ntmps74, argE, Nat.reduceAdd])
  repeat' (first | (apply RW.q1; exact qt) | apply RW.nil | (refine hK _ _ ?_; clear hK; refine xsg xsl ?_) | ((first | apply RW.a1 | apply RW.a0); (first | (apply gw_call (f := 89); exact rfl; exact go89; intro G hG; refine SC.mono (hT G) ?_; rintro v M ⟨rfl, rfl⟩; (try dsimp only [List.nil_append, List.cons_append])) | (apply gw_asg; exact rfl) | (apply gw_alloc; exact rfl; intro b) | (apply gw_box; exact rfl; exact rfl; intro b) | (refine gw_stx sto ?_) | (fail))) | apply CW_seq | apply CW_block | (apply CW_region; intro K hK) | ((first | apply CW_skip | apply CW_exit); refine xsg xsl ?_) | (apply CW_condT; exact rfl; first | assumption | exact rfl) | (apply CW_condF; exact rfl; first | assumption | exact rfl) | (apply CW_condX; exact rfl; exact tst; exact tst; all_goals (intro hq hc; (try contradiction); (try (exfalso; omega)))) | fail)
  all_goals (refine CW_ret ?_; refine xsg xsl ?_; refine bodyS_ret (L' := []) (rs := [.cell 2 26, .tmp 3]) (by kernel_rfl) (by (repeat (first | (apply resok_tmp; exact rfl) | (apply resok_cell; exact rfl; exact rfl; (focus ((iterate 16 (try (first | exact pick0 | apply pickS))); done)); (first | exact rfl | assumption | (simp only [List.length_map]; omega)); decide))); exact resok_nil) (by exact sbl) ?_)
  all_goals exact ⟨rfl, rfl⟩
end Go.Proofs.YtnhbipachchlgaaGreat.HL
namespace Go.Proofs.YtnhbipachchlgaaGreat.HL
open Go
attribute [local irreducible] goFn thenS blockS bodyS CW RW DW GW QW NW SC Pick Picks SubL Rd NN ResOk SrcW subE hops hseg AW hgen HC qv bldv
set_option linter.unusedVariables false
set_option linter.unusedSimpArgs false

set_option maxHeartbeats 2000000 in
set_option maxRecDepth 100000 in
theorem rcmp_no (n1 d1 n2 d2 : List UInt8) (hn1 : (n1.length : Int) ≤ 9223372036854775807) (hd1 : (d1.length : Int) ≤ 9223372036854775807) (hn2 : (n2.length : Int) ≤ 9223372036854775807) (hd2 : (d2.length : Int) ≤ 9223372036854775807) (h : readQ n1 d1 = none ∨ readQ n2 d2 = none) (H : Hp) :
    SC Tryz.prog 75 [ratV n1 d1, ratV n2 d2] H [] (fun v M => v = .tuple #[.int .i64 0, .int .i64 3] ∧ M = []) := by
  have hA := all_no n1 d1 n2 d2 hn1 hd1 hn2 hd2 h
  (refine SC_intro Tryz.func75 rfl (by kernel_rfl) (by rw [Tryz.ntmps75]; exact Nat.le_of_ble_eq_true rfl) ?_; simp only [Tryz.ntmps75, argE, Nat.reduceAdd])
  
  repeat' (first | ((first | apply RW.q1 | (apply DW.q1; exact rfl)); exact qt) | apply RW.nil | (refine hK _ _ ?_; clear hK; refine xsg xsl ?_) | ((first | apply RW.a1 | apply RW.a0 | (apply DW.a1; exact rfl; exact rfl) | (apply DW.a0; exact rfl; exact rfl) | (apply DW.ag1; exact rfl)); (first | (refine gw_litn (cs := [.string (bstr n1), .string (bstr d1), .string (bstr n2), .string (bstr d2)]) rfl rfl rfl rfl rfl (by decide) (fun lb => ?_)) | (apply gw_call (f := 79); exact rfl; exact go79; intro G hG; refine SC.mono (hA _ _ G (sl_own (by exact pkx) hG)) ?_; rintro v M ⟨rfl, rfl⟩; (try dsimp only [List.nil_append, List.cons_append])) | (apply gw_asg; exact rfl) | (apply gw_box; exact rfl; exact rfl; intro b) | (apply gw_lit1; exact rfl; exact rfl; exact rfl; exact rfl; decide; intro b) | (apply gw_lit2; exact rfl; exact rfl; exact rfl; exact rfl; intro b) | (apply gw_lit3; exact rfl; exact rfl; exact rfl; exact rfl; exact rfl; intro b) | (fail))) | apply CW_seq | apply CW_block | (apply CW_region; intro K hK) | ((first | apply CW_skip | apply CW_exit); refine xsg xsl ?_) | (apply CW_condT; exact rfl; first | assumption | exact rfl) | (apply CW_condF; exact rfl; first | assumption | exact rfl) | (apply CW_condX; exact rfl; exact tst; exact tst; all_goals (intro hq hc; (try contradiction); (try (exfalso; omega)))) | (refine CW_draw (id := 4) [] [(0, false), (1, false), (2, false), (3, false), (4, false), (5, false), (6, true), (7, false), (8, false)] mixed (by kernel_rfl) (fun K hK => ?_)) | apply DW.nil | fail)
  all_goals (refine CW_ret ?_; refine xsg xsl ?_; refine bodyS_ret (L' := []) (rs := [.tmp 4, .tmp 5]) (by kernel_rfl) (by (repeat (apply resok_tmp; exact rfl)); exact resok_nil) (by exact sbl) ?_)
  all_goals exact ⟨rfl, rfl⟩
theorem rcmp_any (n1 d1 n2 d2 : List UInt8) (hn1 : (n1.length : Int) ≤ 9223372036854775807) (hd1 : (d1.length : Int) ≤ 9223372036854775807) (hn2 : (n2.length : Int) ≤ 9223372036854775807) (hd2 : (d2.length : Int) ≤ 9223372036854775807) : ∃ z e : Int, ∀ H : Hp,
    SC Tryz.prog 75 [ratV n1 d1, ratV n2 d2] H [] (fun v M => v = .tuple #[.int .i64 z, .int .i64 e] ∧ M = []) := by
  cases h1 : readQ n1 d1 with
  | none => exact ⟨_, _, rcmp_no n1 d1 n2 d2 hn1 hd1 hn2 hd2 (.inl h1)⟩
  | some p1 =>
    cases h2 : readQ n2 d2 with
    | none => exact ⟨_, _, rcmp_no n1 d1 n2 d2 hn1 hd1 hn2 hd2 (.inr h2)⟩
    | some p2 =>
      obtain ⟨a1, q1⟩ := p1
      obtain ⟨a2, q2⟩ := p2
      exact ⟨_, _, rcmp_ok n1 d1 n2 d2 a1 a2 q1 q2 h1 h2⟩
end Go.Proofs.YtnhbipachchlgaaGreat.HL
