/- NearA: RefL: the document's numbers read: of. Condition: the texts' lengths, which Go bounds. (Printed by of3.py.). RefM: the document's numbers read, against the plain reading; the float nearest to one. Condition: the texts' lengths, which Go bounds. -/
import Derived.Test.YtnhbipachchlgaaGreatEngX
import Derived.Test.YtnhbipachchlgaaGreatLimbsCX
import Derived.Test.YtnhbipachchlgaaGreatPartsBX
import Derived.Test.YtnhbipachchlgaaGreatHLoX
namespace Go.Proofs.YtnhbipachchlgaaGreat.HL
open Go
attribute [local irreducible] goFn thenS blockS bodyS CW RW DW GW QW NW SC Pick Picks SubL Rd NN ResOk SrcW subE hops hseg AW hgen HC qv bldv
set_option maxHeartbeats 8000000
set_option maxRecDepth 100000
set_option linter.unusedVariables false
set_option linter.unusedSimpArgs false

theorem right_two {s : List UInt8} (h : rightB s = true) : (dv s = 0 ↔ s = [48]) := by
  constructor
  · intro e
    rw [← rightB_dec h, e]; exact dec_zero
  · rintro rfl; rfl
theorem dec_one (n : Nat) : Lib.decDigits n = [49] ↔ n = 1 := by
  constructor
  · intro h
    have := congrArg dv h
    rw [dec_dv] at this
    exact this
  · rintro rfl
    rw [dec_small (by decide)]; rfl
theorem of_p0 (d : List UInt8) (hdl : (d.length : Int) ≤ 9223372036854775807) (H : Hp) : SC Tryz.prog 113 [ratV [] d] H [] (fun v M => ∃ (f : Bool) (x y : ByteArray), v = .tuple #[.agg #[.bool f, .string x, .string y], .bool false] ∧ M = []) := by
  have hRs := fun G => rRight_spec [] (by decide) G
  rw [show rightB [] = false from rfl] at hRs
  have c0 : UInt8 := 0
  have hc0 : ([] : List UInt8)[0]? = some c0 → False := fun h => by cases h
  have hRd := fun G => rRight_spec d hdl G
  (refine SC_intro Tryz.func113 rfl (by kernel_rfl) (by rw [Tryz.ntmps113]; exact Nat.le_of_ble_eq_true rfl) ?_; simp only [Tryz.ntmps113, argE, Nat.reduceAdd])
  
  repeat' (first | ((first | apply RW.q1 | (apply DW.q1; exact rfl)); (first | (apply q_lenb; exact rfl) | (apply q_ixc 0; exact rfl; exact rfl; (exfalso; omega); decide) | (apply q_bld; exact rfl; first | exact bld128_ | exact bld128_1_2 _ _) | exact qt)) | ((first | apply RW.qg | (apply DW.qg; exact rfl)); exact gvx; refine hgx tst ?_; intro hg hg'; (first | (apply q_lenb; exact evgx) | (apply q_ixc 0; exact evgx; exact evgx; (exfalso; omega); decide) | (apply q_bld; exact rfl; first | exact bld128_ | exact bld128_1_2 _ _) | exact qu)) | refine xsg cts ?_ | (apply CW_condT; exact rfl; exact ar) | (apply CW_condF; exact rfl; exact ar) | ((first | apply RW.s1 | apply RW.s0 | (apply DW.sa; exact rfl)); exact gva) | (refine hK _ _ ?_; clear hK; refine xsg xsl ?_) | (refine xsg ahd ?_; (first | ((first | apply gw_callE (f := 135) | apply gx_callE (f := 135)); exact evx; exact go135; intro G hG; exact hRs G) | ((first | apply gw_callE (f := 135) | apply gx_callE (f := 135)); exact evx; exact go135; intro G hG; exact hRd G) | (apply gw_asg; exact rfl) | ((first | apply gw_alloc | apply gx_alloc); exact rfl; intro b) | ((first | apply gw_box | apply gx_box); exact rfl; exact rfl; intro b) | (refine gw_stx sto ?_) | (fail))) | (apply CW_region; intro K hK) | (apply CW_condX; exact rfl; exact tst; exact tst; all_goals (intro hq hc; try exact no)) | (refine CW_draw (id := 7) [5] [(0, false), (1, false), (2, false), (3, false), (4, false), (5, true), (6, false), (7, true), (8, false)] mixed (by kernel_rfl) (fun K hK => ?_)))
  all_goals (refine CW_ret ?_; refine xsg xsl ?_; refine bodyS_ret (L' := []) (rs := [.cell 2 128, .tmp 3]) (by kernel_rfl) (by (repeat (first | (apply resok_tmp; exact rfl) | (apply resok_cell; exact rfl; exact rfl; (focus ((iterate 16 (try (first | exact pick0 | apply pickS))); done)); (first | exact rfl | assumption | (simp only [List.length_map]; omega)); decide))); exact resok_nil) (by exact sbl) ?_)
  all_goals exact ⟨_, _, _, rfl, rfl⟩
theorem of_p1 (s d : List UInt8) (c0 : UInt8) (hc0 : s[0]? = some c0) (hcne : (c0.toNat : Int) ≠ 45) (hl0 : 0 < s.length) (hsl : (s.length : Int) ≤ 9223372036854775807) (hdl : (d.length : Int) ≤ 9223372036854775807) (h1 : rightB s = false) (H : Hp) : SC Tryz.prog 113 [ratV s d] H [] (fun v M => ∃ (f : Bool) (x y : ByteArray), v = .tuple #[.agg #[.bool f, .string x, .string y], .bool false] ∧ M = []) := by
  have hRs := fun G => rRight_spec s (by omega) G
  rw [h1] at hRs
  have hRd := fun G => rRight_spec d hdl G
  (refine SC_intro Tryz.func113 rfl (by kernel_rfl) (by rw [Tryz.ntmps113]; exact Nat.le_of_ble_eq_true rfl) ?_; simp only [Tryz.ntmps113, argE, Nat.reduceAdd])
  
  repeat' (first | ((first | apply RW.q1 | (apply DW.q1; exact rfl)); (first | (apply q_lenb; exact rfl) | (apply q_ixc c0; exact rfl; exact rfl; exact hc0; omega) | (apply q_bld; exact rfl; first | exact bld128_ | exact bld128_1_2 _ _) | exact qt)) | ((first | apply RW.qg | (apply DW.qg; exact rfl)); exact gvx; refine hgx tst ?_; intro hg hg'; (first | (apply q_lenb; exact evgx) | (apply q_ixc c0; exact evgx; exact evgx; exact hc0; omega) | (apply q_bld; exact rfl; first | exact bld128_ | exact bld128_1_2 _ _) | exact qu)) | refine xsg cts ?_ | (apply CW_condT; exact rfl; exact ar) | (apply CW_condF; exact rfl; exact ar) | ((first | apply RW.s1 | apply RW.s0 | (apply DW.sa; exact rfl)); exact gva) | (refine hK _ _ ?_; clear hK; refine xsg xsl ?_) | (refine xsg ahd ?_; (first | ((first | apply gw_callE (f := 135) | apply gx_callE (f := 135)); exact evx; exact go135; intro G hG; exact hRs G) | ((first | apply gw_callE (f := 135) | apply gx_callE (f := 135)); exact evx; exact go135; intro G hG; exact hRd G) | (apply gw_asg; exact rfl) | ((first | apply gw_alloc | apply gx_alloc); exact rfl; intro b) | ((first | apply gw_box | apply gx_box); exact rfl; exact rfl; intro b) | (refine gw_stx sto ?_) | (fail))) | (apply CW_region; intro K hK) | (apply CW_condX; exact rfl; exact tst; exact tst; all_goals (intro hq hc; try exact no)) | (refine CW_draw (id := 7) [5] [(0, false), (1, false), (2, false), (3, false), (4, false), (5, true), (6, false), (7, true), (8, false)] mixed (by kernel_rfl) (fun K hK => ?_)))
  all_goals (refine CW_ret ?_; refine xsg xsl ?_; refine bodyS_ret (L' := []) (rs := [.cell 2 128, .tmp 3]) (by kernel_rfl) (by (repeat (first | (apply resok_tmp; exact rfl) | (apply resok_cell; exact rfl; exact rfl; (focus ((iterate 16 (try (first | exact pick0 | apply pickS))); done)); (first | exact rfl | assumption | (simp only [List.length_map]; omega)); decide))); exact resok_nil) (by exact sbl) ?_)
  all_goals exact ⟨_, _, _, rfl, rfl⟩
theorem of_p2 (s d : List UInt8) (c0 : UInt8) (hc0 : s[0]? = some c0) (hcne : (c0.toNat : Int) ≠ 45) (hl0 : 0 < s.length) (hsl : (s.length : Int) ≤ 9223372036854775807) (hdl : (d.length : Int) ≤ 9223372036854775807) (h1 : rightB s = true) (h2 : rightB d = false) (H : Hp) : SC Tryz.prog 113 [ratV s d] H [] (fun v M => ∃ (f : Bool) (x y : ByteArray), v = .tuple #[.agg #[.bool f, .string x, .string y], .bool false] ∧ M = []) := by
  have hRs := fun G => rRight_spec s (by omega) G
  rw [h1] at hRs
  have hRd := fun G => rRight_spec d hdl G
  rw [h2] at hRd
  (refine SC_intro Tryz.func113 rfl (by kernel_rfl) (by rw [Tryz.ntmps113]; exact Nat.le_of_ble_eq_true rfl) ?_; simp only [Tryz.ntmps113, argE, Nat.reduceAdd])
  
  repeat' (first | ((first | apply RW.q1 | (apply DW.q1; exact rfl)); (first | (apply q_lenb; exact rfl) | (apply q_ixc c0; exact rfl; exact rfl; exact hc0; omega) | (apply q_bld; exact rfl; first | exact bld128_ | exact bld128_1_2 _ _) | exact qt)) | ((first | apply RW.qg | (apply DW.qg; exact rfl)); exact gvx; refine hgx tst ?_; intro hg hg'; (first | (apply q_lenb; exact evgx) | (apply q_ixc c0; exact evgx; exact evgx; exact hc0; omega) | (apply q_bld; exact rfl; first | exact bld128_ | exact bld128_1_2 _ _) | exact qu)) | refine xsg cts ?_ | (apply CW_condT; exact rfl; exact ar) | (apply CW_condF; exact rfl; exact ar) | ((first | apply RW.s1 | apply RW.s0 | (apply DW.sa; exact rfl)); exact gva) | (refine hK _ _ ?_; clear hK; refine xsg xsl ?_) | (refine xsg ahd ?_; (first | ((first | apply gw_callE (f := 135) | apply gx_callE (f := 135)); exact evx; exact go135; intro G hG; exact hRs G) | ((first | apply gw_callE (f := 135) | apply gx_callE (f := 135)); exact evx; exact go135; intro G hG; exact hRd G) | (apply gw_asg; exact rfl) | ((first | apply gw_alloc | apply gx_alloc); exact rfl; intro b) | ((first | apply gw_box | apply gx_box); exact rfl; exact rfl; intro b) | (refine gw_stx sto ?_) | (fail))) | (apply CW_region; intro K hK) | (apply CW_condX; exact rfl; exact tst; exact tst; all_goals (intro hq hc; try exact no)) | (refine CW_draw (id := 7) [5] [(0, false), (1, false), (2, false), (3, false), (4, false), (5, true), (6, false), (7, true), (8, false)] mixed (by kernel_rfl) (fun K hK => ?_)))
  all_goals (refine CW_ret ?_; refine xsg xsl ?_; refine bodyS_ret (L' := []) (rs := [.cell 2 128, .tmp 3]) (by kernel_rfl) (by (repeat (first | (apply resok_tmp; exact rfl) | (apply resok_cell; exact rfl; exact rfl; (focus ((iterate 16 (try (first | exact pick0 | apply pickS))); done)); (first | exact rfl | assumption | (simp only [List.length_map]; omega)); decide))); exact resok_nil) (by exact sbl) ?_)
  all_goals exact ⟨_, _, _, rfl, rfl⟩
theorem of_p3 (s d : List UInt8) (c0 : UInt8) (hc0 : s[0]? = some c0) (hcne : (c0.toNat : Int) ≠ 45) (hl0 : 0 < s.length) (hsl : (s.length : Int) ≤ 9223372036854775807) (hdl : (d.length : Int) ≤ 9223372036854775807) (h1 : rightB s = true) (h2 : rightB d = true) (hd0 : d = [48]) (H : Hp) : SC Tryz.prog 113 [ratV s d] H [] (fun v M => ∃ (f : Bool) (x y : ByteArray), v = .tuple #[.agg #[.bool f, .string x, .string y], .bool false] ∧ M = []) := by
  have hRs := fun G => rRight_spec s (by omega) G
  rw [h1] at hRs
  have hRd := fun G => rRight_spec d hdl G
  rw [h2] at hRd
  (refine SC_intro Tryz.func113 rfl (by kernel_rfl) (by rw [Tryz.ntmps113]; exact Nat.le_of_ble_eq_true rfl) ?_; simp only [Tryz.ntmps113, argE, Nat.reduceAdd])
  
  repeat' (first | ((first | apply RW.q1 | (apply DW.q1; exact rfl)); (first | (apply q_lenb; exact rfl) | (apply q_ixc c0; exact rfl; exact rfl; exact hc0; omega) | (apply q_sbeqT (a := d) (b := [48]); exact rfl; exact rfl; exact hd0) | (apply q_bld; exact rfl; first | exact bld128_ | exact bld128_1_2 _ _) | exact qt)) | ((first | apply RW.qg | (apply DW.qg; exact rfl)); exact gvx; refine hgx tst ?_; intro hg hg'; (first | (apply q_lenb; exact evgx) | (apply q_ixc c0; exact evgx; exact evgx; exact hc0; omega) | (apply q_sbeqT (a := d) (b := [48]); exact evgx; exact rfl; exact hd0) | (apply q_bld; exact rfl; first | exact bld128_ | exact bld128_1_2 _ _) | exact qu)) | refine xsg cts ?_ | (apply CW_condT; exact rfl; exact ar) | (apply CW_condF; exact rfl; exact ar) | ((first | apply RW.s1 | apply RW.s0 | (apply DW.sa; exact rfl)); exact gva) | (refine hK _ _ ?_; clear hK; refine xsg xsl ?_) | (refine xsg ahd ?_; (first | ((first | apply gw_callE (f := 135) | apply gx_callE (f := 135)); exact evx; exact go135; intro G hG; exact hRs G) | ((first | apply gw_callE (f := 135) | apply gx_callE (f := 135)); exact evx; exact go135; intro G hG; exact hRd G) | (apply gw_asg; exact rfl) | ((first | apply gw_alloc | apply gx_alloc); exact rfl; intro b) | ((first | apply gw_box | apply gx_box); exact rfl; exact rfl; intro b) | (refine gw_stx sto ?_) | (fail))) | (apply CW_region; intro K hK) | (apply CW_condX; exact rfl; exact tst; exact tst; all_goals (intro hq hc; try exact no)) | (refine CW_draw (id := 7) [5] [(0, false), (1, false), (2, false), (3, false), (4, false), (5, true), (6, false), (7, true), (8, false)] mixed (by kernel_rfl) (fun K hK => ?_)))
  all_goals (refine CW_ret ?_; refine xsg xsl ?_; refine bodyS_ret (L' := []) (rs := [.cell 2 128, .tmp 3]) (by kernel_rfl) (by (repeat (first | (apply resok_tmp; exact rfl) | (apply resok_cell; exact rfl; exact rfl; (focus ((iterate 16 (try (first | exact pick0 | apply pickS))); done)); (first | exact rfl | assumption | (simp only [List.length_map]; omega)); decide))); exact resok_nil) (by exact sbl) ?_)
  all_goals exact ⟨_, _, _, rfl, rfl⟩
theorem of_p5 (s d : List UInt8) (c0 : UInt8) (hc0 : s[0]? = some c0) (hcne : (c0.toNat : Int) ≠ 45) (hl0 : 0 < s.length) (hsl : (s.length : Int) ≤ 9223372036854775807) (hdl : (d.length : Int) ≤ 9223372036854775807) (h1 : rightB s = true) (h2 : rightB d = true) (hd0 : d ≠ [48]) (hg : (dv s).gcd (dv d) = 1) (H : Hp) : SC Tryz.prog 113 [ratV s d] H [] (fun v M => v = .tuple #[.agg #[.bool false, .string (bstr s), .string (bstr d)], .bool true] ∧ M = []) := by
  have hRs := fun G => rRight_spec s (by omega) G
  rw [h1] at hRs
  have hRd := fun G => rRight_spec d hdl G
  rw [h2] at hRd
  have l1 := (rightB_ok h1).2.2.2
  have l2 := (rightB_ok h2).2.2.2
  have hC := fun G => rCommon_spec (dv s) (dv d) G (by rw [rightB_dec h1]; omega) (by rw [rightB_dec h2]; omega)
  rw [rightB_dec h1, rightB_dec h2] at hC
  have hg1 : Lib.decDigits ((dv s).gcd (dv d)) = [49] := (dec_one _).2 hg
  (refine SC_intro Tryz.func113 rfl (by kernel_rfl) (by rw [Tryz.ntmps113]; exact Nat.le_of_ble_eq_true rfl) ?_; simp only [Tryz.ntmps113, argE, Nat.reduceAdd])
  
  repeat' (first | ((first | apply RW.q1 | (apply DW.q1; exact rfl)); (first | (apply q_lenb; exact rfl) | (apply q_ixc c0; exact rfl; exact rfl; exact hc0; omega) | (apply q_sbeqF (a := d) (b := [48]); exact rfl; exact rfl; exact hd0) | (apply q_sbeqT (b := [49]); exact rfl; exact rfl; exact hg1) | (apply q_bld; exact rfl; first | exact bld128_ | exact bld128_1_2 _ _) | exact qt)) | ((first | apply RW.qg | (apply DW.qg; exact rfl)); exact gvx; refine hgx tst ?_; intro hg hg'; (first | (apply q_lenb; exact evgx) | (apply q_ixc c0; exact evgx; exact evgx; exact hc0; omega) | (apply q_sbeqF (a := d) (b := [48]); exact evgx; exact rfl; exact hd0) | (apply q_sbeqT (b := [49]); exact evgx; exact rfl; exact hg1) | (apply q_bld; exact rfl; first | exact bld128_ | exact bld128_1_2 _ _) | exact qu)) | refine xsg cts ?_ | (apply CW_condT; exact rfl; exact ar) | (apply CW_condF; exact rfl; exact ar) | ((first | apply RW.s1 | apply RW.s0 | (apply DW.sa; exact rfl)); exact gva) | (refine hK _ _ ?_; clear hK; refine xsg xsl ?_) | (refine xsg ahd ?_; (first | ((first | apply gw_callE (f := 135) | apply gx_callE (f := 135)); exact evx; exact go135; intro G hG; exact hRs G) | ((first | apply gw_callE (f := 135) | apply gx_callE (f := 135)); exact evx; exact go135; intro G hG; exact hRd G) | ((first | apply gw_callE (f := 87) | apply gx_callE (f := 87)); exact evx; exact go87; intro G hG; exact hC G) | (apply gw_asg; exact rfl) | ((first | apply gw_alloc | apply gx_alloc); exact rfl; intro b) | ((first | apply gw_box | apply gx_box); exact rfl; exact rfl; intro b) | (refine gw_stx sto ?_) | (fail))) | (apply CW_region; intro K hK) | (apply CW_condX; exact rfl; exact tst; exact tst; all_goals (intro hq hc; try exact no)) | (refine CW_draw (id := 7) [5] [(0, false), (1, false), (2, false), (3, false), (4, false), (5, true), (6, false), (7, true), (8, false)] mixed (by kernel_rfl) (fun K hK => ?_)))
  all_goals (refine CW_ret ?_; refine xsg xsl ?_; refine bodyS_ret (L' := []) (rs := [.cell 2 128, .tmp 3]) (by kernel_rfl) (by (repeat (first | (apply resok_tmp; exact rfl) | (apply resok_cell; exact rfl; exact rfl; (focus ((iterate 16 (try (first | exact pick0 | apply pickS))); done)); (first | exact rfl | assumption | (simp only [List.length_map]; omega)); decide))); exact resok_nil) (by exact sbl) ?_)
  all_goals exact ⟨rfl, rfl⟩
theorem of_p6 (s d : List UInt8) (c0 : UInt8) (hc0 : s[0]? = some c0) (hcne : (c0.toNat : Int) ≠ 45) (hl0 : 0 < s.length) (hsl : (s.length : Int) ≤ 9223372036854775807) (hdl : (d.length : Int) ≤ 9223372036854775807) (h1 : rightB s = true) (h2 : rightB d = true) (hd0 : d ≠ [48]) (hg : (dv s).gcd (dv d) ≠ 1) (H : Hp) : SC Tryz.prog 113 [ratV s d] H [] (fun v M => ∃ (f : Bool) (x y : ByteArray), v = .tuple #[.agg #[.bool f, .string x, .string y], .bool false] ∧ M = []) := by
  have hRs := fun G => rRight_spec s (by omega) G
  rw [h1] at hRs
  have hRd := fun G => rRight_spec d hdl G
  rw [h2] at hRd
  have l1 := (rightB_ok h1).2.2.2
  have l2 := (rightB_ok h2).2.2.2
  have hC := fun G => rCommon_spec (dv s) (dv d) G (by rw [rightB_dec h1]; omega) (by rw [rightB_dec h2]; omega)
  rw [rightB_dec h1, rightB_dec h2] at hC
  have hg1 : Lib.decDigits ((dv s).gcd (dv d)) ≠ [49] := fun e => hg ((dec_one _).1 e)
  (refine SC_intro Tryz.func113 rfl (by kernel_rfl) (by rw [Tryz.ntmps113]; exact Nat.le_of_ble_eq_true rfl) ?_; simp only [Tryz.ntmps113, argE, Nat.reduceAdd])
  
  repeat' (first | ((first | apply RW.q1 | (apply DW.q1; exact rfl)); (first | (apply q_lenb; exact rfl) | (apply q_ixc c0; exact rfl; exact rfl; exact hc0; omega) | (apply q_sbeqF (a := d) (b := [48]); exact rfl; exact rfl; exact hd0) | (apply q_sbeqF (b := [49]); exact rfl; exact rfl; exact hg1) | (apply q_bld; exact rfl; first | exact bld128_ | exact bld128_1_2 _ _) | exact qt)) | ((first | apply RW.qg | (apply DW.qg; exact rfl)); exact gvx; refine hgx tst ?_; intro hg hg'; (first | (apply q_lenb; exact evgx) | (apply q_ixc c0; exact evgx; exact evgx; exact hc0; omega) | (apply q_sbeqF (a := d) (b := [48]); exact evgx; exact rfl; exact hd0) | (apply q_sbeqF (b := [49]); exact evgx; exact rfl; exact hg1) | (apply q_bld; exact rfl; first | exact bld128_ | exact bld128_1_2 _ _) | exact qu)) | refine xsg cts ?_ | (apply CW_condT; exact rfl; exact ar) | (apply CW_condF; exact rfl; exact ar) | ((first | apply RW.s1 | apply RW.s0 | (apply DW.sa; exact rfl)); exact gva) | (refine hK _ _ ?_; clear hK; refine xsg xsl ?_) | (refine xsg ahd ?_; (first | ((first | apply gw_callE (f := 135) | apply gx_callE (f := 135)); exact evx; exact go135; intro G hG; exact hRs G) | ((first | apply gw_callE (f := 135) | apply gx_callE (f := 135)); exact evx; exact go135; intro G hG; exact hRd G) | ((first | apply gw_callE (f := 87) | apply gx_callE (f := 87)); exact evx; exact go87; intro G hG; exact hC G) | (apply gw_asg; exact rfl) | ((first | apply gw_alloc | apply gx_alloc); exact rfl; intro b) | ((first | apply gw_box | apply gx_box); exact rfl; exact rfl; intro b) | (refine gw_stx sto ?_) | (fail))) | (apply CW_region; intro K hK) | (apply CW_condX; exact rfl; exact tst; exact tst; all_goals (intro hq hc; try exact no)) | (refine CW_draw (id := 7) [5] [(0, false), (1, false), (2, false), (3, false), (4, false), (5, true), (6, false), (7, true), (8, false)] mixed (by kernel_rfl) (fun K hK => ?_)))
  all_goals (refine CW_ret ?_; refine xsg xsl ?_; refine bodyS_ret (L' := []) (rs := [.cell 2 128, .tmp 3]) (by kernel_rfl) (by (repeat (first | (apply resok_tmp; exact rfl) | (apply resok_cell; exact rfl; exact rfl; (focus ((iterate 16 (try (first | exact pick0 | apply pickS))); done)); (first | exact rfl | assumption | (simp only [List.length_map]; omega)); decide))); exact resok_nil) (by exact sbl) ?_)
  all_goals exact ⟨_, _, _, rfl, rfl⟩
theorem of_n1 (s d : List UInt8) (hsl : (s.length : Int) ≤ 9223372036854775806) (hdl : (d.length : Int) ≤ 9223372036854775807) (h1 : rightB s = false) (H : Hp) : SC Tryz.prog 113 [ratV (45 :: s) d] H [] (fun v M => ∃ (f : Bool) (x y : ByteArray), v = .tuple #[.agg #[.bool f, .string x, .string y], .bool false] ∧ M = []) := by
  have hRs := fun G => rRight_spec s (by omega) G
  rw [h1] at hRs
  have hRd := fun G => rRight_spec d hdl G
  have hll : (45 :: s).length = s.length + 1 := rfl
  have e45 : ((45 : UInt8).toNat : Int) = 45 := rfl
  (refine SC_intro Tryz.func113 rfl (by kernel_rfl) (by rw [Tryz.ntmps113]; exact Nat.le_of_ble_eq_true rfl) ?_; simp only [Tryz.ntmps113, argE, Nat.reduceAdd])
  
  repeat' (first | ((first | apply RW.q1 | (apply DW.q1; exact rfl)); (first | (apply q_lenb; exact rfl) | (apply q_ixc 45; exact rfl; exact rfl; exact rfl; omega) | (apply q_sblo 1; exact rfl; exact rfl; exact rfl; (rw [List.length_cons]; omega)) | (apply q_bld; exact rfl; first | exact bld128_ | exact bld128_1_2 _ _) | exact qt)) | ((first | apply RW.qg | (apply DW.qg; exact rfl)); exact gvx; refine hgx tst ?_; intro hg hg'; (first | (apply q_lenb; exact evgx) | (apply q_ixc 45; exact evgx; exact evgx; exact rfl; omega) | (apply q_sblo 1; exact evgx; exact evgx; exact rfl; (rw [List.length_cons]; omega)) | (apply q_bld; exact rfl; first | exact bld128_ | exact bld128_1_2 _ _) | exact qu)) | refine xsg cts ?_ | (apply CW_condT; exact rfl; exact ar) | (apply CW_condF; exact rfl; exact ar) | ((first | apply RW.s1 | apply RW.s0 | (apply DW.sa; exact rfl)); exact gva) | (refine hK _ _ ?_; clear hK; refine xsg xsl ?_) | (refine xsg ahd ?_; (first | ((first | apply gw_callE (f := 135) | apply gx_callE (f := 135)); exact evx; exact go135; intro G hG; exact hRs G) | ((first | apply gw_callE (f := 135) | apply gx_callE (f := 135)); exact evx; exact go135; intro G hG; exact hRd G) | (apply gw_asg; exact rfl) | ((first | apply gw_alloc | apply gx_alloc); exact rfl; intro b) | ((first | apply gw_box | apply gx_box); exact rfl; exact rfl; intro b) | (refine gw_stx sto ?_) | (fail))) | (apply CW_region; intro K hK) | (apply CW_condX; exact rfl; exact tst; exact tst; all_goals (intro hq hc; try exact no)) | (refine CW_draw (id := 7) [5] [(0, false), (1, false), (2, false), (3, false), (4, false), (5, true), (6, false), (7, true), (8, false)] mixed (by kernel_rfl) (fun K hK => ?_)))
  all_goals (refine CW_ret ?_; refine xsg xsl ?_; refine bodyS_ret (L' := []) (rs := [.cell 2 128, .tmp 3]) (by kernel_rfl) (by (repeat (first | (apply resok_tmp; exact rfl) | (apply resok_cell; exact rfl; exact rfl; (focus ((iterate 16 (try (first | exact pick0 | apply pickS))); done)); (first | exact rfl | assumption | (simp only [List.length_map]; omega)); decide))); exact resok_nil) (by exact sbl) ?_)
  all_goals exact ⟨_, _, _, rfl, rfl⟩
theorem of_n2 (s d : List UInt8) (hsl : (s.length : Int) ≤ 9223372036854775806) (hdl : (d.length : Int) ≤ 9223372036854775807) (h1 : rightB s = true) (h2 : rightB d = false) (H : Hp) : SC Tryz.prog 113 [ratV (45 :: s) d] H [] (fun v M => ∃ (f : Bool) (x y : ByteArray), v = .tuple #[.agg #[.bool f, .string x, .string y], .bool false] ∧ M = []) := by
  have hRs := fun G => rRight_spec s (by omega) G
  rw [h1] at hRs
  have hRd := fun G => rRight_spec d hdl G
  rw [h2] at hRd
  have hll : (45 :: s).length = s.length + 1 := rfl
  have e45 : ((45 : UInt8).toNat : Int) = 45 := rfl
  (refine SC_intro Tryz.func113 rfl (by kernel_rfl) (by rw [Tryz.ntmps113]; exact Nat.le_of_ble_eq_true rfl) ?_; simp only [Tryz.ntmps113, argE, Nat.reduceAdd])
  
  repeat' (first | ((first | apply RW.q1 | (apply DW.q1; exact rfl)); (first | (apply q_lenb; exact rfl) | (apply q_ixc 45; exact rfl; exact rfl; exact rfl; omega) | (apply q_sblo 1; exact rfl; exact rfl; exact rfl; (rw [List.length_cons]; omega)) | (apply q_bld; exact rfl; first | exact bld128_ | exact bld128_1_2 _ _) | exact qt)) | ((first | apply RW.qg | (apply DW.qg; exact rfl)); exact gvx; refine hgx tst ?_; intro hg hg'; (first | (apply q_lenb; exact evgx) | (apply q_ixc 45; exact evgx; exact evgx; exact rfl; omega) | (apply q_sblo 1; exact evgx; exact evgx; exact rfl; (rw [List.length_cons]; omega)) | (apply q_bld; exact rfl; first | exact bld128_ | exact bld128_1_2 _ _) | exact qu)) | refine xsg cts ?_ | (apply CW_condT; exact rfl; exact ar) | (apply CW_condF; exact rfl; exact ar) | ((first | apply RW.s1 | apply RW.s0 | (apply DW.sa; exact rfl)); exact gva) | (refine hK _ _ ?_; clear hK; refine xsg xsl ?_) | (refine xsg ahd ?_; (first | ((first | apply gw_callE (f := 135) | apply gx_callE (f := 135)); exact evx; exact go135; intro G hG; exact hRs G) | ((first | apply gw_callE (f := 135) | apply gx_callE (f := 135)); exact evx; exact go135; intro G hG; exact hRd G) | (apply gw_asg; exact rfl) | ((first | apply gw_alloc | apply gx_alloc); exact rfl; intro b) | ((first | apply gw_box | apply gx_box); exact rfl; exact rfl; intro b) | (refine gw_stx sto ?_) | (fail))) | (apply CW_region; intro K hK) | (apply CW_condX; exact rfl; exact tst; exact tst; all_goals (intro hq hc; try exact no)) | (refine CW_draw (id := 7) [5] [(0, false), (1, false), (2, false), (3, false), (4, false), (5, true), (6, false), (7, true), (8, false)] mixed (by kernel_rfl) (fun K hK => ?_)))
  all_goals (refine CW_ret ?_; refine xsg xsl ?_; refine bodyS_ret (L' := []) (rs := [.cell 2 128, .tmp 3]) (by kernel_rfl) (by (repeat (first | (apply resok_tmp; exact rfl) | (apply resok_cell; exact rfl; exact rfl; (focus ((iterate 16 (try (first | exact pick0 | apply pickS))); done)); (first | exact rfl | assumption | (simp only [List.length_map]; omega)); decide))); exact resok_nil) (by exact sbl) ?_)
  all_goals exact ⟨_, _, _, rfl, rfl⟩
theorem of_n3 (s d : List UInt8) (hsl : (s.length : Int) ≤ 9223372036854775806) (hdl : (d.length : Int) ≤ 9223372036854775807) (h1 : rightB s = true) (h2 : rightB d = true) (hd0 : d = [48]) (H : Hp) : SC Tryz.prog 113 [ratV (45 :: s) d] H [] (fun v M => ∃ (f : Bool) (x y : ByteArray), v = .tuple #[.agg #[.bool f, .string x, .string y], .bool false] ∧ M = []) := by
  have hRs := fun G => rRight_spec s (by omega) G
  rw [h1] at hRs
  have hRd := fun G => rRight_spec d hdl G
  rw [h2] at hRd
  have hll : (45 :: s).length = s.length + 1 := rfl
  have e45 : ((45 : UInt8).toNat : Int) = 45 := rfl
  (refine SC_intro Tryz.func113 rfl (by kernel_rfl) (by rw [Tryz.ntmps113]; exact Nat.le_of_ble_eq_true rfl) ?_; simp only [Tryz.ntmps113, argE, Nat.reduceAdd])
  
  repeat' (first | ((first | apply RW.q1 | (apply DW.q1; exact rfl)); (first | (apply q_lenb; exact rfl) | (apply q_ixc 45; exact rfl; exact rfl; exact rfl; omega) | (apply q_sblo 1; exact rfl; exact rfl; exact rfl; (rw [List.length_cons]; omega)) | (apply q_sbeqT (a := d) (b := [48]); exact rfl; exact rfl; exact hd0) | (apply q_bld; exact rfl; first | exact bld128_ | exact bld128_1_2 _ _) | exact qt)) | ((first | apply RW.qg | (apply DW.qg; exact rfl)); exact gvx; refine hgx tst ?_; intro hg hg'; (first | (apply q_lenb; exact evgx) | (apply q_ixc 45; exact evgx; exact evgx; exact rfl; omega) | (apply q_sblo 1; exact evgx; exact evgx; exact rfl; (rw [List.length_cons]; omega)) | (apply q_sbeqT (a := d) (b := [48]); exact evgx; exact rfl; exact hd0) | (apply q_bld; exact rfl; first | exact bld128_ | exact bld128_1_2 _ _) | exact qu)) | refine xsg cts ?_ | (apply CW_condT; exact rfl; exact ar) | (apply CW_condF; exact rfl; exact ar) | ((first | apply RW.s1 | apply RW.s0 | (apply DW.sa; exact rfl)); exact gva) | (refine hK _ _ ?_; clear hK; refine xsg xsl ?_) | (refine xsg ahd ?_; (first | ((first | apply gw_callE (f := 135) | apply gx_callE (f := 135)); exact evx; exact go135; intro G hG; exact hRs G) | ((first | apply gw_callE (f := 135) | apply gx_callE (f := 135)); exact evx; exact go135; intro G hG; exact hRd G) | (apply gw_asg; exact rfl) | ((first | apply gw_alloc | apply gx_alloc); exact rfl; intro b) | ((first | apply gw_box | apply gx_box); exact rfl; exact rfl; intro b) | (refine gw_stx sto ?_) | (fail))) | (apply CW_region; intro K hK) | (apply CW_condX; exact rfl; exact tst; exact tst; all_goals (intro hq hc; try exact no)) | (refine CW_draw (id := 7) [5] [(0, false), (1, false), (2, false), (3, false), (4, false), (5, true), (6, false), (7, true), (8, false)] mixed (by kernel_rfl) (fun K hK => ?_)))
  all_goals (refine CW_ret ?_; refine xsg xsl ?_; refine bodyS_ret (L' := []) (rs := [.cell 2 128, .tmp 3]) (by kernel_rfl) (by (repeat (first | (apply resok_tmp; exact rfl) | (apply resok_cell; exact rfl; exact rfl; (focus ((iterate 16 (try (first | exact pick0 | apply pickS))); done)); (first | exact rfl | assumption | (simp only [List.length_map]; omega)); decide))); exact resok_nil) (by exact sbl) ?_)
  all_goals exact ⟨_, _, _, rfl, rfl⟩
theorem of_n4 (s d : List UInt8) (hsl : (s.length : Int) ≤ 9223372036854775806) (hdl : (d.length : Int) ≤ 9223372036854775807) (h1 : rightB s = true) (h2 : rightB d = true) (hd0 : d ≠ [48]) (hs0 : s = [48]) (H : Hp) : SC Tryz.prog 113 [ratV (45 :: s) d] H [] (fun v M => ∃ (f : Bool) (x y : ByteArray), v = .tuple #[.agg #[.bool f, .string x, .string y], .bool false] ∧ M = []) := by
  have hRs := fun G => rRight_spec s (by omega) G
  rw [h1] at hRs
  have hRd := fun G => rRight_spec d hdl G
  rw [h2] at hRd
  have hll : (45 :: s).length = s.length + 1 := rfl
  have e45 : ((45 : UInt8).toNat : Int) = 45 := rfl
  (refine SC_intro Tryz.func113 rfl (by kernel_rfl) (by rw [Tryz.ntmps113]; exact Nat.le_of_ble_eq_true rfl) ?_; simp only [Tryz.ntmps113, argE, Nat.reduceAdd])
  
  repeat' (first | ((first | apply RW.q1 | (apply DW.q1; exact rfl)); (first | (apply q_lenb; exact rfl) | (apply q_ixc 45; exact rfl; exact rfl; exact rfl; omega) | (apply q_sblo 1; exact rfl; exact rfl; exact rfl; (rw [List.length_cons]; omega)) | (apply q_sbeqF (a := d) (b := [48]); exact rfl; exact rfl; exact hd0) | (apply q_sbeqT (a := s) (b := [48]); exact rfl; exact rfl; exact hs0) | (apply q_bld; exact rfl; first | exact bld128_ | exact bld128_1_2 _ _) | exact qt)) | ((first | apply RW.qg | (apply DW.qg; exact rfl)); exact gvx; refine hgx tst ?_; intro hg hg'; (first | (apply q_lenb; exact evgx) | (apply q_ixc 45; exact evgx; exact evgx; exact rfl; omega) | (apply q_sblo 1; exact evgx; exact evgx; exact rfl; (rw [List.length_cons]; omega)) | (apply q_sbeqF (a := d) (b := [48]); exact evgx; exact rfl; exact hd0) | (apply q_sbeqT (a := s) (b := [48]); exact evgx; exact rfl; exact hs0) | (apply q_bld; exact rfl; first | exact bld128_ | exact bld128_1_2 _ _) | exact qu)) | refine xsg cts ?_ | (apply CW_condT; exact rfl; exact ar) | (apply CW_condF; exact rfl; exact ar) | ((first | apply RW.s1 | apply RW.s0 | (apply DW.sa; exact rfl)); exact gva) | (refine hK _ _ ?_; clear hK; refine xsg xsl ?_) | (refine xsg ahd ?_; (first | ((first | apply gw_callE (f := 135) | apply gx_callE (f := 135)); exact evx; exact go135; intro G hG; exact hRs G) | ((first | apply gw_callE (f := 135) | apply gx_callE (f := 135)); exact evx; exact go135; intro G hG; exact hRd G) | (apply gw_asg; exact rfl) | ((first | apply gw_alloc | apply gx_alloc); exact rfl; intro b) | ((first | apply gw_box | apply gx_box); exact rfl; exact rfl; intro b) | (refine gw_stx sto ?_) | (fail))) | (apply CW_region; intro K hK) | (apply CW_condX; exact rfl; exact tst; exact tst; all_goals (intro hq hc; try exact no)) | (refine CW_draw (id := 7) [5] [(0, false), (1, false), (2, false), (3, false), (4, false), (5, true), (6, false), (7, true), (8, false)] mixed (by kernel_rfl) (fun K hK => ?_)))
  all_goals (refine CW_ret ?_; refine xsg xsl ?_; refine bodyS_ret (L' := []) (rs := [.cell 2 128, .tmp 3]) (by kernel_rfl) (by (repeat (first | (apply resok_tmp; exact rfl) | (apply resok_cell; exact rfl; exact rfl; (focus ((iterate 16 (try (first | exact pick0 | apply pickS))); done)); (first | exact rfl | assumption | (simp only [List.length_map]; omega)); decide))); exact resok_nil) (by exact sbl) ?_)
  all_goals exact ⟨_, _, _, rfl, rfl⟩
theorem of_n5 (s d : List UInt8) (hsl : (s.length : Int) ≤ 9223372036854775806) (hdl : (d.length : Int) ≤ 9223372036854775807) (h1 : rightB s = true) (h2 : rightB d = true) (hd0 : d ≠ [48]) (hs0 : s ≠ [48]) (hg : (dv s).gcd (dv d) = 1) (H : Hp) : SC Tryz.prog 113 [ratV (45 :: s) d] H [] (fun v M => v = .tuple #[.agg #[.bool true, .string (bstr s), .string (bstr d)], .bool true] ∧ M = []) := by
  have hRs := fun G => rRight_spec s (by omega) G
  rw [h1] at hRs
  have hRd := fun G => rRight_spec d hdl G
  rw [h2] at hRd
  have l1 := (rightB_ok h1).2.2.2
  have l2 := (rightB_ok h2).2.2.2
  have hC := fun G => rCommon_spec (dv s) (dv d) G (by rw [rightB_dec h1]; omega) (by rw [rightB_dec h2]; omega)
  rw [rightB_dec h1, rightB_dec h2] at hC
  have hg1 : Lib.decDigits ((dv s).gcd (dv d)) = [49] := (dec_one _).2 hg
  have hll : (45 :: s).length = s.length + 1 := rfl
  have e45 : ((45 : UInt8).toNat : Int) = 45 := rfl
  (refine SC_intro Tryz.func113 rfl (by kernel_rfl) (by rw [Tryz.ntmps113]; exact Nat.le_of_ble_eq_true rfl) ?_; simp only [Tryz.ntmps113, argE, Nat.reduceAdd])
  
  repeat' (first | ((first | apply RW.q1 | (apply DW.q1; exact rfl)); (first | (apply q_lenb; exact rfl) | (apply q_ixc 45; exact rfl; exact rfl; exact rfl; omega) | (apply q_sblo 1; exact rfl; exact rfl; exact rfl; (rw [List.length_cons]; omega)) | (apply q_sbeqF (a := d) (b := [48]); exact rfl; exact rfl; exact hd0) | (apply q_sbeqF (a := s) (b := [48]); exact rfl; exact rfl; exact hs0) | (apply q_sbeqT (b := [49]); exact rfl; exact rfl; exact hg1) | (apply q_bld; exact rfl; first | exact bld128_ | exact bld128_1_2 _ _) | exact qt)) | ((first | apply RW.qg | (apply DW.qg; exact rfl)); exact gvx; refine hgx tst ?_; intro hg hg'; (first | (apply q_lenb; exact evgx) | (apply q_ixc 45; exact evgx; exact evgx; exact rfl; omega) | (apply q_sblo 1; exact evgx; exact evgx; exact rfl; (rw [List.length_cons]; omega)) | (apply q_sbeqF (a := d) (b := [48]); exact evgx; exact rfl; exact hd0) | (apply q_sbeqF (a := s) (b := [48]); exact evgx; exact rfl; exact hs0) | (apply q_sbeqT (b := [49]); exact evgx; exact rfl; exact hg1) | (apply q_bld; exact rfl; first | exact bld128_ | exact bld128_1_2 _ _) | exact qu)) | refine xsg cts ?_ | (apply CW_condT; exact rfl; exact ar) | (apply CW_condF; exact rfl; exact ar) | ((first | apply RW.s1 | apply RW.s0 | (apply DW.sa; exact rfl)); exact gva) | (refine hK _ _ ?_; clear hK; refine xsg xsl ?_) | (refine xsg ahd ?_; (first | ((first | apply gw_callE (f := 135) | apply gx_callE (f := 135)); exact evx; exact go135; intro G hG; exact hRs G) | ((first | apply gw_callE (f := 135) | apply gx_callE (f := 135)); exact evx; exact go135; intro G hG; exact hRd G) | ((first | apply gw_callE (f := 87) | apply gx_callE (f := 87)); exact evx; exact go87; intro G hG; exact hC G) | (apply gw_asg; exact rfl) | ((first | apply gw_alloc | apply gx_alloc); exact rfl; intro b) | ((first | apply gw_box | apply gx_box); exact rfl; exact rfl; intro b) | (refine gw_stx sto ?_) | (fail))) | (apply CW_region; intro K hK) | (apply CW_condX; exact rfl; exact tst; exact tst; all_goals (intro hq hc; try exact no)) | (refine CW_draw (id := 7) [5] [(0, false), (1, false), (2, false), (3, false), (4, false), (5, true), (6, false), (7, true), (8, false)] mixed (by kernel_rfl) (fun K hK => ?_)))
  all_goals (refine CW_ret ?_; refine xsg xsl ?_; refine bodyS_ret (L' := []) (rs := [.cell 2 128, .tmp 3]) (by kernel_rfl) (by (repeat (first | (apply resok_tmp; exact rfl) | (apply resok_cell; exact rfl; exact rfl; (focus ((iterate 16 (try (first | exact pick0 | apply pickS))); done)); (first | exact rfl | assumption | (simp only [List.length_map]; omega)); decide))); exact resok_nil) (by exact sbl) ?_)
  all_goals exact ⟨rfl, rfl⟩
theorem of_n6 (s d : List UInt8) (hsl : (s.length : Int) ≤ 9223372036854775806) (hdl : (d.length : Int) ≤ 9223372036854775807) (h1 : rightB s = true) (h2 : rightB d = true) (hd0 : d ≠ [48]) (hs0 : s ≠ [48]) (hg : (dv s).gcd (dv d) ≠ 1) (H : Hp) : SC Tryz.prog 113 [ratV (45 :: s) d] H [] (fun v M => ∃ (f : Bool) (x y : ByteArray), v = .tuple #[.agg #[.bool f, .string x, .string y], .bool false] ∧ M = []) := by
  have hRs := fun G => rRight_spec s (by omega) G
  rw [h1] at hRs
  have hRd := fun G => rRight_spec d hdl G
  rw [h2] at hRd
  have l1 := (rightB_ok h1).2.2.2
  have l2 := (rightB_ok h2).2.2.2
  have hC := fun G => rCommon_spec (dv s) (dv d) G (by rw [rightB_dec h1]; omega) (by rw [rightB_dec h2]; omega)
  rw [rightB_dec h1, rightB_dec h2] at hC
  have hg1 : Lib.decDigits ((dv s).gcd (dv d)) ≠ [49] := fun e => hg ((dec_one _).1 e)
  have hll : (45 :: s).length = s.length + 1 := rfl
  have e45 : ((45 : UInt8).toNat : Int) = 45 := rfl
  (refine SC_intro Tryz.func113 rfl (by kernel_rfl) (by rw [Tryz.ntmps113]; exact Nat.le_of_ble_eq_true rfl) ?_; simp only [Tryz.ntmps113, argE, Nat.reduceAdd])
  
  repeat' (first | ((first | apply RW.q1 | (apply DW.q1; exact rfl)); (first | (apply q_lenb; exact rfl) | (apply q_ixc 45; exact rfl; exact rfl; exact rfl; omega) | (apply q_sblo 1; exact rfl; exact rfl; exact rfl; (rw [List.length_cons]; omega)) | (apply q_sbeqF (a := d) (b := [48]); exact rfl; exact rfl; exact hd0) | (apply q_sbeqF (a := s) (b := [48]); exact rfl; exact rfl; exact hs0) | (apply q_sbeqF (b := [49]); exact rfl; exact rfl; exact hg1) | (apply q_bld; exact rfl; first | exact bld128_ | exact bld128_1_2 _ _) | exact qt)) | ((first | apply RW.qg | (apply DW.qg; exact rfl)); exact gvx; refine hgx tst ?_; intro hg hg'; (first | (apply q_lenb; exact evgx) | (apply q_ixc 45; exact evgx; exact evgx; exact rfl; omega) | (apply q_sblo 1; exact evgx; exact evgx; exact rfl; (rw [List.length_cons]; omega)) | (apply q_sbeqF (a := d) (b := [48]); exact evgx; exact rfl; exact hd0) | (apply q_sbeqF (a := s) (b := [48]); exact evgx; exact rfl; exact hs0) | (apply q_sbeqF (b := [49]); exact evgx; exact rfl; exact hg1) | (apply q_bld; exact rfl; first | exact bld128_ | exact bld128_1_2 _ _) | exact qu)) | refine xsg cts ?_ | (apply CW_condT; exact rfl; exact ar) | (apply CW_condF; exact rfl; exact ar) | ((first | apply RW.s1 | apply RW.s0 | (apply DW.sa; exact rfl)); exact gva) | (refine hK _ _ ?_; clear hK; refine xsg xsl ?_) | (refine xsg ahd ?_; (first | ((first | apply gw_callE (f := 135) | apply gx_callE (f := 135)); exact evx; exact go135; intro G hG; exact hRs G) | ((first | apply gw_callE (f := 135) | apply gx_callE (f := 135)); exact evx; exact go135; intro G hG; exact hRd G) | ((first | apply gw_callE (f := 87) | apply gx_callE (f := 87)); exact evx; exact go87; intro G hG; exact hC G) | (apply gw_asg; exact rfl) | ((first | apply gw_alloc | apply gx_alloc); exact rfl; intro b) | ((first | apply gw_box | apply gx_box); exact rfl; exact rfl; intro b) | (refine gw_stx sto ?_) | (fail))) | (apply CW_region; intro K hK) | (apply CW_condX; exact rfl; exact tst; exact tst; all_goals (intro hq hc; try exact no)) | (refine CW_draw (id := 7) [5] [(0, false), (1, false), (2, false), (3, false), (4, false), (5, true), (6, false), (7, true), (8, false)] mixed (by kernel_rfl) (fun K hK => ?_)))
  all_goals (refine CW_ret ?_; refine xsg xsl ?_; refine bodyS_ret (L' := []) (rs := [.cell 2 128, .tmp 3]) (by kernel_rfl) (by (repeat (first | (apply resok_tmp; exact rfl) | (apply resok_cell; exact rfl; exact rfl; (focus ((iterate 16 (try (first | exact pick0 | apply pickS))); done)); (first | exact rfl | assumption | (simp only [List.length_map]; omega)); decide))); exact resok_nil) (by exact sbl) ?_)
  all_goals exact ⟨_, _, _, rfl, rfl⟩
end Go.Proofs.YtnhbipachchlgaaGreat.HL
namespace Go.Proofs.YtnhbipachchlgaaGreat.HL
open Go
attribute [local irreducible] goFn thenS blockS bodyS CW RW DW GW QW NW SC Pick Picks SubL Rd NN ResOk SrcW subE hops hseg AW hgen HC qv bldv
set_option linter.unusedVariables false
set_option linter.unusedSimpArgs false

theorem digit_ne {s : List UInt8} {c : UInt8} (h : rightB s = true) (hc : s[0]? = some c) : (c.toNat : Int) ≠ 45 := by
  have := (rightB_ok h).2.1 c (List.mem_of_getElem? hc)
  omega
theorem of_ok (n d : List UInt8) (a : Int) (q : Nat) (h : readQ n d = some (a, q)) (H : Hp) :
    SC Tryz.prog 113 [ratV n d] H [] (fun v M => v = .tuple #[numV (decide (a < 0)) a.natAbs q, .bool true] ∧ M = []) := by
  unfold readQ at h
  cases hw : wholeZ n with
  | none => rw [hw] at h; cases h
  | some a' =>
    rw [hw] at h
    simp only at h
    split at h
    · rename_i hh
      obtain ⟨h1, h2, h3⟩ := hh
      cases h
      have hdl := (rightB_ok h1).2.2.2
      have hd0 : d ≠ [48] := fun e => h2 ((right_two h1).2 e)
      unfold wholeZ at hw
      split at hw
      · rename_i hr
        cases hw
        have hnl := (rightB_ok hr).2.2.2
        obtain ⟨c0, hc0⟩ : ∃ c, n[0]? = some c := by
          cases n with
          | nil => cases hr
          | cons c t => exact ⟨c, rfl⟩
        have hl0 : 0 < n.length := by
          rcases Nat.eq_zero_or_pos n.length with g | g
          · rw [List.length_eq_zero_iff.1 g] at hr; cases hr
          · exact g
        rw [Int.natAbs_natCast] at h3 ⊢
        rw [decide_eq_false (by omega)]
        have := of_p5 n d c0 hc0 (digit_ne hr hc0) hl0 (by omega) (by omega) hr h1 hd0 h3 H
        unfold numV
        rw [rightB_dec hr, rightB_dec h1]
        exact this
      · split at hw
        · rename_i hr
          obtain ⟨g1, g2, g3⟩ := hr
          cases hw
          obtain ⟨s, rfl⟩ : ∃ s, n = 45 :: s := by
            cases n with
            | nil => cases g1
            | cons c t => exact ⟨t, by have : [c] = [45] := g1; rw [(List.cons.inj this).1]⟩
          have g2' : rightB s = true := g2
          have g3' : dv s ≠ 0 := g3
          have hnl := (rightB_ok g2').2.2.2
          have hs0 : s ≠ [48] := fun e => g3' ((right_two g2').2 e)
          have e1 : (List.drop 1 (45 :: s)) = s := rfl
          rw [e1] at h3 ⊢
          rw [Int.natAbs_neg, Int.natAbs_natCast] at h3 ⊢
          rw [decide_eq_true (by omega)]
          have := of_n5 s d (by omega) (by omega) g2' h1 hd0 hs0 h3 H
          unfold numV
          rw [rightB_dec g2', rightB_dec h1]
          exact this
        · cases hw
    · cases h
theorem of_no (n d : List UInt8) (hn : (n.length : Int) ≤ 9223372036854775807) (hd : (d.length : Int) ≤ 9223372036854775807) (h : readQ n d = none) (H : Hp) :
    SC Tryz.prog 113 [ratV n d] H [] (fun v M => ∃ (f : Bool) (x y : ByteArray), v = .tuple #[.agg #[.bool f, .string x, .string y], .bool false] ∧ M = []) := by
  cases n with
  | nil => exact of_p0 d hd H
  | cons c s =>
    by_cases hc : c = 45
    · subst hc
      rw [List.length_cons] at hn
      cases h1 : rightB s with
      | false => exact of_n1 s d (by omega) hd h1 H
      | true =>
        cases h2 : rightB d with
        | false => exact of_n2 s d (by omega) hd h1 h2 H
        | true =>
          by_cases hd0 : d = [48]
          · exact of_n3 s d (by omega) hd h1 h2 hd0 H
          by_cases hs0 : s = [48]
          · exact of_n4 s d (by omega) hd h1 h2 hd0 hs0 H
          refine of_n6 s d (by omega) hd h1 h2 hd0 hs0 (fun hg => ?_) H
          have hnr : rightB (45 :: s) = false := by
            cases hb : rightB (45 :: s) with
            | false => rfl
            | true => exact absurd rfl (digit_ne hb (c := 45) rfl)
          have hw : wholeZ (45 :: s) = some (-((dv s : Nat) : Int)) := by
            unfold wholeZ
            rw [if_neg (by rw [hnr]; decide), if_pos ⟨rfl, h1, fun e => hs0 ((right_two h1).1 e)⟩]; rfl
          unfold readQ at h
          rw [hw] at h
          simp only at h
          rw [if_pos ⟨h2, fun e => hd0 ((right_two h2).1 e), by rw [Int.natAbs_neg, Int.natAbs_natCast]; exact hg⟩] at h
          cases h
    · have hcne : (c.toNat : Int) ≠ 45 := fun e => by
        have e2 : c.toNat = (45 : UInt8).toNat := by
          have : (45 : UInt8).toNat = 45 := rfl
          omega
        exact hc (UInt8.toNat_inj.1 e2)
      have hl0 : 0 < (c :: s).length := by rw [List.length_cons]; omega
      cases h1 : rightB (c :: s) with
      | false => exact of_p1 (c :: s) d c rfl hcne hl0 (by omega) hd h1 H
      | true =>
        cases h2 : rightB d with
        | false => exact of_p2 (c :: s) d c rfl hcne hl0 (by omega) hd h1 h2 H
        | true =>
          by_cases hd0 : d = [48]
          · exact of_p3 (c :: s) d c rfl hcne hl0 (by omega) hd h1 h2 hd0 H
          refine of_p6 (c :: s) d c rfl hcne hl0 (by omega) hd h1 h2 hd0 (fun hg => ?_) H
          have hw : wholeZ (c :: s) = some ((dv (c :: s) : Nat) : Int) := by
            unfold wholeZ
            rw [if_pos h1]
          unfold readQ at h
          rw [hw] at h
          simp only at h
          rw [if_pos ⟨h2, fun e => hd0 ((right_two h2).1 e), by rw [Int.natAbs_natCast]; exact hg⟩] at h
          cases h
def rnd (a b : Nat) : Nat := if b < 2 * (a % b) ∨ (2 * (a % b) = b ∧ a / b % 2 = 1) then a / b + 1 else a / b
def sgnB (neg : Bool) : Nat := if neg = true then 9223372036854775808 else 0
abbrev bitV (b : Nat) (ok : Bool) : Value := .tuple #[.int .u64 (b : Int), .bool ok]
def tailV (neg : Bool) (e : Int) (m : Nat) : Value :=
  if m = 9007199254740992 then (if 971 < e + 1 then bitV 0 false else bitV ((sgnB neg ||| ((e + 1 + 1075).toNat * 4503599627370496)) ||| 0) true)
  else if 971 < e then bitV 0 false
  else if m < 4503599627370496 then bitV (sgnB neg ||| m) true
  else bitV ((sgnB neg ||| ((e + 1075).toNat * 4503599627370496)) ||| (m - 4503599627370496)) true
def NearR (neg : Bool) (A B : Nat) (v : Value) : Prop :=
  (A = 0 ∧ v = bitV (sgnB neg) true) ∨ (0 < A ∧ ∃ e, SizeP A B e ∧ v = if 971 < e then bitV 0 false else tailV neg e (rnd (scl A B e).1 (scl A B e).2))
theorem tail1 {neg : Bool} {e : Int} {m : Nat} (h : m = 9007199254740992) (h2 : 971 < e + 1) : bitV 0 false = tailV neg e m := by unfold tailV; rw [if_pos h, if_pos h2]
theorem tail2 {neg : Bool} {e : Int} {m : Nat} (h : m = 9007199254740992) (h2 : ¬ 971 < e + 1) : bitV ((sgnB neg ||| ((e + 1 + 1075).toNat * 4503599627370496)) ||| 0) true = tailV neg e m := by unfold tailV; rw [if_pos h, if_neg h2]
theorem tail3 {neg : Bool} {e : Int} {m : Nat} (h : m ≠ 9007199254740992) (h2 : ¬ 971 < e) (h3 : m < 4503599627370496) : bitV (sgnB neg ||| m) true = tailV neg e m := by unfold tailV; rw [if_neg h, if_neg h2, if_pos h3]
theorem tail4 {neg : Bool} {e : Int} {m : Nat} (h : m ≠ 9007199254740992) (h2 : ¬ 971 < e) (h3 : ¬ m < 4503599627370496) : bitV ((sgnB neg ||| ((e + 1075).toNat * 4503599627370496)) ||| (m - 4503599627370496)) true = tailV neg e m := by unfold tailV; rw [if_neg h, if_neg h2, if_neg h3]
theorem or64 {x y : Nat} (hx : x < 18446744073709551616) (hy : y < 18446744073709551616) : bitI .or .u64 (x : Int) (y : Int) = some ((x ||| y : Nat) : Int) := by
  have e1 : (BitVec.ofInt 64 (x : Int)).toNat = x := by rw [BitVec.toNat_ofInt]; omega
  have e2 : (BitVec.ofInt 64 (y : Int)).toNat = y := by rw [BitVec.toNat_ofInt]; omega
  show some (IntKind.u64.wrap ((BitVec.ofInt 64 (x : Int) ||| BitVec.ofInt 64 (y : Int)).toNat : Int)) = _
  rw [BitVec.toNat_or, e1, e2]
  have h : x ||| y < 2 ^ 64 := Nat.or_lt_two_pow (n := 64) (by omega) (by omega)
  congr 1
  exact w_in (by simp only [inb]; omega)
theorem quo_lt {A B : Nat} {e : Int} (hB : 0 < B) (h : BelP A B e) : (scl A B e).1 / (scl A B e).2 < 9007199254740992 ∧ 0 < (scl A B e).2 := by
  have hp : ∀ k, 0 < 2 ^ k := fun k => Nat.pow_pos (by decide)
  have hpos : 0 < (scl A B e).2 := by
    unfold scl
    split
    · exact Nat.mul_pos hB (hp _)
    · exact hB
  refine ⟨?_, hpos⟩
  refine Nat.div_lt_of_lt_mul ?_
  unfold BelP scl at h
  unfold scl
  have e53 : (9007199254740992 : Nat) = 2 ^ 53 := by decide
  rw [e53]
  by_cases h1 : 0 ≤ e
  · rw [if_pos h1]
    rw [if_pos (by omega), show (e + 53).toNat = e.toNat + 53 by omega, Nat.pow_add, ← Nat.mul_assoc] at h
    exact h
  · rw [if_neg h1]
    by_cases h2 : 0 ≤ e + 53
    · rw [if_pos h2] at h
      have e1 : (53 : Nat) = (e + 53).toNat + (-e).toNat := by omega
      have h3 := Nat.mul_lt_mul_of_pos_right h (hp (-e).toNat)
      have e2 : B * 2 ^ (e + 53).toNat * 2 ^ (-e).toNat = B * 2 ^ 53 := by
        rw [Nat.mul_assoc, ← Nat.pow_add, ← e1]
      simp only at h3
      rw [e2] at h3
      exact h3
    · rw [if_neg h2] at h
      have e1 : (-e).toNat = (-(e + 53)).toNat + 53 := by omega
      have h3 := Nat.mul_lt_mul_of_pos_right h (hp 53)
      have e2 : A * 2 ^ (-(e + 53)).toNat * 2 ^ 53 = A * 2 ^ (-e).toNat := by
        rw [Nat.mul_assoc, ← Nat.pow_add, ← e1]
      simp only at h3
      rw [e2] at h3
      exact h3
end Go.Proofs.YtnhbipachchlgaaGreat.HL
