/- BestC: PfxBa: the document's Right, below, by. Condition: right numbers of at most 600 digits; the texts' lengths. PfxBb: size and below answer exactly. Condition: right numbers. -/
import Derived.Test.YtnhbipachchlgaaGreatEngX
import Derived.Test.YtnhbipachchlgaaGreatNearCX
import Derived.Test.YtnhbipachchlgaaGreatBestAX
import Derived.Test.YtnhbipachchlgaaGreatBestBX
namespace Go.Proofs.YtnhbipachchlgaaGreat.HL
open Go
attribute [local irreducible] goFn thenS blockS bodyS CW RW DW GW QW NW SC Pick Picks SubL Rd NN ResOk SrcW subE hops hseg AW hgen HC qv bldv
set_option maxHeartbeats 8000000
set_option maxRecDepth 100000
set_option linter.unusedVariables false
set_option linter.unusedSimpArgs false

theorem bRight_no (n d : List UInt8) (hn : (n.length : Int) ≤ 9223372036854775807) (hd : (d.length : Int) ≤ 9223372036854775807) (h : readQ n d = none) (H : Hp) :
    SC Tryz.prog 28 [ratV n d] H [] (fun v M => v = .tuple #[.string ⟨#[]⟩, .string ⟨#[]⟩, .bool false, .bool false] ∧ M = []) := by
  have hN := fun G => rNear_no n d hn hd h G
  (refine SC_intro Tryz.func28 rfl (by kernel_rfl) (by rw [Tryz.ntmps28]; exact Nat.le_of_ble_eq_true rfl) ?_; simp only [Tryz.ntmps28, argE, Nat.reduceAdd])
  
  repeat' (first | ((first | apply RW.q1 | (apply DW.q1; exact rfl)); exact qt) | refine xsg cts ?_ | (apply CW_condT; exact rfl; exact ar) | (apply CW_condF; exact rfl; exact ar) | (refine hK _ _ ?_; clear hK; refine xsg xsl ?_) | (refine xsg ahd ?_; (first | (apply gw_callE (f := 84); exact rfl; exact go84; intro G hG; exact hN G) | (apply gw_asg; exact rfl) | (apply gw_box; exact rfl; exact rfl; intro b) | (fail))) | (apply CW_region; intro K hK) | (apply CW_condX; exact rfl; exact tst; exact tst; all_goals (intro hq hc; try exact no)) | (refine CW_draw (id := 5) [] [(0, false), (1, false), (2, false), (3, false), (4, false), (5, false), (6, false), (7, false), (8, false)] mixed (by kernel_rfl) (fun K hK => ?_)) | (refine CW_draw (id := 6) [] [(0, false), (1, false), (2, false), (3, false), (4, false), (5, false), (6, false), (7, false)] mixed (by kernel_rfl) (fun K hK => ?_)))
  all_goals (refine CW_ret ?_; refine xsg xsl ?_; refine bR [.tmp 2, .tmp 3, .tmp 4, .tmp 5] [] ?_)
  all_goals exact ⟨rfl, rfl⟩
theorem near_err (n d : List UInt8) (a : Int) (q : Nat) (h : readQ n d = some (a, q)) (H : Hp) :
    SC Tryz.prog 84 [ratV n d] H [] (fun v M => ∃ (b : Nat) (e : Int), v = .tuple #[.float .f64 b, .int .i64 e] ∧ e ≠ 3 ∧ M = []) := by
  refine (rNear_ok n d a q h H).mono ?_
  rintro v M ⟨b, ok, _, hv, hM⟩
  cases ok with
  | true => exact ⟨b, 0, hv, by decide, hM⟩
  | false => exact ⟨0, 31, hv, by decide, hM⟩
theorem bRight_ok (n d : List UInt8) (a : Int) (q : Nat) (h : readQ n d = some (a, q)) (H : Hp) :
    SC Tryz.prog 28 [ratV n d] H [] (fun v M => v = .tuple #[.string (bstr (Lib.decDigits a.natAbs)), .string (bstr (Lib.decDigits q)), .bool (decide (a < 0)), .bool true] ∧ M = []) := by
  obtain ⟨h1, h2, h3, _, h5, h6⟩ := readQ_txt h
  have hN := fun G => near_err n d a q h G
  rw [← h2]
  by_cases ha : a < 0
  · have hn : n = 45 :: Lib.decDigits a.natAbs := by rw [h1]; unfold decB; rw [if_pos ha]
    rw [decide_eq_true ha]
    rw [hn] at hN ⊢
    (refine SC_intro Tryz.func28 rfl (by kernel_rfl) (by rw [Tryz.ntmps28]; exact Nat.le_of_ble_eq_true rfl) ?_; simp only [Tryz.ntmps28, argE, Nat.reduceAdd])
    
    repeat' (first | ((first | apply RW.q1 | (apply DW.q1; exact rfl)); (first | (apply q_ixc 45; exact rfl; exact rfl; exact rfl; omega) | (apply q_sblo 1; exact rfl; exact rfl; exact rfl; (rw [List.length_cons]; omega)) | exact qt)) | refine xsg cts ?_ | (apply CW_condT; exact rfl; exact ar) | (apply CW_condF; exact rfl; exact ar) | (refine hK _ _ ?_; clear hK; refine xsg xsl ?_) | (refine xsg ahd ?_; (first | (apply gw_call (f := 84); exact rfl; exact go84; intro G hG; refine SC.mono (hN G) ?_; rintro v M ⟨fb, fe, rfl, hfe, rfl⟩; (try dsimp only [jL, jM])) | (apply gw_asg; exact rfl) | (apply gw_box; exact rfl; exact rfl; intro b) | (fail))) | (apply CW_region; intro K hK) | (apply CW_condX; exact rfl; exact tst; exact tst; all_goals (intro hq hc; try exact no)) | (refine CW_draw (id := 5) [] [(0, false), (1, false), (2, false), (3, false), (4, false), (5, false), (6, false), (7, false), (8, false)] mixed (by kernel_rfl) (fun K hK => ?_)) | (refine CW_draw (id := 6) [] [(0, false), (1, false), (2, false), (3, false), (4, false), (5, false), (6, false), (7, false)] mixed (by kernel_rfl) (fun K hK => ?_)))
    all_goals (refine CW_ret ?_; refine xsg xsl ?_; refine bR [.tmp 2, .tmp 3, .tmp 4, .tmp 5] [] ?_)
    all_goals exact ⟨rfl, rfl⟩
  · have hn : n = Lib.decDigits a.natAbs := by rw [h1]; unfold decB; rw [if_neg ha]
    rw [decide_eq_false ha, ← hn]
    obtain ⟨c, t, hc, _⟩ := dec_head a.natAbs
    rw [← hn] at hc
    have hc0 : n[0]? = some c := by rw [hc]; rfl
    have hcd := dec_isDg a.natAbs c (by rw [← hn, hc]; exact List.mem_cons_self ..)
    (refine SC_intro Tryz.func28 rfl (by kernel_rfl) (by rw [Tryz.ntmps28]; exact Nat.le_of_ble_eq_true rfl) ?_; simp only [Tryz.ntmps28, argE, Nat.reduceAdd])
    
    repeat' (first | ((first | apply RW.q1 | (apply DW.q1; exact rfl)); (first | (apply q_ixc c; exact rfl; exact rfl; exact hc0; omega) | exact qt)) | refine xsg cts ?_ | (apply CW_condT; exact rfl; exact ar) | (apply CW_condF; exact rfl; exact ar) | (refine hK _ _ ?_; clear hK; refine xsg xsl ?_) | (refine xsg ahd ?_; (first | (apply gw_call (f := 84); exact rfl; exact go84; intro G hG; refine SC.mono (hN G) ?_; rintro v M ⟨fb, fe, rfl, hfe, rfl⟩; (try dsimp only [jL, jM])) | (apply gw_asg; exact rfl) | (apply gw_box; exact rfl; exact rfl; intro b) | (fail))) | (apply CW_region; intro K hK) | (apply CW_condX; exact rfl; exact tst; exact tst; all_goals (intro hq hc; try exact no)) | (refine CW_draw (id := 5) [] [(0, false), (1, false), (2, false), (3, false), (4, false), (5, false), (6, false), (7, false), (8, false)] mixed (by kernel_rfl) (fun K hK => ?_)) | (refine CW_draw (id := 6) [] [(0, false), (1, false), (2, false), (3, false), (4, false), (5, false), (6, false), (7, false)] mixed (by kernel_rfl) (fun K hK => ?_)))
    all_goals (refine CW_ret ?_; refine xsg xsl ?_; refine bR [.tmp 2, .tmp 3, .tmp 4, .tmp 5] [] ?_)
    all_goals exact ⟨rfl, rfl⟩
theorem bBelow_spec (A B C D : Nat) (H : Hp) (hA : (Lib.decDigits A).length ≤ 601) (hB : (Lib.decDigits B).length ≤ 601) (hC : (Lib.decDigits C).length ≤ 601) (hD : (Lib.decDigits D).length ≤ 601) :
    SC Tryz.prog 29 [.string (bstr (Lib.decDigits A)), .string (bstr (Lib.decDigits B)), .string (bstr (Lib.decDigits C)), .string (bstr (Lib.decDigits D))] H [] (fun v M => v = .bool (decide (A * D < C * B)) ∧ M = []) := by
  have l1 := mul_dec_len hA hD
  have l2 := mul_dec_len hC hB
  have h1 := fun G => rTimes_spec A D G (by omega) (by omega)
  have h2 := fun G => rTimes_spec C B G (by omega) (by omega)
  have h3 := fun G => rCompare_spec (A * D) (C * B) G (by omega) (by omega)
  by_cases hlt : A * D < C * B
  · rw [decide_eq_true hlt]
    have e : cmpN3 (A * D) (C * B) = -1 := if_pos hlt
    rw [e] at h3
    (refine SC_intro Tryz.func29 rfl (by kernel_rfl) (by rw [Tryz.ntmps29]; exact Nat.le_of_ble_eq_true rfl) ?_; simp only [Tryz.ntmps29, argE, Nat.reduceAdd])
    repeat' (first | (apply RW.q1; exact qt) | refine xsg cts ?_ | (apply CW_condT; exact rfl; exact ar) | (apply CW_condF; exact rfl; exact ar) | (refine hK _ _ ?_; clear hK; refine xsg xsl ?_) | ((first | apply RW.a1 | apply RW.a0); (first | (apply gw_callE (f := 86); exact rfl; exact go86; intro G hG; exact h1 G) | (apply gw_callE (f := 86); exact rfl; exact go86; intro G hG; exact h2 G) | (apply gw_callE (f := 85); exact rfl; exact go85; intro G hG; exact h3 G) | (apply gw_asg; exact rfl) | (fail))) | (apply CW_region; intro K hK) | (apply CW_condX; exact rfl; exact tst; exact tst; all_goals (intro hq hc; try exact no)))
    all_goals (refine CW_ret ?_; refine xsg xsl ?_; refine bR [.tmp 8] [] ?_)
    all_goals exact ⟨rfl, rfl⟩
  · rw [decide_eq_false hlt]
    have e : ¬ cmpN3 (A * D) (C * B) < 0 := by
      unfold cmpN3
      rw [if_neg hlt]; split <;> decide
    (refine SC_intro Tryz.func29 rfl (by kernel_rfl) (by rw [Tryz.ntmps29]; exact Nat.le_of_ble_eq_true rfl) ?_; simp only [Tryz.ntmps29, argE, Nat.reduceAdd])
    repeat' (first | (apply RW.q1; exact qt) | refine xsg cts ?_ | (apply CW_condT; exact rfl; exact ar) | (apply CW_condF; exact rfl; exact ar) | (refine hK _ _ ?_; clear hK; refine xsg xsl ?_) | ((first | apply RW.a1 | apply RW.a0); (first | (apply gw_callE (f := 86); exact rfl; exact go86; intro G hG; exact h1 G) | (apply gw_callE (f := 86); exact rfl; exact go86; intro G hG; exact h2 G) | (apply gw_callE (f := 85); exact rfl; exact go85; intro G hG; exact h3 G) | (apply gw_asg; exact rfl) | (fail))) | (apply CW_region; intro K hK) | (apply CW_condX; exact rfl; exact tst; exact tst; all_goals (intro hq hc; try exact no)))
    all_goals (refine CW_ret ?_; refine xsg xsl ?_; refine bR [.tmp 8] [] ?_)
    all_goals exact ⟨congrArg Value.bool (decide_eq_false e), rfl⟩
abbrev fN (x : Px) : Nat := powN (byP x) 1 x.pw
abbrev fD (x : Px) : Nat := powN 1 (byP x) x.pw
theorem fac_len {x : Px} (hx : x ∈ pfx) : (Lib.decDigits (fN x)).length ≤ 600 ∧ (Lib.decDigits (fD x)).length ≤ 600 ∧ 0 < fN x ∧ 0 < fD x := by
  obtain ⟨h1, h2⟩ := byP_le x
  obtain ⟨a1, a2, a3, a4⟩ := fac_ok h1 h2 (pfx_pw x hx)
  exact ⟨a1, a2, powN_pos (by omega) (by decide), powN_pos (by decide) (by omega)⟩
theorem byV {a : Int} {D Y : Nat} (hY : 0 < Y) (hD : 0 < D) : ∃ X y : Nat, X = a.natAbs * D / (a.natAbs * D).gcd Y ∧ y = Y / (a.natAbs * D).gcd Y ∧ toldV (fn (a * (D : Nat)) ((Y : Nat) : Int)) (fd (a * (D : Nat)) ((Y : Nat) : Int)) = if (Lib.decDigits X).length ≤ 600 ∧ (Lib.decDigits y).length ≤ 600 then .tuple #[ratV (if a < 0 then 45 :: Lib.decDigits X else Lib.decDigits X) (Lib.decDigits y), .int .i64 0] else .tuple #[ratV [] [], .int .i64 7] := by
  refine ⟨_, _, rfl, rfl, ?_⟩
  have e1 : (a * (D : Int)).natAbs = a.natAbs * D := by rw [Int.natAbs_mul, Int.natAbs_natCast]
  have e2 : decide (a * (D : Int) < 0) = decide (a < 0) := by
    by_cases h : a < 0
    · rw [decide_eq_true h, decide_eq_true (Int.mul_neg_of_neg_of_pos h (by omega))]
    · rw [decide_eq_false h, decide_eq_false]
      have := Int.mul_nonneg (show 0 ≤ a by omega) (show (0 : Int) ≤ (D : Int) by omega)
      omega
  have hg : 0 < (a.natAbs * D).gcd Y := Nat.gcd_pos_of_pos_right _ hY
  have hy0 : 0 < Y / (a.natAbs * D).gcd Y := Nat.div_pos (Nat.le_of_dvd hY (Nat.gcd_dvd_right _ _)) hg
  unfold toldV fn fd
  rw [e1, e2, Int.natAbs_natCast, decide_eq_false (p := ((Y : Nat) : Int) < 0) (by omega), sg_abs, den_pos hy0, decB_nat]
  congr 3
  by_cases h : a < 0
  · rw [if_pos h, decide_eq_true h]
    have hX : 0 < a.natAbs * D / (a.natAbs * D).gcd Y := Nat.div_pos (Nat.le_of_dvd (Nat.mul_pos (by omega) hD) (Nat.gcd_dvd_left _ _)) hg
    unfold sg decB
    simp only [Bool.bne_false, if_true]
    rw [if_pos (by omega), Int.natAbs_neg, Int.natAbs_natCast]
  · rw [if_neg h, decide_eq_false h]
    unfold sg
    simp only [bne_self_eq_false]
    rw [if_neg (by decide), decB_nat]
theorem bBy_spec (a : Int) (q : Nat) (x : Px) (H : Hp) (hx : x ∈ pfx) (hA : (Lib.decDigits a.natAbs).length ≤ 600) (hq : (Lib.decDigits q).length ≤ 600) (hq0 : 0 < q) :
    SC Tryz.prog 31 [.string (bstr (Lib.decDigits a.natAbs)), .string (bstr (Lib.decDigits q)), .bool (decide (a < 0)), .agg (encP x).toArray] H [] (fun v M => v = toldV (fn (a * (fD x : Nat)) ((q : Int) * (fN x : Nat))) (fd (a * (fD x : Nat)) ((q : Int) * (fN x : Nat))) ∧ M = []) := by
  obtain ⟨f1, f2, f3, f4⟩ := fac_len hx
  have l1 := mul_dec_len (k := 599) (l := 599) hA f2
  have l2 := mul_dec_len (k := 599) (l := 599) hq f1
  have hY : 0 < q * fN x := Nat.mul_pos hq0 f3
  obtain ⟨X, y, hX, hy, hT⟩ := byV (a := a) (D := fD x) (Y := q * fN x) hY f4
  rw [Int.natCast_mul] at hT
  rw [hT]
  have t1 := fun G => rTimes_spec a.natAbs (fD x) G (by omega) (by omega)
  have t2 := fun G => rTimes_spec q (fN x) G (by omega) (by omega)
  have hgd : (a.natAbs * fD x).gcd (q * fN x) ≤ q * fN x := Nat.le_of_dvd hY (Nat.gcd_dvd_right _ _)
  have lg := dec_len_mono hgd
  have hg : 0 < (a.natAbs * fD x).gcd (q * fN x) := Nat.gcd_pos_of_pos_right _ hY
  have t3 := fun G => rCommon_spec (a.natAbs * fD x) (q * fN x) G (by omega) (by omega)
  have t4 := fun G => rDivide_spec (a.natAbs * fD x) _ G hg (by omega) (by omega)
  have t5 := fun G => rDivide_spec (q * fN x) _ G hg (by omega) (by omega)
  rw [← hX] at t4
  rw [← hy] at t5
  have z1 : (bstr (Lib.decDigits X)).size = (Lib.decDigits X).length := rfl
  have z2 : (bstr (Lib.decDigits y)).size = (Lib.decDigits y).length := rfl
  have l3 := dec_len_mono (show X ≤ a.natAbs * fD x by rw [hX]; exact Nat.div_le_self _ _)
  have l4 := dec_len_mono (show y ≤ q * fN x by rw [hy]; exact Nat.div_le_self _ _)
  clear hX hy hT
  by_cases hl : (Lib.decDigits X).length ≤ 600 ∧ (Lib.decDigits y).length ≤ 600
  · rw [if_pos hl]
    obtain ⟨hl1, hl2⟩ := hl
    by_cases hn : a < 0
    · rw [if_pos hn, decide_eq_true hn]
      (refine SC_intro Tryz.func31 rfl (by kernel_rfl) (by rw [Tryz.ntmps31]; exact Nat.le_of_ble_eq_true rfl) ?_; simp only [Tryz.ntmps31, argE, Nat.reduceAdd])
      
      repeat' (first | (apply RW.q1; (first | (apply q_lenb; exact rfl) | (apply q_sapp (a := [45]); exact rfl; exact rfl; (show ((1 + (Lib.decDigits X).length : Nat) : Int) ≤ 9223372036854775807; omega)) | (apply q_bld; exact rfl; first | exact bld26_ | exact bld26_0_1 _ _) | exact qt)) | (apply RW.qg; exact gvx; refine hgx tst ?_; intro hg hg'; (first | (apply q_lenb; exact evgx) | (apply q_sapp (a := [45]); exact evgx; exact evgx; (show ((1 + (Lib.decDigits X).length : Nat) : Int) ≤ 9223372036854775807; omega)) | (apply q_bld; exact rfl; first | exact bld26_ | exact bld26_0_1 _ _) | exact qu)) | refine xsg cts ?_ | (apply CW_condT; exact rfl; exact ar) | (apply CW_condF; exact rfl; exact ar) | ((first | apply RW.s1 | apply RW.s0); exact gva) | (refine hK _ _ ?_; clear hK; refine xsg xsl ?_) | ((first | apply RW.a1 | apply RW.a0 | (apply RW.at; exact gva)); (first | (apply gw_callE (f := 86); exact evx; exact go86; intro G hG; exact t1 G) | (apply gw_callE (f := 86); exact evx; exact go86; intro G hG; exact t2 G) | (apply gw_callE (f := 87); exact evx; exact go87; intro G hG; exact t3 G) | (apply gw_callE (f := 88); exact evx; exact go88; intro G hG; exact t4 G) | (apply gw_callE (f := 88); exact evx; exact go88; intro G hG; exact t5 G) | (apply gw_asg; exact rfl) | (apply gw_alloc; exact rfl; intro b) | (apply gw_box; exact rfl; exact rfl; intro b) | (refine gw_stx sto ?_) | (fail))) | (apply CW_region; intro K hK) | (apply CW_condX; exact rfl; exact tst; exact tst; all_goals (intro hq hc; try exact no)))
      all_goals (first | (exfalso; omega) | skip)
      all_goals (refine CW_ret ?_; refine xsg xsl ?_; refine bodyS_ret (L' := []) (rs := [.cell 8 26, .tmp 9]) (by kernel_rfl) (by (repeat (first | (apply resok_tmp; exact rfl) | (apply resok_cell; exact rfl; exact rfl; (focus ((iterate 16 (try (first | exact pick0 | apply pickS))); done)); (first | exact rfl | assumption | (simp only [List.length_map]; omega)); decide))); exact resok_nil) (by exact sbl) ?_)
      all_goals exact ⟨rfl, rfl⟩
    · rw [if_neg hn, decide_eq_false hn]
      (refine SC_intro Tryz.func31 rfl (by kernel_rfl) (by rw [Tryz.ntmps31]; exact Nat.le_of_ble_eq_true rfl) ?_; simp only [Tryz.ntmps31, argE, Nat.reduceAdd])
      
      repeat' (first | (apply RW.q1; (first | (apply q_lenb; exact rfl) | (apply q_bld; exact rfl; first | exact bld26_ | exact bld26_0_1 _ _) | exact qt)) | (apply RW.qg; exact gvx; refine hgx tst ?_; intro hg hg'; (first | (apply q_lenb; exact evgx) | (apply q_bld; exact rfl; first | exact bld26_ | exact bld26_0_1 _ _) | exact qu)) | refine xsg cts ?_ | (apply CW_condT; exact rfl; exact ar) | (apply CW_condF; exact rfl; exact ar) | ((first | apply RW.s1 | apply RW.s0); exact gva) | (refine hK _ _ ?_; clear hK; refine xsg xsl ?_) | ((first | apply RW.a1 | apply RW.a0 | (apply RW.at; exact gva)); (first | (apply gw_callE (f := 86); exact evx; exact go86; intro G hG; exact t1 G) | (apply gw_callE (f := 86); exact evx; exact go86; intro G hG; exact t2 G) | (apply gw_callE (f := 87); exact evx; exact go87; intro G hG; exact t3 G) | (apply gw_callE (f := 88); exact evx; exact go88; intro G hG; exact t4 G) | (apply gw_callE (f := 88); exact evx; exact go88; intro G hG; exact t5 G) | (apply gw_asg; exact rfl) | (apply gw_alloc; exact rfl; intro b) | (apply gw_box; exact rfl; exact rfl; intro b) | (refine gw_stx sto ?_) | (fail))) | (apply CW_region; intro K hK) | (apply CW_condX; exact rfl; exact tst; exact tst; all_goals (intro hq hc; try exact no)))
      all_goals (first | (exfalso; omega) | skip)
      all_goals (refine CW_ret ?_; refine xsg xsl ?_; refine bodyS_ret (L' := []) (rs := [.cell 8 26, .tmp 9]) (by kernel_rfl) (by (repeat (first | (apply resok_tmp; exact rfl) | (apply resok_cell; exact rfl; exact rfl; (focus ((iterate 16 (try (first | exact pick0 | apply pickS))); done)); (first | exact rfl | assumption | (simp only [List.length_map]; omega)); decide))); exact resok_nil) (by exact sbl) ?_)
      all_goals exact ⟨rfl, rfl⟩
  · rw [if_neg hl]
    have hl' : 600 < (Lib.decDigits X).length ∨ 600 < (Lib.decDigits y).length := by omega
    (refine SC_intro Tryz.func31 rfl (by kernel_rfl) (by rw [Tryz.ntmps31]; exact Nat.le_of_ble_eq_true rfl) ?_; simp only [Tryz.ntmps31, argE, Nat.reduceAdd])
    
    repeat' (first | (apply RW.q1; (first | (apply q_lenb; exact rfl) | (apply q_bld; exact rfl; first | exact bld26_ | exact bld26_0_1 _ _) | exact qt)) | (apply RW.qg; exact gvx; refine hgx tst ?_; intro hg hg'; (first | (apply q_lenb; exact evgx) | (apply q_bld; exact rfl; first | exact bld26_ | exact bld26_0_1 _ _) | exact qu)) | refine xsg cts ?_ | (apply CW_condT; exact rfl; exact ar) | (apply CW_condF; exact rfl; exact ar) | ((first | apply RW.s1 | apply RW.s0); exact gva) | (refine hK _ _ ?_; clear hK; refine xsg xsl ?_) | ((first | apply RW.a1 | apply RW.a0 | (apply RW.at; exact gva)); (first | (apply gw_callE (f := 86); exact evx; exact go86; intro G hG; exact t1 G) | (apply gw_callE (f := 86); exact evx; exact go86; intro G hG; exact t2 G) | (apply gw_callE (f := 87); exact evx; exact go87; intro G hG; exact t3 G) | (apply gw_callE (f := 88); exact evx; exact go88; intro G hG; exact t4 G) | (apply gw_callE (f := 88); exact evx; exact go88; intro G hG; exact t5 G) | (apply gw_asg; exact rfl) | (apply gw_alloc; exact rfl; intro b) | (apply gw_box; exact rfl; exact rfl; intro b) | (refine gw_stx sto ?_) | (fail))) | (apply CW_region; intro K hK) | (apply CW_condX; exact rfl; exact tst; exact tst; all_goals (intro hq hc; try exact no)))
    all_goals (first | (exfalso; omega) | skip)
    all_goals (refine CW_ret ?_; refine xsg xsl ?_; refine bodyS_ret (L' := []) (rs := [.cell 8 26, .tmp 9]) (by kernel_rfl) (by (repeat (first | (apply resok_tmp; exact rfl) | (apply resok_cell; exact rfl; exact rfl; (focus ((iterate 16 (try (first | exact pick0 | apply pickS))); done)); (first | exact rfl | assumption | (simp only [List.length_map]; omega)); decide))); exact resok_nil) (by exact sbl) ?_)
    all_goals exact ⟨rfl, rfl⟩
end Go.Proofs.YtnhbipachchlgaaGreat.HL
namespace Go.Proofs.YtnhbipachchlgaaGreat.HL
open Go
attribute [local irreducible] goFn thenS blockS bodyS CW RW DW GW QW NW SC Pick Picks SubL Rd NN ResOk SrcW subE hops hseg AW hgen HC qv bldv
set_option linter.unusedVariables false
set_option linter.unusedSimpArgs false

theorem cmp_lt {n1 d1 n2 d2 : List UInt8} {a1 a2 : Int} {q1 q2 : Nat} (h1 : readQ n1 d1 = some (a1, q1)) (h2 : readQ n2 d2 = some (a2, q2)) : ∃ z e : Int, (∀ H : Hp, SC Tryz.prog 75 [ratV n1 d1, ratV n2 d2] H [] (fun v M => v = .tuple #[.int .i64 z, .int .i64 e] ∧ M = [])) ∧ (z < 0 ↔ a1 * q2 < a2 * q1) := by
  refine ⟨_, _, rcmp_ok n1 d1 n2 d2 a1 a2 q1 q2 h1 h2, ?_⟩
  unfold cmpZ
  by_cases h : a1 * (q2 : Int) < a2 * q1
  · rw [if_pos h]; exact ⟨fun _ => h, fun _ => by decide⟩
  · rw [if_neg h]
    refine ⟨fun g => ?_, fun g => absurd g h⟩
    split at g <;> omega
theorem read_neg {n d : List UInt8} {a : Int} {q : Nat} (h : readQ n d = some (a, q)) : readQ (decB (-a)) d = some (-a, q) := by
  obtain ⟨h1, h2, h3, h4, h5, h6⟩ := readQ_txt h
  rw [h2]
  exact readQ_int (by rw [Int.natAbs_neg]; exact h5) h6 h3 (by rw [Int.natAbs_neg]; exact h4)
theorem txt_neg {n d : List UInt8} {a : Int} {q : Nat} {t : List UInt8} (h : readQ n d = some (a, q)) (hn : n = 45 :: t) : a < 0 := by
  obtain ⟨h1, _⟩ := readQ_txt h
  rcases Int.lt_or_le a 0 with g | g
  · exact g
  · rw [h1] at hn
    unfold decB at hn
    rw [if_neg (by omega)] at hn
    have := dec_isDg a.natAbs 45 (by rw [hn]; exact List.mem_cons_self ..)
    have e : (45 : UInt8).toNat = 45 := rfl
    omega
theorem txt_pos {n d : List UInt8} {a : Int} {q : Nat} {c : UInt8} {t : List UInt8} (h : readQ n d = some (a, q)) (hn : n = c :: t ∧ c ≠ 45) : 0 ≤ a := by
  obtain ⟨h1, _⟩ := readQ_txt h
  rcases Int.lt_or_le a 0 with g | g
  · rw [h1] at hn
    unfold decB at hn
    rw [if_pos g] at hn
    exact absurd (List.cons.inj hn.1).1.symm hn.2
  · exact g
theorem size_iff {z1 z2 : Int} {A q k : Nat} (h1 : z1 < 0 ↔ (A : Int) < q) (h2 : z2 < 0 ↔ (A : Int) < ((k * q : Nat) : Int)) :
    ((if z1 < 0 then (-1 : Int) else if z2 < 0 then 0 else 1) < 0 ↔ A < q) ∧ ((if z1 < 0 then (-1 : Int) else if z2 < 0 then 0 else 1) = 0 ↔ q ≤ A ∧ A < k * q) := by
  by_cases g1 : z1 < 0
  · rw [if_pos g1]; have := h1.1 g1; omega
  · rw [if_neg g1]
    have : ¬ (A : Int) < q := fun e => g1 (h1.2 e)
    by_cases g2 : z2 < 0
    · rw [if_pos g2]; have := h2.1 g2; omega
    · rw [if_neg g2]
      have : ¬ (A : Int) < ((k * q : Nat) : Int) := fun e => g2 (h2.2 e)
      omega
theorem top_told {x : Px} {k : Nat} (hx : x ∈ pfx) (hk : k ≤ 1024) (hk0 : 0 < k) : ∃ P Q : Nat, toldV (fn ((powN (byP x) 1 x.pw : Int) * (k : Int)) ((powN 1 (byP x) x.pw : Int) * ((1 : Nat) : Int))) (fd ((powN (byP x) 1 x.pw : Int) * (k : Int)) ((powN 1 (byP x) x.pw : Int) * ((1 : Nat) : Int))) = .tuple #[ratV (decB (P : Int)) (Lib.decDigits Q), .int .i64 0] ∧ readQ (decB (P : Int)) (Lib.decDigits Q) = some ((P : Int), Q) ∧ 0 < Q ∧ P * fD x = fN x * k * Q := by
  obtain ⟨f1, f2, f3, f4⟩ := fac_len hx
  have hY : 0 < (powN 1 (byP x) x.pw : Int) * ((1 : Nat) : Int) := by
    have : 0 < powN 1 (byP x) x.pw := f4
    rw [show (((1 : Nat) : Int)) = 1 from rfl, Int.mul_one]; omega
  obtain ⟨Q, e1, e2, e3, e4⟩ := fn_props (X := (powN (byP x) 1 x.pw : Int) * (k : Int)) hY
  have hX : (powN (byP x) 1 x.pw : Int) * (k : Int) = ((fN x * k : Nat) : Int) := by rw [Int.natCast_mul]
  have hY2 : (powN 1 (byP x) x.pw : Int) * ((1 : Nat) : Int) = ((fD x : Nat) : Int) := by rw [show (((1 : Nat) : Int)) = 1 from rfl, Int.mul_one]
  rw [hX, hY2] at e1 e3 e4 ⊢
  have hP : ∃ P : Nat, fn ((fN x * k : Nat) : Int) ((fD x : Nat) : Int) = (P : Int) ∧ P ≤ fN x * k := by
    refine ⟨_, ?_, Nat.div_le_self (fN x * k) ((fN x * k).gcd (fD x))⟩
    unfold fn
    rw [decide_eq_false (p := ((fN x * k : Nat) : Int) < 0) (by omega), decide_eq_false (p := ((fD x : Nat) : Int) < 0) (by omega), Int.natAbs_natCast, Int.natAbs_natCast]
    rfl
  obtain ⟨P, hP1, hP2⟩ := hP
  rw [hP1] at e3 e4
  rw [Int.natAbs_natCast] at e3
  have hQ : Q ≤ fD x := by
    have e5 := e1
    unfold fd at e5
    rw [Int.natAbs_natCast, Int.natAbs_natCast] at e5
    have e6 := Int.ofNat.inj e5
    rw [← e6]
    exact Nat.div_le_self _ _
  have hN : fN x ≤ 1024 ^ 30 := by
    have hp := pfx_pw x hx
    have hb := (byP_le x).1
    show powN (byP x) 1 x.pw ≤ _
    unfold powN
    split
    · rw [Nat.one_pow]; exact Nat.pow_pos (by decide)
    · exact Nat.le_trans (Nat.pow_le_pow_left hb _) (Nat.pow_le_pow_right (by decide) hp)
  have lP : (Lib.decDigits P).length ≤ 600 := by
    refine (dec_len_lt _ 599).1 ?_
    have h1 : fN x * k ≤ 1024 ^ 30 * 1024 := Nat.mul_le_mul hN hk
    have h3 : (1024 : Nat) ^ 30 * 1024 < 10 ^ (599 + 1) := by decide +kernel
    omega
  have lQ : (Lib.decDigits Q).length ≤ 600 := Nat.le_trans (dec_len_mono hQ) f2
  refine ⟨P, Q, ?_, readQ_int (by rw [Int.natAbs_natCast]; exact lP) lQ e2 (by rw [Int.natAbs_natCast]; exact e3), e2, by exact_mod_cast e4⟩
  rw [hP1, e1]
  unfold toldV
  rw [den_pos e2, decB_nat Q, Int.natAbs_natCast, if_pos ⟨lP, lQ⟩]
theorem below_iff {x : Px} {A q k P Q : Nat} {z : Int} (hx : x ∈ pfx) (hq : 0 < q) (hQ : 0 < Q) (hPQ : P * fD x = fN x * k * Q) (h : z < 0 ↔ (A : Int) * (Q : Nat) < (P : Int) * (q : Nat)) : decide (A * fD x < fN x * k * q) = decide (z < 0) := by
  have hD := (fac_len hx).2.2.2
  have e : z < 0 ↔ A * fD x < fN x * k * q := by
    rw [h]
    have e1 : ((A : Int) * (Q : Nat) < (P : Int) * (q : Nat)) ↔ A * Q < P * q := by rw [← Int.natCast_mul, ← Int.natCast_mul]; omega
    rw [e1]
    have e2 : A * Q < P * q ↔ A * Q * fD x < P * q * fD x := (Nat.mul_lt_mul_right hD).symm
    have e3 : P * q * fD x = fN x * k * q * Q := by rw [Nat.mul_right_comm, hPQ, Nat.mul_right_comm]
    have e4 : A * Q * fD x = A * fD x * Q := Nat.mul_right_comm ..
    rw [e2, e3, e4]
    exact Nat.mul_lt_mul_right hQ
  by_cases g : z < 0
  · rw [decide_eq_true g, decide_eq_true (e.1 g)]
  · rw [decide_eq_false g, decide_eq_false (fun w => g (e.2 w))]
theorem size_ex (n d tn td : List UInt8) (a : Int) (q k : Nat) (h : readQ n d = some (a, q)) (ht : readQ tn td = some ((k : Int), 1)) : ∃ z : Int, ((z < 0 ↔ a.natAbs < q) ∧ (z = 0 ↔ q ≤ a.natAbs ∧ a.natAbs < k * q)) ∧ ∀ H : Hp, SC Tryz.prog 21 [ratV n d, ratV tn td] H [] (fun v M => v = .int .i64 z ∧ M = []) := by
  obtain ⟨h1, h2, h3, _, h5, h6⟩ := readQ_txt h
  have hl1 := decB_abs a
  have hl2 := decB_abs (-a)
  rw [Int.natAbs_neg] at hl2
  rw [← h1] at hl1
  rw [← h2] at h6
  have hl3 := decB_abs 1
  have hl4 : (Lib.decDigits (1 : Int).natAbs).length ≤ 600 := one_dec
  have hO := fun G => of_spec 1 G (by decide)
  have hne : n ≠ [] := by
    intro e
    rw [e] at h
    cases h
  obtain ⟨c, t, hct⟩ : ∃ c t, n = c :: t := by
    cases n with
    | nil => exact absurd rfl hne
    | cons c t => exact ⟨c, t, rfl⟩
  have hc0 : n[0]? = some c := by rw [hct]; rfl
  by_cases hc : c = 45
  · subst hc
    have hN := neg_ok n d a q h
    rw [neg_txt h] at hN
    obtain ⟨z1, e1, k1, j1⟩ := cmp_lt (read_neg h) (lim_ok (k := 1) (by decide))
    obtain ⟨z2, e2, k2, j2⟩ := cmp_lt (read_neg h) ht
    have hsg : (a.natAbs : Int) = -a := by have := txt_neg h (by rw [hct]); omega
    refine ⟨if z1 < 0 then -1 else if z2 < 0 then 0 else 1, size_iff (by omega) (by omega), fun H => ?_⟩
    by_cases g1 : z1 < 0
    · rw [if_pos g1]
      (refine SC_intro Tryz.func21 rfl (by kernel_rfl) (by rw [Tryz.ntmps21]; exact Nat.le_of_ble_eq_true rfl) ?_; simp only [Tryz.ntmps21, argE, Nat.reduceAdd])
      
      repeat' (first | ((first | apply RW.q1 | (apply DW.q1; exact rfl)); (first | (apply q_ixc 45; exact rfl; exact rfl; exact hc0; omega) | exact qt)) | refine xsg cts ?_ | (apply CW_condT; exact rfl; exact ar) | (apply CW_condF; exact rfl; exact ar) | (refine hK _ _ ?_; clear hK; refine xsg xsl ?_) | ((first | apply RW.c1 | (apply DW.c1; exact rfl; exact rfl) | (apply DW.c1t; exact rfl)); (first | (apply nw_call (f := 20); exact rfl; exact go20; (intro G hG; exact (hO _).mono (fun v M h => h.1))))) | (refine xsg ahd ?_; (first | ((first | apply gw_callE (f := 74) | apply gx_callE (f := 74)); exact rfl; exact go74; intro G hG; exact hN G) | ((first | apply gw_callE (f := 75) | apply gx_callE (f := 75)); exact rfl; exact go75; intro G hG; exact k1 G) | (apply gw_asg; exact rfl) | ((first | apply gw_box | apply gx_box); exact rfl; exact rfl; intro b) | (refine gw_stx sto ?_) | (fail))) | (apply CW_region; intro K hK) | (apply CW_condX; exact rfl; exact tst; exact tst; all_goals (intro hq hc; try exact no)) | (refine CW_draw (id := 3) [1] [(0, false), (1, true), (2, true), (3, false), (4, false), (5, false), (6, false), (7, false)] mixed (by kernel_rfl) (fun K hK => ?_)))
      all_goals (refine CW_ret ?_; refine xsg xsl ?_; refine bR [.tmp 4] [] ?_)
      all_goals exact ⟨rfl, rfl⟩
    rw [if_neg g1]
    by_cases g2 : z2 < 0
    · rw [if_pos g2]
      (refine SC_intro Tryz.func21 rfl (by kernel_rfl) (by rw [Tryz.ntmps21]; exact Nat.le_of_ble_eq_true rfl) ?_; simp only [Tryz.ntmps21, argE, Nat.reduceAdd])
      
      repeat' (first | ((first | apply RW.q1 | (apply DW.q1; exact rfl)); (first | (apply q_ixc 45; exact rfl; exact rfl; exact hc0; omega) | exact qt)) | refine xsg cts ?_ | (apply CW_condT; exact rfl; exact ar) | (apply CW_condF; exact rfl; exact ar) | (refine hK _ _ ?_; clear hK; refine xsg xsl ?_) | ((first | apply RW.c1 | (apply DW.c1; exact rfl; exact rfl) | (apply DW.c1t; exact rfl)); (first | (apply nw_call (f := 20); exact rfl; exact go20; (intro G hG; exact (hO _).mono (fun v M h => h.1))))) | (refine xsg ahd ?_; (first | ((first | apply gw_callE (f := 74) | apply gx_callE (f := 74)); exact rfl; exact go74; intro G hG; exact hN G) | ((first | apply gw_callE (f := 75) | apply gx_callE (f := 75)); exact rfl; exact go75; intro G hG; exact k1 G) | ((first | apply gw_callE (f := 75) | apply gx_callE (f := 75)); exact rfl; exact go75; intro G hG; exact k2 G) | (apply gw_asg; exact rfl) | ((first | apply gw_box | apply gx_box); exact rfl; exact rfl; intro b) | (refine gw_stx sto ?_) | (fail))) | (apply CW_region; intro K hK) | (apply CW_condX; exact rfl; exact tst; exact tst; all_goals (intro hq hc; try exact no)) | (refine CW_draw (id := 3) [1] [(0, false), (1, true), (2, true), (3, false), (4, false), (5, false), (6, false), (7, false)] mixed (by kernel_rfl) (fun K hK => ?_)))
      all_goals (refine CW_ret ?_; refine xsg xsl ?_; refine bR [.tmp 4] [] ?_)
      all_goals exact ⟨rfl, rfl⟩
    · rw [if_neg g2]
      (refine SC_intro Tryz.func21 rfl (by kernel_rfl) (by rw [Tryz.ntmps21]; exact Nat.le_of_ble_eq_true rfl) ?_; simp only [Tryz.ntmps21, argE, Nat.reduceAdd])
      
      repeat' (first | ((first | apply RW.q1 | (apply DW.q1; exact rfl)); (first | (apply q_ixc 45; exact rfl; exact rfl; exact hc0; omega) | exact qt)) | refine xsg cts ?_ | (apply CW_condT; exact rfl; exact ar) | (apply CW_condF; exact rfl; exact ar) | (refine hK _ _ ?_; clear hK; refine xsg xsl ?_) | ((first | apply RW.c1 | (apply DW.c1; exact rfl; exact rfl) | (apply DW.c1t; exact rfl)); (first | (apply nw_call (f := 20); exact rfl; exact go20; (intro G hG; exact (hO _).mono (fun v M h => h.1))))) | (refine xsg ahd ?_; (first | ((first | apply gw_callE (f := 74) | apply gx_callE (f := 74)); exact rfl; exact go74; intro G hG; exact hN G) | ((first | apply gw_callE (f := 75) | apply gx_callE (f := 75)); exact rfl; exact go75; intro G hG; exact k1 G) | ((first | apply gw_callE (f := 75) | apply gx_callE (f := 75)); exact rfl; exact go75; intro G hG; exact k2 G) | (apply gw_asg; exact rfl) | ((first | apply gw_box | apply gx_box); exact rfl; exact rfl; intro b) | (refine gw_stx sto ?_) | (fail))) | (apply CW_region; intro K hK) | (apply CW_condX; exact rfl; exact tst; exact tst; all_goals (intro hq hc; try exact no)) | (refine CW_draw (id := 3) [1] [(0, false), (1, true), (2, true), (3, false), (4, false), (5, false), (6, false), (7, false)] mixed (by kernel_rfl) (fun K hK => ?_)))
      all_goals (refine CW_ret ?_; refine xsg xsl ?_; refine bR [.tmp 4] [] ?_)
      all_goals exact ⟨rfl, rfl⟩
  · have hc2 : (c.toNat : Int) ≠ 45 := fun e => hc (UInt8.toNat_inj.1 (by have : c.toNat = 45 := by omega
                                                                          exact this))
    obtain ⟨z1, e1, k1, j1⟩ := cmp_lt h (lim_ok (k := 1) (by decide))
    obtain ⟨z2, e2, k2, j2⟩ := cmp_lt h ht
    have hsg : (a.natAbs : Int) = a := by have := txt_pos h ⟨hct, hc⟩; omega
    refine ⟨if z1 < 0 then -1 else if z2 < 0 then 0 else 1, size_iff (by omega) (by omega), fun H => ?_⟩
    by_cases g1 : z1 < 0
    · rw [if_pos g1]
      (refine SC_intro Tryz.func21 rfl (by kernel_rfl) (by rw [Tryz.ntmps21]; exact Nat.le_of_ble_eq_true rfl) ?_; simp only [Tryz.ntmps21, argE, Nat.reduceAdd])
      
      repeat' (first | ((first | apply RW.q1 | (apply DW.q1; exact rfl)); (first | (apply q_ixc c; exact rfl; exact rfl; exact hc0; omega) | exact qt)) | refine xsg cts ?_ | (apply CW_condT; exact rfl; exact ar) | (apply CW_condF; exact rfl; exact ar) | (refine hK _ _ ?_; clear hK; refine xsg xsl ?_) | ((first | apply RW.c1 | (apply DW.c1; exact rfl; exact rfl) | (apply DW.c1t; exact rfl)); (first | (apply nw_call (f := 20); exact rfl; exact go20; (intro G hG; exact (hO _).mono (fun v M h => h.1))))) | (refine xsg ahd ?_; (first | ((first | apply gw_callE (f := 75) | apply gx_callE (f := 75)); exact rfl; exact go75; intro G hG; exact k1 G) | (apply gw_asg; exact rfl) | ((first | apply gw_box | apply gx_box); exact rfl; exact rfl; intro b) | (refine gw_stx sto ?_) | (fail))) | (apply CW_region; intro K hK) | (apply CW_condX; exact rfl; exact tst; exact tst; all_goals (intro hq hc; try exact no)) | (refine CW_draw (id := 3) [1] [(0, false), (1, true), (2, true), (3, false), (4, false), (5, false), (6, false), (7, false)] mixed (by kernel_rfl) (fun K hK => ?_)))
      all_goals (refine CW_ret ?_; refine xsg xsl ?_; refine bR [.tmp 4] [] ?_)
      all_goals exact ⟨rfl, rfl⟩
    rw [if_neg g1]
    by_cases g2 : z2 < 0
    · rw [if_pos g2]
      (refine SC_intro Tryz.func21 rfl (by kernel_rfl) (by rw [Tryz.ntmps21]; exact Nat.le_of_ble_eq_true rfl) ?_; simp only [Tryz.ntmps21, argE, Nat.reduceAdd])
      
      repeat' (first | ((first | apply RW.q1 | (apply DW.q1; exact rfl)); (first | (apply q_ixc c; exact rfl; exact rfl; exact hc0; omega) | exact qt)) | refine xsg cts ?_ | (apply CW_condT; exact rfl; exact ar) | (apply CW_condF; exact rfl; exact ar) | (refine hK _ _ ?_; clear hK; refine xsg xsl ?_) | ((first | apply RW.c1 | (apply DW.c1; exact rfl; exact rfl) | (apply DW.c1t; exact rfl)); (first | (apply nw_call (f := 20); exact rfl; exact go20; (intro G hG; exact (hO _).mono (fun v M h => h.1))))) | (refine xsg ahd ?_; (first | ((first | apply gw_callE (f := 75) | apply gx_callE (f := 75)); exact rfl; exact go75; intro G hG; exact k1 G) | ((first | apply gw_callE (f := 75) | apply gx_callE (f := 75)); exact rfl; exact go75; intro G hG; exact k2 G) | (apply gw_asg; exact rfl) | ((first | apply gw_box | apply gx_box); exact rfl; exact rfl; intro b) | (refine gw_stx sto ?_) | (fail))) | (apply CW_region; intro K hK) | (apply CW_condX; exact rfl; exact tst; exact tst; all_goals (intro hq hc; try exact no)) | (refine CW_draw (id := 3) [1] [(0, false), (1, true), (2, true), (3, false), (4, false), (5, false), (6, false), (7, false)] mixed (by kernel_rfl) (fun K hK => ?_)))
      all_goals (refine CW_ret ?_; refine xsg xsl ?_; refine bR [.tmp 4] [] ?_)
      all_goals exact ⟨rfl, rfl⟩
    · rw [if_neg g2]
      (refine SC_intro Tryz.func21 rfl (by kernel_rfl) (by rw [Tryz.ntmps21]; exact Nat.le_of_ble_eq_true rfl) ?_; simp only [Tryz.ntmps21, argE, Nat.reduceAdd])
      
      repeat' (first | ((first | apply RW.q1 | (apply DW.q1; exact rfl)); (first | (apply q_ixc c; exact rfl; exact rfl; exact hc0; omega) | exact qt)) | refine xsg cts ?_ | (apply CW_condT; exact rfl; exact ar) | (apply CW_condF; exact rfl; exact ar) | (refine hK _ _ ?_; clear hK; refine xsg xsl ?_) | ((first | apply RW.c1 | (apply DW.c1; exact rfl; exact rfl) | (apply DW.c1t; exact rfl)); (first | (apply nw_call (f := 20); exact rfl; exact go20; (intro G hG; exact (hO _).mono (fun v M h => h.1))))) | (refine xsg ahd ?_; (first | ((first | apply gw_callE (f := 75) | apply gx_callE (f := 75)); exact rfl; exact go75; intro G hG; exact k1 G) | ((first | apply gw_callE (f := 75) | apply gx_callE (f := 75)); exact rfl; exact go75; intro G hG; exact k2 G) | (apply gw_asg; exact rfl) | ((first | apply gw_box | apply gx_box); exact rfl; exact rfl; intro b) | (refine gw_stx sto ?_) | (fail))) | (apply CW_region; intro K hK) | (apply CW_condX; exact rfl; exact tst; exact tst; all_goals (intro hq hc; try exact no)) | (refine CW_draw (id := 3) [1] [(0, false), (1, true), (2, true), (3, false), (4, false), (5, false), (6, false), (7, false)] mixed (by kernel_rfl) (fun K hK => ?_)))
      all_goals (refine CW_ret ?_; refine xsg xsl ?_; refine bR [.tmp 4] [] ?_)
      all_goals exact ⟨rfl, rfl⟩
theorem below_ex (n d tn td : List UInt8) (a : Int) (q k : Nat) (x : Px) (h : readQ n d = some (a, q)) (hx : x ∈ pfx) (hk : k ≤ 1024) (hk0 : 0 < k) (ht : readQ tn td = some ((k : Int), 1)) : ∀ H : Hp, SC Tryz.prog 23 [ratV n d, .agg (encP x).toArray, ratV tn td] H [] (fun v M => v = .bool (decide (a.natAbs * fD x < fN x * k * q)) ∧ M = []) := by
  obtain ⟨h1, h2, h3, _, h5, h6⟩ := readQ_txt h
  have hl1 := decB_abs a
  have hl2 := decB_abs (-a)
  rw [Int.natAbs_neg] at hl2
  rw [← h1] at hl1
  rw [← h2] at h6
  have hM := mul_ok _ _ _ _ _ _ _ _ (readQ_fac hx) ht
  obtain ⟨P, Q, hms, hrd, hQ0, hPQ⟩ := top_told hx hk hk0
  rw [hms] at hM
  have hne : n ≠ [] := by
    intro e
    rw [e] at h
    cases h
  obtain ⟨c, t, hct⟩ : ∃ c t, n = c :: t := by
    cases n with
    | nil => exact absurd rfl hne
    | cons c t => exact ⟨c, t, rfl⟩
  have hc0 : n[0]? = some c := by rw [hct]; rfl
  by_cases hc : c = 45
  · subst hc
    have hN := neg_ok n d a q h
    rw [neg_txt h] at hN
    obtain ⟨z1, e1, k1, j1⟩ := cmp_lt (read_neg h) hrd
    have hsg : (a.natAbs : Int) = -a := by have := txt_neg h (by rw [hct]); omega
    rw [below_iff hx h3 hQ0 hPQ (by rw [hsg]; exact j1)]
    intro H
    (refine SC_intro Tryz.func23 rfl (by kernel_rfl) (by rw [Tryz.ntmps23]; exact Nat.le_of_ble_eq_true rfl) ?_; simp only [Tryz.ntmps23, argE, Nat.reduceAdd])
    
    repeat' (first | (apply RW.q1; (first | (apply q_ixc 45; exact rfl; exact rfl; exact hc0; omega) | exact qt)) | refine xsg cts ?_ | (apply CW_condT; exact rfl; exact ar) | (apply CW_condF; exact rfl; exact ar) | (refine hK _ _ ?_; clear hK; refine xsg xsl ?_) | ((first | apply RW.a1 | apply RW.a0); (first | (apply gw_callE (f := 74); exact rfl; exact go74; intro G hG; exact hN G) | (apply gw_callE (f := 10); exact rfl; exact go10; intro G hG; exact hM G) | (apply gw_callE (f := 75); exact rfl; exact go75; intro G hG; exact k1 G) | (apply gw_asg; exact rfl) | (apply gw_alloc; exact rfl; intro b) | (apply gw_box; exact rfl; exact rfl; intro b) | (refine gw_stx sto ?_) | (fail))) | (apply CW_region; intro K hK) | (apply CW_condX; exact rfl; exact tst; exact tst; all_goals (intro hq hc; try exact no)))
    all_goals (refine CW_ret ?_; refine xsg xsl ?_; refine bR [.tmp 6] [] ?_)
    all_goals exact ⟨rfl, rfl⟩
  · have hc2 : (c.toNat : Int) ≠ 45 := fun e => hc (UInt8.toNat_inj.1 (by have : c.toNat = 45 := by omega
                                                                          exact this))
    obtain ⟨z1, e1, k1, j1⟩ := cmp_lt h hrd
    have hsg : (a.natAbs : Int) = a := by have := txt_pos h ⟨hct, hc⟩; omega
    rw [below_iff hx h3 hQ0 hPQ (by rw [hsg]; exact j1)]
    intro H
    (refine SC_intro Tryz.func23 rfl (by kernel_rfl) (by rw [Tryz.ntmps23]; exact Nat.le_of_ble_eq_true rfl) ?_; simp only [Tryz.ntmps23, argE, Nat.reduceAdd])
    
    repeat' (first | (apply RW.q1; (first | (apply q_ixc c; exact rfl; exact rfl; exact hc0; omega) | exact qt)) | refine xsg cts ?_ | (apply CW_condT; exact rfl; exact ar) | (apply CW_condF; exact rfl; exact ar) | (refine hK _ _ ?_; clear hK; refine xsg xsl ?_) | ((first | apply RW.a1 | apply RW.a0); (first | (apply gw_callE (f := 10); exact rfl; exact go10; intro G hG; exact hM G) | (apply gw_callE (f := 75); exact rfl; exact go75; intro G hG; exact k1 G) | (apply gw_asg; exact rfl) | (apply gw_alloc; exact rfl; intro b) | (apply gw_box; exact rfl; exact rfl; intro b) | (refine gw_stx sto ?_) | (fail))) | (apply CW_region; intro K hK) | (apply CW_condX; exact rfl; exact tst; exact tst; all_goals (intro hq hc; try exact no)))
    all_goals (refine CW_ret ?_; refine xsg xsl ?_; refine bR [.tmp 6] [] ?_)
    all_goals exact ⟨rfl, rfl⟩
end Go.Proofs.YtnhbipachchlgaaGreat.HL
