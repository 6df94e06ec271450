/- RowsD: PfxD: the document's rows and All. No condition. -/
import Derived.Test.YtnhbipachchlgaaGreatEngX
import Derived.Test.YtnhbipachchlgaaGreatPrefsAX
import Derived.Test.YtnhbipachchlgaaGreatLimbsX
namespace Go.Proofs.YtnhbipachchlgaaGreat.HL
open Go
attribute [local irreducible] goFn thenS blockS bodyS CW RW DW GW QW NW SC Pick Picks SubL Rd NN ResOk SrcW subE hops hseg AW hgen HC qv bldv
set_option maxHeartbeats 8000000
set_option maxRecDepth 100000
set_option linter.unusedVariables false
set_option linter.unusedSimpArgs false

theorem rows_spec (H : Hp) : SC Tryz.prog 30 [] H [] (fun v M => ∃ a c, v = .slice a 32 c ∧ M = [.own 66 3 a 32 c (pfx.flatMap enc53)]) := by
  (refine SC_intro Tryz.func30 rfl (by kernel_rfl) (by rw [Tryz.ntmps30]; exact Nat.le_of_ble_eq_true rfl) ?_; simp only [Tryz.ntmps30, argE, Nat.reduceAdd])
  repeat' (first | (apply RW.q1; (first | (apply q_bld; exact rfl; first | exact bld66_0_1_2 _ _ _) | exact qt)) | refine xsg cts ?_ | (apply CW_condT; exact rfl; exact ar) | (apply CW_condF; exact rfl; exact ar) | (refine hK _ _ ?_; clear hK; refine xsg xsl ?_) | ((first | apply RW.a1 | apply RW.a0); (first | (refine gw_litn (cs := pfx.flatMap enc53) rfl rfl rfl rfl rfl (by decide) (fun lb => ?_)) | (apply gw_asg; exact rfl) | (apply gw_lit1; exact rfl; exact rfl; exact rfl; exact rfl; decide; intro b) | (apply gw_lit2; exact rfl; exact rfl; exact rfl; exact rfl; intro b) | (apply gw_lit3; exact rfl; exact rfl; exact rfl; exact rfl; exact rfl; intro b) | (fail))) | (apply CW_region; intro K hK) | (apply CW_condX; exact rfl; exact tst; exact tst; all_goals (intro hq hc; try exact nx)))
  (refine CW_ret ?_; refine xsg xsl ?_; refine bR [.tmp 0] [.own 66 3 (some ⟨lb, 0, none⟩) 32 32 (pfx.flatMap enc53)] ?_)
  exact ⟨_, _, rfl, rfl⟩
theorem pfx_bn : ∀ i : Fin 32, (pfx[i.val]?).map (·.bn) = some (decide (24 ≤ i.val)) := by decide
theorem rall_spec (H : Hp) : SC Tryz.prog 15 [] H [] (fun v M => ∃ a c, v = .slice a 32 c ∧ M = [.own 30 5 a 32 c (pfx.flatMap encP)]) := by
  (refine SC_intro Tryz.func15 rfl (by kernel_rfl) (by rw [Tryz.ntmps15]; exact Nat.le_of_ble_eq_true rfl) ?_; simp only [Tryz.ntmps15, argE, Nat.reduceAdd])
  
  repeat' (first | ((first | apply RW.q1 | (apply DW.q1; exact rfl)); (first | (apply q_bld; exact rfl; first | exact bld26_0_1 _ _ | exact bld30_0_1_2_3 _ _ _ _ _) | exact qt)) | refine xsg cts ?_ | (apply CW_condT; exact rfl; exact ar) | (apply CW_condF; exact rfl; exact ar) | (refine hK _ _ ?_; clear hK; refine xsg xsl ?_) | (refine xsg ahd ?_; (first | (apply gw_call (f := 30); exact rfl; exact go30; intro G hG; refine SC.mono (rows_spec G) ?_; rintro v M ⟨ra, rc, rfl, rfl⟩; (try dsimp only [jL, jM])) | (apply gw_asg; exact rfl) | (apply gw_alloc; exact rfl; intro b) | (apply gw_lit1; exact rfl; exact rfl; exact rfl; exact rfl; decide; intro b) | (apply gw_lit2; exact rfl; exact rfl; exact rfl; exact rfl; intro b) | (apply gw_lit3; exact rfl; exact rfl; exact rfl; exact rfl; exact rfl; intro b) | (apply gw_ap1; exact rfl; exact rfl; infer_instance; infer_instance; exact rfl; exact rfl; exact rfl; exact rfl; omega; intro a c) | (apply gw_ap1n; exact rfl; exact rfl; infer_instance; exact rfl; exact rfl; exact rfl; exact rfl; omega; intro a c) | (refine gw_stx sto ?_) | (fail))) | (apply CW_region; intro K hK) | (apply CW_condX; exact rfl; exact tst; exact tst; all_goals (intro hq hc; try exact no)) | (refine CW_draw (id := 14) [] [(0, false), (1, false), (2, false), (3, false), (4, false), (5, false), (6, false), (7, false), (8, false), (9, false), (10, false), (11, false), (12, false), (13, false), (14, false), (15, true), (16, true), (17, true)] mixed (by kernel_rfl) (fun K hK => ?_)))
  refine CW_loop (fun m l L => ∃ (i : Nat) (oa : Option Addr) (on oc : Nat) (os : List Value), m = 32 - i ∧ l = [(1, true, .slice ra 32 rc), (2, true, .slice oa on oc), (3, true, .int .i64 (i : Nat))] ∧
      L = [.own 30 5 oa on oc os, .own 66 3 ra 32 rc (pfx.flatMap enc53)] ∧ i ≤ 32 ∧ on = i ∧ os = (pfx.take i).flatMap encP)
    ⟨_, _, _, ⟨0, none, 0, 0, [], rfl, rfl, rfl, by omega, rfl, rfl⟩, by exact sbe, by exact sbl⟩ ?_
  rintro m l L ⟨i, oa, on, oc, os, rfl, rfl, rfl, h1, rfl, rfl⟩
  by_cases hi : on < 32
  · obtain ⟨x, hx⟩ : ∃ x, pfx[on]? = some x := ⟨_, List.getElem?_eq_getElem (by rw [pfx_len]; exact hi)⟩
    have hxm := List.mem_of_getElem? hx
    have hp30 := pfx_pw x hxm
    have hpz := pfx_nz x hxm
    have hbn : x.bn = decide (24 ≤ on) := by
      have := pfx_bn ⟨on, hi⟩
      rw [hx] at this
      exact Option.some.inj this
    have hel : ∀ (f n : Nat) (j : Nat), f + n ≤ 3 → j = on * 3 + f → ((pfx.flatMap enc53).drop j).take n = ((enc53 x).drop f).take n := by
      rintro f n j hf rfl
      have := ix_fld (enc := enc53) (off := f) (n := n) (i := (on : Int)) hx (Int.toNat_natCast on) hf
      rwa [Int.toNat_natCast] at this
    have htk : (pfx.take (on + 1)).flatMap encP = (pfx.take on).flatMap encP ++ encP x := by
      rw [List.take_add_one, hx, List.flatMap_append]; simp
    obtain ⟨k, hk⟩ : ∃ k, k = x.pw.natAbs := ⟨_, rfl⟩
    have h1p : powN 1 1 x.pw = 1 := by unfold powN; split <;> rw [Nat.one_pow]
    by_cases h24 : 24 ≤ on
    · have hb : x.bn = true := by rw [hbn, decide_eq_true h24]
      have eB : byP x = 1024 := by unfold byP; rw [hb]; rfl
      have hl := pow_small (B := 1024) (k := k) (by decide) (by omega)
      have hPw := fun G => rPower_spec 1024 k G (by decide) (by omega) (by omega)
      rw [← e1024] at hPw
      by_cases hneg : x.pw < 0
      · have hN : bstr (facN x) = ⟨#[49]⟩ := by unfold facN powN; rw [if_pos hneg, Nat.one_pow, e1]
        have hD : facD x = Lib.decDigits (1024 ^ k) := by unfold facD powN; rw [if_pos hneg, eB, hk]
        have hng : IntKind.i64.wrap (0 - x.pw) = (k : Int) := by rw [show 0 - x.pw = (k : Int) by omega]; exact w_in (by simp only [inb]; omega)
        
        repeat' (first | ((first | apply RW.q1 | (apply DW.q1; exact rfl)); (first | (apply q_ldo; exact rfl; exact rfl; infer_instance; (first | exact hel 0 1 _ (by decide) (by omega) | exact hel 1 1 _ (by decide) (by omega) | exact hel 2 1 _ (by decide) (by omega))) | (apply q_neg; exact rfl; exact hng) | (apply q_bld; exact rfl; first | exact bld26_0_1 _ _ | exact bld30_0_1_2_3 _ _ _ _ _) | exact qt)) | refine xsg cts ?_ | (apply CW_condT; exact rfl; exact ar) | (apply CW_condF; exact rfl; exact ar) | (refine hK _ _ ?_; clear hK; refine xsg xsl ?_) | (refine xsg ahd ?_; (first | (apply gw_callE (f := 69); exact rfl; exact go69; intro G hG; exact hPw G) | (apply gw_asg; exact rfl) | (apply gw_alloc; exact rfl; intro b) | (apply gw_lit1; exact rfl; exact rfl; exact rfl; exact rfl; decide; intro b) | (apply gw_lit2; exact rfl; exact rfl; exact rfl; exact rfl; intro b) | (apply gw_lit3; exact rfl; exact rfl; exact rfl; exact rfl; exact rfl; intro b) | (apply gw_ap1; exact rfl; exact rfl; infer_instance; infer_instance; exact rfl; exact rfl; exact rfl; exact rfl; omega; intro a c) | (apply gw_ap1n; exact rfl; exact rfl; infer_instance; exact rfl; exact rfl; exact rfl; exact rfl; omega; intro a c) | (refine gw_stx sto ?_) | (fail))) | (apply CW_region; intro K hK) | (apply CW_condX; exact rfl; exact tst; exact tst; all_goals (intro hq hc; try exact no)) | (refine CW_draw (id := 14) [] [(0, false), (1, false), (2, false), (3, false), (4, false), (5, false), (6, false), (7, false), (8, false), (9, false), (10, false), (11, false), (12, false), (13, false), (14, false), (15, true), (16, true), (17, true)] mixed (by kernel_rfl) (fun K hK => ?_)))
        all_goals refine ⟨_, _, _, ⟨on + 1, _, _, _, _, rfl, rfl, rfl, by omega, rfl, ?_⟩, by exact sbe, by exact sbl, by omega⟩
        all_goals rw [htk]; congr 1
        all_goals unfold encP
        all_goals rw [hN, hD, hb, show decide (24 ≤ (on : Int)) = true from decide_eq_true (by omega)]
        all_goals rfl
      · have hPk := hPw
        rw [show (k : Int) = x.pw by omega] at hPk
        have hN : facN x = Lib.decDigits (1024 ^ k) := by unfold facN powN; rw [if_neg hneg, eB, hk]
        have hD : bstr (facD x) = ⟨#[49]⟩ := by unfold facD powN; rw [if_neg hneg, Nat.one_pow, e1]
        have hkk : x.pw = (k : Int) := by omega
        
        repeat' (first | ((first | apply RW.q1 | (apply DW.q1; exact rfl)); (first | (apply q_ldo; exact rfl; exact rfl; infer_instance; (first | exact hel 0 1 _ (by decide) (by omega) | exact hel 1 1 _ (by decide) (by omega) | exact hel 2 1 _ (by decide) (by omega))) | (apply q_bld; exact rfl; first | exact bld26_0_1 _ _ | exact bld30_0_1_2_3 _ _ _ _ _) | exact qt)) | refine xsg cts ?_ | (apply CW_condT; exact rfl; exact ar) | (apply CW_condF; exact rfl; exact ar) | (refine hK _ _ ?_; clear hK; refine xsg xsl ?_) | (refine xsg ahd ?_; (first | (apply gw_callE (f := 69); exact rfl; exact go69; intro G hG; exact hPk G) | (apply gw_asg; exact rfl) | (apply gw_alloc; exact rfl; intro b) | (apply gw_lit1; exact rfl; exact rfl; exact rfl; exact rfl; decide; intro b) | (apply gw_lit2; exact rfl; exact rfl; exact rfl; exact rfl; intro b) | (apply gw_lit3; exact rfl; exact rfl; exact rfl; exact rfl; exact rfl; intro b) | (apply gw_ap1; exact rfl; exact rfl; infer_instance; infer_instance; exact rfl; exact rfl; exact rfl; exact rfl; omega; intro a c) | (apply gw_ap1n; exact rfl; exact rfl; infer_instance; exact rfl; exact rfl; exact rfl; exact rfl; omega; intro a c) | (refine gw_stx sto ?_) | (fail))) | (apply CW_region; intro K hK) | (apply CW_condX; exact rfl; exact tst; exact tst; all_goals (intro hq hc; try exact no)) | (refine CW_draw (id := 14) [] [(0, false), (1, false), (2, false), (3, false), (4, false), (5, false), (6, false), (7, false), (8, false), (9, false), (10, false), (11, false), (12, false), (13, false), (14, false), (15, true), (16, true), (17, true)] mixed (by kernel_rfl) (fun K hK => ?_)))
        all_goals refine ⟨_, _, _, ⟨on + 1, _, _, _, _, rfl, rfl, rfl, by omega, rfl, ?_⟩, by exact sbe, by exact sbl, by omega⟩
        all_goals rw [htk]; congr 1
        all_goals unfold encP
        all_goals rw [hN, hD, hb, show decide (24 ≤ (on : Int)) = true from decide_eq_true (by omega)]
        all_goals rfl
    · have hb : x.bn = false := by rw [hbn, decide_eq_false h24]
      have eB : byP x = 10 := by unfold byP; rw [hb]; rfl
      have hl := pow_small (B := 10) (k := k) (by decide) (by omega)
      have hPw := fun G => rPower_spec 10 k G (by decide) (by omega) (by omega)
      rw [← e10] at hPw
      by_cases hneg : x.pw < 0
      · have hN : bstr (facN x) = ⟨#[49]⟩ := by unfold facN powN; rw [if_pos hneg, Nat.one_pow, e1]
        have hD : facD x = Lib.decDigits (10 ^ k) := by unfold facD powN; rw [if_pos hneg, eB, hk]
        have hng : IntKind.i64.wrap (0 - x.pw) = (k : Int) := by rw [show 0 - x.pw = (k : Int) by omega]; exact w_in (by simp only [inb]; omega)
        
        repeat' (first | ((first | apply RW.q1 | (apply DW.q1; exact rfl)); (first | (apply q_ldo; exact rfl; exact rfl; infer_instance; (first | exact hel 0 1 _ (by decide) (by omega) | exact hel 1 1 _ (by decide) (by omega) | exact hel 2 1 _ (by decide) (by omega))) | (apply q_neg; exact rfl; exact hng) | (apply q_bld; exact rfl; first | exact bld26_0_1 _ _ | exact bld30_0_1_2_3 _ _ _ _ _) | exact qt)) | refine xsg cts ?_ | (apply CW_condT; exact rfl; exact ar) | (apply CW_condF; exact rfl; exact ar) | (refine hK _ _ ?_; clear hK; refine xsg xsl ?_) | (refine xsg ahd ?_; (first | (apply gw_callE (f := 69); exact rfl; exact go69; intro G hG; exact hPw G) | (apply gw_asg; exact rfl) | (apply gw_alloc; exact rfl; intro b) | (apply gw_lit1; exact rfl; exact rfl; exact rfl; exact rfl; decide; intro b) | (apply gw_lit2; exact rfl; exact rfl; exact rfl; exact rfl; intro b) | (apply gw_lit3; exact rfl; exact rfl; exact rfl; exact rfl; exact rfl; intro b) | (apply gw_ap1; exact rfl; exact rfl; infer_instance; infer_instance; exact rfl; exact rfl; exact rfl; exact rfl; omega; intro a c) | (apply gw_ap1n; exact rfl; exact rfl; infer_instance; exact rfl; exact rfl; exact rfl; exact rfl; omega; intro a c) | (refine gw_stx sto ?_) | (fail))) | (apply CW_region; intro K hK) | (apply CW_condX; exact rfl; exact tst; exact tst; all_goals (intro hq hc; try exact no)) | (refine CW_draw (id := 14) [] [(0, false), (1, false), (2, false), (3, false), (4, false), (5, false), (6, false), (7, false), (8, false), (9, false), (10, false), (11, false), (12, false), (13, false), (14, false), (15, true), (16, true), (17, true)] mixed (by kernel_rfl) (fun K hK => ?_)))
        all_goals refine ⟨_, _, _, ⟨on + 1, _, _, _, _, rfl, rfl, rfl, by omega, rfl, ?_⟩, by exact sbe, by exact sbl, by omega⟩
        all_goals rw [htk]; congr 1
        all_goals unfold encP
        all_goals rw [hN, hD, hb, show decide (24 ≤ (on : Int)) = false from decide_eq_false (by omega)]
        all_goals rfl
      · have hPk := hPw
        rw [show (k : Int) = x.pw by omega] at hPk
        have hN : facN x = Lib.decDigits (10 ^ k) := by unfold facN powN; rw [if_neg hneg, eB, hk]
        have hD : bstr (facD x) = ⟨#[49]⟩ := by unfold facD powN; rw [if_neg hneg, Nat.one_pow, e1]
        have hkk : x.pw = (k : Int) := by omega
        
        repeat' (first | ((first | apply RW.q1 | (apply DW.q1; exact rfl)); (first | (apply q_ldo; exact rfl; exact rfl; infer_instance; (first | exact hel 0 1 _ (by decide) (by omega) | exact hel 1 1 _ (by decide) (by omega) | exact hel 2 1 _ (by decide) (by omega))) | (apply q_bld; exact rfl; first | exact bld26_0_1 _ _ | exact bld30_0_1_2_3 _ _ _ _ _) | exact qt)) | refine xsg cts ?_ | (apply CW_condT; exact rfl; exact ar) | (apply CW_condF; exact rfl; exact ar) | (refine hK _ _ ?_; clear hK; refine xsg xsl ?_) | (refine xsg ahd ?_; (first | (apply gw_callE (f := 69); exact rfl; exact go69; intro G hG; exact hPk G) | (apply gw_asg; exact rfl) | (apply gw_alloc; exact rfl; intro b) | (apply gw_lit1; exact rfl; exact rfl; exact rfl; exact rfl; decide; intro b) | (apply gw_lit2; exact rfl; exact rfl; exact rfl; exact rfl; intro b) | (apply gw_lit3; exact rfl; exact rfl; exact rfl; exact rfl; exact rfl; intro b) | (apply gw_ap1; exact rfl; exact rfl; infer_instance; infer_instance; exact rfl; exact rfl; exact rfl; exact rfl; omega; intro a c) | (apply gw_ap1n; exact rfl; exact rfl; infer_instance; exact rfl; exact rfl; exact rfl; exact rfl; omega; intro a c) | (refine gw_stx sto ?_) | (fail))) | (apply CW_region; intro K hK) | (apply CW_condX; exact rfl; exact tst; exact tst; all_goals (intro hq hc; try exact no)) | (refine CW_draw (id := 14) [] [(0, false), (1, false), (2, false), (3, false), (4, false), (5, false), (6, false), (7, false), (8, false), (9, false), (10, false), (11, false), (12, false), (13, false), (14, false), (15, true), (16, true), (17, true)] mixed (by kernel_rfl) (fun K hK => ?_)))
        all_goals refine ⟨_, _, _, ⟨on + 1, _, _, _, _, rfl, rfl, rfl, by omega, rfl, ?_⟩, by exact sbe, by exact sbl, by omega⟩
        all_goals rw [htk]; congr 1
        all_goals unfold encP
        all_goals rw [hN, hD, hb, show decide (24 ≤ (on : Int)) = false from decide_eq_false (by omega)]
        all_goals rfl
  · obtain rfl : on = 32 := by omega
    rw [show pfx.take 32 = pfx from rfl]
    
    repeat' (first | ((first | apply RW.q1 | (apply DW.q1; exact rfl)); (first | (apply q_bld; exact rfl; first | exact bld26_0_1 _ _ | exact bld30_0_1_2_3 _ _ _ _ _) | exact qt)) | refine xsg cts ?_ | (apply CW_condT; exact rfl; exact ar) | (apply CW_condF; exact rfl; exact ar) | (refine hK _ _ ?_; clear hK; refine xsg xsl ?_) | (refine xsg ahd ?_; (first | (apply gw_asg; exact rfl) | (apply gw_alloc; exact rfl; intro b) | (apply gw_lit1; exact rfl; exact rfl; exact rfl; exact rfl; decide; intro b) | (apply gw_lit2; exact rfl; exact rfl; exact rfl; exact rfl; intro b) | (apply gw_lit3; exact rfl; exact rfl; exact rfl; exact rfl; exact rfl; intro b) | (apply gw_ap1; exact rfl; exact rfl; infer_instance; infer_instance; exact rfl; exact rfl; exact rfl; exact rfl; omega; intro a c) | (apply gw_ap1n; exact rfl; exact rfl; infer_instance; exact rfl; exact rfl; exact rfl; exact rfl; omega; intro a c) | (refine gw_stx sto ?_) | (fail))) | (apply CW_region; intro K hK) | (apply CW_condX; exact rfl; exact tst; exact tst; all_goals (intro hq hc; try exact no)) | (refine CW_draw (id := 14) [] [(0, false), (1, false), (2, false), (3, false), (4, false), (5, false), (6, false), (7, false), (8, false), (9, false), (10, false), (11, false), (12, false), (13, false), (14, false), (15, true), (16, true), (17, true)] mixed (by kernel_rfl) (fun K hK => ?_)))
    (refine CW_ret ?_; refine xsg xsl ?_; refine bR [.tmp 0] [.own 30 5 oa 32 oc (pfx.flatMap encP)] ?_)
    exact ⟨oa, oc, rfl, rfl⟩
end Go.Proofs.YtnhbipachchlgaaGreat.HL
