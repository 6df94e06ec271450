/- PartsB: RatH: read: two texts' fraction. Condition: none. StrC: copying into a piece of one's own row; its end. No condition. RatI: told, Of. Condition: the rows' lengths. RatJ: all: two fractions read. Condition: none. RatK: two, one: what a function makes of two fractions, or of one. Condition: the result's length. RatL: Mul and Pow of rational numbers. Condition: the powers' size. RatM: Pow of a rational number above 0. Condition: the power's size. RatQ: a right number's texts, and what they read. No condition. -/
import Derived.Test.YtnhbipachchlgaaGreatEngX
import Derived.Test.YtnhbipachchlgaaGreatPartsAX
namespace Go.Proofs.YtnhbipachchlgaaGreat.HL
open Go
attribute [local irreducible] goFn thenS blockS bodyS CW RW DW GW QW NW SC Pick Picks SubL Rd NN ResOk SrcW subE hops hseg AW hgen HC qv bldv
set_option maxHeartbeats 8000000
set_option maxRecDepth 100000
set_option linter.unusedVariables false
set_option linter.unusedSimpArgs false

def readQ (n d : List UInt8) : Option (Int × Nat) := match wholeZ n with
  | none => none
  | some a => if rightB d = true ∧ dv d ≠ 0 ∧ a.natAbs.gcd (dv d) = 1 then some (a, dv d) else none
theorem wholeZ_len {s : List UInt8} {z : Int} (h : wholeZ s = some z) : (wd z).length ≤ 600 := by
  unfold wholeZ at h
  split at h
  · rename_i hr; cases h; exact dv_wd_len hr
  · split at h
    · rename_i hh; cases h; rw [wd_neg]; exact dv_wd_len hh.2.1
    · cases h
theorem fn_low {x y : Int} (hy : 0 < y) (h : x.natAbs.gcd y.natAbs = 1) : fn x y = x ∧ fd x y = y := by
  unfold fn fd
  rw [h, Nat.div_one, Nat.div_one, decide_eq_false (p := y < 0) (by omega)]
  refine ⟨?_, by omega⟩
  unfold sg
  by_cases hx : x < 0
  · rw [decide_eq_true hx]; simp; omega
  · rw [decide_eq_false hx]; simp; omega
abbrev ratV (n d : List UInt8) : Value := .agg #[.string (bstr n), .string (bstr d)]
theorem read_ok (n d : List UInt8) (a : Int) (q : Nat) (h : readQ n d = some (a, q)) (H : Hp) : SC Tryz.prog 71 [ratV n d] H [] (fun v M => ∃ b pa pc qa qc, v = .pointer (some ⟨b, 0, none⟩) ∧ M = [.box b 90 (ratB a (q : Int) pa pc qa qc), intR a pa pc, intR (q : Int) qa qc]) := by
  unfold readQ at h
  cases hw : wholeZ n with
  | none => rw [hw] at h; cases h
  | some a' =>
    rw [hw] at h
    simp only at h
    split at h
    case isFalse => cases h
    case isTrue hh =>
      cases h
      obtain ⟨hr, hz, hg1⟩ := hh
      have hl1 := wholeZ_len hw
      have hl2 := dv_wd_len hr
      have hW := whole_ok n a hw
      have hN := natural_ok d hr
      obtain ⟨m, hm⟩ : ∃ m, m = dv d := ⟨_, rfl⟩
      rw [← hm] at hN hl2 hz hg1 ⊢
      have hsg : ¬ ((m : Nat) : Int).sign = 0 := fun e => hz (by have := Int.sign_eq_zero_iff_zero.1 e; omega)
      have hlow := fn_low (x := a) (y := (m : Int)) (by omega) hg1
      have hS := fun (bz : Nat) (TB : TypeId) (c0 c1 c2 c3 : Value) (bx by' : Nat) (G : Hp) (u : IntW G [.box bz TB [c0, c1, c2, c3]] bx 0 a) (w : IntW G [.box bz TB [c0, c1, c2, c3]] by' 0 (m : Int)) => setFrac_spec bz TB c0 c1 c2 c3 a (m : Int) bx 0 by' 0 G u w (by omega) (by omega) (by omega)
      rw [hlow.1, hlow.2] at hS
      have ea : wd ((a.natAbs : Nat) : Int) = wd a := by unfold wd; rw [Int.natAbs_natCast]
      have hgc := fun (b3 b1 b2 : Nat) (G : Hp) (cs3 : List Value) (T3 : TypeId) (h3 : 0 + 1 < cs3.length) (u : IntW G [.box b3 T3 cs3] b1 0 ((a.natAbs : Nat) : Int)) (w : IntW G [.box b3 T3 cs3] b2 0 ((m : Nat) : Int)) => gcd_spec b3 0 T3 cs3 a.natAbs m b1 0 b2 0 (.pointer none) (.pointer none) G h3 u w (by rw [← wd_nat, ea]; omega) (by rw [← wd_nat]; omega)
      rw [hg1] at hgc
      have hC := fun (G : Hp) (b3 bo : Nat) (u : IntW G [] b3 0 ((1 : Nat) : Int)) (w : IntW G [] bo 0 1) => cmp_spec ((1 : Nat) : Int) 1 b3 0 bo 0 G [] u w (by rw [show wd ((1 : Nat) : Int) = [1] from dgs_one (by decide) (by decide)]; decide) (by rw [show wd 1 = [1] from dgs_one (by decide) (by decide)]; decide)
      rw [show cmpZ ((1 : Nat) : Int) 1 = 0 by decide] at hC
      (refine SC_intro Tryz.func71 rfl (by kernel_rfl) (by rw [Tryz.ntmps71]; exact Nat.le_of_ble_eq_true rfl) ?_; simp only [Tryz.ntmps71, argE, Nat.reduceAdd])
      
      repeat' (first | ((first | apply RW.q1 | (apply DW.q1; exact rfl)); exact qt) | ((first | apply RW.qg | (apply DW.qg; exact rfl)); exact gvx; refine hgx tst ?_; intro hg hg'; exact qu) | refine xsg cts ?_ | (apply CW_condT; exact rfl; exact ar) | (apply CW_condF; exact rfl; exact ar) | ((first | apply RW.s1 | apply RW.s0 | (apply DW.sa; exact rfl)); exact gva) | (refine hK _ _ ?_; clear hK; refine xsg xsl ?_) | ((first | apply RW.c1 | (apply DW.c1; exact rfl; exact rfl) | (apply DW.c1t; exact rfl)); (first | (apply nw_call (f := 98); exact rfl; exact go98; (intro G hG; exact (sign_spec (m : Int) nb 0 G [] (intW_own (by exact pkx) (by exact pkx) hG _)).mono (fun v M h => h.1))))) | (refine xsg ahd ?_; (first | ((first | apply gw_call (f := 96) | apply gx_call (f := 96)); exact evx; exact go96; intro G hG; refine SC.mono (hW G) ?_; rintro v M ⟨wb, wa, wc, rfl, rfl⟩; (try dsimp only [jL, jM])) | ((first | apply gw_call (f := 97) | apply gx_call (f := 97)); exact evx; exact go97; intro G hG; refine SC.mono (hN G) ?_; rintro v M ⟨nb, na, nc, rfl, rfl⟩; (try dsimp only [jL, jM])) | ((first | apply gw_alloc (d := some 22) | apply gx_alloc (d := some 22)); exact rfl; intro b1) | ((first | apply gw_alloc (d := some 23) | apply gx_alloc (d := some 23)); exact rfl; intro b2) | ((first | apply gw_alloc (d := some 31) | apply gx_alloc (d := some 31)); exact rfl; intro b3) | (apply gw_callc (f := 100) (M := [.box b2 _ _]); exact evx; exact go100; exact pcs; intro G hG; refine SC.mono (abs_spec b2 0 _ _ a wb 0 G (by decide) (intW_own (by exact pkx) (by exact pkx) hG _) (by omega)) ?_; rintro v M ⟨rfl, ba, bc, rfl⟩; (try dsimp only [jL, jM])) | (apply gw_callc (f := 99) (M := [.box b1 _ _]); exact evx; exact go99; exact pcs; intro G hG; refine SC.mono (hgc b1 b2 nb G _ _ (by decide) (intW_own (by exact pkx) (by exact pkx) hG _) (intW_own (by exact pkx) (by exact pkx) hG _)) ?_; rintro v M ⟨rfl, ga, gc, rfl⟩; (try dsimp only [jL, jM])) | ((first | apply gw_call (f := 72) | apply gx_call (f := 72)); exact evx; exact go72; intro G hG; refine SC.mono (newInt_spec 1 G (by decide)) ?_; rintro v M ⟨bo, oa, oc, rfl, rfl⟩; (try dsimp only [jL, jM])) | ((first | apply gw_callE (f := 101) | apply gx_callE (f := 101)); exact evx; exact go101; intro G hG; exact hC G b1 bo (intW_own (by exact pkx) (by exact pkx) hG _) (intW_own (by exact pkx) (by exact pkx) hG _)) | (apply gw_callc (f := 81) (M := [.box b3 _ _]); exact evx; exact go81; exact pcs; intro G hG; refine SC.mono (hS b3 _ _ _ _ _ wb nb G (intW_own (by exact pkx) (by exact pkx) hG _) (intW_own (by exact pkx) (by exact pkx) hG _)) ?_; rintro v M ⟨rfl, pa, pc, qa, qc, rfl⟩; (try dsimp only [jL, jM])) | (apply gw_asg; exact rfl) | ((first | apply gw_alloc | apply gx_alloc); exact rfl; intro b) | ((first | apply gw_box | apply gx_box); exact rfl; exact rfl; intro b) | (fail))) | ((first | apply RW.cg | (apply DW.cg; exact rfl; exact rfl) | (apply DW.cgt; exact rfl)); exact gvx; refine hgx tst ?_; intro hg hg'; first | (apply nw_call (f := 98); exact evx; exact go98; (intro G hG; exact (sign_spec (m : Int) nb 0 G [] (intW_own (by exact pkx) (by exact pkx) hG _)).mono (fun v M h => h.1)))) | (apply CW_region; intro K hK) | (apply CW_condX; exact rfl; exact tst; exact tst; all_goals (intro hq hc; try exact no)) | (refine CW_draw (id := 1) [2] [(0, false), (1, false), (3, false), (4, false), (2, true), (5, true), (6, false), (7, false)] mixed (by kernel_rfl) (fun K hK => ?_)))
      all_goals (first | (exact absurd (by simpa using hc) hsg) | skip)
      all_goals (refine CW_ret ?_; refine xsg xsl ?_; refine bR [.tmp 2] [.box b3 90 (ratB a (m : Int) pa pc qa qc), intR a pa pc, intR (m : Int) qa qc] ?_)
      all_goals exact ⟨b3, pa, pc, qa, qc, rfl, rfl⟩
theorem read_no (n d : List UInt8) (hn : (n.length : Int) ≤ 9223372036854775807) (hd : (d.length : Int) ≤ 9223372036854775807) (h : readQ n d = none) (H : Hp) : SC Tryz.prog 71 [ratV n d] H [] (fun v M => v = .pointer none ∧ M = []) := by
  unfold readQ at h
  cases hw : wholeZ n with
  | none =>
    have hW := whole_no n hn hw
    by_cases hr : rightB d = true
    · have hN := natural_ok d hr
      (refine SC_intro Tryz.func71 rfl (by kernel_rfl) (by rw [Tryz.ntmps71]; exact Nat.le_of_ble_eq_true rfl) ?_; simp only [Tryz.ntmps71, argE, Nat.reduceAdd])
      
      repeat' (first | ((first | apply RW.q1 | (apply DW.q1; exact rfl)); exact qt) | ((first | apply RW.qg | (apply DW.qg; exact rfl)); exact gvx; refine hgx tst ?_; intro hg hg'; exact qu) | refine xsg cts ?_ | (apply CW_condT; exact rfl; exact ar) | (apply CW_condF; exact rfl; exact ar) | ((first | apply RW.s1 | apply RW.s0 | (apply DW.sa; exact rfl)); exact gva) | (refine hK _ _ ?_; clear hK; refine xsg xsl ?_) | ((first | apply RW.c1 | (apply DW.c1; exact rfl; exact rfl) | (apply DW.c1t; exact rfl)); (first | (apply nw_call (f := 98); exact rfl; exact go98; (intro G hG; exact (sign_spec _ nb 0 G [] (intW_own (by exact pkx) (by exact pkx) hG _)).mono (fun v M h => h.1))))) | (refine xsg ahd ?_; (first | ((first | apply gw_callE (f := 96) | apply gx_callE (f := 96)); exact evx; exact go96; intro G hG; exact hW G) | ((first | apply gw_call (f := 97) | apply gx_call (f := 97)); exact evx; exact go97; intro G hG; refine SC.mono (hN G) ?_; rintro v M ⟨nb, na, nc, rfl, rfl⟩; (try dsimp only [jL, jM])) | (apply gw_asg; exact rfl) | ((first | apply gw_alloc | apply gx_alloc); exact rfl; intro b) | ((first | apply gw_box | apply gx_box); exact rfl; exact rfl; intro b) | (fail))) | ((first | apply RW.cg | (apply DW.cg; exact rfl; exact rfl) | (apply DW.cgt; exact rfl)); exact gvx; refine hgx tst ?_; intro hg hg'; first | (apply nw_call (f := 98); exact evx; exact go98; (intro G hG; exact (sign_spec _ nb 0 G [] (intW_own (by exact pkx) (by exact pkx) hG _)).mono (fun v M h => h.1)))) | (apply CW_region; intro K hK) | (apply CW_condX; exact rfl; exact tst; exact tst; all_goals (intro hq hc; try exact no)) | (refine CW_draw (id := 1) [2] [(0, false), (1, false), (3, false), (4, false), (2, true), (5, true), (6, false), (7, false)] mixed (by kernel_rfl) (fun K hK => ?_)))
      all_goals (refine CW_ret ?_; refine xsg xsl ?_; refine bR [.tmp 2] [] ?_)
      all_goals exact ⟨rfl, rfl⟩
    · have hN := natural_no d hd (by simpa using hr)
      (refine SC_intro Tryz.func71 rfl (by kernel_rfl) (by rw [Tryz.ntmps71]; exact Nat.le_of_ble_eq_true rfl) ?_; simp only [Tryz.ntmps71, argE, Nat.reduceAdd])
      
      repeat' (first | ((first | apply RW.q1 | (apply DW.q1; exact rfl)); exact qt) | ((first | apply RW.qg | (apply DW.qg; exact rfl)); exact gvx; refine hgx tst ?_; intro hg hg'; exact qu) | refine xsg cts ?_ | (apply CW_condT; exact rfl; exact ar) | (apply CW_condF; exact rfl; exact ar) | ((first | apply RW.s1 | apply RW.s0 | (apply DW.sa; exact rfl)); exact gva) | (refine hK _ _ ?_; clear hK; refine xsg xsl ?_) | (refine xsg ahd ?_; (first | ((first | apply gw_callE (f := 96) | apply gx_callE (f := 96)); exact evx; exact go96; intro G hG; exact hW G) | ((first | apply gw_callE (f := 97) | apply gx_callE (f := 97)); exact evx; exact go97; intro G hG; exact hN G) | (apply gw_asg; exact rfl) | ((first | apply gw_alloc | apply gx_alloc); exact rfl; intro b) | ((first | apply gw_box | apply gx_box); exact rfl; exact rfl; intro b) | (fail))) | (apply CW_region; intro K hK) | (apply CW_condX; exact rfl; exact tst; exact tst; all_goals (intro hq hc; try exact no)) | (refine CW_draw (id := 1) [2] [(0, false), (1, false), (3, false), (4, false), (2, true), (5, true), (6, false), (7, false)] mixed (by kernel_rfl) (fun K hK => ?_)))
      all_goals (refine CW_ret ?_; refine xsg xsl ?_; refine bR [.tmp 2] [] ?_)
      all_goals exact ⟨rfl, rfl⟩
  | some a =>
    rw [hw] at h
    simp only at h
    split at h
    case isTrue => cases h
    case isFalse hh =>
      have hl1 := wholeZ_len hw
      have hW := whole_ok n a hw
      by_cases hr : rightB d = true
      case neg =>
        have hN := natural_no d hd (by simpa using hr)
        (refine SC_intro Tryz.func71 rfl (by kernel_rfl) (by rw [Tryz.ntmps71]; exact Nat.le_of_ble_eq_true rfl) ?_; simp only [Tryz.ntmps71, argE, Nat.reduceAdd])
        
        repeat' (first | ((first | apply RW.q1 | (apply DW.q1; exact rfl)); exact qt) | ((first | apply RW.qg | (apply DW.qg; exact rfl)); exact gvx; refine hgx tst ?_; intro hg hg'; exact qu) | refine xsg cts ?_ | (apply CW_condT; exact rfl; exact ar) | (apply CW_condF; exact rfl; exact ar) | ((first | apply RW.s1 | apply RW.s0 | (apply DW.sa; exact rfl)); exact gva) | (refine hK _ _ ?_; clear hK; refine xsg xsl ?_) | (refine xsg ahd ?_; (first | ((first | apply gw_call (f := 96) | apply gx_call (f := 96)); exact evx; exact go96; intro G hG; refine SC.mono (hW G) ?_; rintro v M ⟨wb, wa, wc, rfl, rfl⟩; (try dsimp only [jL, jM])) | ((first | apply gw_callE (f := 97) | apply gx_callE (f := 97)); exact evx; exact go97; intro G hG; exact hN G) | (apply gw_asg; exact rfl) | ((first | apply gw_alloc | apply gx_alloc); exact rfl; intro b) | ((first | apply gw_box | apply gx_box); exact rfl; exact rfl; intro b) | (fail))) | (apply CW_region; intro K hK) | (apply CW_condX; exact rfl; exact tst; exact tst; all_goals (intro hq hc; try exact no)) | (refine CW_draw (id := 1) [2] [(0, false), (1, false), (3, false), (4, false), (2, true), (5, true), (6, false), (7, false)] mixed (by kernel_rfl) (fun K hK => ?_)))
        all_goals (refine CW_ret ?_; refine xsg xsl ?_; refine bR [.tmp 2] [] ?_)
        all_goals exact ⟨rfl, rfl⟩
      have hl2 := dv_wd_len hr
      have hN := natural_ok d hr
      by_cases hz : dv d = 0
      · rw [hz] at hN
        (refine SC_intro Tryz.func71 rfl (by kernel_rfl) (by rw [Tryz.ntmps71]; exact Nat.le_of_ble_eq_true rfl) ?_; simp only [Tryz.ntmps71, argE, Nat.reduceAdd])
        
        repeat' (first | ((first | apply RW.q1 | (apply DW.q1; exact rfl)); exact qt) | ((first | apply RW.qg | (apply DW.qg; exact rfl)); exact gvx; refine hgx tst ?_; intro hg hg'; exact qu) | refine xsg cts ?_ | (apply CW_condT; exact rfl; exact ar) | (apply CW_condF; exact rfl; exact ar) | ((first | apply RW.s1 | apply RW.s0 | (apply DW.sa; exact rfl)); exact gva) | (refine hK _ _ ?_; clear hK; refine xsg xsl ?_) | ((first | apply RW.c1 | (apply DW.c1; exact rfl; exact rfl) | (apply DW.c1t; exact rfl)); (first | (apply nw_call (f := 98); exact rfl; exact go98; (intro G hG; exact (sign_spec 0 nb 0 G [] (intW_own (by exact pkx) (by exact pkx) hG _)).mono (fun v M h => h.1))))) | (refine xsg ahd ?_; (first | ((first | apply gw_call (f := 96) | apply gx_call (f := 96)); exact evx; exact go96; intro G hG; refine SC.mono (hW G) ?_; rintro v M ⟨wb, wa, wc, rfl, rfl⟩; (try dsimp only [jL, jM])) | ((first | apply gw_call (f := 97) | apply gx_call (f := 97)); exact evx; exact go97; intro G hG; refine SC.mono (hN G) ?_; rintro v M ⟨nb, na, nc, rfl, rfl⟩; (try dsimp only [jL, jM])) | (apply gw_asg; exact rfl) | ((first | apply gw_alloc | apply gx_alloc); exact rfl; intro b) | ((first | apply gw_box | apply gx_box); exact rfl; exact rfl; intro b) | (fail))) | ((first | apply RW.cg | (apply DW.cg; exact rfl; exact rfl) | (apply DW.cgt; exact rfl)); exact gvx; refine hgx tst ?_; intro hg hg'; first | (apply nw_call (f := 98); exact evx; exact go98; (intro G hG; exact (sign_spec 0 nb 0 G [] (intW_own (by exact pkx) (by exact pkx) hG _)).mono (fun v M h => h.1)))) | (apply CW_region; intro K hK) | (apply CW_condX; exact rfl; exact tst; exact tst; all_goals (intro hq hc; try exact no)) | (refine CW_draw (id := 1) [2] [(0, false), (1, false), (3, false), (4, false), (2, true), (5, true), (6, false), (7, false)] mixed (by kernel_rfl) (fun K hK => ?_)))
        all_goals (refine CW_ret ?_; refine xsg xsl ?_; refine bR [.tmp 2] [] ?_)
        all_goals exact ⟨rfl, rfl⟩
      have hg1 : a.natAbs.gcd (dv d) ≠ 1 := fun e => hh ⟨hr, hz, e⟩
      obtain ⟨m, hm⟩ : ∃ m, m = dv d := ⟨_, rfl⟩
      rw [← hm] at hN hl2 hz hg1
      have hsg : ¬ ((m : Nat) : Int).sign = 0 := fun e => hz (by have := Int.sign_eq_zero_iff_zero.1 e; omega)
      have ea : wd ((a.natAbs : Nat) : Int) = wd a := by unfold wd; rw [Int.natAbs_natCast]
      have hgc := fun (b3 b1 b2 : Nat) (G : Hp) (cs3 : List Value) (T3 : TypeId) (h3 : 0 + 1 < cs3.length) (u : IntW G [.box b3 T3 cs3] b1 0 ((a.natAbs : Nat) : Int)) (w : IntW G [.box b3 T3 cs3] b2 0 ((m : Nat) : Int)) => gcd_spec b3 0 T3 cs3 a.natAbs m b1 0 b2 0 (.pointer none) (.pointer none) G h3 u w (by rw [← wd_nat, ea]; omega) (by rw [← wd_nat]; omega)
      have hgm : a.natAbs.gcd m ≤ m := Nat.gcd_le_right _ (by omega)
      obtain ⟨g, hgd⟩ : ∃ g, g = a.natAbs.gcd m := ⟨_, rfl⟩
      rw [← hgd] at hgc hg1 hgm
      have hgl : (wd ((g : Nat) : Int)).length ≤ 1099511627776 := by
        have := dgs_len_le w1 hgm
        rw [wd_nat] at hl2 ⊢
        omega
      have hC := fun (G : Hp) (b3 bo : Nat) (u : IntW G [] b3 0 ((g : Nat) : Int)) (w : IntW G [] bo 0 1) => cmp_spec ((g : Nat) : Int) 1 b3 0 bo 0 G [] u w hgl (by rw [show wd 1 = [1] from dgs_one (by decide) (by decide)]; decide)
      obtain ⟨r, hr1, hr2⟩ : ∃ r : Int, cmpZ ((g : Nat) : Int) 1 = r ∧ ¬ r = 0 := ⟨_, rfl, by unfold cmpZ; repeat' split <;> omega⟩
      rw [hr1] at hC
      (refine SC_intro Tryz.func71 rfl (by kernel_rfl) (by rw [Tryz.ntmps71]; exact Nat.le_of_ble_eq_true rfl) ?_; simp only [Tryz.ntmps71, argE, Nat.reduceAdd])
      
      repeat' (first | ((first | apply RW.q1 | (apply DW.q1; exact rfl)); exact qt) | ((first | apply RW.qg | (apply DW.qg; exact rfl)); exact gvx; refine hgx tst ?_; intro hg hg'; exact qu) | refine xsg cts ?_ | (apply CW_condT; exact rfl; exact ar) | (apply CW_condF; exact rfl; exact ar) | ((first | apply RW.s1 | apply RW.s0 | (apply DW.sa; exact rfl)); exact gva) | (refine hK _ _ ?_; clear hK; refine xsg xsl ?_) | ((first | apply RW.c1 | (apply DW.c1; exact rfl; exact rfl) | (apply DW.c1t; exact rfl)); (first | (apply nw_call (f := 98); exact rfl; exact go98; (intro G hG; exact (sign_spec (m : Int) nb 0 G [] (intW_own (by exact pkx) (by exact pkx) hG _)).mono (fun v M h => h.1))))) | (refine xsg ahd ?_; (first | ((first | apply gw_call (f := 96) | apply gx_call (f := 96)); exact evx; exact go96; intro G hG; refine SC.mono (hW G) ?_; rintro v M ⟨wb, wa, wc, rfl, rfl⟩; (try dsimp only [jL, jM])) | ((first | apply gw_call (f := 97) | apply gx_call (f := 97)); exact evx; exact go97; intro G hG; refine SC.mono (hN G) ?_; rintro v M ⟨nb, na, nc, rfl, rfl⟩; (try dsimp only [jL, jM])) | ((first | apply gw_alloc (d := some 22) | apply gx_alloc (d := some 22)); exact rfl; intro b1) | ((first | apply gw_alloc (d := some 23) | apply gx_alloc (d := some 23)); exact rfl; intro b2) | (apply gw_callc (f := 100) (M := [.box b2 _ _]); exact evx; exact go100; exact pcs; intro G hG; refine SC.mono (abs_spec b2 0 _ _ a wb 0 G (by decide) (intW_own (by exact pkx) (by exact pkx) hG _) (by omega)) ?_; rintro v M ⟨rfl, ba, bc, rfl⟩; (try dsimp only [jL, jM])) | (apply gw_callc (f := 99) (M := [.box b1 _ _]); exact evx; exact go99; exact pcs; intro G hG; refine SC.mono (hgc b1 b2 nb G _ _ (by decide) (intW_own (by exact pkx) (by exact pkx) hG _) (intW_own (by exact pkx) (by exact pkx) hG _)) ?_; rintro v M ⟨rfl, ga, gc, rfl⟩; (try dsimp only [jL, jM])) | ((first | apply gw_call (f := 72) | apply gx_call (f := 72)); exact evx; exact go72; intro G hG; refine SC.mono (newInt_spec 1 G (by decide)) ?_; rintro v M ⟨bo, oa, oc, rfl, rfl⟩; (try dsimp only [jL, jM])) | ((first | apply gw_callE (f := 101) | apply gx_callE (f := 101)); exact evx; exact go101; intro G hG; exact hC G b1 bo (intW_own (by exact pkx) (by exact pkx) hG _) (intW_own (by exact pkx) (by exact pkx) hG _)) | (apply gw_asg; exact rfl) | ((first | apply gw_alloc | apply gx_alloc); exact rfl; intro b) | ((first | apply gw_box | apply gx_box); exact rfl; exact rfl; intro b) | (fail))) | ((first | apply RW.cg | (apply DW.cg; exact rfl; exact rfl) | (apply DW.cgt; exact rfl)); exact gvx; refine hgx tst ?_; intro hg hg'; first | (apply nw_call (f := 98); exact evx; exact go98; (intro G hG; exact (sign_spec (m : Int) nb 0 G [] (intW_own (by exact pkx) (by exact pkx) hG _)).mono (fun v M h => h.1)))) | (apply CW_region; intro K hK) | (apply CW_condX; exact rfl; exact tst; exact tst; all_goals (intro hq hc; try exact no)) | (refine CW_draw (id := 1) [2] [(0, false), (1, false), (3, false), (4, false), (2, true), (5, true), (6, false), (7, false)] mixed (by kernel_rfl) (fun K hK => ?_)))
      all_goals (refine CW_ret ?_; refine xsg xsl ?_; refine bR [.tmp 2] [] ?_)
      all_goals exact ⟨rfl, rfl⟩
end Go.Proofs.YtnhbipachchlgaaGreat.HL
namespace Go.Proofs.YtnhbipachchlgaaGreat.HL
open Go
set_option linter.unusedSimpArgs false
set_option linter.unusedVariables false

section
variable {P : Program} {l : Ents} {H : Hp} {L L' : List Res} {K : Value → List Res → Prop} {d : Option Tmp} {T : TypeId} {pos : String} {aft : Array Edge} {gd : Option (Nat × Bool)}
theorem gw_copyo {s0 x0 : Operand} {dT sT e e' : TypeId} {z z' n c n' dcap m k : Nat} {a : Option Addr} {cs ys cs' : List Value} {src : Value} [hdT : Und P dT (.slice e)] [hz : Szc P e z] (hs0 : evg l true s0 = some (.slice (pt a k) n' dcap)) (hx0 : evg l true x0 = some src)
    (hp : Pick L (.own e' z' a n c cs) L') (hx : SrcW H L z src m ys) (hy : ys.length = m * z) (hmn : m ≤ n') (hl : k + m * z ≤ cs.length) (h1 : ys.all isOne = true) (h0 : 0 < m * z) (hs : spl cs k ys = cs') (h : K (.int .i64 m) (.own e' z' a n c cs' :: L')) :
    GW P l ⟨d, .call ⟨.builtin .copy, #[s0, x0], #[dT, sT]⟩, T, pos, aft, gd⟩ H L K := fun G hg => by
  obtain ⟨fp, ⟨hf, k1, ⟨k2, k3⟩ | ⟨b, cap, rest, lo, hi, k2, k3, k4, k5, k6⟩⟩, _⟩ := hg.get hp
  · subst k3
    rw [Nat.zero_mul] at k1
    omega
  · cases k2
    refine hgen_copy (off := k) (b := b) (dcap := dcap) hs0 hx0 hdT.h hz.h (by simp [pt]) k3 (hx G hg) hy hmn (by simp; omega) h1 k6 fun G1 j1 j2 => ⟨_, (hg.pick hp).turn fun fp' hr => ?_, h⟩
    have e : spl (cs ++ rest) k ys = cs' ++ rest := by
      rw [← hs]; unfold spl
      rw [List.take_append_of_le_length (by omega), List.drop_append_of_le_length (by omega)]
      simp
    rw [e] at j2
    have hlen : cs'.length = cs.length := by rw [← hs]; unfold spl; simp; omega
    refine ⟨fp', ⟨hr.1, by rw [hlen]; exact k1, .inr ⟨b, _, rest, lo, hi, rfl, j2, k4, k5, ?_⟩⟩, fun _ h => .inl h, fun x hx _ => j1 x fun e => hx ((hr.1 x).2 (by rw [e]; rfl))⟩
    simp only [List.length_append, hlen] at k6 ⊢; exact k6
theorem q_slt {t e e' : TypeId} {n c : Nat} {x lo : Operand} {a : Option Addr} {kl : IntKind} {i : Int} {cs : List Value} (p : Nat) [hu : Und P t (.slice e)] [hz : Szc P e 1] (hx : evg l true x = some (.slice a n c)) (hl : evg l true lo = some (.int kl i)) (hp : POwn L a e' 1 n c cs L') (hii : i = (p : Int)) (h : p < n) :
    QW P l H L ⟨d, .slice t x (some lo) none none, T, pos, aft, gd⟩ (.slice (pt a p) (n - p) (c - p)) := fun G hg => by
  have hc := own_cap hg hp.h
  obtain ⟨b, off, ha⟩ := nn_own hp.h (by omega) G hg
  have e0 : evo l true none = some none := rfl
  have e1 : evo l true (some lo) = some (some (.int kl i)) := by simp [evo, hl]
  have h3 := q_sls (P := P) (l := l) (t := t) (e := e) (z := 1) (d := d) (T := T) (pos := pos) (aft := aft) (gd := gd) hx e1 e0 e0 (bnd_lo (by omega) (by omega) hc) G hg
  have h4 : i.toNat = p := by omega
  rw [h4, if_neg (by omega), Nat.mul_one] at h3
  have h6 : a.map (·.add p) = pt a p := by
    subst ha
    simp only [pt, Option.map_some, add_none]
  rw [h6] at h3
  exact h3
theorem q_sleqF {t ty e : TypeId} {x y : Operand} {p : Option Addr} {n c : Nat} (hn : p.isNone = false) [hu : Und P t (.slice e)] (hx : evg l true x = some (.slice p n c)) (hy : evg l true y = some (.slice none 0 0)) :
    QW P l H L ⟨d, .binOp .eql t x y ty, T, pos, aft, gd⟩ (.bool false) := by
  rw [← hn]
  exact q_slnil hx hy
theorem q_max2e {x y : Operand} {t s : TypeId} {k : IntKind} {a b v : Int} (hx : evg l true x = some (.int k a)) (hy : evg l true y = some (.int k b)) (hv : (if a < b then b else a) = v) : QW P l H L ⟨d, .call ⟨.builtin .max, #[x, y], #[t, s]⟩, T, pos, aft, gd⟩ (.int k v) := by
  subst hv
  exact q_max2 hx hy
end
theorem rd_one {H G : Hp} {L L' : List Res} {b : Nat} {T : TypeId} {v : Value} (hp : Pick L (.box b T [v]) L') (hG : Hs H L G) : Rd G [] (some ⟨b, 0, none⟩) 1 [v] :=
  (rd_box hp (off := 0) (n := 1) (vs := [v]) rfl rfl (by decide)).base hG
theorem sl_pt {H G : Hp} {L L' : List Res} {e : TypeId} {n c k : Nat} {a : Option Addr} {cs : List Value} (hp : Pick L (.own e 1 a n c cs) L') (hG : Hs H L G) (hk : k < n) : Sl G 1 (.slice (pt a k) (n - k) (c - k)) (n - k) (cs.drop k) := by
  have hc := (sl_owns hp hG).2
  have h := sl_drop (sl_owns hp hG).1 (k := k) (by omega) hc
  rw [if_neg (by omega), Nat.mul_one] at h
  obtain ⟨b, off, ha⟩ := nn_own hp (by omega) G hG
  have h6 : a.map (·.add k) = pt a k := by
    subst ha
    simp only [pt, Option.map_some, add_none]
  rw [h6] at h
  exact h
end Go.Proofs.YtnhbipachchlgaaGreat.HL
namespace Go.Proofs.YtnhbipachchlgaaGreat.HL
open Go
attribute [local irreducible] goFn thenS blockS bodyS CW RW DW GW QW NW SC Pick Picks SubL Rd NN ResOk SrcW subE hops hseg AW hgen HC qv bldv
set_option linter.unusedVariables false
set_option linter.unusedSimpArgs false

def toldV (p q : Int) : Value := if (Lib.decDigits p.natAbs).length ≤ 600 ∧ (decB (den q)).length ≤ 600 then .tuple #[ratV (decB p) (decB (den q)), .int .i64 0] else .tuple #[ratV [] [], .int .i64 7]
theorem decB_trim (p : Int) : (if (decB p).take ([45] : List UInt8).length = [45] then (decB p).drop ([45] : List UInt8).length else decB p) = Lib.decDigits p.natAbs := by
  unfold decB
  by_cases h : p < 0
  · rw [if_pos h]
    exact if_pos rfl
  · rw [if_neg h]
    obtain ⟨c, t, h1, h2⟩ := dec_head p.natAbs
    have hd := dec_isDg p.natAbs c (by rw [h1]; simp)
    rw [if_neg]
    rw [h1]
    intro e
    have e : [c] = [45] := e
    have : c = 45 := (List.cons.inj e).1
    subst this
    exact absurd hd.1 (by decide)
theorem dec_len_words {n M : Nat} (h : (dgs W32 n).length ≤ M) : (Lib.decDigits n).length ≤ 10 * M + 1 := by
  have a1 := dgs_len_lt (n := n) w1
  have a2 : W32 ^ (dgs W32 n).length ≤ W32 ^ M := Nat.pow_le_pow_right (by decide) h
  have a3 : W32 ^ M ≤ (10 ^ 10) ^ M := Nat.pow_le_pow_left (by decide) M
  rw [← Nat.pow_mul] at a3
  have a4 : 10 ^ (10 * M) ≤ 10 ^ (10 * M + 1) := Nat.pow_le_pow_right (by decide) (by omega)
  exact (dec_len_lt n (10 * M)).1 (by omega)
theorem decB_len {z : Int} {M : Nat} (h : (wd z).length ≤ M) : (decB z).length ≤ 10 * M + 2 := by
  have := dec_len_words h
  unfold decB
  split
  · rw [List.length_cons]; omega
  · omega
theorem told_spec (p q : Int) (bx ox : Nat) (H : Hp) (hx : RatW H [] bx ox p q) (hp : (wd p).length ≤ 1000000) (hq : (wd q).length ≤ 1000000) : SC Tryz.prog 80 [.pointer (some ⟨bx, ox, none⟩)] H [] (fun v M => v = toldV p q ∧ M = []) := by
  have hl := wd_den_len q
  have hb1 := decB_len (M := 1000001) (z := p) (by omega)
  have hb2 := decB_len (M := 1000001) (z := den q) (by omega)
  have hT := trimPrefix_spec (decB p) [45]
  rw [decB_trim] at hT
  have hb3 := dec_len_words (M := 1000001) (n := p.natAbs) (show (wd p).length ≤ 1000001 by omega)
  generalize hX : Lib.decDigits p.natAbs = X at hT hb3
  have htd : toldV p q = if X.length ≤ 600 ∧ (decB (den q)).length ≤ 600 then .tuple #[ratV (decB p) (decB (den q)), .int .i64 0] else .tuple #[ratV [] [], .int .i64 7] := by unfold toldV; rw [hX]
  rw [htd]
  by_cases hok : X.length ≤ 600 ∧ (decB (den q)).length ≤ 600
  · rw [if_pos hok]
    (refine SC_intro Tryz.func80 rfl (by kernel_rfl) (by rw [Tryz.ntmps80]; exact Nat.le_of_ble_eq_true rfl) ?_; simp only [Tryz.ntmps80, argE, Nat.reduceAdd])
    
    repeat' (first | (apply RW.q1; (first | (apply q_lenb; exact rfl) | (apply q_bld; exact rfl; first | exact bld26_ | exact bld26_0_1 _ _) | exact qt)) | (apply RW.qg; exact gvx; refine hgx tst ?_; intro hg hg'; (first | (apply q_lenb; exact evgx) | (apply q_bld; exact rfl; first | exact bld26_ | exact bld26_0_1 _ _) | exact qu)) | refine xsg cts ?_ | (apply CW_condT; exact rfl; exact ar) | (apply CW_condF; exact rfl; exact ar) | ((first | apply RW.s1 | apply RW.s0); exact gva) | (refine hK _ _ ?_; clear hK; refine xsg xsl ?_) | ((first | apply RW.a1 | apply RW.a0 | (apply RW.at; exact gva)); (first | (apply gw_call (f := 91); exact evx; exact go91; intro G hG; refine SC.mono (num_spec p q bx ox G ((hx.sub subl_nil).base hG) (by omega)) ?_; rintro v M ⟨e1, ea, ec, rfl, rfl⟩; (try dsimp only [jL, jM])) | (apply gw_call (f := 83); exact evx; exact go83; intro G hG; refine SC.mono (denom_spec p q bx ox G ((hx.sub subl_nil).base hG) (by omega)) ?_; rintro v M ⟨f1, fa, fc, rfl, rfl⟩; (try dsimp only [jL, jM])) | (apply gw_callE (f := 73); exact evx; exact go73; intro G hG; exact string_spec p e1 0 G (intW_own (by exact pkx) (by exact pkx) hG _) (by omega)) | (apply gw_callE (f := 73); exact evx; exact go73; intro G hG; exact string_spec (den q) f1 0 G (intW_own (by exact pkx) (by exact pkx) hG _) (by omega)) | (apply gw_callE (f := 109); exact evx; exact go109; intro G hG; exact hT G) | (apply gw_asg; exact rfl) | (apply gw_alloc; exact rfl; intro b) | (refine gw_stx sto ?_) | (fail))) | (apply CW_region; intro K hK) | (apply CW_condX; exact rfl; exact tst; exact tst; all_goals (intro hq hc; try exact no)))
    all_goals (first | (exfalso; omega) | skip)
    all_goals (refine CW_ret ?_; refine xsg xsl ?_; refine bodyS_ret (L' := []) (rs := [.cell 2 26, .tmp 3]) (by kernel_rfl) (by (repeat (first | (apply resok_tmp; exact rfl) | (apply resok_cell; exact rfl; exact rfl; (focus ((iterate 16 (try (first | exact pick0 | apply pickS))); done)); (first | exact rfl | assumption | (simp only [List.length_map]; omega)); decide))); exact resok_nil) (by exact sbl) ?_)
    all_goals exact ⟨rfl, rfl⟩
  · rw [if_neg hok]
    (refine SC_intro Tryz.func80 rfl (by kernel_rfl) (by rw [Tryz.ntmps80]; exact Nat.le_of_ble_eq_true rfl) ?_; simp only [Tryz.ntmps80, argE, Nat.reduceAdd])
    
    repeat' (first | (apply RW.q1; (first | (apply q_lenb; exact rfl) | (apply q_bld; exact rfl; first | exact bld26_ | exact bld26_0_1 _ _) | exact qt)) | (apply RW.qg; exact gvx; refine hgx tst ?_; intro hg hg'; (first | (apply q_lenb; exact evgx) | (apply q_bld; exact rfl; first | exact bld26_ | exact bld26_0_1 _ _) | exact qu)) | refine xsg cts ?_ | (apply CW_condT; exact rfl; exact ar) | (apply CW_condF; exact rfl; exact ar) | ((first | apply RW.s1 | apply RW.s0); exact gva) | (refine hK _ _ ?_; clear hK; refine xsg xsl ?_) | ((first | apply RW.a1 | apply RW.a0 | (apply RW.at; exact gva)); (first | (apply gw_call (f := 91); exact evx; exact go91; intro G hG; refine SC.mono (num_spec p q bx ox G ((hx.sub subl_nil).base hG) (by omega)) ?_; rintro v M ⟨e1, ea, ec, rfl, rfl⟩; (try dsimp only [jL, jM])) | (apply gw_call (f := 83); exact evx; exact go83; intro G hG; refine SC.mono (denom_spec p q bx ox G ((hx.sub subl_nil).base hG) (by omega)) ?_; rintro v M ⟨f1, fa, fc, rfl, rfl⟩; (try dsimp only [jL, jM])) | (apply gw_callE (f := 73); exact evx; exact go73; intro G hG; exact string_spec p e1 0 G (intW_own (by exact pkx) (by exact pkx) hG _) (by omega)) | (apply gw_callE (f := 73); exact evx; exact go73; intro G hG; exact string_spec (den q) f1 0 G (intW_own (by exact pkx) (by exact pkx) hG _) (by omega)) | (apply gw_callE (f := 109); exact evx; exact go109; intro G hG; exact hT G) | (apply gw_asg; exact rfl) | (apply gw_alloc; exact rfl; intro b) | (refine gw_stx sto ?_) | (fail))) | (apply CW_region; intro K hK) | (apply CW_condX; exact rfl; exact tst; exact tst; all_goals (intro hq hc; try exact no)))
    all_goals (first | (exfalso; omega) | skip)
    all_goals (refine CW_ret ?_; refine xsg xsl ?_; refine bodyS_ret (L' := []) (rs := [.cell 2 26, .tmp 3]) (by kernel_rfl) (by (repeat (first | (apply resok_tmp; exact rfl) | (apply resok_cell; exact rfl; exact rfl; (focus ((iterate 16 (try (first | exact pick0 | apply pickS))); done)); (first | exact rfl | assumption | (simp only [List.length_map]; omega)); decide))); exact resok_nil) (by exact sbl) ?_)
    all_goals exact ⟨rfl, rfl⟩
theorem of_spec (n : Int) (H : Hp) (hn : -9223372036854775808 ≤ n ∧ n ≤ 9223372036854775807) : SC Tryz.prog 20 [.int .i64 n] H [] (fun v M => v = ratV (decB n) [49] ∧ M = []) := by
  have hl : (wd n).length ≤ 2 := dgs_len_of_lt w1 (by show n.natAbs < 18446744073709551616; omega)
  (refine SC_intro Tryz.func20 rfl (by kernel_rfl) (by rw [Tryz.ntmps20]; exact Nat.le_of_ble_eq_true rfl) ?_; simp only [Tryz.ntmps20, argE, Nat.reduceAdd])
  repeat' (first | (apply RW.q1; (first | (apply q_bld; exact rfl; first | exact bld26_0_1 _ _) | exact qt)) | refine xsg cts ?_ | (apply CW_condT; exact rfl; exact ar) | (apply CW_condF; exact rfl; exact ar) | (refine hK _ _ ?_; clear hK; refine xsg xsl ?_) | ((first | apply RW.a1 | apply RW.a0); (first | (apply gw_call (f := 72); exact rfl; exact go72; intro G hG; refine SC.mono (newInt_spec n G hn) ?_; rintro v M ⟨bo, oa, oc, rfl, rfl⟩; (try dsimp only [jL, jM])) | (apply gw_callE (f := 73); exact rfl; exact go73; intro G hG; exact string_spec n bo 0 G (intW_own (by exact pkx) (by exact pkx) hG _) (by omega)) | (apply gw_asg; exact rfl) | (apply gw_alloc; exact rfl; intro b) | (refine gw_stx sto ?_) | (fail))) | (apply CW_region; intro K hK) | (apply CW_condX; exact rfl; exact tst; exact tst; all_goals (intro hq hc; try exact no)))
  (refine CW_ret ?_; refine xsg xsl ?_; refine bodyS_ret (L' := []) (rs := [.cell 2 26]) (by kernel_rfl) (by (repeat (first | (apply resok_tmp; exact rfl) | (apply resok_cell; exact rfl; exact rfl; (focus ((iterate 16 (try (first | exact pick0 | apply pickS))); done)); (first | exact rfl | assumption | (simp only [List.length_map]; omega)); decide))); exact resok_nil) (by exact sbl) ?_)
  exact ⟨rfl, rfl⟩
end Go.Proofs.YtnhbipachchlgaaGreat.HL
namespace Go.Proofs.YtnhbipachchlgaaGreat.HL
open Go
attribute [local irreducible] goFn thenS blockS bodyS CW RW DW GW QW NW SC Pick Picks SubL Rd NN ResOk SrcW subE hops hseg AW hgen HC qv bldv
set_option linter.unusedVariables false
set_option linter.unusedSimpArgs false

abbrev ratP (b : Nat) : Value := .pointer (some ⟨b, 0, none⟩)
theorem all_ok (n1 d1 n2 d2 : List UInt8) (a1 a2 : Int) (q1 q2 : Nat) (h1 : readQ n1 d1 = some (a1, q1)) (h2 : readQ n2 d2 = some (a2, q2)) (la : Option Addr) (lc : Nat) (H : Hp) (hx : Rs H 2 la 2 lc [.string (bstr n1), .string (bstr d1), .string (bstr n2), .string (bstr d2)]) :
    SC Tryz.prog 79 [.slice la 2 lc] H [] (fun v M => ∃ oa oc b1 pa1 pc1 qa1 qc1 b2 pa2 pc2 qa2 qc2, v = .slice oa 2 oc ∧ oa.isNone = false ∧ M = [.own 59 1 oa 2 oc [ratP b1, ratP b2],
      .box b1 90 (ratB a1 (q1 : Int) pa1 pc1 qa1 qc1), intR a1 pa1 pc1, intR (q1 : Int) qa1 qc1, .box b2 90 (ratB a2 (q2 : Int) pa2 pc2 qa2 qc2), intR a2 pa2 pc2, intR (q2 : Int) qa2 qc2]) := by
  have hR1 := read_ok n1 d1 a1 q1 h1
  have hR2 := read_ok n2 d2 a2 q2 h2
  (refine SC_intro Tryz.func79 rfl (by kernel_rfl) (by rw [Tryz.ntmps79]; exact Nat.le_of_ble_eq_true rfl) ?_; simp only [Tryz.ntmps79, argE, Nat.reduceAdd])
  
  repeat' (first | (apply RW.q1; exact qt) | refine xsg cts ?_ | (apply CW_condT; exact rfl; exact ar) | (apply CW_condF; exact rfl; exact ar) | (refine hK _ _ ?_; clear hK; refine xsg xsl ?_) | ((first | apply RW.a1 | apply RW.a0); (first | (apply gw_asg; exact rfl) | (apply gw_alloc; exact rfl; intro b) | (apply gw_make; exact rfl; exact rfl; exact rfl; exact rfl; omega; omega; omega; omega; intro b) | (apply gw_lit1; exact rfl; exact rfl; exact rfl; exact rfl; decide; intro b) | (apply gw_lit2; exact rfl; exact rfl; exact rfl; exact rfl; intro b) | (apply gw_lit3; exact rfl; exact rfl; exact rfl; exact rfl; exact rfl; intro b) | (refine gw_stx sto ?_) | (fail))) | (apply CW_region; intro K hK) | (apply CW_condX; exact rfl; exact tst; exact tst; all_goals (intro hq hc; try exact no)))
  refine CW_loop (fun m l L => ∃ (k : Nat) (oa : Option Addr) (on oc : Nat) (cs : List Value) (L' : List Res), m = 2 - k ∧ l = [(3, true, .slice oa on oc), (10, true, .slice la 2 lc), (11, true, .int .i64 2), (12, true, .int .i64 (k : Nat))] ∧
      L = .own 59 1 oa on oc cs :: L' ∧ on = 2 ∧ oa.isNone = false ∧ ((k = 0 ∧ cs = [.pointer none, .pointer none] ∧ L' = []) ∨
        (∃ b1 pa1 pc1 qa1 qc1, k = 1 ∧ cs = [ratP b1, .pointer none] ∧ L' = [.box b1 90 (ratB a1 (q1 : Int) pa1 pc1 qa1 qc1), intR a1 pa1 pc1, intR (q1 : Int) qa1 qc1]) ∨
        (∃ b1 pa1 pc1 qa1 qc1 b2 pa2 pc2 qa2 qc2, k = 2 ∧ cs = [ratP b1, ratP b2] ∧ L' = [.box b1 90 (ratB a1 (q1 : Int) pa1 pc1 qa1 qc1), intR a1 pa1 pc1, intR (q1 : Int) qa1 qc1, .box b2 90 (ratB a2 (q2 : Int) pa2 pc2 qa2 qc2), intR a2 pa2 pc2, intR (q2 : Int) qa2 qc2])))
    ⟨_, _, _, ⟨0, _, _, _, _, [], rfl, rfl, rfl, rfl, rfl, .inl ⟨rfl, rfl, rfl⟩⟩, by exact sbe, by exact sbl⟩ ?_
  rintro m l L ⟨k, oa, on, oc, cs, L', rfl, rfl, rfl, rfl, hnn, hh⟩
  rcases hh with ⟨rfl, rfl, rfl⟩ | ⟨b1, pa1, pc1, qa1, qc1, rfl, rfl, rfl⟩ | ⟨b1, pa1, pc1, qa1, qc1, b2, pa2, pc2, qa2, qc2, rfl, rfl, rfl⟩
  · 
    repeat' (first | (apply RW.q1; (first | (apply q_lar; exact rfl; exact rfl; exact hx; exact rfl; exact rfl; decide) | (apply q_slt 0; exact rfl; exact rfl; infer_instance; exact rfl; decide) | exact qt)) | refine xsg cts ?_ | (apply CW_condT; exact rfl; exact ar) | (apply CW_condF; exact rfl; exact ar) | (refine hK _ _ ?_; clear hK; refine xsg xsl ?_) | ((first | apply RW.a1 | apply RW.a0); (first | (apply gw_call (f := 71); exact rfl; exact go71; intro G hG; refine SC.mono (hR1 G) ?_; rintro v M ⟨b1, pa, pc, qa, qc, rfl, rfl⟩; (try dsimp only [jL, jM])) | (apply gw_copyo (k := 0) (m := 1); exact rfl; exact rfl; exact pkx; exact src_own (by exact pkx); exact rfl; decide; decide; exact rfl; decide; exact rfl) | (apply gw_asg; exact rfl) | (apply gw_alloc; exact rfl; intro b) | (apply gw_make; exact rfl; exact rfl; exact rfl; exact rfl; omega; omega; omega; omega; intro b) | (apply gw_lit1; exact rfl; exact rfl; exact rfl; exact rfl; decide; intro b) | (apply gw_lit2; exact rfl; exact rfl; exact rfl; exact rfl; intro b) | (apply gw_lit3; exact rfl; exact rfl; exact rfl; exact rfl; exact rfl; intro b) | (refine gw_stx sto ?_) | (fail))) | (apply CW_region; intro K hK) | (apply CW_condX; exact rfl; exact tst; exact tst; all_goals (intro hq hc; try exact no)))
    exact ⟨_, _, _, ⟨1, _, _, _, _, _, rfl, rfl, rfl, rfl, hnn, .inr (.inl ⟨b1, pa, pc, qa, qc, rfl, rfl, rfl⟩)⟩, by exact sbe, by exact sbl, by decide⟩
  · 
    repeat' (first | (apply RW.q1; (first | (apply q_lar; exact rfl; exact rfl; exact hx; exact rfl; exact rfl; decide) | (apply q_slt 1; exact rfl; exact rfl; infer_instance; exact rfl; decide) | exact qt)) | refine xsg cts ?_ | (apply CW_condT; exact rfl; exact ar) | (apply CW_condF; exact rfl; exact ar) | (refine hK _ _ ?_; clear hK; refine xsg xsl ?_) | ((first | apply RW.a1 | apply RW.a0); (first | (apply gw_call (f := 71); exact rfl; exact go71; intro G hG; refine SC.mono (hR2 G) ?_; rintro v M ⟨b2, pa, pc, qa, qc, rfl, rfl⟩; (try dsimp only [jL, jM])) | (apply gw_copyo (k := 1) (m := 1); exact rfl; exact rfl; exact pkx; exact src_own (by exact pkx); exact rfl; decide; exact Nat.le_refl 2; exact rfl; decide; exact rfl) | (apply gw_asg; exact rfl) | (apply gw_alloc; exact rfl; intro b) | (apply gw_make; exact rfl; exact rfl; exact rfl; exact rfl; omega; omega; omega; omega; intro b) | (apply gw_lit1; exact rfl; exact rfl; exact rfl; exact rfl; decide; intro b) | (apply gw_lit2; exact rfl; exact rfl; exact rfl; exact rfl; intro b) | (apply gw_lit3; exact rfl; exact rfl; exact rfl; exact rfl; exact rfl; intro b) | (refine gw_stx sto ?_) | (fail))) | (apply CW_region; intro K hK) | (apply CW_condX; exact rfl; exact tst; exact tst; all_goals (intro hq hc; try exact no)))
    exact ⟨_, _, _, ⟨2, _, _, _, _, _, rfl, rfl, rfl, rfl, hnn, .inr (.inr ⟨b1, pa1, pc1, qa1, qc1, b2, pa, pc, qa, qc, rfl, rfl, rfl⟩)⟩, by exact sbe, by exact sbl, by decide⟩
  · 
    repeat' (first | (apply RW.q1; exact qt) | refine xsg cts ?_ | (apply CW_condT; exact rfl; exact ar) | (apply CW_condF; exact rfl; exact ar) | (refine hK _ _ ?_; clear hK; refine xsg xsl ?_) | ((first | apply RW.a1 | apply RW.a0); (first | (apply gw_asg; exact rfl) | (apply gw_alloc; exact rfl; intro b) | (apply gw_make; exact rfl; exact rfl; exact rfl; exact rfl; omega; omega; omega; omega; intro b) | (apply gw_lit1; exact rfl; exact rfl; exact rfl; exact rfl; decide; intro b) | (apply gw_lit2; exact rfl; exact rfl; exact rfl; exact rfl; intro b) | (apply gw_lit3; exact rfl; exact rfl; exact rfl; exact rfl; exact rfl; intro b) | (refine gw_stx sto ?_) | (fail))) | (apply CW_region; intro K hK) | (apply CW_condX; exact rfl; exact tst; exact tst; all_goals (intro hq hc; try exact no)))
    (refine CW_ret ?_; refine xsg xsl ?_; refine bR [.tmp 2] [.own 59 1 oa 2 oc [ratP b1, ratP b2], .box b1 90 (ratB a1 (q1 : Int) pa1 pc1 qa1 qc1), intR a1 pa1 pc1, intR (q1 : Int) qa1 qc1, .box b2 90 (ratB a2 (q2 : Int) pa2 pc2 qa2 qc2), intR a2 pa2 pc2, intR (q2 : Int) qa2 qc2] ?_)
    exact ⟨oa, oc, b1, pa1, pc1, qa1, qc1, b2, pa2, pc2, qa2, qc2, rfl, hnn, rfl⟩
end Go.Proofs.YtnhbipachchlgaaGreat.HL
namespace Go.Proofs.YtnhbipachchlgaaGreat.HL
open Go
attribute [local irreducible] goFn thenS blockS bodyS CW RW DW GW QW NW SC Pick Picks SubL Rd NN ResOk SrcW subE hops hseg AW hgen HC qv bldv
set_option linter.unusedVariables false
set_option linter.unusedSimpArgs false

abbrev zero4 : List Value := [.bool false, .slice none 0 0, .bool false, .slice none 0 0]
def CbPost (R : Except Int (Int × Int)) (bz : Nat) (v : Value) (M : List Res) : Prop := match R with
  | .ok (p, q) => v = .int .i64 0 ∧ ∃ pa pc qa qc, M = [.box bz 90 (ratB p q pa pc qa qc), intR p pa pc, intR q qa qc]
  | .error e => v = .int .i64 e ∧ e ≠ 0 ∧ M = []
def twoV (R : Except Int (Int × Int)) : Value := match R with
  | .ok (p, q) => toldV p q
  | .error e => .tuple #[ratV [] [], .int .i64 e]
def Small (R : Except Int (Int × Int)) : Prop := match R with
  | .ok (p, q) => (wd p).length ≤ 1000000 ∧ (wd q).length ≤ 1000000
  | .error e => e ≠ 0
theorem told_shape (p q : Int) : ∃ x y e, toldV p q = .tuple #[ratV x y, .int .i64 e] := by
  unfold toldV
  split
  · exact ⟨_, _, _, rfl⟩
  · exact ⟨_, _, _, rfl⟩
theorem two_ok (n1 d1 n2 d2 : List UInt8) (a1 a2 : Int) (q1 q2 : Nat) (h1 : readQ n1 d1 = some (a1, q1)) (h2 : readQ n2 d2 = some (a2, q2)) (f : FuncId) (cap : Array Value) (hgo : goFn Tryz.prog f = true) (R : Except Int (Int × Int)) (hR : Small R) (H : Hp)
    (hcb : ∀ G, Ext H G → ∀ bz bx by', RatW G [] bx 0 a1 (q1 : Int) → RatW G [] by' 0 a2 (q2 : Int) → SC Tryz.prog f (ratP bz :: ratP bx :: ratP by' :: cap.toList) G [.box bz 90 zero4] (fun v M => CbPost R bz v M)) :
    SC Tryz.prog 25 [ratV n1 d1, ratV n2 d2, .func (.func f) #[] cap] H [] (fun v M => v = twoV R ∧ M = []) := by
  have hA := all_ok n1 d1 n2 d2 a1 a2 q1 q2 h1 h2
  cases R with
  | ok pq =>
    obtain ⟨p, q⟩ := pq
    obtain ⟨tx, ty, te, hsh⟩ := told_shape p q
    have hTd := fun bx ox G hx => told_spec p q bx ox G hx hR.1 hR.2
    show SC _ _ _ _ _ (fun v M => v = toldV p q ∧ M = [])
    rw [hsh] at hTd ⊢
    (refine SC_intro Tryz.func25 rfl (by kernel_rfl) (by rw [Tryz.ntmps25]; exact Nat.le_of_ble_eq_true rfl) ?_; simp only [Tryz.ntmps25, argE, Nat.reduceAdd])
    
    repeat' (first | ((first | apply RW.q1 | (apply DW.q1; exact rfl)); (first | (apply q_sleqF hnn; exact rfl; exact rfl) | (apply q_bld; exact rfl; first | exact bld26_) | exact qt)) | refine xsg cts ?_ | (apply CW_condT; exact rfl; exact ar) | (apply CW_condF; exact rfl; exact ar) | (refine hK _ _ ?_; clear hK; refine xsg xsl ?_) | (refine xsg ahd ?_; (first | (refine gw_litn (cs := [.string (bstr n1), .string (bstr d1), .string (bstr n2), .string (bstr d2)]) rfl rfl rfl rfl rfl (by decide) (fun lb => ?_)) | (apply gw_alloc (d := some 18); exact rfl; intro bz) | (apply gw_call (f := 79); exact rfl; exact go79; intro G hG; refine SC.mono (hA _ _ G (sl_own (by exact pkx) hG)) ?_; rintro v M ⟨oa, oc, b1, pa1, pc1, qa1, qc1, b2, pa2, pc2, qa2, qc2, rfl, hnn, rfl⟩; (try dsimp only [jL, jM])) | ((apply gw_callvc (f := f) (M := [.box bz 90 zero4]); exact rfl; exact rfl; exact hgo; ((repeat ((apply picks_cons; exact pkx))); exact picks_nil); intro G hG; refine SC.mono (hcb G hG.ext bz b1 b2 (ratW_own (by exact pkx) (by exact pkx) (by exact pkx) hG _) (ratW_own (by exact pkx) (by exact pkx) (by exact pkx) hG _)) ?_; rintro v M ⟨rfl, pa, pc, qa, qc, rfl⟩; (try dsimp only [jL, jM]))) | (apply gw_callE (f := 80); exact rfl; exact go80; intro G hG; exact hTd bz 0 G (ratW_own (by exact pkx) (by exact pkx) (by exact pkx) hG _)) | (apply gw_asg; exact rfl) | (apply gw_alloc; exact rfl; intro b) | (apply gw_box; exact rfl; exact rfl; intro b) | (apply gw_lit1; exact rfl; exact rfl; exact rfl; exact rfl; decide; intro b) | (apply gw_lit2; exact rfl; exact rfl; exact rfl; exact rfl; intro b) | (apply gw_lit3; exact rfl; exact rfl; exact rfl; exact rfl; exact rfl; intro b) | (refine gw_stx sto ?_) | (fail))) | (apply CW_region; intro K hK) | (apply CW_condX; exact rfl; exact tst; exact tst; all_goals (intro hq hc; try exact no)) | (refine CW_draw (id := 5) [] [(0, false), (1, false), (2, false), (3, false), (4, false), (5, false), (6, false), (7, false), (8, true), (9, false)] mixed (by kernel_rfl) (fun K hK => ?_)))
    all_goals (refine CW_ret ?_; refine xsg xsl ?_; refine bodyS_ret (L' := []) (rs := [.cell 6 26, .tmp 7]) (by kernel_rfl) (by (repeat (first | (apply resok_tmp; exact rfl) | (apply resok_cell; exact rfl; exact rfl; (focus ((iterate 16 (try (first | exact pick0 | apply pickS))); done)); (first | exact rfl | assumption | (simp only [List.length_map]; omega)); decide))); exact resok_nil) (by exact sbl) ?_)
    all_goals exact ⟨rfl, rfl⟩
  | error e =>
    have he : e ≠ 0 := hR
    show SC _ _ _ _ _ (fun v M => v = .tuple #[ratV [] [], .int .i64 e] ∧ M = [])
    (refine SC_intro Tryz.func25 rfl (by kernel_rfl) (by rw [Tryz.ntmps25]; exact Nat.le_of_ble_eq_true rfl) ?_; simp only [Tryz.ntmps25, argE, Nat.reduceAdd])
    
    repeat' (first | ((first | apply RW.q1 | (apply DW.q1; exact rfl)); (first | (apply q_sleqF hnn; exact rfl; exact rfl) | (apply q_bld; exact rfl; first | exact bld26_) | exact qt)) | refine xsg cts ?_ | (apply CW_condT; exact rfl; exact ar) | (apply CW_condF; exact rfl; exact ar) | (refine hK _ _ ?_; clear hK; refine xsg xsl ?_) | (refine xsg ahd ?_; (first | (refine gw_litn (cs := [.string (bstr n1), .string (bstr d1), .string (bstr n2), .string (bstr d2)]) rfl rfl rfl rfl rfl (by decide) (fun lb => ?_)) | (apply gw_alloc (d := some 18); exact rfl; intro bz) | (apply gw_call (f := 79); exact rfl; exact go79; intro G hG; refine SC.mono (hA _ _ G (sl_own (by exact pkx) hG)) ?_; rintro v M ⟨oa, oc, b1, pa1, pc1, qa1, qc1, b2, pa2, pc2, qa2, qc2, rfl, hnn, rfl⟩; (try dsimp only [jL, jM])) | ((apply gw_callvc (f := f) (M := [.box bz 90 zero4]); exact rfl; exact rfl; exact hgo; ((repeat ((apply picks_cons; exact pkx))); exact picks_nil); intro G hG; refine SC.mono (hcb G hG.ext bz b1 b2 (ratW_own (by exact pkx) (by exact pkx) (by exact pkx) hG _) (ratW_own (by exact pkx) (by exact pkx) (by exact pkx) hG _)) ?_; rintro v M ⟨rfl, _, rfl⟩; (try dsimp only [jL, jM]))) | (apply gw_asg; exact rfl) | (apply gw_alloc; exact rfl; intro b) | (apply gw_box; exact rfl; exact rfl; intro b) | (apply gw_lit1; exact rfl; exact rfl; exact rfl; exact rfl; decide; intro b) | (apply gw_lit2; exact rfl; exact rfl; exact rfl; exact rfl; intro b) | (apply gw_lit3; exact rfl; exact rfl; exact rfl; exact rfl; exact rfl; intro b) | (refine gw_stx sto ?_) | (fail))) | (apply CW_region; intro K hK) | (apply CW_condX; exact rfl; exact tst; exact tst; all_goals (intro hq hc; try exact no)) | (refine CW_draw (id := 5) [] [(0, false), (1, false), (2, false), (3, false), (4, false), (5, false), (6, false), (7, false), (8, true), (9, false)] mixed (by kernel_rfl) (fun K hK => ?_)))
    all_goals (refine CW_ret ?_; refine xsg xsl ?_; refine bodyS_ret (L' := []) (rs := [.cell 6 26, .tmp 7]) (by kernel_rfl) (by (repeat (first | (apply resok_tmp; exact rfl) | (apply resok_cell; exact rfl; exact rfl; (focus ((iterate 16 (try (first | exact pick0 | apply pickS))); done)); (first | exact rfl | assumption | (simp only [List.length_map]; omega)); decide))); exact resok_nil) (by exact sbl) ?_)
    all_goals exact ⟨rfl, rfl⟩
theorem one1_spec (a q : Int) (f : FuncId) (cap : Array Value) (hgo : goFn Tryz.prog f = true) (R : Except Int (Int × Int)) (bz bx b3 : Nat) (y : Value) (H : Hp) (hf : Rd H [] (some ⟨b3, 0, none⟩) 1 [.func (.func f) #[] cap]) (hx : RatW H [] bx 0 a q)
    (hcb : ∀ G, Ext H G → ∀ bz bx, RatW G [] bx 0 a q → SC Tryz.prog f (ratP bz :: ratP bx :: cap.toList) G [.box bz 90 zero4] (fun v M => CbPost R bz v M)) :
    SC Tryz.prog 123 [ratP bz, ratP bx, y, .pointer (some ⟨b3, 0, none⟩)] H [.box bz 90 zero4] (fun v M => CbPost R bz v M) := by
  cases R with
  | ok pq =>
    obtain ⟨p, q'⟩ := pq
    (refine SC_intro Tryz.func123 rfl (by kernel_rfl) (by rw [Tryz.ntmps123]; exact Nat.le_of_ble_eq_true rfl) ?_; simp only [Tryz.ntmps123, argE, Nat.reduceAdd])
    repeat' (first | (apply RW.q1; (first | (apply q_load; exact rfl; exact rfl; exact Rd.sub hf subl_nil) | exact qt)) | refine xsg cts ?_ | (apply CW_condT; exact rfl; exact ar) | (apply CW_condF; exact rfl; exact ar) | (refine hK _ _ ?_; clear hK; refine xsg xsl ?_) | ((first | apply RW.a1 | apply RW.a0); (first | ((apply gw_callvc (f := f) (M := [.box bz 90 zero4]); exact rfl; exact rfl; exact hgo; ((repeat ((apply picks_cons; exact pkx))); exact picks_nil); intro G hG; refine SC.mono (hcb G hG.ext bz bx (hx.base (hG.sub subl_nil))) ?_; rintro v M ⟨rfl, pa, pc, qa, qc, rfl⟩; (try dsimp only [jL, jM]))) | (apply gw_asg; exact rfl) | (fail))) | (apply CW_region; intro K hK) | (apply CW_condX; exact rfl; exact tst; exact tst; all_goals (intro hq hc; try exact no)))
    (refine CW_ret ?_; refine xsg xsl ?_; refine bR [.tmp 7] [.box bz 90 (ratB p q' pa pc qa qc), intR p pa pc, intR q' qa qc] ?_)
    exact ⟨rfl, pa, pc, qa, qc, rfl⟩
  | error e =>
    (refine SC_intro Tryz.func123 rfl (by kernel_rfl) (by rw [Tryz.ntmps123]; exact Nat.le_of_ble_eq_true rfl) ?_; simp only [Tryz.ntmps123, argE, Nat.reduceAdd])
    repeat' (first | (apply RW.q1; (first | (apply q_load; exact rfl; exact rfl; exact Rd.sub hf subl_nil) | exact qt)) | refine xsg cts ?_ | (apply CW_condT; exact rfl; exact ar) | (apply CW_condF; exact rfl; exact ar) | (refine hK _ _ ?_; clear hK; refine xsg xsl ?_) | ((first | apply RW.a1 | apply RW.a0); (first | ((apply gw_callvc (f := f) (M := [.box bz 90 zero4]); exact rfl; exact rfl; exact hgo; ((repeat ((apply picks_cons; exact pkx))); exact picks_nil); intro G hG; refine SC.mono (hcb G hG.ext bz bx (hx.base (hG.sub subl_nil))) ?_; rintro v M ⟨rfl, he, rfl⟩; (try dsimp only [jL, jM]))) | (apply gw_asg; exact rfl) | (fail))) | (apply CW_region; intro K hK) | (apply CW_condX; exact rfl; exact tst; exact tst; all_goals (intro hq hc; try exact no)))
    (refine CW_ret ?_; refine xsg xsl ?_; refine bR [.tmp 7] [] ?_)
    exact ⟨rfl, he, rfl⟩
theorem twoV_shape (R : Except Int (Int × Int)) : ∃ x y e, twoV R = .tuple #[ratV x y, .int .i64 e] := by
  cases R with
  | ok pq => exact told_shape _ _
  | error e => exact ⟨_, _, _, rfl⟩
theorem one_ok (n d : List UInt8) (a : Int) (q : Nat) (h : readQ n d = some (a, q)) (f : FuncId) (cap : Array Value) (hgo : goFn Tryz.prog f = true) (R : Except Int (Int × Int)) (hR : Small R) (H : Hp)
    (hcb : ∀ G, Ext H G → ∀ bz bx, RatW G [] bx 0 a (q : Int) → SC Tryz.prog f (ratP bz :: ratP bx :: cap.toList) G [.box bz 90 zero4] (fun v M => CbPost R bz v M)) :
    SC Tryz.prog 89 [ratV n d, .func (.func f) #[] cap] H [] (fun v M => v = twoV R ∧ M = []) := by
  have hT := fun (b3 : Nat) (G : Hp) (hG : Ext H G) (hf : Rd G [] (some ⟨b3, 0, none⟩) 1 [.func (.func f) #[] cap]) => two_ok n d n d a a q q h h 123 #[.pointer (some ⟨b3, 0, none⟩)] go123 R hR G
    (fun G' hx bz bx by' u w => one1_spec a (q : Int) f cap hgo R bz bx b3 _ G' (hf.up hx) u (fun G2 hx2 => hcb G2 (hG.trans (hx.trans hx2))))
  obtain ⟨tx, ty, te, hsh⟩ := twoV_shape R
  rw [hsh] at hT ⊢
  (refine SC_intro Tryz.func89 rfl (by kernel_rfl) (by rw [Tryz.ntmps89]; exact Nat.le_of_ble_eq_true rfl) ?_; simp only [Tryz.ntmps89, argE, Nat.reduceAdd])
  repeat' (first | (apply RW.q1; exact qt) | refine xsg cts ?_ | (apply CW_condT; exact rfl; exact ar) | (apply CW_condF; exact rfl; exact ar) | (refine hK _ _ ?_; clear hK; refine xsg xsl ?_) | ((first | apply RW.a1 | apply RW.a0); (first | (apply gw_callE (f := 25); exact rfl; exact go25; intro G hG; exact hT _ G hG.ext (rd_one (by exact pkx) hG)) | (apply gw_asg; exact rfl) | (apply gw_alloc; exact rfl; intro b) | (apply gw_box; exact rfl; exact rfl; intro b) | (refine gw_stx sto ?_) | (fail))) | (apply CW_region; intro K hK) | (apply CW_condX; exact rfl; exact tst; exact tst; all_goals (intro hq hc; try exact no)))
  all_goals (refine CW_ret ?_; refine xsg xsl ?_; refine bodyS_ret (L' := []) (rs := [.cell 4 26, .tmp 5]) (by kernel_rfl) (by (repeat (first | (apply resok_tmp; exact rfl) | (apply resok_cell; exact rfl; exact rfl; (focus ((iterate 16 (try (first | exact pick0 | apply pickS))); done)); (first | exact rfl | assumption | (simp only [List.length_map]; omega)); decide))); exact resok_nil) (by exact sbl) ?_)
  all_goals exact ⟨rfl, rfl⟩
end Go.Proofs.YtnhbipachchlgaaGreat.HL
namespace Go.Proofs.YtnhbipachchlgaaGreat.HL
open Go
attribute [local irreducible] goFn thenS blockS bodyS CW RW DW GW QW NW SC Pick Picks SubL Rd NN ResOk SrcW subE hops hseg AW hgen HC qv bldv
set_option linter.unusedVariables false
set_option linter.unusedSimpArgs false

theorem readQ_pos {n d : List UInt8} {a : Int} {q : Nat} (h : readQ n d = some (a, q)) : 0 < q ∧ (wd a).length ≤ 600 ∧ (wd (q : Int)).length ≤ 600 := by
  unfold readQ at h
  cases hw : wholeZ n with
  | none => rw [hw] at h; cases h
  | some a' =>
    rw [hw] at h
    simp only at h
    split at h
    · rename_i hh; cases h; exact ⟨by omega, wholeZ_len hw, dv_wd_len hh.1⟩
    · cases h
theorem den_pos {q : Nat} (h : 0 < q) : den (q : Int) = (q : Int) := by unfold den; rw [if_neg (by omega)]
theorem fn_len (x y : Int) : (wd (fn x y)).length ≤ (wd x).length := by
  unfold fn
  rw [wd_sg]
  exact dgs_len_le w1 (Nat.div_le_self _ _)
theorem fd_len (x y : Int) : (wd (fd x y)).length ≤ (wd y).length := by
  unfold fd
  rw [wd_nat]
  exact dgs_len_le w1 (Nat.div_le_self _ _)
theorem mul1_spec (p1 q1 p2 q2 : Int) (bz bx by' : Nat) (H : Hp) (hx : RatW H [] bx 0 p1 q1) (hy : RatW H [] by' 0 p2 q2) (hp1 : (wd p1).length ≤ 131072) (hq1 : (wd q1).length ≤ 131072) (hp2 : (wd p2).length ≤ 131072) (hq2 : (wd q2).length ≤ 131072) :
    SC Tryz.prog 26 [ratP bz, ratP bx, ratP by'] H [.box bz 90 zero4] (fun v M => CbPost (.ok (fn (p1 * p2) (den q1 * den q2), fd (p1 * p2) (den q1 * den q2))) bz v M) := by
  (refine SC_intro Tryz.func26 rfl (by kernel_rfl) (by rw [Tryz.ntmps26]; exact Nat.le_of_ble_eq_true rfl) ?_; simp only [Tryz.ntmps26, argE, Nat.reduceAdd])
  repeat' (first | (apply RW.q1; exact qt) | refine xsg cts ?_ | (apply CW_condT; exact rfl; exact ar) | (apply CW_condF; exact rfl; exact ar) | (refine hK _ _ ?_; clear hK; refine xsg xsl ?_) | ((first | apply RW.a1 | apply RW.a0); (first | (apply gw_callc (f := 27) (M := [.box bz 90 zero4]); exact rfl; exact go27; exact pcs; intro G hG; refine SC.mono (ratMul_spec bz 90 _ _ _ _ p1 q1 p2 q2 bx 0 by' 0 G ((hx.base (hG.sub subl_nil)).sub subl_nil) ((hy.base (hG.sub subl_nil)).sub subl_nil) hp1 hq1 hp2 hq2) ?_; rintro v M ⟨rfl, pa, pc, qa, qc, rfl⟩; (try dsimp only [jL, jM])) | (apply gw_asg; exact rfl) | (fail))) | (apply CW_region; intro K hK) | (apply CW_condX; exact rfl; exact tst; exact tst; all_goals (intro hq hc; try exact nx)))
  (refine CW_ret ?_; refine xsg xsl ?_; refine bR [.tmp 6] [.box bz 90 (ratB (fn (p1 * p2) (den q1 * den q2)) (fd (p1 * p2) (den q1 * den q2)) pa pc qa qc), intR (fn (p1 * p2) (den q1 * den q2)) pa pc, intR (fd (p1 * p2) (den q1 * den q2)) qa qc] ?_)
  exact ⟨rfl, pa, pc, qa, qc, rfl⟩
theorem mul_ok (n1 d1 n2 d2 : List UInt8) (a1 a2 : Int) (q1 q2 : Nat) (h1 : readQ n1 d1 = some (a1, q1)) (h2 : readQ n2 d2 = some (a2, q2)) (H : Hp) :
    SC Tryz.prog 10 [ratV n1 d1, ratV n2 d2] H [] (fun v M => v = toldV (fn (a1 * a2) ((q1 : Int) * q2)) (fd (a1 * a2) ((q1 : Int) * q2)) ∧ M = []) := by
  obtain ⟨k1, k2, k3⟩ := readQ_pos h1
  obtain ⟨k4, k5, k6⟩ := readQ_pos h2
  have l1 := wd_mul_len a1 a2
  have l2 := wd_mul_len (q1 : Int) (q2 : Int)
  have l3 := fn_len (a1 * a2) ((q1 : Int) * q2)
  have l4 := fd_len (a1 * a2) ((q1 : Int) * q2)
  have hT := fun G => two_ok n1 d1 n2 d2 a1 a2 q1 q2 h1 h2 26 #[] go26 (.ok (fn (a1 * a2) (den q1 * den q2), fd (a1 * a2) (den q1 * den q2))) (by rw [den_pos k1, den_pos k4]; exact ⟨by omega, by omega⟩) G
    (fun G' hx bz bx by' u w => mul1_spec a1 q1 a2 q2 bz bx by' G' u w (by omega) (by omega) (by omega) (by omega))
  rw [den_pos k1, den_pos k4] at hT
  have e : twoV (.ok (fn (a1 * a2) ((q1 : Int) * q2), fd (a1 * a2) ((q1 : Int) * q2))) = toldV (fn (a1 * a2) ((q1 : Int) * q2)) (fd (a1 * a2) ((q1 : Int) * q2)) := rfl
  rw [e] at hT
  obtain ⟨tx, ty, te, hsh⟩ := told_shape (fn (a1 * a2) ((q1 : Int) * q2)) (fd (a1 * a2) ((q1 : Int) * q2))
  rw [hsh] at hT ⊢
  (refine SC_intro Tryz.func10 rfl (by kernel_rfl) (by rw [Tryz.ntmps10]; exact Nat.le_of_ble_eq_true rfl) ?_; simp only [Tryz.ntmps10, argE, Nat.reduceAdd])
  repeat' (first | (apply RW.q1; exact qt) | refine xsg cts ?_ | (apply CW_condT; exact rfl; exact ar) | (apply CW_condF; exact rfl; exact ar) | (refine hK _ _ ?_; clear hK; refine xsg xsl ?_) | ((first | apply RW.a1 | apply RW.a0); (first | (apply gw_callE (f := 25); exact rfl; exact go25; intro G hG; exact hT G) | (apply gw_asg; exact rfl) | (apply gw_alloc; exact rfl; intro b) | (apply gw_box; exact rfl; exact rfl; intro b) | (refine gw_stx sto ?_) | (fail))) | (apply CW_region; intro K hK) | (apply CW_condX; exact rfl; exact tst; exact tst; all_goals (intro hq hc; try exact nx)))
  all_goals (refine CW_ret ?_; refine xsg xsl ?_; refine bodyS_ret (L' := []) (rs := [.cell 4 26, .tmp 5]) (by kernel_rfl) (by (repeat (first | (apply resok_tmp; exact rfl) | (apply resok_cell; exact rfl; exact rfl; (focus ((iterate 16 (try (first | exact pick0 | apply pickS))); done)); (first | exact rfl | assumption | (simp only [List.length_map]; omega)); decide))); exact resok_nil) (by exact sbl) ?_)
  all_goals exact ⟨rfl, rfl⟩
end Go.Proofs.YtnhbipachchlgaaGreat.HL
namespace Go.Proofs.YtnhbipachchlgaaGreat.HL
open Go
attribute [local irreducible] goFn thenS blockS bodyS CW RW DW GW QW NW SC Pick Picks SubL Rd NN ResOk SrcW subE hops hseg AW hgen HC qv bldv
set_option linter.unusedVariables false
set_option linter.unusedSimpArgs false

def powN (X Y : Nat) (n : Int) : Nat := if n < 0 then Y ^ n.natAbs else X ^ n.natAbs
theorem bl_mono {m n : Nat} (h : m ≤ n) (h0 : 0 < m) : bl m ≤ bl n := by
  have h1 := bl_lt n
  have h2 := bl_le (n := m) (by omega)
  rcases Nat.lt_or_ge (bl n) (bl m) with g | g
  · have : 2 ^ bl n ≤ 2 ^ (bl m - 1) := Nat.pow_le_pow_right (by decide) (by omega)
    omega
  · exact g
theorem bl_len {n M : Nat} (h : (dgs W32 n).length ≤ M) : bl n ≤ 32 * M := by
  have a1 := dgs_len_lt (n := n) w1
  have a2 : W32 ^ (dgs W32 n).length ≤ W32 ^ M := Nat.pow_le_pow_right (by decide) h
  have a3 : W32 ^ M = 2 ^ (32 * M) := by rw [Nat.pow_mul]
  rw [a3] at a2
  rcases Nat.eq_zero_or_pos n with h0 | h0
  · subst h0; rw [bl_zero]; omega
  · have h2 := bl_le (n := n) (by omega)
    rcases Nat.lt_or_ge (32 * M) (bl n) with g | g
    · have : 2 ^ (32 * M) ≤ 2 ^ (bl n - 1) := Nat.pow_le_pow_right (by decide) (by omega)
      omega
    · exact g
theorem pow_len {X k m B : Nat} (h : bl X ≤ m) (hb : m * k ≤ B) : (dgs W32 (X ^ k)).length ≤ B + 1 := by
  refine dgs_len_of_lt w1 ?_
  have h1 : X ^ k ≤ (2 ^ m) ^ k := Nat.pow_le_pow_left (Nat.le_of_lt (Nat.lt_of_lt_of_le (bl_lt X) (Nat.pow_le_pow_right (by decide) h))) k
  rw [← Nat.pow_mul] at h1
  have h2 : 2 ^ (m * k) ≤ 2 ^ B := Nat.pow_le_pow_right (by decide) hb
  have h3 : 2 ^ B < 2 ^ (B + 1) := Nat.pow_lt_pow_right (by decide) (by omega)
  have h4 : 2 ^ (B + 1) ≤ W32 ^ (B + 1) := Nat.pow_le_pow_left (by decide) _
  omega
theorem pow1_spec (X Y : Nat) (n : Int) (bz bx nb : Nat) (H : Hp) (hn : Rd H [] (some ⟨nb, 0, none⟩) 1 [.int .i64 n]) (hx : RatW H [] bx 0 (X : Int) (Y : Int)) (hX : 0 < X) (hY : 0 < Y) (hn1 : n.natAbs ≤ 4096) (hb : (max (bl X) (bl Y) - 1) * n.natAbs ≤ 2400) (hXl : (dgs W32 X).length ≤ 600) (hYl : (dgs W32 Y).length ≤ 600) :
    SC Tryz.prog 90 [ratP bz, ratP bx, .pointer (some ⟨nb, 0, none⟩)] H [.box bz 90 zero4] (fun v M => CbPost (.ok (fn (powN X Y n : Int) (powN Y X n : Int), fd (powN X Y n : Int) (powN Y X n : Int))) bz v M) := by
  obtain ⟨k, hk⟩ : ∃ k, k = n.natAbs := ⟨_, rfl⟩
  obtain ⟨mx, hmx⟩ : ∃ mx, mx = max (bl X) (bl Y) := ⟨_, rfl⟩
  have hblX : 0 < bl X := by unfold bl; rw [if_neg (by omega)]; omega
  have hmx1 : 0 < mx := by omega
  have hmm : mx * k ≤ 6496 := by
    have : mx * k = (mx - 1) * k + k := by
      obtain ⟨j, rfl⟩ : ∃ j, mx = j + 1 := ⟨mx - 1, by omega⟩
      rw [Nat.add_mul, Nat.one_mul, Nat.add_sub_cancel]
    rw [← hmx, ← hk] at hb
    omega
  have lX := pow_len (X := X) (k := k) (m := mx) (B := 6496) (by omega) hmm
  have lY := pow_len (X := Y) (k := k) (m := mx) (B := 6496) (by omega) hmm
  have bX := bl_len hXl
  have bY := bl_len hYl
  have hk0 : (if n < 0 - n then 0 - n else n) = (k : Int) := by split <;> omega
  have hm0 : (if ((bl X : Nat) : Int) < ((bl Y : Nat) : Int) then ((bl Y : Nat) : Int) else ((bl X : Nat) : Int)) = (mx : Int) := by split <;> omega
  obtain ⟨mb, hmb⟩ : ∃ mb, mb = (mx - 1) * k := ⟨_, rfl⟩
  have hmb2 : mb ≤ 2400 := by rw [hmb, hmx, hk]; exact hb
  have hmi : ((mx : Int) - 1) * (k : Int) = (mb : Int) := by
    rw [hmb, Int.natCast_mul, show ((mx - 1 : Nat) : Int) = (mx : Int) - 1 by omega]
  have wmi : IntKind.i64.wrap (((mx : Int) - 1) * (k : Int)) = (mb : Int) := by rw [hmi]; exact w_in (by simp only [inb]; omega)
  have hxd : den (Y : Int) = (Y : Int) := den_pos hY
  have hSg : ((X : Nat) : Int).sign = 1 := Int.sign_eq_one_of_pos (by omega)
  have hD := fun G (u : RatW G [] bx 0 (X : Int) (Y : Int)) => denom_spec (X : Int) (Y : Int) bx 0 G u (by rw [wd_nat]; omega)
  rw [hxd] at hD
  have hbk : bl k ≤ 13 := by
    have h2 : k < 2 ^ 13 := by omega
    rcases Nat.eq_zero_or_pos k with h0 | h0
    · subst h0; decide
    · have h3 := bl_le (n := k) (by omega)
      rcases Nat.lt_or_ge 13 (bl k) with g | g
      · have : 2 ^ 13 ≤ 2 ^ (bl k - 1) := Nat.pow_le_pow_right (by decide) (by omega)
        omega
      · exact g
  have hkl : (dgs W32 k).length ≤ 1 := dgs_len_of_lt w1 (by rw [Nat.pow_one]; show k < 4294967296; omega)
  have hS := ratSign_spec (X : Int) (Y : Int) bx 0
  rw [hSg] at hS
  have hXk : ((X ^ k : Nat) : Int) ≠ 0 := by have := Nat.pow_pos (n := k) hX; omega
  have hYk : ((Y ^ k : Nat) : Int) ≠ 0 := by have := Nat.pow_pos (n := k) hY; omega
  by_cases hn0 : n < 0
  · have eP : powN X Y n = Y ^ k := by unfold powN; rw [if_pos hn0, hk]
    have eQ : powN Y X n = X ^ k := by unfold powN; rw [if_pos hn0, hk]
    rw [eP, eQ]
    (refine SC_intro Tryz.func90 rfl (by kernel_rfl) (by rw [Tryz.ntmps90]; exact Nat.le_of_ble_eq_true rfl) ?_; simp only [Tryz.ntmps90, argE, Nat.reduceAdd])
    
    repeat' (first | (apply RW.q1; (first | (apply q_load; exact rfl; exact rfl; exact Rd.sub hn subl_nil) | (apply q_max2e; exact rfl; exact rfl; first | exact hk0 | exact hm0) | (apply q_mul; exact rfl; exact rfl; exact wmi) | exact qt)) | (apply RW.qg; exact gvx; refine hgx tst ?_; intro hg hg'; (first | (apply q_load; exact rfl; exact evgx; exact Rd.sub hn subl_nil) | (apply q_max2e; exact evgx; exact evgx; first | exact hk0 | exact hm0) | (apply q_mul; exact evgx; exact evgx; exact wmi) | exact qu)) | refine xsg cts ?_ | (apply CW_condT; exact rfl; exact ar) | (apply CW_condF; exact rfl; exact ar) | ((first | apply RW.s1 | apply RW.s0); exact gva) | (refine hK _ _ ?_; clear hK; refine xsg xsl ?_) | (apply RW.c1; (first | (apply nw_call (f := 77); exact rfl; exact go77; (intro G hG; exact (hS _ [] (hx.base (hG.sub subl_nil))).mono (fun v M h => h.1))))) | ((first | apply RW.a1 | apply RW.a0 | (apply RW.at; exact gva)); (first | (apply gw_call (f := 72); exact evx; exact go72; intro G hG; refine SC.mono (newInt_spec (k : Int) G (by omega)) ?_; rintro v M ⟨kb, ka, kc, rfl, rfl⟩; (try dsimp only [jL, jM])) | (apply gw_call (f := 91); exact evx; exact go91; intro G hG; refine SC.mono (num_spec (X : Int) (Y : Int) bx 0 G (hx.base (hG.sub subl_nil)) (by rw [wd_nat]; omega)) ?_; rintro v M ⟨e1, ea, ec, rfl, rfl⟩; (try dsimp only [jL, jM])) | (apply gw_call (f := 83); exact evx; exact go83; intro G hG; refine SC.mono (hD G (hx.base (hG.sub subl_nil))) ?_; rintro v M ⟨f1, fa, fc, rfl, rfl⟩; (try dsimp only [jL, jM])) | (apply gw_callE (f := 92); exact evx; exact go92; intro G hG; exact bitLenN_spec X e1 0 G [] (intW_own (by exact pkx) (by exact pkx) hG _) (by omega)) | (apply gw_callE (f := 92); exact evx; exact go92; intro G hG; exact bitLenN_spec Y f1 0 G [] (intW_own (by exact pkx) (by exact pkx) hG _) (by omega)) | (apply gw_callE (f := 93); exact evx; exact go93; intro G hG; exact int64_spec (k : Int) kb 0 G [] (intW_own (by exact pkx) (by exact pkx) hG _) (by omega)) | (apply gw_alloc (d := some 43); exact rfl; intro b1) | (apply gw_alloc (d := some 48); exact rfl; intro b2) | (apply gw_callc (f := 94) (M := [.box b1 _ _]); exact evx; exact go94; exact pcs; intro G hG; refine SC.mono (exp_spec b1 0 _ _ X k e1 0 kb 0 _ G (by decide) (intW_own (by exact pkx) (by exact pkx) hG _) (intW_own (by exact pkx) (by exact pkx) hG _) (by omega) (by omega) (by omega) (by omega)) ?_; rintro v M ⟨rfl, ga, gc, rfl⟩; (try dsimp only [jL, jM])) | (apply gw_callc (f := 94) (M := [.box b2 _ _]); exact evx; exact go94; exact pcs; intro G hG; refine SC.mono (exp_spec b2 0 _ _ Y k f1 0 kb 0 _ G (by decide) (intW_own (by exact pkx) (by exact pkx) hG _) (intW_own (by exact pkx) (by exact pkx) hG _) (by omega) (by omega) (by omega) (by omega)) ?_; rintro v M ⟨rfl, ha, hc', rfl⟩; (try dsimp only [jL, jM])) | (apply gw_callc (f := 81) (M := [.box bz _ _]); exact evx; exact go81; exact pcs; intro G hG; refine SC.mono (setFrac_spec bz _ _ _ _ _ ((Y ^ k : Nat) : Int) ((X ^ k : Nat) : Int) b2 0 b1 0 G (intW_own (by exact pkx) (by exact pkx) hG _) (intW_own (by exact pkx) (by exact pkx) hG _) (by rw [wd_nat]; omega) (by rw [wd_nat]; omega) hXk) ?_; rintro v M ⟨rfl, pa, pc, qa, qc, rfl⟩; (try dsimp only [jL, jM])) | (apply gw_asg; exact rfl) | (apply gw_alloc; exact rfl; intro b) | (fail))) | (apply RW.cg; exact gvx; refine hgx tst ?_; intro hg hg'; first | (apply nw_call (f := 77); exact evx; exact go77; (intro G hG; exact (hS _ [] (hx.base (hG.sub subl_nil))).mono (fun v M h => h.1)))) | (apply CW_region; intro K hK) | (apply CW_condX; exact rfl; exact tst; exact tst; all_goals (intro hq hc; try exact no)))
    all_goals (refine CW_ret ?_; refine xsg xsl ?_; refine bR [.tmp 5] [.box bz 90 (ratB (fn ((Y ^ k : Nat) : Int) ((X ^ k : Nat) : Int)) (fd ((Y ^ k : Nat) : Int) ((X ^ k : Nat) : Int)) pa pc qa qc), intR (fn ((Y ^ k : Nat) : Int) ((X ^ k : Nat) : Int)) pa pc, intR (fd ((Y ^ k : Nat) : Int) ((X ^ k : Nat) : Int)) qa qc] ?_)
    all_goals exact ⟨rfl, pa, pc, qa, qc, rfl⟩
  · have eP : powN X Y n = X ^ k := by unfold powN; rw [if_neg hn0, hk]
    have eQ : powN Y X n = Y ^ k := by unfold powN; rw [if_neg hn0, hk]
    rw [eP, eQ]
    (refine SC_intro Tryz.func90 rfl (by kernel_rfl) (by rw [Tryz.ntmps90]; exact Nat.le_of_ble_eq_true rfl) ?_; simp only [Tryz.ntmps90, argE, Nat.reduceAdd])
    
    repeat' (first | (apply RW.q1; (first | (apply q_load; exact rfl; exact rfl; exact Rd.sub hn subl_nil) | (apply q_max2e; exact rfl; exact rfl; first | exact hk0 | exact hm0) | (apply q_mul; exact rfl; exact rfl; exact wmi) | exact qt)) | (apply RW.qg; exact gvx; refine hgx tst ?_; intro hg hg'; (first | (apply q_load; exact rfl; exact evgx; exact Rd.sub hn subl_nil) | (apply q_max2e; exact evgx; exact evgx; first | exact hk0 | exact hm0) | (apply q_mul; exact evgx; exact evgx; exact wmi) | exact qu)) | refine xsg cts ?_ | (apply CW_condT; exact rfl; exact ar) | (apply CW_condF; exact rfl; exact ar) | ((first | apply RW.s1 | apply RW.s0); exact gva) | (refine hK _ _ ?_; clear hK; refine xsg xsl ?_) | (apply RW.c1; (first | (apply nw_call (f := 77); exact rfl; exact go77; (intro G hG; exact (hS _ [] (hx.base (hG.sub subl_nil))).mono (fun v M h => h.1))))) | ((first | apply RW.a1 | apply RW.a0 | (apply RW.at; exact gva)); (first | (apply gw_call (f := 72); exact evx; exact go72; intro G hG; refine SC.mono (newInt_spec (k : Int) G (by omega)) ?_; rintro v M ⟨kb, ka, kc, rfl, rfl⟩; (try dsimp only [jL, jM])) | (apply gw_call (f := 91); exact evx; exact go91; intro G hG; refine SC.mono (num_spec (X : Int) (Y : Int) bx 0 G (hx.base (hG.sub subl_nil)) (by rw [wd_nat]; omega)) ?_; rintro v M ⟨e1, ea, ec, rfl, rfl⟩; (try dsimp only [jL, jM])) | (apply gw_call (f := 83); exact evx; exact go83; intro G hG; refine SC.mono (hD G (hx.base (hG.sub subl_nil))) ?_; rintro v M ⟨f1, fa, fc, rfl, rfl⟩; (try dsimp only [jL, jM])) | (apply gw_callE (f := 92); exact evx; exact go92; intro G hG; exact bitLenN_spec X e1 0 G [] (intW_own (by exact pkx) (by exact pkx) hG _) (by omega)) | (apply gw_callE (f := 92); exact evx; exact go92; intro G hG; exact bitLenN_spec Y f1 0 G [] (intW_own (by exact pkx) (by exact pkx) hG _) (by omega)) | (apply gw_callE (f := 93); exact evx; exact go93; intro G hG; exact int64_spec (k : Int) kb 0 G [] (intW_own (by exact pkx) (by exact pkx) hG _) (by omega)) | (apply gw_alloc (d := some 43); exact rfl; intro b1) | (apply gw_alloc (d := some 48); exact rfl; intro b2) | (apply gw_callc (f := 94) (M := [.box b1 _ _]); exact evx; exact go94; exact pcs; intro G hG; refine SC.mono (exp_spec b1 0 _ _ X k e1 0 kb 0 _ G (by decide) (intW_own (by exact pkx) (by exact pkx) hG _) (intW_own (by exact pkx) (by exact pkx) hG _) (by omega) (by omega) (by omega) (by omega)) ?_; rintro v M ⟨rfl, ga, gc, rfl⟩; (try dsimp only [jL, jM])) | (apply gw_callc (f := 94) (M := [.box b2 _ _]); exact evx; exact go94; exact pcs; intro G hG; refine SC.mono (exp_spec b2 0 _ _ Y k f1 0 kb 0 _ G (by decide) (intW_own (by exact pkx) (by exact pkx) hG _) (intW_own (by exact pkx) (by exact pkx) hG _) (by omega) (by omega) (by omega) (by omega)) ?_; rintro v M ⟨rfl, ha, hc', rfl⟩; (try dsimp only [jL, jM])) | (apply gw_callc (f := 81) (M := [.box bz _ _]); exact evx; exact go81; exact pcs; intro G hG; refine SC.mono (setFrac_spec bz _ _ _ _ _ ((X ^ k : Nat) : Int) ((Y ^ k : Nat) : Int) b1 0 b2 0 G (intW_own (by exact pkx) (by exact pkx) hG _) (intW_own (by exact pkx) (by exact pkx) hG _) (by rw [wd_nat]; omega) (by rw [wd_nat]; omega) hYk) ?_; rintro v M ⟨rfl, pa, pc, qa, qc, rfl⟩; (try dsimp only [jL, jM])) | (apply gw_asg; exact rfl) | (apply gw_alloc; exact rfl; intro b) | (fail))) | (apply RW.cg; exact gvx; refine hgx tst ?_; intro hg hg'; first | (apply nw_call (f := 77); exact evx; exact go77; (intro G hG; exact (hS _ [] (hx.base (hG.sub subl_nil))).mono (fun v M h => h.1)))) | (apply CW_region; intro K hK) | (apply CW_condX; exact rfl; exact tst; exact tst; all_goals (intro hq hc; try exact no)))
    all_goals (refine CW_ret ?_; refine xsg xsl ?_; refine bR [.tmp 5] [.box bz 90 (ratB (fn ((X ^ k : Nat) : Int) ((Y ^ k : Nat) : Int)) (fd ((X ^ k : Nat) : Int) ((Y ^ k : Nat) : Int)) pa pc qa qc), intR (fn ((X ^ k : Nat) : Int) ((Y ^ k : Nat) : Int)) pa pc, intR (fd ((X ^ k : Nat) : Int) ((Y ^ k : Nat) : Int)) qa qc] ?_)
    all_goals exact ⟨rfl, pa, pc, qa, qc, rfl⟩
theorem pow_ok (n d : List UInt8) (X Y : Nat) (e : Int) (h : readQ n d = some ((X : Int), Y)) (hX : 0 < X) (hn1 : e.natAbs ≤ 4096) (hb : (max (bl X) (bl Y) - 1) * e.natAbs ≤ 2400) (H : Hp) :
    SC Tryz.prog 64 [ratV n d, .int .i64 e] H [] (fun v M => v = toldV (fn (powN X Y e : Int) (powN Y X e : Int)) (fd (powN X Y e : Int) (powN Y X e : Int)) ∧ M = []) := by
  obtain ⟨k1, k2, k3⟩ := readQ_pos h
  rw [wd_nat] at k2 k3
  have hlen : ∀ A B : Nat, (A = X ∧ B = Y) ∨ (A = Y ∧ B = X) → (dgs W32 (powN A B e)).length ≤ 1000000 := by
    intro A B hAB
    obtain ⟨k, hk⟩ : ∃ k, k = e.natAbs := ⟨_, rfl⟩
    obtain ⟨mx, hmx⟩ : ∃ mx, mx = max (bl X) (bl Y) := ⟨_, rfl⟩
    have hmm : mx * k ≤ 6496 := by
      rcases Nat.eq_zero_or_pos mx with h0 | h0
      · rw [h0]; omega
      · have : mx * k = (mx - 1) * k + k := by
          obtain ⟨j, rfl⟩ : ∃ j, mx = j + 1 := ⟨mx - 1, by omega⟩
          rw [Nat.add_mul, Nat.one_mul, Nat.add_sub_cancel]
        rw [← hmx, ← hk] at hb
        omega
    have lX := pow_len (X := X) (k := k) (m := mx) (B := 6496) (by omega) hmm
    have lY := pow_len (X := Y) (k := k) (m := mx) (B := 6496) (by omega) hmm
    unfold powN
    rw [← hk]
    rcases hAB with ⟨rfl, rfl⟩ | ⟨rfl, rfl⟩
    · split <;> omega
    · split <;> omega
  have l1 := hlen X Y (.inl ⟨rfl, rfl⟩)
  have l2 := hlen Y X (.inr ⟨rfl, rfl⟩)
  have l3 := fn_len (powN X Y e : Int) (powN Y X e : Int)
  have l4 := fd_len (powN X Y e : Int) (powN Y X e : Int)
  have e1 := wd_nat (powN X Y e)
  have e2 := wd_nat (powN Y X e)
  rw [e1] at l3
  rw [e2] at l4
  have hT := fun (b3 : Nat) (G : Hp) (hf : Rd G [] (some ⟨b3, 0, none⟩) 1 [.int .i64 e]) => one_ok n d (X : Int) Y h 90 #[.pointer (some ⟨b3, 0, none⟩)] go90 (.ok (fn (powN X Y e : Int) (powN Y X e : Int), fd (powN X Y e : Int) (powN Y X e : Int))) ⟨by omega, by omega⟩ G
    (fun G' hx bz bx u => pow1_spec X Y e bz bx b3 G' (hf.up hx) u hX k1 hn1 hb k2 k3)
  have e3 : twoV (.ok (fn (powN X Y e : Int) (powN Y X e : Int), fd (powN X Y e : Int) (powN Y X e : Int))) = toldV (fn (powN X Y e : Int) (powN Y X e : Int)) (fd (powN X Y e : Int) (powN Y X e : Int)) := rfl
  rw [e3] at hT
  obtain ⟨tx, ty, te, hsh⟩ := told_shape (fn (powN X Y e : Int) (powN Y X e : Int)) (fd (powN X Y e : Int) (powN Y X e : Int))
  rw [hsh] at hT ⊢
  (refine SC_intro Tryz.func64 rfl (by kernel_rfl) (by rw [Tryz.ntmps64]; exact Nat.le_of_ble_eq_true rfl) ?_; simp only [Tryz.ntmps64, argE, Nat.reduceAdd])
  repeat' (first | (apply RW.q1; exact qt) | refine xsg cts ?_ | (apply CW_condT; exact rfl; exact ar) | (apply CW_condF; exact rfl; exact ar) | (refine hK _ _ ?_; clear hK; refine xsg xsl ?_) | ((first | apply RW.a1 | apply RW.a0); (first | (apply gw_callE (f := 89); exact rfl; exact go89; intro G hG; exact hT _ G (rd_one (by exact pkx) hG)) | (apply gw_asg; exact rfl) | (apply gw_alloc; exact rfl; intro b) | (apply gw_box; exact rfl; exact rfl; intro b) | (refine gw_stx sto ?_) | (fail))) | (apply CW_region; intro K hK) | (apply CW_condX; exact rfl; exact tst; exact tst; all_goals (intro hq hc; try exact no)))
  all_goals (refine CW_ret ?_; refine xsg xsl ?_; refine bodyS_ret (L' := []) (rs := [.cell 4 26, .tmp 5]) (by kernel_rfl) (by (repeat (first | (apply resok_tmp; exact rfl) | (apply resok_cell; exact rfl; exact rfl; (focus ((iterate 16 (try (first | exact pick0 | apply pickS))); done)); (first | exact rfl | assumption | (simp only [List.length_map]; omega)); decide))); exact resok_nil) (by exact sbl) ?_)
  all_goals exact ⟨rfl, rfl⟩
end Go.Proofs.YtnhbipachchlgaaGreat.HL
namespace Go.Proofs.YtnhbipachchlgaaGreat.HL
open Go
attribute [local irreducible] goFn thenS blockS bodyS CW RW DW GW QW NW SC Pick Picks SubL Rd NN ResOk SrcW subE hops hseg AW hgen HC qv bldv
set_option linter.unusedVariables false
set_option linter.unusedSimpArgs false

theorem rightB_of_dec {n : Nat} (h : (Lib.decDigits n).length ≤ 600) : rightB (Lib.decDigits n) = true := by
  obtain ⟨c, t, h1, h2⟩ := dec_head n
  unfold rightB
  rw [decide_eq_true (dec_pos_len n), decide_eq_true h]
  have h3 : (decide ((Lib.decDigits n)[0]? = some 48) && decide (1 < (Lib.decDigits n).length)) = false := by
    rw [jG, jB, jB]
    by_cases e : c = 48
    · right
      rw [h1, (h2 e).2]; simp
    · left
      rw [h1]
      intro e2
      exact e (Option.some.inj e2)
  rw [h3]
  simp only [Bool.and_true, Bool.not_false, Bool.true_and, List.all_eq_true]
  intro d hd
  have := dec_isDg n d hd
  unfold dgB
  simp [this]
theorem readQ_dec {X Y : Nat} (hX : (Lib.decDigits X).length ≤ 600) (hY : (Lib.decDigits Y).length ≤ 600) (h0 : 0 < Y) (hg : X.gcd Y = 1) : readQ (Lib.decDigits X) (Lib.decDigits Y) = some ((X : Int), Y) := by
  have h1 : wholeZ (Lib.decDigits X) = some (X : Int) := by
    unfold wholeZ
    rw [if_pos (rightB_of_dec hX), dec_dv]
  unfold readQ
  rw [h1]
  simp only
  rw [dec_dv, if_pos ⟨rightB_of_dec hY, by omega, by rw [Int.natAbs_natCast]; exact hg⟩]
theorem decB_nat (n : Nat) : decB (n : Int) = Lib.decDigits n := by
  unfold decB
  rw [if_neg (by omega), Int.natAbs_natCast]
theorem told_dec {X Y : Nat} (hX : (Lib.decDigits X).length ≤ 600) (hY : (Lib.decDigits Y).length ≤ 600) (h0 : 0 < Y) (hg : X.gcd Y = 1) : toldV (fn (X : Int) (Y : Int)) (fd (X : Int) (Y : Int)) = .tuple #[ratV (Lib.decDigits X) (Lib.decDigits Y), .int .i64 0] := by
  have h := fn_low (x := (X : Int)) (y := (Y : Int)) (by omega) (by rw [Int.natAbs_natCast, Int.natAbs_natCast]; exact hg)
  rw [h.1, h.2]
  unfold toldV
  rw [den_pos h0, decB_nat, decB_nat, Int.natAbs_natCast, if_pos ⟨hX, hY⟩]
theorem one_dec : (Lib.decDigits 1).length ≤ 600 := by rw [dec_small (by decide)]; simp
theorem whole_txt {s : List UInt8} {z : Int} (h : wholeZ s = some z) : s = decB z ∧ (Lib.decDigits z.natAbs).length ≤ 600 := by
  unfold wholeZ at h
  split at h
  · rename_i hr
    cases h
    rw [decB_nat, Int.natAbs_natCast, rightB_dec hr]
    exact ⟨rfl, (rightB_ok hr).2.2.2⟩
  · split at h
    · rename_i hh
      cases h
      obtain ⟨h1, h2, h3⟩ := hh
      have hd := rightB_dec h2
      rw [Int.natAbs_neg, Int.natAbs_natCast, hd]
      refine ⟨?_, (rightB_ok h2).2.2.2⟩
      unfold decB
      rw [if_pos (by omega), Int.natAbs_neg, Int.natAbs_natCast, hd]
      have : s = s.take 1 ++ s.drop 1 := (List.take_append_drop 1 s).symm
      rw [h1] at this
      exact this
    · cases h
theorem readQ_txt {n d : List UInt8} {a : Int} {q : Nat} (h : readQ n d = some (a, q)) : n = decB a ∧ d = Lib.decDigits q ∧ 0 < q ∧ a.natAbs.gcd q = 1 ∧ (Lib.decDigits a.natAbs).length ≤ 600 ∧ (Lib.decDigits q).length ≤ 600 := by
  unfold readQ at h
  cases hw : wholeZ n with
  | none => rw [hw] at h; cases h
  | some a' =>
    rw [hw] at h
    simp only at h
    split at h
    · rename_i hh
      cases h
      obtain ⟨k1, k2⟩ := whole_txt hw
      rw [rightB_dec hh.1]
      exact ⟨k1, rfl, by omega, hh.2.2, k2, (rightB_ok hh.1).2.2.2⟩
    · cases h
theorem readQ_int {p : Int} {q : Nat} (h1 : (Lib.decDigits p.natAbs).length ≤ 600) (h2 : (Lib.decDigits q).length ≤ 600) (h0 : 0 < q) (hg : p.natAbs.gcd q = 1) : readQ (decB p) (Lib.decDigits q) = some (p, q) := by
  have hw : wholeZ (decB p) = some p := by
    unfold wholeZ decB
    by_cases hp : p < 0
    · rw [if_pos hp, if_neg]
      · have hd : (45 :: Lib.decDigits p.natAbs).drop 1 = Lib.decDigits p.natAbs := rfl
        rw [hd, dec_dv, if_pos ⟨rfl, rightB_of_dec h1, by omega⟩]
        congr 1; omega
      · intro h
        exact right_take h rfl
    · rw [if_neg hp, if_pos (rightB_of_dec h1), dec_dv]
      congr 1; omega
  unfold readQ
  rw [hw]
  simp only
  rw [dec_dv, if_pos ⟨rightB_of_dec h2, by omega, hg⟩]
theorem fn_props {X Y : Int} (hY : 0 < Y) : ∃ q : Nat, fd X Y = (q : Int) ∧ 0 < q ∧ (fn X Y).natAbs.gcd q = 1 ∧ fn X Y * Y = X * q := by
  have hYn : 0 < Y.natAbs := by omega
  have hg0 : 0 < X.natAbs.gcd Y.natAbs := Nat.gcd_pos_of_pos_right _ hYn
  obtain ⟨x', hx'⟩ := Nat.gcd_dvd_left X.natAbs Y.natAbs
  obtain ⟨y', hy'⟩ := Nat.gcd_dvd_right X.natAbs Y.natAbs
  have ex : X.natAbs / X.natAbs.gcd Y.natAbs = x' := Nat.div_eq_of_eq_mul_right hg0 hx'
  have ey : Y.natAbs / X.natAbs.gcd Y.natAbs = y' := Nat.div_eq_of_eq_mul_right hg0 hy'
  refine ⟨y', ?_, ?_, ?_, ?_⟩
  · unfold fd; rw [ey]
  · rcases Nat.eq_zero_or_pos y' with h | h
    · rw [h, Nat.mul_zero] at hy'; omega
    · exact h
  · unfold fn
    rw [sg_abs, ex]
    have h1 : X.natAbs.gcd Y.natAbs * x'.gcd y' = X.natAbs.gcd Y.natAbs * 1 := by
      rw [← Nat.gcd_mul_left, ← hx', ← hy', Nat.mul_one]
    exact Nat.eq_of_mul_eq_mul_left hg0 h1
  · unfold fn
    rw [ex, decide_eq_false (p := Y < 0) (by omega)]
    have e1 : (Y : Int) = ((X.natAbs.gcd Y.natAbs : Nat) : Int) * y' := by rw [← Int.natCast_mul, ← hy']; omega
    have e2 : (X.natAbs : Int) = ((X.natAbs.gcd Y.natAbs : Nat) : Int) * x' := by rw [← Int.natCast_mul, ← hx']
    unfold sg
    by_cases hn : X < 0
    · rw [decide_eq_true hn]
      have e3 : X = -(X.natAbs : Int) := by omega
      simp only [Bool.bne_false, if_true]
      generalize X.natAbs.gcd Y.natAbs = g at e1 e2
      rw [e1, e3, e2, Int.neg_mul, Int.neg_mul, Int.mul_comm (g : Int) x', Int.mul_assoc]
    · rw [decide_eq_false hn]
      have e3 : X = (X.natAbs : Int) := by omega
      simp only [bne_self_eq_false]
      rw [if_neg (by decide)]
      generalize X.natAbs.gcd Y.natAbs = g at e1 e2
      rw [e1, e3, e2, Int.mul_comm (g : Int) x', Int.mul_assoc]
end Go.Proofs.YtnhbipachchlgaaGreat.HL
