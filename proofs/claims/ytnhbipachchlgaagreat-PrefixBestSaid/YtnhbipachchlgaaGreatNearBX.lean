/- NearB: RefN: the document's near. Condition: at most 600 digits each. (Printed by near4.py.). -/
import Derived.Test.YtnhbipachchlgaaGreatEngX
import Derived.Test.YtnhbipachchlgaaGreatNearAX
namespace Go.Proofs.YtnhbipachchlgaaGreat.HL
open Go
attribute [local irreducible] goFn thenS blockS bodyS CW RW DW GW QW NW SC Pick Picks SubL Rd NN ResOk SrcW subE hops hseg AW hgen HC qv bldv
set_option maxHeartbeats 8000000
set_option maxRecDepth 100000
set_option linter.unusedVariables false
set_option linter.unusedSimpArgs false

theorem cmp3_gt {x y : Nat} (h : y < x) : cmpN3 x y = 1 := by unfold cmpN3; rw [if_neg (by omega), if_pos h]
theorem cmp3_eq {x y : Nat} (h : x = y) : cmpN3 x y = 0 := by unfold cmpN3; rw [if_neg (by omega), if_neg (by omega)]
theorem cmp3_lt {x y : Nat} (h : x < y) : cmpN3 x y = -1 := by unfold cmpN3; rw [if_pos h]
theorem dec_dbl {x k : Nat} (h : (Lib.decDigits x).length ≤ k + 1) : (Lib.decDigits (x + x)).length ≤ k + 2 := by
  refine (dec_len_lt _ (k + 1)).1 ?_
  have := (dec_len_lt x k).2 h
  rw [Nat.pow_succ 10 (k + 1)]
  omega
theorem rnd_up {a b : Nat} (h : b < 2 * (a % b) ∨ (2 * (a % b) = b ∧ a / b % 2 = 1)) : rnd a b = a / b + 1 := if_pos h
theorem rnd_dn {a b : Nat} (h : ¬ (b < 2 * (a % b) ∨ (2 * (a % b) = b ∧ a / b % 2 = 1))) : rnd a b = a / b := if_neg h
theorem wsh64 {E : Int} (h1 : 0 ≤ E) (h2 : E ≤ 2047) : IntKind.u64.wrap (E * 2 ^ (min ((52 : Int).toNat) IntKind.u64.bits)) = ((E.toNat * 4503599627370496 : Nat) : Int) := by
  have e1 : (2 : Int) ^ (min ((52 : Int).toNat) IntKind.u64.bits) = 4503599627370496 := by decide
  rw [e1, show E * 4503599627370496 = ((E.toNat * 4503599627370496 : Nat) : Int) by omega]
  exact w_in (by simp only [inb]; omega)
theorem near_u1lo (neg : Bool) (A B a b m : Nat) (e : Int) (H : Hp) (hA : (Lib.decDigits A).length ≤ 600) (hB : (Lib.decDigits B).length ≤ 600) (h0 : 0 < A) (hB0 : 0 < B) (he : -1074 ≤ e) (he2 : ¬ 971 < e) (hsz : ∀ H : Hp, SC Tryz.prog 136 [numV neg A B] H [] (fun v M => v = .int .i64 e ∧ M = []))
    (ha : a = (scl A B e).1) (hb : b = (scl A B e).2) (hb0 : 0 < b) (hq53 : a / b < 9007199254740992) (hm : m = rnd a b) (hr : b < 2 * (a % b)) (ht : m < 4503599627370496) : SC Tryz.prog 114 [numV neg A B] H [] (fun v M => v = tailV neg e m ∧ M = []) := by
  obtain ⟨l1, l2⟩ := scl_len A B e (by omega) (by omega) (by omega)
  have hS := fun G => scaled_spec neg A B e G (by omega) (by omega) (by omega)
  rw [← ha, ← hb] at hS
  rw [← ha] at l1
  rw [← hb] at l2
  have hD := fun G => rDivide_spec a b G hb0 (by omega) (by omega)
  have hN := fun G => number_spec (a / b) G (by omega)
  have lr := dec_len_mono (Nat.le_of_lt (Nat.mod_lt a hb0))
  have hP := fun G => rPlus_spec (a % b) (a % b) G (by omega) (by omega)
  have lp : (Lib.decDigits (a % b + a % b)).length ≤ 200001 := by
    exact dec_dbl (k := 199999) (by omega)
  have hC := fun G => rCompare_spec (a % b + a % b) b G (by omega) (by omega)
  have hk : cmpN3 (a % b + a % b) b = (1 : Int) := cmp3_gt (by omega)
  rw [hk] at hC
  have hrn : rnd a b = a / b + 1 := rnd_up (.inl hr)
  rw [hrn] at hm
  have hA0 := dec_nz h0
  generalize hq : a / b = q at *
  have wup : IntKind.u64.wrap ((q : Int) + 1) = (m : Int) := by rw [show ((q : Int) + 1) = (m : Int) by omega]; exact w_in (by simp only [inb]; omega)
  have woF := or64 (x := 0) (y := m) (by decide) (by omega)
  have woT := or64 (x := 9223372036854775808) (y := m) (by decide) (by omega)
  have hlt1 : cmpI .lss (m : Int) 4503599627370496 = some true := by show some (decide _) = some _; rw [decide_eq_true (by omega)]
  (refine SC_intro Tryz.func114 rfl (by kernel_rfl) (by rw [Tryz.ntmps114]; exact Nat.le_of_ble_eq_true rfl) ?_; simp only [Tryz.ntmps114, argE, Nat.reduceAdd])
  
  repeat' (first | (apply RW.q1; (first | (apply q_sbeqF (b := [48]); exact rfl; exact rfl; exact hA0) | (apply q_add; exact rfl; exact rfl; exact wup) | (apply q_bit; exact rfl; exact rfl; exact woF) | (apply q_bit; exact rfl; exact rfl; exact woT) | (apply q_cmp (op := .lss) (a := (m : Int)) (b := 4503599627370496); exact rfl; exact rfl; exact hlt1) | exact qt)) | (apply RW.qg; exact gvx; refine hgx tst ?_; intro hg hg'; (first | (apply q_sbeqF (b := [48]); exact evgx; exact rfl; exact hA0) | (apply q_add; exact evgx; exact evgx; exact wup) | (apply q_bit; exact evgx; exact evgx; exact woF) | (apply q_bit; exact evgx; exact evgx; exact woT) | (apply q_cmp (op := .lss) (a := (m : Int)) (b := 4503599627370496); exact evgx; exact evgx; exact hlt1) | exact qu)) | refine xsg cts ?_ | (apply CW_condT; exact rfl; exact ar) | (apply CW_condF; exact rfl; exact ar) | ((first | apply RW.s1 | apply RW.s0); exact gva) | (refine hK _ _ ?_; clear hK; refine xsg xsl ?_) | ((first | apply RW.a1 | apply RW.a0 | (apply RW.at; exact gva)); (first | (apply gw_callE (f := 136); exact evx; exact go136; intro G hG; exact hsz G) | (apply gw_callE (f := 137); exact evx; exact go137; intro G hG; exact hS G) | (apply gw_callE (f := 88); exact evx; exact go88; intro G hG; exact hD G) | (apply gw_callE (f := 138); exact evx; exact go138; intro G hG; exact hN G) | (apply gw_callE (f := 139); exact evx; exact go139; intro G hG; exact hP G) | (apply gw_callE (f := 85); exact evx; exact go85; intro G hG; exact hC G) | (apply gw_asg; exact rfl) | (apply gw_box; exact rfl; exact rfl; intro b) | (fail))) | (apply CW_region; intro K hK) | (apply CW_condX; exact rfl; exact tst; exact tst; all_goals (intro hq hc; try exact no)))
  all_goals (cases neg; all_goals try contradiction)
  all_goals (refine CW_ret ?_; refine xsg xsl ?_; refine bR [.tmp 2, .tmp 3] [] ?_)
  all_goals first | exact ⟨tail3 (neg := true) (by omega) he2 ht, rfl⟩ | exact ⟨tail3 (neg := false) (by omega) he2 ht, rfl⟩
theorem near_u1hi (neg : Bool) (A B a b m : Nat) (e : Int) (H : Hp) (hA : (Lib.decDigits A).length ≤ 600) (hB : (Lib.decDigits B).length ≤ 600) (h0 : 0 < A) (hB0 : 0 < B) (he : -1074 ≤ e) (he2 : ¬ 971 < e) (hsz : ∀ H : Hp, SC Tryz.prog 136 [numV neg A B] H [] (fun v M => v = .int .i64 e ∧ M = []))
    (ha : a = (scl A B e).1) (hb : b = (scl A B e).2) (hb0 : 0 < b) (hq53 : a / b < 9007199254740992) (hm : m = rnd a b) (hr : b < 2 * (a % b)) (ht : ¬ m < 4503599627370496) : SC Tryz.prog 114 [numV neg A B] H [] (fun v M => v = tailV neg e m ∧ M = []) := by
  obtain ⟨l1, l2⟩ := scl_len A B e (by omega) (by omega) (by omega)
  have hS := fun G => scaled_spec neg A B e G (by omega) (by omega) (by omega)
  rw [← ha, ← hb] at hS
  rw [← ha] at l1
  rw [← hb] at l2
  have hD := fun G => rDivide_spec a b G hb0 (by omega) (by omega)
  have hN := fun G => number_spec (a / b) G (by omega)
  have lr := dec_len_mono (Nat.le_of_lt (Nat.mod_lt a hb0))
  have hP := fun G => rPlus_spec (a % b) (a % b) G (by omega) (by omega)
  have lp : (Lib.decDigits (a % b + a % b)).length ≤ 200001 := by
    exact dec_dbl (k := 199999) (by omega)
  have hC := fun G => rCompare_spec (a % b + a % b) b G (by omega) (by omega)
  have hk : cmpN3 (a % b + a % b) b = (1 : Int) := cmp3_gt (by omega)
  rw [hk] at hC
  have hrn : rnd a b = a / b + 1 := rnd_up (.inl hr)
  rw [hrn] at hm
  have hA0 := dec_nz h0
  generalize hq : a / b = q at *
  have wup : IntKind.u64.wrap ((q : Int) + 1) = (m : Int) := by rw [show ((q : Int) + 1) = (m : Int) by omega]; exact w_in (by simp only [inb]; omega)
  have wsb : IntKind.u64.wrap ((m : Int) - 4503599627370496) = ((m - 4503599627370496 : Nat) : Int) := by rw [show ((m : Int) - 4503599627370496) = ((m - 4503599627370496 : Nat) : Int) by omega]; exact w_in (by simp only [inb]; omega)
  obtain ⟨sa, hsa⟩ : ∃ s, s = (e + 1075).toNat * 4503599627370496 := ⟨_, rfl⟩
  have wsl := wsh64 (E := e + 1075) (by omega) (by omega)
  rw [← hsa] at wsl
  have wsz : IntKind.u64.wrap (4503599627370496 - 4503599627370496) = ((0 : Nat) : Int) := by decide
  obtain ⟨sb, hsb⟩ : ∃ s, s = (e + 1 + 1075).toNat * 4503599627370496 := ⟨_, rfl⟩
  have wsm := wsh64 (E := e + 1 + 1075) (by omega) (by omega)
  rw [← hsb] at wsm
  obtain ⟨oFa, hoFa⟩ : ∃ o, o = 0 ||| sa := ⟨_, rfl⟩
  obtain ⟨pFa, hpFa⟩ : ∃ o, o = oFa ||| (m - 4503599627370496) := ⟨_, rfl⟩
  have woFa : bitI .or .u64 (0 : Int) (sa : Int) = some (oFa : Int) := by rw [hoFa]; exact or64 (by decide) (by omega)
  have wpFa : bitI .or .u64 (oFa : Int) ((m - 4503599627370496 : Nat) : Int) = some (pFa : Int) := by rw [hpFa]; exact or64 (by rw [hoFa]; exact Nat.or_lt_two_pow (n := 64) (by decide) (by omega)) (by omega)
  obtain ⟨oFb, hoFb⟩ : ∃ o, o = 0 ||| sb := ⟨_, rfl⟩
  obtain ⟨pFb, hpFb⟩ : ∃ o, o = oFb ||| (0) := ⟨_, rfl⟩
  have woFb : bitI .or .u64 (0 : Int) (sb : Int) = some (oFb : Int) := by rw [hoFb]; exact or64 (by decide) (by omega)
  have wpFb : bitI .or .u64 (oFb : Int) ((0 : Nat) : Int) = some (pFb : Int) := by rw [hpFb]; exact or64 (by rw [hoFb]; exact Nat.or_lt_two_pow (n := 64) (by decide) (by omega)) (by omega)
  obtain ⟨oTa, hoTa⟩ : ∃ o, o = 9223372036854775808 ||| sa := ⟨_, rfl⟩
  obtain ⟨pTa, hpTa⟩ : ∃ o, o = oTa ||| (m - 4503599627370496) := ⟨_, rfl⟩
  have woTa : bitI .or .u64 (9223372036854775808 : Int) (sa : Int) = some (oTa : Int) := by rw [hoTa]; exact or64 (by decide) (by omega)
  have wpTa : bitI .or .u64 (oTa : Int) ((m - 4503599627370496 : Nat) : Int) = some (pTa : Int) := by rw [hpTa]; exact or64 (by rw [hoTa]; exact Nat.or_lt_two_pow (n := 64) (by decide) (by omega)) (by omega)
  obtain ⟨oTb, hoTb⟩ : ∃ o, o = 9223372036854775808 ||| sb := ⟨_, rfl⟩
  obtain ⟨pTb, hpTb⟩ : ∃ o, o = oTb ||| (0) := ⟨_, rfl⟩
  have woTb : bitI .or .u64 (9223372036854775808 : Int) (sb : Int) = some (oTb : Int) := by rw [hoTb]; exact or64 (by decide) (by omega)
  have wpTb : bitI .or .u64 (oTb : Int) ((0 : Nat) : Int) = some (pTb : Int) := by rw [hpTb]; exact or64 (by rw [hoTb]; exact Nat.or_lt_two_pow (n := 64) (by decide) (by omega)) (by omega)
  have faF : m ≠ 9007199254740992 → resOne [Value.int .u64 (pFa : Int), .bool true] = tailV false e m := by intro h; rw [hpFa, hoFa, hsa]; exact tail4 (neg := false) h he2 ht
  have fbF : m = 9007199254740992 → ¬ 971 < e + 1 → resOne [Value.int .u64 (pFb : Int), .bool true] = tailV false e m := by intro h h2; rw [hpFb, hoFb, hsb]; exact tail2 (neg := false) h h2
  have faT : m ≠ 9007199254740992 → resOne [Value.int .u64 (pTa : Int), .bool true] = tailV true e m := by intro h; rw [hpTa, hoTa, hsa]; exact tail4 (neg := true) h he2 ht
  have fbT : m = 9007199254740992 → ¬ 971 < e + 1 → resOne [Value.int .u64 (pTb : Int), .bool true] = tailV true e m := by intro h h2; rw [hpTb, hoTb, hsb]; exact tail2 (neg := true) h h2
  have hlt1 : cmpI .lss (m : Int) 4503599627370496 = some false := by show some (decide _) = some _; rw [decide_eq_false (by omega)]
  (refine SC_intro Tryz.func114 rfl (by kernel_rfl) (by rw [Tryz.ntmps114]; exact Nat.le_of_ble_eq_true rfl) ?_; simp only [Tryz.ntmps114, argE, Nat.reduceAdd])
  
  repeat' (first | (apply RW.q1; (first | (apply q_sbeqF (b := [48]); exact rfl; exact rfl; exact hA0) | (apply q_add; exact rfl; exact rfl; exact wup) | (apply q_sub (a := (m : Int)); exact rfl; exact rfl; exact wsb) | (apply q_shl; exact rfl; exact rfl; decide; exact wsl) | (apply q_sub (a := 4503599627370496); exact rfl; exact rfl; exact wsz) | (apply q_shl; exact rfl; exact rfl; decide; exact wsm) | (apply q_bit; exact rfl; exact rfl; exact woFa) | (apply q_bit; exact rfl; exact rfl; exact wpFa) | (apply q_bit; exact rfl; exact rfl; exact woFb) | (apply q_bit; exact rfl; exact rfl; exact wpFb) | (apply q_bit; exact rfl; exact rfl; exact woTa) | (apply q_bit; exact rfl; exact rfl; exact wpTa) | (apply q_bit; exact rfl; exact rfl; exact woTb) | (apply q_bit; exact rfl; exact rfl; exact wpTb) | (apply q_cmp (op := .lss) (a := (m : Int)) (b := 4503599627370496); exact rfl; exact rfl; exact hlt1) | exact qt)) | (apply RW.qg; exact gvx; refine hgx tst ?_; intro hg hg'; (first | (apply q_sbeqF (b := [48]); exact evgx; exact rfl; exact hA0) | (apply q_add; exact evgx; exact evgx; exact wup) | (apply q_sub (a := (m : Int)); exact evgx; exact evgx; exact wsb) | (apply q_shl; exact evgx; exact evgx; decide; exact wsl) | (apply q_sub (a := 4503599627370496); exact evgx; exact evgx; exact wsz) | (apply q_shl; exact evgx; exact evgx; decide; exact wsm) | (apply q_bit; exact evgx; exact evgx; exact woFa) | (apply q_bit; exact evgx; exact evgx; exact wpFa) | (apply q_bit; exact evgx; exact evgx; exact woFb) | (apply q_bit; exact evgx; exact evgx; exact wpFb) | (apply q_bit; exact evgx; exact evgx; exact woTa) | (apply q_bit; exact evgx; exact evgx; exact wpTa) | (apply q_bit; exact evgx; exact evgx; exact woTb) | (apply q_bit; exact evgx; exact evgx; exact wpTb) | (apply q_cmp (op := .lss) (a := (m : Int)) (b := 4503599627370496); exact evgx; exact evgx; exact hlt1) | exact qu)) | refine xsg cts ?_ | (apply CW_condT; exact rfl; exact ar) | (apply CW_condF; exact rfl; exact ar) | ((first | apply RW.s1 | apply RW.s0); exact gva) | (refine hK _ _ ?_; clear hK; refine xsg xsl ?_) | ((first | apply RW.a1 | apply RW.a0 | (apply RW.at; exact gva)); (first | (apply gw_callE (f := 136); exact evx; exact go136; intro G hG; exact hsz G) | (apply gw_callE (f := 137); exact evx; exact go137; intro G hG; exact hS G) | (apply gw_callE (f := 88); exact evx; exact go88; intro G hG; exact hD G) | (apply gw_callE (f := 138); exact evx; exact go138; intro G hG; exact hN G) | (apply gw_callE (f := 139); exact evx; exact go139; intro G hG; exact hP G) | (apply gw_callE (f := 85); exact evx; exact go85; intro G hG; exact hC G) | (apply gw_asg; exact rfl) | (apply gw_box; exact rfl; exact rfl; intro b) | (fail))) | (apply CW_region; intro K hK) | (apply CW_condX; exact rfl; exact tst; exact tst; all_goals (intro hq hc; try exact no)))
  all_goals (cases neg; all_goals try contradiction)
  all_goals (refine CW_ret ?_; refine xsg xsl ?_; refine bR [.tmp 2, .tmp 3] [] ?_)
  all_goals first | exact ⟨tail1 (by omega) (by omega), rfl⟩ | exact ⟨fbT (by omega) (by omega), rfl⟩ | exact ⟨fbF (by omega) (by omega), rfl⟩ | exact ⟨faT (by omega), rfl⟩ | exact ⟨faF (by omega), rfl⟩
theorem near_u2lo (neg : Bool) (A B a b m : Nat) (e : Int) (H : Hp) (hA : (Lib.decDigits A).length ≤ 600) (hB : (Lib.decDigits B).length ≤ 600) (h0 : 0 < A) (hB0 : 0 < B) (he : -1074 ≤ e) (he2 : ¬ 971 < e) (hsz : ∀ H : Hp, SC Tryz.prog 136 [numV neg A B] H [] (fun v M => v = .int .i64 e ∧ M = []))
    (ha : a = (scl A B e).1) (hb : b = (scl A B e).2) (hb0 : 0 < b) (hq53 : a / b < 9007199254740992) (hm : m = rnd a b) (hr : 2 * (a % b) = b ∧ a / b % 2 = 1) (ht : m < 4503599627370496) : SC Tryz.prog 114 [numV neg A B] H [] (fun v M => v = tailV neg e m ∧ M = []) := by
  obtain ⟨l1, l2⟩ := scl_len A B e (by omega) (by omega) (by omega)
  have hS := fun G => scaled_spec neg A B e G (by omega) (by omega) (by omega)
  rw [← ha, ← hb] at hS
  rw [← ha] at l1
  rw [← hb] at l2
  have hD := fun G => rDivide_spec a b G hb0 (by omega) (by omega)
  have hN := fun G => number_spec (a / b) G (by omega)
  have lr := dec_len_mono (Nat.le_of_lt (Nat.mod_lt a hb0))
  have hP := fun G => rPlus_spec (a % b) (a % b) G (by omega) (by omega)
  have lp : (Lib.decDigits (a % b + a % b)).length ≤ 200001 := by
    exact dec_dbl (k := 199999) (by omega)
  have hC := fun G => rCompare_spec (a % b + a % b) b G (by omega) (by omega)
  have hk : cmpN3 (a % b + a % b) b = (0 : Int) := cmp3_eq (by omega)
  rw [hk] at hC
  have hrn : rnd a b = a / b + 1 := rnd_up (.inr hr)
  rw [hrn] at hm
  have hA0 := dec_nz h0
  generalize hq : a / b = q at *
  have wup : IntKind.u64.wrap ((q : Int) + 1) = (m : Int) := by rw [show ((q : Int) + 1) = (m : Int) by omega]; exact w_in (by simp only [inb]; omega)
  have woF := or64 (x := 0) (y := m) (by decide) (by omega)
  have woT := or64 (x := 9223372036854775808) (y := m) (by decide) (by omega)
  have hlt1 : cmpI .lss (m : Int) 4503599627370496 = some true := by show some (decide _) = some _; rw [decide_eq_true (by omega)]
  (refine SC_intro Tryz.func114 rfl (by kernel_rfl) (by rw [Tryz.ntmps114]; exact Nat.le_of_ble_eq_true rfl) ?_; simp only [Tryz.ntmps114, argE, Nat.reduceAdd])
  
  repeat' (first | (apply RW.q1; (first | (apply q_sbeqF (b := [48]); exact rfl; exact rfl; exact hA0) | (apply q_add; exact rfl; exact rfl; exact wup) | (apply q_bit; exact rfl; exact rfl; exact woF) | (apply q_bit; exact rfl; exact rfl; exact woT) | (apply q_cmp (op := .lss) (a := (m : Int)) (b := 4503599627370496); exact rfl; exact rfl; exact hlt1) | exact qt)) | (apply RW.qg; exact gvx; refine hgx tst ?_; intro hg hg'; (first | (apply q_sbeqF (b := [48]); exact evgx; exact rfl; exact hA0) | (apply q_add; exact evgx; exact evgx; exact wup) | (apply q_bit; exact evgx; exact evgx; exact woF) | (apply q_bit; exact evgx; exact evgx; exact woT) | (apply q_cmp (op := .lss) (a := (m : Int)) (b := 4503599627370496); exact evgx; exact evgx; exact hlt1) | exact qu)) | refine xsg cts ?_ | (apply CW_condT; exact rfl; exact ar) | (apply CW_condF; exact rfl; exact ar) | ((first | apply RW.s1 | apply RW.s0); exact gva) | (refine hK _ _ ?_; clear hK; refine xsg xsl ?_) | ((first | apply RW.a1 | apply RW.a0 | (apply RW.at; exact gva)); (first | (apply gw_callE (f := 136); exact evx; exact go136; intro G hG; exact hsz G) | (apply gw_callE (f := 137); exact evx; exact go137; intro G hG; exact hS G) | (apply gw_callE (f := 88); exact evx; exact go88; intro G hG; exact hD G) | (apply gw_callE (f := 138); exact evx; exact go138; intro G hG; exact hN G) | (apply gw_callE (f := 139); exact evx; exact go139; intro G hG; exact hP G) | (apply gw_callE (f := 85); exact evx; exact go85; intro G hG; exact hC G) | (apply gw_asg; exact rfl) | (apply gw_box; exact rfl; exact rfl; intro b) | (fail))) | (apply CW_region; intro K hK) | (apply CW_condX; exact rfl; exact tst; exact tst; all_goals (intro hq hc; try exact no)))
  all_goals (cases neg; all_goals try contradiction)
  all_goals (refine CW_ret ?_; refine xsg xsl ?_; refine bR [.tmp 2, .tmp 3] [] ?_)
  all_goals first | exact ⟨tail3 (neg := true) (by omega) he2 ht, rfl⟩ | exact ⟨tail3 (neg := false) (by omega) he2 ht, rfl⟩
theorem near_u2hi (neg : Bool) (A B a b m : Nat) (e : Int) (H : Hp) (hA : (Lib.decDigits A).length ≤ 600) (hB : (Lib.decDigits B).length ≤ 600) (h0 : 0 < A) (hB0 : 0 < B) (he : -1074 ≤ e) (he2 : ¬ 971 < e) (hsz : ∀ H : Hp, SC Tryz.prog 136 [numV neg A B] H [] (fun v M => v = .int .i64 e ∧ M = []))
    (ha : a = (scl A B e).1) (hb : b = (scl A B e).2) (hb0 : 0 < b) (hq53 : a / b < 9007199254740992) (hm : m = rnd a b) (hr : 2 * (a % b) = b ∧ a / b % 2 = 1) (ht : ¬ m < 4503599627370496) : SC Tryz.prog 114 [numV neg A B] H [] (fun v M => v = tailV neg e m ∧ M = []) := by
  obtain ⟨l1, l2⟩ := scl_len A B e (by omega) (by omega) (by omega)
  have hS := fun G => scaled_spec neg A B e G (by omega) (by omega) (by omega)
  rw [← ha, ← hb] at hS
  rw [← ha] at l1
  rw [← hb] at l2
  have hD := fun G => rDivide_spec a b G hb0 (by omega) (by omega)
  have hN := fun G => number_spec (a / b) G (by omega)
  have lr := dec_len_mono (Nat.le_of_lt (Nat.mod_lt a hb0))
  have hP := fun G => rPlus_spec (a % b) (a % b) G (by omega) (by omega)
  have lp : (Lib.decDigits (a % b + a % b)).length ≤ 200001 := by
    exact dec_dbl (k := 199999) (by omega)
  have hC := fun G => rCompare_spec (a % b + a % b) b G (by omega) (by omega)
  have hk : cmpN3 (a % b + a % b) b = (0 : Int) := cmp3_eq (by omega)
  rw [hk] at hC
  have hrn : rnd a b = a / b + 1 := rnd_up (.inr hr)
  rw [hrn] at hm
  have hA0 := dec_nz h0
  generalize hq : a / b = q at *
  have wup : IntKind.u64.wrap ((q : Int) + 1) = (m : Int) := by rw [show ((q : Int) + 1) = (m : Int) by omega]; exact w_in (by simp only [inb]; omega)
  have wsb : IntKind.u64.wrap ((m : Int) - 4503599627370496) = ((m - 4503599627370496 : Nat) : Int) := by rw [show ((m : Int) - 4503599627370496) = ((m - 4503599627370496 : Nat) : Int) by omega]; exact w_in (by simp only [inb]; omega)
  obtain ⟨sa, hsa⟩ : ∃ s, s = (e + 1075).toNat * 4503599627370496 := ⟨_, rfl⟩
  have wsl := wsh64 (E := e + 1075) (by omega) (by omega)
  rw [← hsa] at wsl
  have wsz : IntKind.u64.wrap (4503599627370496 - 4503599627370496) = ((0 : Nat) : Int) := by decide
  obtain ⟨sb, hsb⟩ : ∃ s, s = (e + 1 + 1075).toNat * 4503599627370496 := ⟨_, rfl⟩
  have wsm := wsh64 (E := e + 1 + 1075) (by omega) (by omega)
  rw [← hsb] at wsm
  obtain ⟨oFa, hoFa⟩ : ∃ o, o = 0 ||| sa := ⟨_, rfl⟩
  obtain ⟨pFa, hpFa⟩ : ∃ o, o = oFa ||| (m - 4503599627370496) := ⟨_, rfl⟩
  have woFa : bitI .or .u64 (0 : Int) (sa : Int) = some (oFa : Int) := by rw [hoFa]; exact or64 (by decide) (by omega)
  have wpFa : bitI .or .u64 (oFa : Int) ((m - 4503599627370496 : Nat) : Int) = some (pFa : Int) := by rw [hpFa]; exact or64 (by rw [hoFa]; exact Nat.or_lt_two_pow (n := 64) (by decide) (by omega)) (by omega)
  obtain ⟨oFb, hoFb⟩ : ∃ o, o = 0 ||| sb := ⟨_, rfl⟩
  obtain ⟨pFb, hpFb⟩ : ∃ o, o = oFb ||| (0) := ⟨_, rfl⟩
  have woFb : bitI .or .u64 (0 : Int) (sb : Int) = some (oFb : Int) := by rw [hoFb]; exact or64 (by decide) (by omega)
  have wpFb : bitI .or .u64 (oFb : Int) ((0 : Nat) : Int) = some (pFb : Int) := by rw [hpFb]; exact or64 (by rw [hoFb]; exact Nat.or_lt_two_pow (n := 64) (by decide) (by omega)) (by omega)
  obtain ⟨oTa, hoTa⟩ : ∃ o, o = 9223372036854775808 ||| sa := ⟨_, rfl⟩
  obtain ⟨pTa, hpTa⟩ : ∃ o, o = oTa ||| (m - 4503599627370496) := ⟨_, rfl⟩
  have woTa : bitI .or .u64 (9223372036854775808 : Int) (sa : Int) = some (oTa : Int) := by rw [hoTa]; exact or64 (by decide) (by omega)
  have wpTa : bitI .or .u64 (oTa : Int) ((m - 4503599627370496 : Nat) : Int) = some (pTa : Int) := by rw [hpTa]; exact or64 (by rw [hoTa]; exact Nat.or_lt_two_pow (n := 64) (by decide) (by omega)) (by omega)
  obtain ⟨oTb, hoTb⟩ : ∃ o, o = 9223372036854775808 ||| sb := ⟨_, rfl⟩
  obtain ⟨pTb, hpTb⟩ : ∃ o, o = oTb ||| (0) := ⟨_, rfl⟩
  have woTb : bitI .or .u64 (9223372036854775808 : Int) (sb : Int) = some (oTb : Int) := by rw [hoTb]; exact or64 (by decide) (by omega)
  have wpTb : bitI .or .u64 (oTb : Int) ((0 : Nat) : Int) = some (pTb : Int) := by rw [hpTb]; exact or64 (by rw [hoTb]; exact Nat.or_lt_two_pow (n := 64) (by decide) (by omega)) (by omega)
  have faF : m ≠ 9007199254740992 → resOne [Value.int .u64 (pFa : Int), .bool true] = tailV false e m := by intro h; rw [hpFa, hoFa, hsa]; exact tail4 (neg := false) h he2 ht
  have fbF : m = 9007199254740992 → ¬ 971 < e + 1 → resOne [Value.int .u64 (pFb : Int), .bool true] = tailV false e m := by intro h h2; rw [hpFb, hoFb, hsb]; exact tail2 (neg := false) h h2
  have faT : m ≠ 9007199254740992 → resOne [Value.int .u64 (pTa : Int), .bool true] = tailV true e m := by intro h; rw [hpTa, hoTa, hsa]; exact tail4 (neg := true) h he2 ht
  have fbT : m = 9007199254740992 → ¬ 971 < e + 1 → resOne [Value.int .u64 (pTb : Int), .bool true] = tailV true e m := by intro h h2; rw [hpTb, hoTb, hsb]; exact tail2 (neg := true) h h2
  have hlt1 : cmpI .lss (m : Int) 4503599627370496 = some false := by show some (decide _) = some _; rw [decide_eq_false (by omega)]
  (refine SC_intro Tryz.func114 rfl (by kernel_rfl) (by rw [Tryz.ntmps114]; exact Nat.le_of_ble_eq_true rfl) ?_; simp only [Tryz.ntmps114, argE, Nat.reduceAdd])
  
  repeat' (first | (apply RW.q1; (first | (apply q_sbeqF (b := [48]); exact rfl; exact rfl; exact hA0) | (apply q_add; exact rfl; exact rfl; exact wup) | (apply q_sub (a := (m : Int)); exact rfl; exact rfl; exact wsb) | (apply q_shl; exact rfl; exact rfl; decide; exact wsl) | (apply q_sub (a := 4503599627370496); exact rfl; exact rfl; exact wsz) | (apply q_shl; exact rfl; exact rfl; decide; exact wsm) | (apply q_bit; exact rfl; exact rfl; exact woFa) | (apply q_bit; exact rfl; exact rfl; exact wpFa) | (apply q_bit; exact rfl; exact rfl; exact woFb) | (apply q_bit; exact rfl; exact rfl; exact wpFb) | (apply q_bit; exact rfl; exact rfl; exact woTa) | (apply q_bit; exact rfl; exact rfl; exact wpTa) | (apply q_bit; exact rfl; exact rfl; exact woTb) | (apply q_bit; exact rfl; exact rfl; exact wpTb) | (apply q_cmp (op := .lss) (a := (m : Int)) (b := 4503599627370496); exact rfl; exact rfl; exact hlt1) | exact qt)) | (apply RW.qg; exact gvx; refine hgx tst ?_; intro hg hg'; (first | (apply q_sbeqF (b := [48]); exact evgx; exact rfl; exact hA0) | (apply q_add; exact evgx; exact evgx; exact wup) | (apply q_sub (a := (m : Int)); exact evgx; exact evgx; exact wsb) | (apply q_shl; exact evgx; exact evgx; decide; exact wsl) | (apply q_sub (a := 4503599627370496); exact evgx; exact evgx; exact wsz) | (apply q_shl; exact evgx; exact evgx; decide; exact wsm) | (apply q_bit; exact evgx; exact evgx; exact woFa) | (apply q_bit; exact evgx; exact evgx; exact wpFa) | (apply q_bit; exact evgx; exact evgx; exact woFb) | (apply q_bit; exact evgx; exact evgx; exact wpFb) | (apply q_bit; exact evgx; exact evgx; exact woTa) | (apply q_bit; exact evgx; exact evgx; exact wpTa) | (apply q_bit; exact evgx; exact evgx; exact woTb) | (apply q_bit; exact evgx; exact evgx; exact wpTb) | (apply q_cmp (op := .lss) (a := (m : Int)) (b := 4503599627370496); exact evgx; exact evgx; exact hlt1) | exact qu)) | refine xsg cts ?_ | (apply CW_condT; exact rfl; exact ar) | (apply CW_condF; exact rfl; exact ar) | ((first | apply RW.s1 | apply RW.s0); exact gva) | (refine hK _ _ ?_; clear hK; refine xsg xsl ?_) | ((first | apply RW.a1 | apply RW.a0 | (apply RW.at; exact gva)); (first | (apply gw_callE (f := 136); exact evx; exact go136; intro G hG; exact hsz G) | (apply gw_callE (f := 137); exact evx; exact go137; intro G hG; exact hS G) | (apply gw_callE (f := 88); exact evx; exact go88; intro G hG; exact hD G) | (apply gw_callE (f := 138); exact evx; exact go138; intro G hG; exact hN G) | (apply gw_callE (f := 139); exact evx; exact go139; intro G hG; exact hP G) | (apply gw_callE (f := 85); exact evx; exact go85; intro G hG; exact hC G) | (apply gw_asg; exact rfl) | (apply gw_box; exact rfl; exact rfl; intro b) | (fail))) | (apply CW_region; intro K hK) | (apply CW_condX; exact rfl; exact tst; exact tst; all_goals (intro hq hc; try exact no)))
  all_goals (cases neg; all_goals try contradiction)
  all_goals (refine CW_ret ?_; refine xsg xsl ?_; refine bR [.tmp 2, .tmp 3] [] ?_)
  all_goals first | exact ⟨tail1 (by omega) (by omega), rfl⟩ | exact ⟨fbT (by omega) (by omega), rfl⟩ | exact ⟨fbF (by omega) (by omega), rfl⟩ | exact ⟨faT (by omega), rfl⟩ | exact ⟨faF (by omega), rfl⟩
theorem near_d1lo (neg : Bool) (A B a b m : Nat) (e : Int) (H : Hp) (hA : (Lib.decDigits A).length ≤ 600) (hB : (Lib.decDigits B).length ≤ 600) (h0 : 0 < A) (hB0 : 0 < B) (he : -1074 ≤ e) (he2 : ¬ 971 < e) (hsz : ∀ H : Hp, SC Tryz.prog 136 [numV neg A B] H [] (fun v M => v = .int .i64 e ∧ M = []))
    (ha : a = (scl A B e).1) (hb : b = (scl A B e).2) (hb0 : 0 < b) (hq53 : a / b < 9007199254740992) (hm : m = rnd a b) (hr : 2 * (a % b) = b ∧ ¬ a / b % 2 = 1) (ht : m < 4503599627370496) : SC Tryz.prog 114 [numV neg A B] H [] (fun v M => v = tailV neg e m ∧ M = []) := by
  obtain ⟨l1, l2⟩ := scl_len A B e (by omega) (by omega) (by omega)
  have hS := fun G => scaled_spec neg A B e G (by omega) (by omega) (by omega)
  rw [← ha, ← hb] at hS
  rw [← ha] at l1
  rw [← hb] at l2
  have hD := fun G => rDivide_spec a b G hb0 (by omega) (by omega)
  have hN := fun G => number_spec (a / b) G (by omega)
  have lr := dec_len_mono (Nat.le_of_lt (Nat.mod_lt a hb0))
  have hP := fun G => rPlus_spec (a % b) (a % b) G (by omega) (by omega)
  have lp : (Lib.decDigits (a % b + a % b)).length ≤ 200001 := by
    exact dec_dbl (k := 199999) (by omega)
  have hC := fun G => rCompare_spec (a % b + a % b) b G (by omega) (by omega)
  have hk : cmpN3 (a % b + a % b) b = (0 : Int) := cmp3_eq (by omega)
  rw [hk] at hC
  have hrn : rnd a b = a / b := rnd_dn (by omega)
  rw [hrn] at hm
  have hA0 := dec_nz h0
  generalize hq : a / b = q at *
  obtain rfl : q = m := hm.symm
  have woF := or64 (x := 0) (y := q) (by decide) (by omega)
  have woT := or64 (x := 9223372036854775808) (y := q) (by decide) (by omega)
  have hlt1 : cmpI .lss (q : Int) 4503599627370496 = some true := by show some (decide _) = some _; rw [decide_eq_true (by omega)]
  (refine SC_intro Tryz.func114 rfl (by kernel_rfl) (by rw [Tryz.ntmps114]; exact Nat.le_of_ble_eq_true rfl) ?_; simp only [Tryz.ntmps114, argE, Nat.reduceAdd])
  
  repeat' (first | (apply RW.q1; (first | (apply q_sbeqF (b := [48]); exact rfl; exact rfl; exact hA0) | (apply q_bit; exact rfl; exact rfl; exact woF) | (apply q_bit; exact rfl; exact rfl; exact woT) | (apply q_cmp (op := .lss) (a := (q : Int)) (b := 4503599627370496); exact rfl; exact rfl; exact hlt1) | exact qt)) | (apply RW.qg; exact gvx; refine hgx tst ?_; intro hg hg'; (first | (apply q_sbeqF (b := [48]); exact evgx; exact rfl; exact hA0) | (apply q_bit; exact evgx; exact evgx; exact woF) | (apply q_bit; exact evgx; exact evgx; exact woT) | (apply q_cmp (op := .lss) (a := (q : Int)) (b := 4503599627370496); exact evgx; exact evgx; exact hlt1) | exact qu)) | refine xsg cts ?_ | (apply CW_condT; exact rfl; exact ar) | (apply CW_condF; exact rfl; exact ar) | ((first | apply RW.s1 | apply RW.s0); exact gva) | (refine hK _ _ ?_; clear hK; refine xsg xsl ?_) | ((first | apply RW.a1 | apply RW.a0 | (apply RW.at; exact gva)); (first | (apply gw_callE (f := 136); exact evx; exact go136; intro G hG; exact hsz G) | (apply gw_callE (f := 137); exact evx; exact go137; intro G hG; exact hS G) | (apply gw_callE (f := 88); exact evx; exact go88; intro G hG; exact hD G) | (apply gw_callE (f := 138); exact evx; exact go138; intro G hG; exact hN G) | (apply gw_callE (f := 139); exact evx; exact go139; intro G hG; exact hP G) | (apply gw_callE (f := 85); exact evx; exact go85; intro G hG; exact hC G) | (apply gw_asg; exact rfl) | (apply gw_box; exact rfl; exact rfl; intro b) | (fail))) | (apply CW_region; intro K hK) | (apply CW_condX; exact rfl; exact tst; exact tst; all_goals (intro hq hc; try exact no)))
  all_goals (cases neg; all_goals try contradiction)
  all_goals (refine CW_ret ?_; refine xsg xsl ?_; refine bR [.tmp 2, .tmp 3] [] ?_)
  all_goals first | exact ⟨tail3 (neg := true) (by omega) he2 ht, rfl⟩ | exact ⟨tail3 (neg := false) (by omega) he2 ht, rfl⟩
theorem near_d1hi (neg : Bool) (A B a b m : Nat) (e : Int) (H : Hp) (hA : (Lib.decDigits A).length ≤ 600) (hB : (Lib.decDigits B).length ≤ 600) (h0 : 0 < A) (hB0 : 0 < B) (he : -1074 ≤ e) (he2 : ¬ 971 < e) (hsz : ∀ H : Hp, SC Tryz.prog 136 [numV neg A B] H [] (fun v M => v = .int .i64 e ∧ M = []))
    (ha : a = (scl A B e).1) (hb : b = (scl A B e).2) (hb0 : 0 < b) (hq53 : a / b < 9007199254740992) (hm : m = rnd a b) (hr : 2 * (a % b) = b ∧ ¬ a / b % 2 = 1) (ht : ¬ m < 4503599627370496) : SC Tryz.prog 114 [numV neg A B] H [] (fun v M => v = tailV neg e m ∧ M = []) := by
  obtain ⟨l1, l2⟩ := scl_len A B e (by omega) (by omega) (by omega)
  have hS := fun G => scaled_spec neg A B e G (by omega) (by omega) (by omega)
  rw [← ha, ← hb] at hS
  rw [← ha] at l1
  rw [← hb] at l2
  have hD := fun G => rDivide_spec a b G hb0 (by omega) (by omega)
  have hN := fun G => number_spec (a / b) G (by omega)
  have lr := dec_len_mono (Nat.le_of_lt (Nat.mod_lt a hb0))
  have hP := fun G => rPlus_spec (a % b) (a % b) G (by omega) (by omega)
  have lp : (Lib.decDigits (a % b + a % b)).length ≤ 200001 := by
    exact dec_dbl (k := 199999) (by omega)
  have hC := fun G => rCompare_spec (a % b + a % b) b G (by omega) (by omega)
  have hk : cmpN3 (a % b + a % b) b = (0 : Int) := cmp3_eq (by omega)
  rw [hk] at hC
  have hrn : rnd a b = a / b := rnd_dn (by omega)
  rw [hrn] at hm
  have hA0 := dec_nz h0
  generalize hq : a / b = q at *
  obtain rfl : q = m := hm.symm
  have wsb : IntKind.u64.wrap ((q : Int) - 4503599627370496) = ((q - 4503599627370496 : Nat) : Int) := by rw [show ((q : Int) - 4503599627370496) = ((q - 4503599627370496 : Nat) : Int) by omega]; exact w_in (by simp only [inb]; omega)
  obtain ⟨sa, hsa⟩ : ∃ s, s = (e + 1075).toNat * 4503599627370496 := ⟨_, rfl⟩
  have wsl := wsh64 (E := e + 1075) (by omega) (by omega)
  rw [← hsa] at wsl
  obtain ⟨oFa, hoFa⟩ : ∃ o, o = 0 ||| sa := ⟨_, rfl⟩
  obtain ⟨pFa, hpFa⟩ : ∃ o, o = oFa ||| (q - 4503599627370496) := ⟨_, rfl⟩
  have woFa : bitI .or .u64 (0 : Int) (sa : Int) = some (oFa : Int) := by rw [hoFa]; exact or64 (by decide) (by omega)
  have wpFa : bitI .or .u64 (oFa : Int) ((q - 4503599627370496 : Nat) : Int) = some (pFa : Int) := by rw [hpFa]; exact or64 (by rw [hoFa]; exact Nat.or_lt_two_pow (n := 64) (by decide) (by omega)) (by omega)
  obtain ⟨oTa, hoTa⟩ : ∃ o, o = 9223372036854775808 ||| sa := ⟨_, rfl⟩
  obtain ⟨pTa, hpTa⟩ : ∃ o, o = oTa ||| (q - 4503599627370496) := ⟨_, rfl⟩
  have woTa : bitI .or .u64 (9223372036854775808 : Int) (sa : Int) = some (oTa : Int) := by rw [hoTa]; exact or64 (by decide) (by omega)
  have wpTa : bitI .or .u64 (oTa : Int) ((q - 4503599627370496 : Nat) : Int) = some (pTa : Int) := by rw [hpTa]; exact or64 (by rw [hoTa]; exact Nat.or_lt_two_pow (n := 64) (by decide) (by omega)) (by omega)
  have faF : q ≠ 9007199254740992 → resOne [Value.int .u64 (pFa : Int), .bool true] = tailV false e q := by intro h; rw [hpFa, hoFa, hsa]; exact tail4 (neg := false) h he2 ht
  have faT : q ≠ 9007199254740992 → resOne [Value.int .u64 (pTa : Int), .bool true] = tailV true e q := by intro h; rw [hpTa, hoTa, hsa]; exact tail4 (neg := true) h he2 ht
  have hlt1 : cmpI .lss (q : Int) 4503599627370496 = some false := by show some (decide _) = some _; rw [decide_eq_false (by omega)]
  (refine SC_intro Tryz.func114 rfl (by kernel_rfl) (by rw [Tryz.ntmps114]; exact Nat.le_of_ble_eq_true rfl) ?_; simp only [Tryz.ntmps114, argE, Nat.reduceAdd])
  
  repeat' (first | (apply RW.q1; (first | (apply q_sbeqF (b := [48]); exact rfl; exact rfl; exact hA0) | (apply q_sub (a := (q : Int)); exact rfl; exact rfl; exact wsb) | (apply q_shl; exact rfl; exact rfl; decide; exact wsl) | (apply q_bit; exact rfl; exact rfl; exact woFa) | (apply q_bit; exact rfl; exact rfl; exact wpFa) | (apply q_bit; exact rfl; exact rfl; exact woTa) | (apply q_bit; exact rfl; exact rfl; exact wpTa) | (apply q_cmp (op := .lss) (a := (q : Int)) (b := 4503599627370496); exact rfl; exact rfl; exact hlt1) | exact qt)) | (apply RW.qg; exact gvx; refine hgx tst ?_; intro hg hg'; (first | (apply q_sbeqF (b := [48]); exact evgx; exact rfl; exact hA0) | (apply q_sub (a := (q : Int)); exact evgx; exact evgx; exact wsb) | (apply q_shl; exact evgx; exact evgx; decide; exact wsl) | (apply q_bit; exact evgx; exact evgx; exact woFa) | (apply q_bit; exact evgx; exact evgx; exact wpFa) | (apply q_bit; exact evgx; exact evgx; exact woTa) | (apply q_bit; exact evgx; exact evgx; exact wpTa) | (apply q_cmp (op := .lss) (a := (q : Int)) (b := 4503599627370496); exact evgx; exact evgx; exact hlt1) | exact qu)) | refine xsg cts ?_ | (apply CW_condT; exact rfl; exact ar) | (apply CW_condF; exact rfl; exact ar) | ((first | apply RW.s1 | apply RW.s0); exact gva) | (refine hK _ _ ?_; clear hK; refine xsg xsl ?_) | ((first | apply RW.a1 | apply RW.a0 | (apply RW.at; exact gva)); (first | (apply gw_callE (f := 136); exact evx; exact go136; intro G hG; exact hsz G) | (apply gw_callE (f := 137); exact evx; exact go137; intro G hG; exact hS G) | (apply gw_callE (f := 88); exact evx; exact go88; intro G hG; exact hD G) | (apply gw_callE (f := 138); exact evx; exact go138; intro G hG; exact hN G) | (apply gw_callE (f := 139); exact evx; exact go139; intro G hG; exact hP G) | (apply gw_callE (f := 85); exact evx; exact go85; intro G hG; exact hC G) | (apply gw_asg; exact rfl) | (apply gw_box; exact rfl; exact rfl; intro b) | (fail))) | (apply CW_region; intro K hK) | (apply CW_condX; exact rfl; exact tst; exact tst; all_goals (intro hq hc; try exact no)))
  all_goals (cases neg; all_goals try contradiction)
  all_goals (refine CW_ret ?_; refine xsg xsl ?_; refine bR [.tmp 2, .tmp 3] [] ?_)
  all_goals first | exact ⟨faT (by omega), rfl⟩ | exact ⟨faF (by omega), rfl⟩
theorem near_d2lo (neg : Bool) (A B a b m : Nat) (e : Int) (H : Hp) (hA : (Lib.decDigits A).length ≤ 600) (hB : (Lib.decDigits B).length ≤ 600) (h0 : 0 < A) (hB0 : 0 < B) (he : -1074 ≤ e) (he2 : ¬ 971 < e) (hsz : ∀ H : Hp, SC Tryz.prog 136 [numV neg A B] H [] (fun v M => v = .int .i64 e ∧ M = []))
    (ha : a = (scl A B e).1) (hb : b = (scl A B e).2) (hb0 : 0 < b) (hq53 : a / b < 9007199254740992) (hm : m = rnd a b) (hr : 2 * (a % b) < b) (ht : m < 4503599627370496) : SC Tryz.prog 114 [numV neg A B] H [] (fun v M => v = tailV neg e m ∧ M = []) := by
  obtain ⟨l1, l2⟩ := scl_len A B e (by omega) (by omega) (by omega)
  have hS := fun G => scaled_spec neg A B e G (by omega) (by omega) (by omega)
  rw [← ha, ← hb] at hS
  rw [← ha] at l1
  rw [← hb] at l2
  have hD := fun G => rDivide_spec a b G hb0 (by omega) (by omega)
  have hN := fun G => number_spec (a / b) G (by omega)
  have lr := dec_len_mono (Nat.le_of_lt (Nat.mod_lt a hb0))
  have hP := fun G => rPlus_spec (a % b) (a % b) G (by omega) (by omega)
  have lp : (Lib.decDigits (a % b + a % b)).length ≤ 200001 := by
    exact dec_dbl (k := 199999) (by omega)
  have hC := fun G => rCompare_spec (a % b + a % b) b G (by omega) (by omega)
  have hk : cmpN3 (a % b + a % b) b = (-1 : Int) := cmp3_lt (by omega)
  rw [hk] at hC
  have hrn : rnd a b = a / b := rnd_dn (by omega)
  rw [hrn] at hm
  have hA0 := dec_nz h0
  generalize hq : a / b = q at *
  obtain rfl : q = m := hm.symm
  have woF := or64 (x := 0) (y := q) (by decide) (by omega)
  have woT := or64 (x := 9223372036854775808) (y := q) (by decide) (by omega)
  have hlt1 : cmpI .lss (q : Int) 4503599627370496 = some true := by show some (decide _) = some _; rw [decide_eq_true (by omega)]
  (refine SC_intro Tryz.func114 rfl (by kernel_rfl) (by rw [Tryz.ntmps114]; exact Nat.le_of_ble_eq_true rfl) ?_; simp only [Tryz.ntmps114, argE, Nat.reduceAdd])
  
  repeat' (first | (apply RW.q1; (first | (apply q_sbeqF (b := [48]); exact rfl; exact rfl; exact hA0) | (apply q_bit; exact rfl; exact rfl; exact woF) | (apply q_bit; exact rfl; exact rfl; exact woT) | (apply q_cmp (op := .lss) (a := (q : Int)) (b := 4503599627370496); exact rfl; exact rfl; exact hlt1) | exact qt)) | (apply RW.qg; exact gvx; refine hgx tst ?_; intro hg hg'; (first | (apply q_sbeqF (b := [48]); exact evgx; exact rfl; exact hA0) | (apply q_bit; exact evgx; exact evgx; exact woF) | (apply q_bit; exact evgx; exact evgx; exact woT) | (apply q_cmp (op := .lss) (a := (q : Int)) (b := 4503599627370496); exact evgx; exact evgx; exact hlt1) | exact qu)) | refine xsg cts ?_ | (apply CW_condT; exact rfl; exact ar) | (apply CW_condF; exact rfl; exact ar) | ((first | apply RW.s1 | apply RW.s0); exact gva) | (refine hK _ _ ?_; clear hK; refine xsg xsl ?_) | ((first | apply RW.a1 | apply RW.a0 | (apply RW.at; exact gva)); (first | (apply gw_callE (f := 136); exact evx; exact go136; intro G hG; exact hsz G) | (apply gw_callE (f := 137); exact evx; exact go137; intro G hG; exact hS G) | (apply gw_callE (f := 88); exact evx; exact go88; intro G hG; exact hD G) | (apply gw_callE (f := 138); exact evx; exact go138; intro G hG; exact hN G) | (apply gw_callE (f := 139); exact evx; exact go139; intro G hG; exact hP G) | (apply gw_callE (f := 85); exact evx; exact go85; intro G hG; exact hC G) | (apply gw_asg; exact rfl) | (apply gw_box; exact rfl; exact rfl; intro b) | (fail))) | (apply CW_region; intro K hK) | (apply CW_condX; exact rfl; exact tst; exact tst; all_goals (intro hq hc; try exact no)))
  all_goals (cases neg; all_goals try contradiction)
  all_goals (refine CW_ret ?_; refine xsg xsl ?_; refine bR [.tmp 2, .tmp 3] [] ?_)
  all_goals first | exact ⟨tail3 (neg := true) (by omega) he2 ht, rfl⟩ | exact ⟨tail3 (neg := false) (by omega) he2 ht, rfl⟩
theorem near_d2hi (neg : Bool) (A B a b m : Nat) (e : Int) (H : Hp) (hA : (Lib.decDigits A).length ≤ 600) (hB : (Lib.decDigits B).length ≤ 600) (h0 : 0 < A) (hB0 : 0 < B) (he : -1074 ≤ e) (he2 : ¬ 971 < e) (hsz : ∀ H : Hp, SC Tryz.prog 136 [numV neg A B] H [] (fun v M => v = .int .i64 e ∧ M = []))
    (ha : a = (scl A B e).1) (hb : b = (scl A B e).2) (hb0 : 0 < b) (hq53 : a / b < 9007199254740992) (hm : m = rnd a b) (hr : 2 * (a % b) < b) (ht : ¬ m < 4503599627370496) : SC Tryz.prog 114 [numV neg A B] H [] (fun v M => v = tailV neg e m ∧ M = []) := by
  obtain ⟨l1, l2⟩ := scl_len A B e (by omega) (by omega) (by omega)
  have hS := fun G => scaled_spec neg A B e G (by omega) (by omega) (by omega)
  rw [← ha, ← hb] at hS
  rw [← ha] at l1
  rw [← hb] at l2
  have hD := fun G => rDivide_spec a b G hb0 (by omega) (by omega)
  have hN := fun G => number_spec (a / b) G (by omega)
  have lr := dec_len_mono (Nat.le_of_lt (Nat.mod_lt a hb0))
  have hP := fun G => rPlus_spec (a % b) (a % b) G (by omega) (by omega)
  have lp : (Lib.decDigits (a % b + a % b)).length ≤ 200001 := by
    exact dec_dbl (k := 199999) (by omega)
  have hC := fun G => rCompare_spec (a % b + a % b) b G (by omega) (by omega)
  have hk : cmpN3 (a % b + a % b) b = (-1 : Int) := cmp3_lt (by omega)
  rw [hk] at hC
  have hrn : rnd a b = a / b := rnd_dn (by omega)
  rw [hrn] at hm
  have hA0 := dec_nz h0
  generalize hq : a / b = q at *
  obtain rfl : q = m := hm.symm
  have wsb : IntKind.u64.wrap ((q : Int) - 4503599627370496) = ((q - 4503599627370496 : Nat) : Int) := by rw [show ((q : Int) - 4503599627370496) = ((q - 4503599627370496 : Nat) : Int) by omega]; exact w_in (by simp only [inb]; omega)
  obtain ⟨sa, hsa⟩ : ∃ s, s = (e + 1075).toNat * 4503599627370496 := ⟨_, rfl⟩
  have wsl := wsh64 (E := e + 1075) (by omega) (by omega)
  rw [← hsa] at wsl
  obtain ⟨oFa, hoFa⟩ : ∃ o, o = 0 ||| sa := ⟨_, rfl⟩
  obtain ⟨pFa, hpFa⟩ : ∃ o, o = oFa ||| (q - 4503599627370496) := ⟨_, rfl⟩
  have woFa : bitI .or .u64 (0 : Int) (sa : Int) = some (oFa : Int) := by rw [hoFa]; exact or64 (by decide) (by omega)
  have wpFa : bitI .or .u64 (oFa : Int) ((q - 4503599627370496 : Nat) : Int) = some (pFa : Int) := by rw [hpFa]; exact or64 (by rw [hoFa]; exact Nat.or_lt_two_pow (n := 64) (by decide) (by omega)) (by omega)
  obtain ⟨oTa, hoTa⟩ : ∃ o, o = 9223372036854775808 ||| sa := ⟨_, rfl⟩
  obtain ⟨pTa, hpTa⟩ : ∃ o, o = oTa ||| (q - 4503599627370496) := ⟨_, rfl⟩
  have woTa : bitI .or .u64 (9223372036854775808 : Int) (sa : Int) = some (oTa : Int) := by rw [hoTa]; exact or64 (by decide) (by omega)
  have wpTa : bitI .or .u64 (oTa : Int) ((q - 4503599627370496 : Nat) : Int) = some (pTa : Int) := by rw [hpTa]; exact or64 (by rw [hoTa]; exact Nat.or_lt_two_pow (n := 64) (by decide) (by omega)) (by omega)
  have faF : q ≠ 9007199254740992 → resOne [Value.int .u64 (pFa : Int), .bool true] = tailV false e q := by intro h; rw [hpFa, hoFa, hsa]; exact tail4 (neg := false) h he2 ht
  have faT : q ≠ 9007199254740992 → resOne [Value.int .u64 (pTa : Int), .bool true] = tailV true e q := by intro h; rw [hpTa, hoTa, hsa]; exact tail4 (neg := true) h he2 ht
  have hlt1 : cmpI .lss (q : Int) 4503599627370496 = some false := by show some (decide _) = some _; rw [decide_eq_false (by omega)]
  (refine SC_intro Tryz.func114 rfl (by kernel_rfl) (by rw [Tryz.ntmps114]; exact Nat.le_of_ble_eq_true rfl) ?_; simp only [Tryz.ntmps114, argE, Nat.reduceAdd])
  
  repeat' (first | (apply RW.q1; (first | (apply q_sbeqF (b := [48]); exact rfl; exact rfl; exact hA0) | (apply q_sub (a := (q : Int)); exact rfl; exact rfl; exact wsb) | (apply q_shl; exact rfl; exact rfl; decide; exact wsl) | (apply q_bit; exact rfl; exact rfl; exact woFa) | (apply q_bit; exact rfl; exact rfl; exact wpFa) | (apply q_bit; exact rfl; exact rfl; exact woTa) | (apply q_bit; exact rfl; exact rfl; exact wpTa) | (apply q_cmp (op := .lss) (a := (q : Int)) (b := 4503599627370496); exact rfl; exact rfl; exact hlt1) | exact qt)) | (apply RW.qg; exact gvx; refine hgx tst ?_; intro hg hg'; (first | (apply q_sbeqF (b := [48]); exact evgx; exact rfl; exact hA0) | (apply q_sub (a := (q : Int)); exact evgx; exact evgx; exact wsb) | (apply q_shl; exact evgx; exact evgx; decide; exact wsl) | (apply q_bit; exact evgx; exact evgx; exact woFa) | (apply q_bit; exact evgx; exact evgx; exact wpFa) | (apply q_bit; exact evgx; exact evgx; exact woTa) | (apply q_bit; exact evgx; exact evgx; exact wpTa) | (apply q_cmp (op := .lss) (a := (q : Int)) (b := 4503599627370496); exact evgx; exact evgx; exact hlt1) | exact qu)) | refine xsg cts ?_ | (apply CW_condT; exact rfl; exact ar) | (apply CW_condF; exact rfl; exact ar) | ((first | apply RW.s1 | apply RW.s0); exact gva) | (refine hK _ _ ?_; clear hK; refine xsg xsl ?_) | ((first | apply RW.a1 | apply RW.a0 | (apply RW.at; exact gva)); (first | (apply gw_callE (f := 136); exact evx; exact go136; intro G hG; exact hsz G) | (apply gw_callE (f := 137); exact evx; exact go137; intro G hG; exact hS G) | (apply gw_callE (f := 88); exact evx; exact go88; intro G hG; exact hD G) | (apply gw_callE (f := 138); exact evx; exact go138; intro G hG; exact hN G) | (apply gw_callE (f := 139); exact evx; exact go139; intro G hG; exact hP G) | (apply gw_callE (f := 85); exact evx; exact go85; intro G hG; exact hC G) | (apply gw_asg; exact rfl) | (apply gw_box; exact rfl; exact rfl; intro b) | (fail))) | (apply CW_region; intro K hK) | (apply CW_condX; exact rfl; exact tst; exact tst; all_goals (intro hq hc; try exact no)))
  all_goals (cases neg; all_goals try contradiction)
  all_goals (refine CW_ret ?_; refine xsg xsl ?_; refine bR [.tmp 2, .tmp 3] [] ?_)
  all_goals first | exact ⟨faT (by omega), rfl⟩ | exact ⟨faF (by omega), rfl⟩
end Go.Proofs.YtnhbipachchlgaaGreat.HL
