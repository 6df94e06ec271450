/- LimbsC: RefI: the document's natural, Right; powers of two; a number's parts scaled. Condition: the texts' lengths. RefK: the document's numbers as floats: below, size, number. Condition: at most 600 digits each. -/
import Derived.Test.YtnhbipachchlgaaGreatEngX
import Derived.Test.YtnhbipachchlgaaGreatLimbsBX
import Derived.Test.YtnhbipachchlgaaGreatPartsAX
namespace Go.Proofs.YtnhbipachchlgaaGreat.HL
open Go
attribute [local irreducible] goFn thenS blockS bodyS CW RW DW GW QW NW SC Pick Picks SubL Rd NN ResOk SrcW subE hops hseg AW hgen HC qv bldv
set_option maxHeartbeats 8000000
set_option maxRecDepth 100000
set_option linter.unusedVariables false
set_option linter.unusedSimpArgs false

def natB (s : List UInt8) : Bool := decide (0 < s.length) && !(decide (s[0]? = some 48) && decide (1 < s.length)) && s.all dgB
theorem right_natB (s : List UInt8) : rightB s = (decide (s.length ≤ 600) && natB s) := by
  unfold rightB natB
  cases decide (0 < s.length) <;> cases decide (s.length ≤ 600) <;> simp
section
variable {P : Program} {l : Ents} {H : Hp} {L : List Res} {d : Option Tmp} {T : TypeId} {pos : String} {aft : Array Edge} {gd : Option (Nat × Bool)} {t ty : TypeId} {x y : Operand} {a b : List UInt8}
theorem q_sbeqT (hx : evg l true x = some (.string (bstr a))) (hy : evg l true y = some (.string (bstr b))) (h : a = b) : QW P l H L ⟨d, .binOp .eql t x y ty, T, pos, aft, gd⟩ (.bool true) := by
  rw [← decide_eq_true h]; exact q_sbeq hx hy
theorem q_sbeqF (hx : evg l true x = some (.string (bstr a))) (hy : evg l true y = some (.string (bstr b))) (h : a ≠ b) : QW P l H L ⟨d, .binOp .eql t x y ty, T, pos, aft, gd⟩ (.bool false) := by
  rw [← decide_eq_false h]; exact q_sbeq hx hy
end
theorem rNatural_spec (s : List UInt8) (hs : (s.length : Int) ≤ 9223372036854775807) (H : Hp) : SC Tryz.prog 147 [.string (bstr s)] H [] (fun v M => v = .bool (natB s) ∧ M = []) := by
  by_cases h0 : s = []
  · subst h0
    (refine SC_intro Tryz.func147 rfl (by kernel_rfl) (by rw [Tryz.ntmps147]; exact Nat.le_of_ble_eq_true rfl) ?_; simp only [Tryz.ntmps147, argE, Nat.reduceAdd])
    
    repeat' (first | (apply RW.q1; (first | (apply q_lenb; exact rfl) | (apply q_sbeqT (b := []); exact rfl; exact rfl; exact rfl) | (apply q_ixc 0; exact rfl; exact rfl; (exfalso; omega); decide) | exact qt)) | (apply RW.qg; exact gvx; refine hgx tst ?_; intro hg hg'; (first | (apply q_lenb; exact evgx) | (apply q_sbeqT (b := []); exact evgx; exact rfl; exact rfl) | (apply q_ixc 0; exact evgx; exact evgx; (exfalso; omega); decide) | exact qu)) | refine xsg cts ?_ | (apply CW_condT; exact rfl; exact ar) | (apply CW_condF; exact rfl; exact ar) | ((first | apply RW.s1 | apply RW.s0); exact gva) | (refine hK _ _ ?_; clear hK; refine xsg xsl ?_) | ((first | apply RW.a1 | apply RW.a0 | (apply RW.at; exact gva)); (first | (apply gw_asg; exact rfl) | (fail))) | (apply CW_region; intro K hK) | (apply CW_condX; exact rfl; exact tst; exact tst; all_goals (intro hq hc; try exact no)))
    all_goals (refine CW_ret ?_; refine xsg xsl ?_; refine bR [.tmp 2] [] ?_)
    all_goals exact ⟨rfl, rfl⟩
  have hlen : 0 < s.length := List.length_pos_iff.2 h0
  obtain ⟨c0, hc0⟩ : ∃ c, s[0]? = some c := ⟨_, List.getElem?_eq_getElem (by omega)⟩
  have e48 : (c0 = 48) ↔ (c0.toNat : Int) = 48 := by
    constructor
    · rintro rfl; rfl
    · intro h; apply UInt8.toNat_inj.1; have : (48 : UInt8).toNat = 48 := rfl; omega
  by_cases hbad : c0 = 48 ∧ 1 < s.length
  · have e : natB s = false := by
      unfold natB
      rw [hc0, hbad.1, decide_eq_true hbad.2]; simp
    rw [e]
    rw [e48] at hbad
    (refine SC_intro Tryz.func147 rfl (by kernel_rfl) (by rw [Tryz.ntmps147]; exact Nat.le_of_ble_eq_true rfl) ?_; simp only [Tryz.ntmps147, argE, Nat.reduceAdd])
    
    repeat' (first | (apply RW.q1; (first | (apply q_lenb; exact rfl) | (apply q_sbeqF (b := []); exact rfl; exact rfl; exact h0) | (apply q_ixc c0; exact rfl; exact rfl; exact hc0; decide) | exact qt)) | (apply RW.qg; exact gvx; refine hgx tst ?_; intro hg hg'; (first | (apply q_lenb; exact evgx) | (apply q_sbeqF (b := []); exact evgx; exact rfl; exact h0) | (apply q_ixc c0; exact evgx; exact evgx; exact hc0; decide) | exact qu)) | refine xsg cts ?_ | (apply CW_condT; exact rfl; exact ar) | (apply CW_condF; exact rfl; exact ar) | ((first | apply RW.s1 | apply RW.s0); exact gva) | (refine hK _ _ ?_; clear hK; refine xsg xsl ?_) | ((first | apply RW.a1 | apply RW.a0 | (apply RW.at; exact gva)); (first | (apply gw_asg; exact rfl) | (fail))) | (apply CW_region; intro K hK) | (apply CW_condX; exact rfl; exact tst; exact tst; all_goals (intro hq hc; try exact no)))
    all_goals (first | (exfalso; omega) | skip)
    all_goals (refine CW_ret ?_; refine xsg xsl ?_; refine bR [.tmp 2] [] ?_)
    all_goals exact ⟨rfl, rfl⟩
  have hgood : ¬ ((c0.toNat : Int) = 48) ∨ s.length ≤ 1 := by
    by_cases h : c0 = 48
    · exact .inr (Nat.not_lt.1 fun h1 => hbad ⟨h, h1⟩)
    · exact .inl fun e => h (e48.2 e)
  have er : natB s = s.all dgB := by
    unfold natB
    rw [decide_eq_true (p := 0 < s.length) (by omega), hc0]
    have : (decide (some c0 = some (48 : UInt8)) && decide (1 < s.length)) = false := by
      rw [jG, jB, jB]
      rcases hgood with h | h
      · exact .inl fun e => h (e48.1 (Option.some.inj e))
      · exact .inr (by omega)
    rw [this]; rfl
  rw [er]
  (refine SC_intro Tryz.func147 rfl (by kernel_rfl) (by rw [Tryz.ntmps147]; exact Nat.le_of_ble_eq_true rfl) ?_; simp only [Tryz.ntmps147, argE, Nat.reduceAdd])
  
  repeat' (first | (apply RW.q1; (first | (apply q_lenb; exact rfl) | (apply q_sbeqF (b := []); exact rfl; exact rfl; exact h0) | (apply q_ixc c0; exact rfl; exact rfl; exact hc0; decide) | exact qt)) | (apply RW.qg; exact gvx; refine hgx tst ?_; intro hg hg'; (first | (apply q_lenb; exact evgx) | (apply q_sbeqF (b := []); exact evgx; exact rfl; exact h0) | (apply q_ixc c0; exact evgx; exact evgx; exact hc0; decide) | exact qu)) | refine xsg cts ?_ | (apply CW_condT; exact rfl; exact ar) | (apply CW_condF; exact rfl; exact ar) | ((first | apply RW.s1 | apply RW.s0); exact gva) | (refine hK _ _ ?_; clear hK; refine xsg xsl ?_) | ((first | apply RW.a1 | apply RW.a0 | (apply RW.at; exact gva)); (first | (apply gw_asg; exact rfl) | (fail))) | (apply CW_region; intro K hK) | (apply CW_condX; exact rfl; exact tst; exact tst; all_goals (intro hq hc; try exact no)))
  refine CW_loop (fun m l L => ∃ (k : Nat), m = s.length - k ∧ l = [(0, true, .string (bstr s)), (3, true, .int .i64 (k : Nat))] ∧ L = [] ∧ k ≤ s.length ∧ (s.take k).all dgB = true)
    ⟨_, _, _, ⟨0, rfl, rfl, rfl, by omega, rfl⟩, by exact sbe, by exact sbl⟩ ?_
  rintro m l L ⟨k, rfl, rfl, rfl, h1, h2⟩
  by_cases hk : k < s.length
  · obtain ⟨x, hx⟩ : ∃ c, s[k]? = some c := ⟨_, List.getElem?_eq_getElem hk⟩
    have ha := all_take hx h2
    by_cases hd : dgB x = true
    · rw [hd] at ha
      have hd' := hd
      unfold dgB at hd'
      simp only [jC, jA] at hd'
      
      repeat' (first | (apply RW.q1; (first | (apply q_lenb; exact rfl) | (apply q_ixc x; exact rfl; exact rfl; exact hx; omega) | exact qt)) | (apply RW.qg; exact gvx; refine hgx tst ?_; intro hg hg'; (first | (apply q_lenb; exact evgx) | (apply q_ixc x; exact evgx; exact evgx; exact hx; omega) | exact qu)) | refine xsg cts ?_ | (apply CW_condT; exact rfl; exact ar) | (apply CW_condF; exact rfl; exact ar) | ((first | apply RW.s1 | apply RW.s0); exact gva) | (refine hK _ _ ?_; clear hK; refine xsg xsl ?_) | ((first | apply RW.a1 | apply RW.a0 | (apply RW.at; exact gva)); (first | (apply gw_asg; exact rfl) | (fail))) | (apply CW_region; intro K hK) | (apply CW_condX; exact rfl; exact tst; exact tst; all_goals (intro hq hc; try exact no)))
      exact ⟨_, _, _, ⟨k + 1, rfl, rfl, rfl, by omega, ha⟩, by exact sbe, by exact sbl, by omega⟩
    · have hall : s.all dgB = false := by
        rw [List.all_eq_false]
        exact ⟨x, List.mem_of_getElem? hx, hd⟩
      rw [hall]
      unfold dgB at hd
      simp only [jC, jA] at hd
      
      repeat' (first | (apply RW.q1; (first | (apply q_lenb; exact rfl) | (apply q_ixc x; exact rfl; exact rfl; exact hx; omega) | exact qt)) | (apply RW.qg; exact gvx; refine hgx tst ?_; intro hg hg'; (first | (apply q_lenb; exact evgx) | (apply q_ixc x; exact evgx; exact evgx; exact hx; omega) | exact qu)) | refine xsg cts ?_ | (apply CW_condT; exact rfl; exact ar) | (apply CW_condF; exact rfl; exact ar) | ((first | apply RW.s1 | apply RW.s0); exact gva) | (refine hK _ _ ?_; clear hK; refine xsg xsl ?_) | ((first | apply RW.a1 | apply RW.a0 | (apply RW.at; exact gva)); (first | (apply gw_asg; exact rfl) | (fail))) | (apply CW_region; intro K hK) | (apply CW_condX; exact rfl; exact tst; exact tst; all_goals (intro hq hc; try exact no)))
      all_goals (first | (exfalso; omega) | skip)
      all_goals (refine CW_ret ?_; refine xsg xsl ?_; refine bR [.tmp 2] [] ?_)
      all_goals exact ⟨rfl, rfl⟩
  · rw [List.take_of_length_le (by omega)] at h2
    rw [h2]
    
    repeat' (first | (apply RW.q1; (first | (apply q_lenb; exact rfl) | exact qt)) | (apply RW.qg; exact gvx; refine hgx tst ?_; intro hg hg'; (first | (apply q_lenb; exact evgx) | exact qu)) | refine xsg cts ?_ | (apply CW_condT; exact rfl; exact ar) | (apply CW_condF; exact rfl; exact ar) | ((first | apply RW.s1 | apply RW.s0); exact gva) | (refine hK _ _ ?_; clear hK; refine xsg xsl ?_) | ((first | apply RW.a1 | apply RW.a0 | (apply RW.at; exact gva)); (first | (apply gw_asg; exact rfl) | (fail))) | (apply CW_region; intro K hK) | (apply CW_condX; exact rfl; exact tst; exact tst; all_goals (intro hq hc; try exact no)))
    (refine CW_ret ?_; refine xsg xsl ?_; refine bR [.tmp 2] [] ?_)
    exact ⟨rfl, rfl⟩
theorem rRight_spec (s : List UInt8) (hs : (s.length : Int) ≤ 9223372036854775807) (H : Hp) : SC Tryz.prog 135 [.string (bstr s)] H [] (fun v M => v = .bool (rightB s) ∧ M = []) := by
  have hN := fun G => rNatural_spec s hs G
  rw [right_natB]
  by_cases hl : s.length ≤ 600
  · rw [decide_eq_true hl, Bool.true_and]
    have hgd : decide ((s.length : Int) ≤ 600) = true := decide_eq_true (by omega)
    cases hb : natB s with
    | true =>
      rw [hb] at hN
      (refine SC_intro Tryz.func135 rfl (by kernel_rfl) (by rw [Tryz.ntmps135]; exact Nat.le_of_ble_eq_true rfl) ?_; simp only [Tryz.ntmps135, argE, Nat.reduceAdd])
      
      repeat' (first | (apply RW.q1; (first | (apply q_lenb; exact rfl) | exact qt)) | (apply RW.qg; exact gvx; refine hgx tst ?_; intro hg hg'; (first | (apply q_lenb; exact evgx) | exact qu)) | refine xsg cts ?_ | (apply CW_condT; exact rfl; exact ar) | (apply CW_condF; exact rfl; exact ar) | ((first | apply RW.s1 | apply RW.s0); exact gva) | (refine hK _ _ ?_; clear hK; refine xsg xsl ?_) | ((first | apply RW.a1 | apply RW.a0 | (apply RW.at; exact gva)); (first | (apply gw_callE (f := 147); exact evx; exact go147; intro G hG; exact hN G) | (apply gw_asg; exact rfl) | (fail))) | (apply CW_region; intro K hK) | (apply CW_condX; exact rfl; exact tst; exact tst; all_goals (intro hq hc; try exact no)))
      all_goals (first | (exfalso; omega) | skip)
      all_goals (refine CW_ret ?_; refine xsg xsl ?_; refine bR [.tmp 2] [] ?_)
      all_goals first | exact ⟨rfl, rfl⟩ | exact ⟨congrArg Value.bool (by first | (simp; done) | (simp; omega)), rfl⟩
    | false =>
      rw [hb] at hN
      (refine SC_intro Tryz.func135 rfl (by kernel_rfl) (by rw [Tryz.ntmps135]; exact Nat.le_of_ble_eq_true rfl) ?_; simp only [Tryz.ntmps135, argE, Nat.reduceAdd])
      
      repeat' (first | (apply RW.q1; (first | (apply q_lenb; exact rfl) | exact qt)) | (apply RW.qg; exact gvx; refine hgx tst ?_; intro hg hg'; (first | (apply q_lenb; exact evgx) | exact qu)) | refine xsg cts ?_ | (apply CW_condT; exact rfl; exact ar) | (apply CW_condF; exact rfl; exact ar) | ((first | apply RW.s1 | apply RW.s0); exact gva) | (refine hK _ _ ?_; clear hK; refine xsg xsl ?_) | ((first | apply RW.a1 | apply RW.a0 | (apply RW.at; exact gva)); (first | (apply gw_callE (f := 147); exact evx; exact go147; intro G hG; exact hN G) | (apply gw_asg; exact rfl) | (fail))) | (apply CW_region; intro K hK) | (apply CW_condX; exact rfl; exact tst; exact tst; all_goals (intro hq hc; try exact no)))
      all_goals (first | (exfalso; omega) | skip)
      all_goals (refine CW_ret ?_; refine xsg xsl ?_; refine bR [.tmp 2] [] ?_)
      all_goals first | exact ⟨rfl, rfl⟩ | exact ⟨congrArg Value.bool (by first | (simp; done) | (simp; omega)), rfl⟩
  · rw [decide_eq_false hl, Bool.false_and]
    (refine SC_intro Tryz.func135 rfl (by kernel_rfl) (by rw [Tryz.ntmps135]; exact Nat.le_of_ble_eq_true rfl) ?_; simp only [Tryz.ntmps135, argE, Nat.reduceAdd])
    
    repeat' (first | (apply RW.q1; (first | (apply q_lenb; exact rfl) | exact qt)) | (apply RW.qg; exact gvx; refine hgx tst ?_; intro hg hg'; (first | (apply q_lenb; exact evgx) | exact qu)) | refine xsg cts ?_ | (apply CW_condT; exact rfl; exact ar) | (apply CW_condF; exact rfl; exact ar) | ((first | apply RW.s1 | apply RW.s0); exact gva) | (refine hK _ _ ?_; clear hK; refine xsg xsl ?_) | ((first | apply RW.a1 | apply RW.a0 | (apply RW.at; exact gva)); (first | (apply gw_callE (f := 147); exact evx; exact go147; intro G hG; exact hN G) | (apply gw_asg; exact rfl) | (fail))) | (apply CW_region; intro K hK) | (apply CW_condX; exact rfl; exact tst; exact tst; all_goals (intro hq hc; try exact no)))
    all_goals (first | (exfalso; omega) | skip)
    all_goals (refine CW_ret ?_; refine xsg xsl ?_; refine bR [.tmp 2] [] ?_)
    all_goals first | exact ⟨rfl, rfl⟩ | exact ⟨congrArg Value.bool (by first | (simp; done) | (simp; omega)), rfl⟩
theorem two_len (n : Nat) : (Lib.decDigits (2 ^ n)).length ≤ n + 1 := by
  refine (dec_len_lt _ n).1 ?_
  have h1 : 2 ^ n ≤ 10 ^ n := Nat.pow_le_pow_left (by decide) n
  have h2 : (10 : Nat) ^ n < 10 ^ (n + 1) := Nat.pow_lt_pow_right (by decide) (Nat.lt_succ_self n)
  omega
theorem two_spec (n : Nat) (H : Hp) (hn : n ≤ 100000) : SC Tryz.prog 149 [.int .i64 (n : Nat)] H [] (fun v M => v = .string (bstr (Lib.decDigits (2 ^ n))) ∧ M = []) := by
  have hl := two_len n
  have hP := fun G => rPower_spec 2 n G (by decide) (by omega) (by omega)
  rw [show Lib.decDigits 2 = [50] by rw [dec_small (by decide)]; rfl] at hP
  (refine SC_intro Tryz.func149 rfl (by kernel_rfl) (by rw [Tryz.ntmps149]; exact Nat.le_of_ble_eq_true rfl) ?_; simp only [Tryz.ntmps149, argE, Nat.reduceAdd])
  repeat' (first | (apply RW.q1; exact qt) | refine xsg cts ?_ | (apply CW_condT; exact rfl; exact ar) | (apply CW_condF; exact rfl; exact ar) | (refine hK _ _ ?_; clear hK; refine xsg xsl ?_) | ((first | apply RW.a1 | apply RW.a0); (first | (apply gw_callE (f := 69); exact rfl; exact go69; intro G hG; exact hP G) | (apply gw_asg; exact rfl) | (fail))) | (apply CW_region; intro K hK) | (apply CW_condX; exact rfl; exact tst; exact tst; all_goals (intro hq hc; try exact no)))
  (refine CW_ret ?_; refine xsg xsl ?_; refine bR [.tmp 2] [] ?_)
  exact ⟨rfl, rfl⟩
def scl (A B : Nat) (e : Int) : Nat × Nat := if 0 ≤ e then (A, B * 2 ^ e.toNat) else (A * 2 ^ (-e).toNat, B)
abbrev numV (neg : Bool) (A B : Nat) : Value := .agg #[.bool neg, .string (bstr (Lib.decDigits A)), .string (bstr (Lib.decDigits B))]
theorem scaled_spec (neg : Bool) (A B : Nat) (e : Int) (H : Hp) (hA : (Lib.decDigits A).length ≤ 10000) (hB : (Lib.decDigits B).length ≤ 10000) (he : -100000 ≤ e ∧ e ≤ 100000) :
    SC Tryz.prog 137 [numV neg A B, .int .i64 e] H [] (fun v M => v = .tuple #[.string (bstr (Lib.decDigits (scl A B e).1)), .string (bstr (Lib.decDigits (scl A B e).2))] ∧ M = []) := by
  unfold scl
  by_cases h0 : 0 ≤ e
  · rw [if_pos h0]
    obtain ⟨n, rfl⟩ : ∃ n : Nat, e = (n : Int) := ⟨e.toNat, by omega⟩
    have hl := two_len n
    have hT := fun G => two_spec n G (by omega)
    have hM := fun G => rTimes_spec B (2 ^ n) G (by omega) (by omega)
    rw [Int.toNat_natCast]
    (refine SC_intro Tryz.func137 rfl (by kernel_rfl) (by rw [Tryz.ntmps137]; exact Nat.le_of_ble_eq_true rfl) ?_; simp only [Tryz.ntmps137, argE, Nat.reduceAdd])
    
    repeat' (first | ((first | apply RW.q1 | (apply DW.q1; exact rfl)); exact qt) | refine xsg cts ?_ | (apply CW_condT; exact rfl; exact ar) | (apply CW_condF; exact rfl; exact ar) | (refine hK _ _ ?_; clear hK; refine xsg xsl ?_) | (refine xsg ahd ?_; (first | ((first | apply gw_callE (f := 149) | apply gx_callE (f := 149)); exact rfl; exact go149; intro G hG; exact hT G) | ((first | apply gw_callE (f := 86) | apply gx_callE (f := 86)); exact rfl; exact go86; intro G hG; exact hM G) | (apply gw_asg; exact rfl) | ((first | apply gw_box | apply gx_box); exact rfl; exact rfl; intro b) | (fail))) | (apply CW_region; intro K hK) | (apply CW_condX; exact rfl; exact tst; exact tst; all_goals (intro hq hc; try exact no)) | (refine CW_draw (id := 2) [5, 6] [(0, false), (1, false), (2, false), (3, false), (4, false), (5, true), (6, true), (7, false), (8, false)] mixed (by kernel_rfl) (fun K hK => ?_)) | (refine CW_draw (id := 3) [4, 5] [(0, false), (1, false), (2, false), (3, false), (6, false), (7, false), (4, true), (5, true), (8, false), (9, false)] mixed (by kernel_rfl) (fun K hK => ?_)))
    all_goals (refine CW_ret ?_; refine xsg xsl ?_; refine bR [.tmp 4, .tmp 5] [] ?_)
    all_goals exact ⟨rfl, rfl⟩
  · rw [if_neg h0]
    obtain ⟨n, hn⟩ : ∃ n : Nat, -e = (n : Int) := ⟨(-e).toNat, by omega⟩
    have hl := two_len n
    have hT := fun G => two_spec n G (by omega)
    have hM := fun G => rTimes_spec A (2 ^ n) G (by omega) (by omega)
    rw [hn, Int.toNat_natCast]
    rw [← hn, show -e = 0 - e by omega] at hT
    (refine SC_intro Tryz.func137 rfl (by kernel_rfl) (by rw [Tryz.ntmps137]; exact Nat.le_of_ble_eq_true rfl) ?_; simp only [Tryz.ntmps137, argE, Nat.reduceAdd])
    
    repeat' (first | ((first | apply RW.q1 | (apply DW.q1; exact rfl)); exact qt) | refine xsg cts ?_ | (apply CW_condT; exact rfl; exact ar) | (apply CW_condF; exact rfl; exact ar) | (refine hK _ _ ?_; clear hK; refine xsg xsl ?_) | (refine xsg ahd ?_; (first | ((first | apply gw_callE (f := 149) | apply gx_callE (f := 149)); exact rfl; exact go149; intro G hG; exact hT G) | ((first | apply gw_callE (f := 86) | apply gx_callE (f := 86)); exact rfl; exact go86; intro G hG; exact hM G) | (apply gw_asg; exact rfl) | ((first | apply gw_box | apply gx_box); exact rfl; exact rfl; intro b) | (fail))) | (apply CW_region; intro K hK) | (apply CW_condX; exact rfl; exact tst; exact tst; all_goals (intro hq hc; try exact no)) | (refine CW_draw (id := 2) [5, 6] [(0, false), (1, false), (2, false), (3, false), (4, false), (5, true), (6, true), (7, false), (8, false)] mixed (by kernel_rfl) (fun K hK => ?_)) | (refine CW_draw (id := 3) [4, 5] [(0, false), (1, false), (2, false), (3, false), (6, false), (7, false), (4, true), (5, true), (8, false), (9, false)] mixed (by kernel_rfl) (fun K hK => ?_)))
    all_goals (refine CW_ret ?_; refine xsg xsl ?_; refine bR [.tmp 4, .tmp 5] [] ?_)
    all_goals exact ⟨rfl, rfl⟩
def BelP (A B : Nat) (e : Int) : Prop := (scl A B (e + 53)).1 < (scl A B (e + 53)).2
instance (A B : Nat) (e : Int) : Decidable (BelP A B e) := by unfold BelP; infer_instance
end Go.Proofs.YtnhbipachchlgaaGreat.HL
namespace Go.Proofs.YtnhbipachchlgaaGreat.HL
open Go
attribute [local irreducible] goFn thenS blockS bodyS CW RW DW GW QW NW SC Pick Picks SubL Rd NN ResOk SrcW subE hops hseg AW hgen HC qv bldv
set_option linter.unusedVariables false
set_option linter.unusedSimpArgs false

theorem mul_dec_len {A B k l : Nat} (hA : (Lib.decDigits A).length ≤ k + 1) (hB : (Lib.decDigits B).length ≤ l + 1) : (Lib.decDigits (A * B)).length ≤ k + l + 2 := by
  refine (dec_len_lt _ (k + l + 1)).1 ?_
  have h1 := (dec_len_lt A k).2 hA
  have h2 := (dec_len_lt B l).2 hB
  have h3 := Nat.mul_lt_mul'' h1 h2
  rw [← Nat.pow_add] at h3
  rw [show k + l + 1 + 1 = k + 1 + (l + 1) by omega]
  exact h3
theorem scl_len (A B : Nat) (e : Int) (hA : (Lib.decDigits A).length ≤ 10000) (hB : (Lib.decDigits B).length ≤ 10000) (he : -100000 ≤ e ∧ e ≤ 100000) : (Lib.decDigits (scl A B e).1).length ≤ 200000 ∧ (Lib.decDigits (scl A B e).2).length ≤ 200000 := by
  have hm : ∀ (X k : Nat), (Lib.decDigits X).length ≤ 10000 → k ≤ 100000 → (Lib.decDigits (X * 2 ^ k)).length ≤ 200000 := by
    intro X k hX hk
    have := mul_dec_len (k := 9999) (l := k) hX (two_len k)
    omega
  unfold scl
  split
  · exact ⟨Nat.le_trans hA (by decide), hm B _ hB (by omega)⟩
  · exact ⟨hm A _ hA (by omega), Nat.le_trans hB (by decide)⟩
theorem below_spec (neg : Bool) (A B : Nat) (e : Int) (H : Hp) (hA : (Lib.decDigits A).length ≤ 10000) (hB : (Lib.decDigits B).length ≤ 10000) (he : -50000 ≤ e ∧ e ≤ 50000) :
    SC Tryz.prog 148 [numV neg A B, .int .i64 (e + 53)] H [] (fun v M => v = .bool (decide (BelP A B e)) ∧ M = []) := by
  obtain ⟨h1, h2⟩ := scl_len A B (e + 53) hA hB (by omega)
  have hS := fun G => scaled_spec neg A B (e + 53) G hA hB (by omega)
  have hC := fun G => rCompare_spec (scl A B (e + 53)).1 (scl A B (e + 53)).2 G (by omega) (by omega)
  by_cases h : BelP A B e
  · rw [decide_eq_true h]
    have e1 : cmpN3 (scl A B (e + 53)).1 (scl A B (e + 53)).2 = -1 := if_pos h
    rw [e1] at hC
    (refine SC_intro Tryz.func148 rfl (by kernel_rfl) (by rw [Tryz.ntmps148]; exact Nat.le_of_ble_eq_true rfl) ?_; simp only [Tryz.ntmps148, argE, Nat.reduceAdd])
    repeat' (first | (apply RW.q1; exact qt) | refine xsg cts ?_ | (apply CW_condT; exact rfl; exact ar) | (apply CW_condF; exact rfl; exact ar) | (refine hK _ _ ?_; clear hK; refine xsg xsl ?_) | ((first | apply RW.a1 | apply RW.a0); (first | (apply gw_callE (f := 137); exact rfl; exact go137; intro G hG; exact hS G) | (apply gw_callE (f := 85); exact rfl; exact go85; intro G hG; exact hC G) | (apply gw_asg; exact rfl) | (apply gw_box; exact rfl; exact rfl; intro b) | (fail))) | (apply CW_region; intro K hK) | (apply CW_condX; exact rfl; exact tst; exact tst; all_goals (intro hq hc; try exact nx)))
    (refine CW_ret ?_; refine xsg xsl ?_; refine bR [.tmp 4] [] ?_)
    exact ⟨rfl, rfl⟩
  · rw [decide_eq_false h]
    have e1 : ¬ cmpN3 (scl A B (e + 53)).1 (scl A B (e + 53)).2 < 0 := by
      unfold cmpN3
      unfold BelP at h
      rw [if_neg h]
      split <;> decide
    (refine SC_intro Tryz.func148 rfl (by kernel_rfl) (by rw [Tryz.ntmps148]; exact Nat.le_of_ble_eq_true rfl) ?_; simp only [Tryz.ntmps148, argE, Nat.reduceAdd])
    repeat' (first | (apply RW.q1; exact qt) | refine xsg cts ?_ | (apply CW_condT; exact rfl; exact ar) | (apply CW_condF; exact rfl; exact ar) | (refine hK _ _ ?_; clear hK; refine xsg xsl ?_) | ((first | apply RW.a1 | apply RW.a0); (first | (apply gw_callE (f := 137); exact rfl; exact go137; intro G hG; exact hS G) | (apply gw_callE (f := 85); exact rfl; exact go85; intro G hG; exact hC G) | (apply gw_asg; exact rfl) | (apply gw_box; exact rfl; exact rfl; intro b) | (fail))) | (apply CW_region; intro K hK) | (apply CW_condX; exact rfl; exact tst; exact tst; all_goals (intro hq hc; try exact nx)))
    (refine CW_ret ?_; refine xsg xsl ?_; refine bR [.tmp 4] [] ?_)
    exact ⟨congrArg Value.bool (decide_eq_false e1), rfl⟩
def SizeP (A B : Nat) (e : Int) : Prop := -1074 ≤ e ∧ e ≤ 5000 ∧ BelP A B e ∧ (e = -1074 ∨ ¬ BelP A B (e - 1))
theorem bel_pow {A B n m : Nat} (h : A < 10 ^ n) (hB : 0 < B) (hm : 4 * n ≤ m) : A < B * 2 ^ m := by
  have h2 : 10 ^ n ≤ (2 ^ 4) ^ n := Nat.pow_le_pow_left (by decide) n
  rw [← Nat.pow_mul] at h2
  have h3 : 2 ^ (4 * n) ≤ 2 ^ m := Nat.pow_le_pow_right (by decide) hm
  have h4 : 1 * 2 ^ m ≤ B * 2 ^ m := Nat.mul_le_mul_right _ hB
  rw [Nat.one_mul] at h4
  exact Nat.lt_of_lt_of_le h (Nat.le_trans h2 (Nat.le_trans h3 h4))
theorem bel_any {A B n : Nat} {E : Int} (hA : (Lib.decDigits A).length ≤ n + 1) (hB : 0 < B) (hE : ((4 * (n + 1) : Nat) : Int) ≤ E + 53) : BelP A B E := by
  unfold BelP scl
  rw [if_pos (by omega)]
  exact bel_pow ((dec_len_lt A n).2 hA) hB (by omega)
theorem bel_top {A B : Nat} (hA : (Lib.decDigits A).length ≤ 600) (hB : 0 < B) : BelP A B 5000 := bel_any (n := 599) hA hB (by decide)
theorem size_spec (neg : Bool) (A B : Nat) (H : Hp) (hA : (Lib.decDigits A).length ≤ 600) (hB : (Lib.decDigits B).length ≤ 600) (h0 : 0 < B) :
    SC Tryz.prog 136 [numV neg A B] H [] (fun v M => ∃ e, SizeP A B e ∧ v = .int .i64 e ∧ M = []) := by
  (refine SC_intro Tryz.func136 rfl (by kernel_rfl) (by rw [Tryz.ntmps136]; exact Nat.le_of_ble_eq_true rfl) ?_; simp only [Tryz.ntmps136, argE, Nat.reduceAdd])
  
  repeat' (first | (apply RW.q1; exact qt) | refine xsg cts ?_ | (apply CW_condT; exact rfl; exact ar) | (apply CW_condF; exact rfl; exact ar) | (refine hK _ _ ?_; clear hK; refine xsg xsl ?_) | ((first | apply RW.a1 | apply RW.a0); (first | (apply gw_box (d := some 1); exact rfl; exact rfl; intro b1) | (apply gw_asg; exact rfl) | (apply gw_box; exact rfl; exact rfl; intro b) | (fail))) | (apply CW_region; intro K hK) | (apply CW_condX; exact rfl; exact tst; exact tst; all_goals (intro hq hc; try exact no)))
  have htop := bel_top hA h0
  refine CW_loop (fun mm l L => ∃ (lo hi : Int), mm = (hi - lo).toNat ∧ l = [(1, true, .pointer (some ⟨b1, 0, none⟩)), (3, true, .int .i64 lo), (4, true, .int .i64 hi)] ∧
      L = [.box b1 128 [.bool neg, .string (bstr (Lib.decDigits A)), .string (bstr (Lib.decDigits B))]] ∧ -1074 ≤ lo ∧ lo ≤ hi ∧ hi ≤ 5000 ∧ BelP A B hi ∧ (lo = -1074 ∨ ¬ BelP A B (lo - 1)))
    ⟨_, _, _, ⟨-1074, 5000, rfl, rfl, rfl, by omega, by omega, by omega, htop, .inl rfl⟩, by exact sbe, by exact sbl⟩ ?_
  rintro mm l L ⟨lo, hi, rfl, rfl, rfl, g1, g2, g3, g4, g5⟩
  clear htop
  by_cases hlt : lo < hi
  · obtain ⟨e, he⟩ : ∃ e, e = lo + (hi - lo) / 2 := ⟨_, rfl⟩
    have wqu : IntKind.i64.wrap ((hi - lo).tdiv 2) = (hi - lo) / 2 := by
      rw [Int.tdiv_eq_ediv_of_nonneg (by omega)]
      exact w_in (by simp only [inb]; omega)
    have wad : IntKind.i64.wrap (lo + (hi - lo) / 2) = e := by rw [← he]; exact w_in (by simp only [inb]; omega)
    have hBl := fun G => below_spec neg A B e G (by omega) (by omega) (by omega)
    by_cases hP : BelP A B e
    · rw [decide_eq_true hP] at hBl
      
      repeat' (first | (apply RW.q1; (first | (apply q_quo; exact rfl; exact rfl; decide; exact wqu) | (apply q_add; exact rfl; exact rfl; exact wad) | exact qt)) | refine xsg cts ?_ | (apply CW_condT; exact rfl; exact ar) | (apply CW_condF; exact rfl; exact ar) | (refine hK _ _ ?_; clear hK; refine xsg xsl ?_) | ((first | apply RW.a1 | apply RW.a0); (first | (apply gw_callE (f := 148); exact rfl; exact go148; intro G hG; exact hBl G) | (apply gw_asg; exact rfl) | (apply gw_box; exact rfl; exact rfl; intro b) | (fail))) | (apply CW_region; intro K hK) | (apply CW_condX; exact rfl; exact tst; exact tst; all_goals (intro hq hc; try exact no)))
      exact ⟨_, _, _, ⟨lo, e, rfl, rfl, rfl, by omega, by omega, by omega, hP, g5⟩, by exact sbe, by exact sbl, by omega⟩
    · rw [decide_eq_false hP] at hBl
      
      repeat' (first | (apply RW.q1; (first | (apply q_quo; exact rfl; exact rfl; decide; exact wqu) | (apply q_add; exact rfl; exact rfl; exact wad) | exact qt)) | refine xsg cts ?_ | (apply CW_condT; exact rfl; exact ar) | (apply CW_condF; exact rfl; exact ar) | (refine hK _ _ ?_; clear hK; refine xsg xsl ?_) | ((first | apply RW.a1 | apply RW.a0); (first | (apply gw_callE (f := 148); exact rfl; exact go148; intro G hG; exact hBl G) | (apply gw_asg; exact rfl) | (apply gw_box; exact rfl; exact rfl; intro b) | (fail))) | (apply CW_region; intro K hK) | (apply CW_condX; exact rfl; exact tst; exact tst; all_goals (intro hq hc; try exact no)))
      exact ⟨_, _, _, ⟨e + 1, hi, rfl, rfl, rfl, by omega, by omega, by omega, g4, .inr (by rw [show e + 1 - 1 = e by omega]; exact hP)⟩, by exact sbe, by exact sbl, by omega⟩
  · obtain rfl : lo = hi := by omega
    
    repeat' (first | (apply RW.q1; exact qt) | refine xsg cts ?_ | (apply CW_condT; exact rfl; exact ar) | (apply CW_condF; exact rfl; exact ar) | (refine hK _ _ ?_; clear hK; refine xsg xsl ?_) | ((first | apply RW.a1 | apply RW.a0); (first | (apply gw_asg; exact rfl) | (apply gw_box; exact rfl; exact rfl; intro b) | (fail))) | (apply CW_region; intro K hK) | (apply CW_condX; exact rfl; exact tst; exact tst; all_goals (intro hq hc; try exact no)))
    (refine CW_ret ?_; refine xsg xsl ?_; refine bR [.tmp 2] [] ?_)
    exact ⟨lo, ⟨by omega, by omega, g4, g5⟩, rfl, rfl⟩
theorem dv_take_le {s : List UInt8} (h : isDg s) (k : Nat) : dv (s.take k) ≤ dv s := by
  have h1 := dv_app (s.take k) (s.drop k)
  rw [List.take_append_drop] at h1
  have h2 : dv (s.take k) * 1 ≤ dv (s.take k) * 10 ^ (s.drop k).length := Nat.mul_le_mul_left _ (Nat.pow_pos (by decide))
  omega
theorem number_spec (N : Nat) (H : Hp) (hN : N < 9223372036854775808) :
    SC Tryz.prog 138 [.string (bstr (Lib.decDigits N))] H [] (fun v M => v = .int .u64 (N : Nat) ∧ M = []) := by
  obtain ⟨s, hs⟩ : ∃ s, s = Lib.decDigits N := ⟨_, rfl⟩
  have hd : isDg s := by rw [hs]; exact dec_isDg N
  have hv : dv s = N := by rw [hs]; exact dec_dv N
  have hl : s.length ≤ 20 := by
    rw [hs]
    exact (dec_len_lt N 19).1 (Nat.lt_trans hN (by decide))
  rw [← hs]
  (refine SC_intro Tryz.func138 rfl (by kernel_rfl) (by rw [Tryz.ntmps138]; exact Nat.le_of_ble_eq_true rfl) ?_; simp only [Tryz.ntmps138, argE, Nat.reduceAdd])
  
  repeat' (first | (apply RW.q1; exact qt) | refine xsg cts ?_ | (apply CW_condT; exact rfl; exact ar) | (apply CW_condF; exact rfl; exact ar) | (refine hK _ _ ?_; clear hK; refine xsg xsl ?_) | ((first | apply RW.a1 | apply RW.a0); (first | (apply gw_asg; exact rfl) | (fail))) | (apply CW_region; intro K hK) | (apply CW_condX; exact rfl; exact tst; exact tst; all_goals (intro hq hc; try exact no)))
  refine CW_loop (fun m l L => ∃ (k n : Nat), m = s.length - k ∧ l = [(0, true, .string (bstr s)), (3, true, .int .u64 (n : Nat)), (4, true, .int .i64 (k : Nat))] ∧ L = [] ∧ k ≤ s.length ∧ n = dv (s.take k))
    ⟨_, _, _, ⟨0, 0, rfl, rfl, rfl, by omega, rfl⟩, by exact sbe, by exact sbl⟩ ?_
  rintro m l L ⟨k, n, rfl, rfl, rfl, h1, h2⟩
  by_cases hk : k < s.length
  · obtain ⟨x, hx⟩ : ∃ c, s[k]? = some c := ⟨_, List.getElem?_eq_getElem hk⟩
    have hxd := hd x (List.mem_of_getElem? hx)
    have hn : dv (s.take (k + 1)) = n * 10 + (x.toNat - 48) := by rw [List.take_add_one, hx, h2]; exact dv_snoc _ _
    have hle := dv_take_le hd (k + 1)
    rw [hn, hv] at hle
    obtain ⟨n', hn'⟩ : ∃ n', n' = n * 10 + (x.toNat - 48) := ⟨_, rfl⟩
    have wmu : IntKind.u64.wrap (10 * (n : Int)) = ((10 * n : Nat) : Int) := by
      rw [show (10 * (n : Int)) = ((10 * n : Nat) : Int) by omega]; exact w_in (by simp only [inb]; omega)
    have wsu : IntKind.u8.wrap ((x.toNat : Int) - 48) = ((x.toNat - 48 : Nat) : Int) := by
      rw [show (x.toNat : Int) - 48 = ((x.toNat - 48 : Nat) : Int) by omega]; exact w_in (by simp only [inb]; omega)
    have wad : IntKind.u64.wrap (((10 * n : Nat) : Int) + ((x.toNat - 48 : Nat) : Int)) = (n' : Int) := by
      rw [show ((10 * n : Nat) : Int) + ((x.toNat - 48 : Nat) : Int) = (n' : Int) by omega]; exact w_in (by simp only [inb]; omega)
    
    repeat' (first | (apply RW.q1; (first | (apply q_lenb; exact rfl) | (apply q_ixc x; exact rfl; exact rfl; exact hx; omega) | (apply q_mul; exact rfl; exact rfl; exact wmu) | (apply q_sub; exact rfl; exact rfl; exact wsu) | (apply q_add; exact rfl; exact rfl; exact wad) | exact qt)) | refine xsg cts ?_ | (apply CW_condT; exact rfl; exact ar) | (apply CW_condF; exact rfl; exact ar) | (refine hK _ _ ?_; clear hK; refine xsg xsl ?_) | ((first | apply RW.a1 | apply RW.a0); (first | (apply gw_asg; exact rfl) | (fail))) | (apply CW_region; intro K hK) | (apply CW_condX; exact rfl; exact tst; exact tst; all_goals (intro hq hc; try exact no)))
    exact ⟨_, _, _, ⟨k + 1, n', rfl, rfl, rfl, by omega, by rw [hn, hn']⟩, by exact sbe, by exact sbl, by omega⟩
  · rw [List.take_of_length_le (by omega), hv] at h2
    subst h2
    
    repeat' (first | (apply RW.q1; (first | (apply q_lenb; exact rfl) | exact qt)) | refine xsg cts ?_ | (apply CW_condT; exact rfl; exact ar) | (apply CW_condF; exact rfl; exact ar) | (refine hK _ _ ?_; clear hK; refine xsg xsl ?_) | ((first | apply RW.a1 | apply RW.a0); (first | (apply gw_asg; exact rfl) | (fail))) | (apply CW_region; intro K hK) | (apply CW_condX; exact rfl; exact tst; exact tst; all_goals (intro hq hc; try exact no)))
    (refine CW_ret ?_; refine xsg xsl ?_; refine bR [.tmp 2] [] ?_)
    exact ⟨rfl, rfl⟩
end Go.Proofs.YtnhbipachchlgaaGreat.HL
