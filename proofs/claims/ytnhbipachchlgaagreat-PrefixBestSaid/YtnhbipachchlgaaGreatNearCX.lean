/- NearC: RefO: the document's near and Near. Condition: the texts' lengths, which Go bounds. -/
import Derived.Test.YtnhbipachchlgaaGreatEngX
import Derived.Test.YtnhbipachchlgaaGreatNearBX
import Derived.Test.YtnhbipachchlgaaGreatPartsBX
namespace Go.Proofs.YtnhbipachchlgaaGreat.HL
open Go
attribute [local irreducible] goFn thenS blockS bodyS CW RW DW GW QW NW SC Pick Picks SubL Rd NN ResOk SrcW subE hops hseg AW hgen HC qv bldv
set_option maxHeartbeats 8000000
set_option maxRecDepth 100000
set_option linter.unusedVariables false
set_option linter.unusedSimpArgs false

theorem near_0 (neg : Bool) (A B : Nat) (H : Hp) (h0 : A = 0) : SC Tryz.prog 114 [numV neg A B] H [] (fun v M => v = bitV (sgnB neg) true ∧ M = []) := by
  have hA : Lib.decDigits A = [48] := by rw [h0]; exact dec_zero
  cases neg with
  | true =>
    (refine SC_intro Tryz.func114 rfl (by kernel_rfl) (by rw [Tryz.ntmps114]; exact Nat.le_of_ble_eq_true rfl) ?_; simp only [Tryz.ntmps114, argE, Nat.reduceAdd])
    
    repeat' (first | (apply RW.q1; (first | (apply q_sbeqT (b := [48]); exact rfl; exact rfl; exact hA) | exact qt)) | (apply RW.qg; exact gvx; refine hgx tst ?_; intro hg hg'; (first | (apply q_sbeqT (b := [48]); exact evgx; exact rfl; exact hA) | exact qu)) | refine xsg cts ?_ | (apply CW_condT; exact rfl; exact ar) | (apply CW_condF; exact rfl; exact ar) | ((first | apply RW.s1 | apply RW.s0); exact gva) | (refine hK _ _ ?_; clear hK; refine xsg xsl ?_) | ((first | apply RW.a1 | apply RW.a0 | (apply RW.at; exact gva)); (first | (apply gw_asg; exact rfl) | (apply gw_box; exact rfl; exact rfl; intro b) | (fail))) | (apply CW_region; intro K hK) | (apply CW_condX; exact rfl; exact tst; exact tst; all_goals (intro hq hc; try exact no)))
    all_goals (refine CW_ret ?_; refine xsg xsl ?_; refine bR [.tmp 2, .tmp 3] [] ?_)
    all_goals exact ⟨rfl, rfl⟩
  | false =>
    (refine SC_intro Tryz.func114 rfl (by kernel_rfl) (by rw [Tryz.ntmps114]; exact Nat.le_of_ble_eq_true rfl) ?_; simp only [Tryz.ntmps114, argE, Nat.reduceAdd])
    
    repeat' (first | (apply RW.q1; (first | (apply q_sbeqT (b := [48]); exact rfl; exact rfl; exact hA) | exact qt)) | (apply RW.qg; exact gvx; refine hgx tst ?_; intro hg hg'; (first | (apply q_sbeqT (b := [48]); exact evgx; exact rfl; exact hA) | exact qu)) | refine xsg cts ?_ | (apply CW_condT; exact rfl; exact ar) | (apply CW_condF; exact rfl; exact ar) | ((first | apply RW.s1 | apply RW.s0); exact gva) | (refine hK _ _ ?_; clear hK; refine xsg xsl ?_) | ((first | apply RW.a1 | apply RW.a0 | (apply RW.at; exact gva)); (first | (apply gw_asg; exact rfl) | (apply gw_box; exact rfl; exact rfl; intro b) | (fail))) | (apply CW_region; intro K hK) | (apply CW_condX; exact rfl; exact tst; exact tst; all_goals (intro hq hc; try exact no)))
    all_goals (refine CW_ret ?_; refine xsg xsl ?_; refine bR [.tmp 2, .tmp 3] [] ?_)
    all_goals exact ⟨rfl, rfl⟩
theorem near_big (neg : Bool) (A B : Nat) (e : Int) (H : Hp) (h0 : 0 < A) (he2 : 971 < e) (hsz : ∀ H : Hp, SC Tryz.prog 136 [numV neg A B] H [] (fun v M => v = .int .i64 e ∧ M = [])) :
    SC Tryz.prog 114 [numV neg A B] H [] (fun v M => v = bitV 0 false ∧ M = []) := by
  have hA0 := dec_nz h0
  cases neg with
  | true =>
    (refine SC_intro Tryz.func114 rfl (by kernel_rfl) (by rw [Tryz.ntmps114]; exact Nat.le_of_ble_eq_true rfl) ?_; simp only [Tryz.ntmps114, argE, Nat.reduceAdd])
    
    repeat' (first | (apply RW.q1; (first | (apply q_sbeqF (b := [48]); exact rfl; exact rfl; exact hA0) | exact qt)) | (apply RW.qg; exact gvx; refine hgx tst ?_; intro hg hg'; (first | (apply q_sbeqF (b := [48]); exact evgx; exact rfl; exact hA0) | exact qu)) | refine xsg cts ?_ | (apply CW_condT; exact rfl; exact ar) | (apply CW_condF; exact rfl; exact ar) | ((first | apply RW.s1 | apply RW.s0); exact gva) | (refine hK _ _ ?_; clear hK; refine xsg xsl ?_) | ((first | apply RW.a1 | apply RW.a0 | (apply RW.at; exact gva)); (first | (apply gw_callE (f := 136); exact evx; exact go136; intro G hG; exact hsz G) | (apply gw_asg; exact rfl) | (apply gw_box; exact rfl; exact rfl; intro b) | (fail))) | (apply CW_region; intro K hK) | (apply CW_condX; exact rfl; exact tst; exact tst; all_goals (intro hq hc; try exact no)))
    all_goals (refine CW_ret ?_; refine xsg xsl ?_; refine bR [.tmp 2, .tmp 3] [] ?_)
    all_goals exact ⟨rfl, rfl⟩
  | false =>
    (refine SC_intro Tryz.func114 rfl (by kernel_rfl) (by rw [Tryz.ntmps114]; exact Nat.le_of_ble_eq_true rfl) ?_; simp only [Tryz.ntmps114, argE, Nat.reduceAdd])
    
    repeat' (first | (apply RW.q1; (first | (apply q_sbeqF (b := [48]); exact rfl; exact rfl; exact hA0) | exact qt)) | (apply RW.qg; exact gvx; refine hgx tst ?_; intro hg hg'; (first | (apply q_sbeqF (b := [48]); exact evgx; exact rfl; exact hA0) | exact qu)) | refine xsg cts ?_ | (apply CW_condT; exact rfl; exact ar) | (apply CW_condF; exact rfl; exact ar) | ((first | apply RW.s1 | apply RW.s0); exact gva) | (refine hK _ _ ?_; clear hK; refine xsg xsl ?_) | ((first | apply RW.a1 | apply RW.a0 | (apply RW.at; exact gva)); (first | (apply gw_callE (f := 136); exact evx; exact go136; intro G hG; exact hsz G) | (apply gw_asg; exact rfl) | (apply gw_box; exact rfl; exact rfl; intro b) | (fail))) | (apply CW_region; intro K hK) | (apply CW_condX; exact rfl; exact tst; exact tst; all_goals (intro hq hc; try exact no)))
    all_goals (refine CW_ret ?_; refine xsg xsl ?_; refine bR [.tmp 2, .tmp 3] [] ?_)
    all_goals exact ⟨rfl, rfl⟩
theorem bel_up {A B : Nat} {e : Int} (h : BelP A B e) : BelP A B (e + 1) := by
  unfold BelP scl at *
  have hp : ∀ k, 0 < 2 ^ k := fun k => Nat.pow_pos (by decide)
  by_cases h1 : 0 ≤ e + 53
  · rw [if_pos h1] at h
    rw [if_pos (by omega)]
    have h2 : B * 2 ^ (e + 53).toNat ≤ B * 2 ^ (e + 1 + 53).toNat := Nat.mul_le_mul_left _ (Nat.pow_le_pow_right (by decide) (by omega))
    simp only at h ⊢
    omega
  · rw [if_neg h1] at h
    by_cases h2 : 0 ≤ e + 1 + 53
    · rw [if_pos h2]
      have h3 : A * 1 ≤ A * 2 ^ (-(e + 53)).toNat := Nat.mul_le_mul_left _ (hp _)
      have h4 : B * 1 ≤ B * 2 ^ (e + 1 + 53).toNat := Nat.mul_le_mul_left _ (hp _)
      simp only at h ⊢
      omega
    · rw [if_neg h2]
      have h3 : A * 2 ^ (-(e + 1 + 53)).toNat ≤ A * 2 ^ (-(e + 53)).toNat := Nat.mul_le_mul_left _ (Nat.pow_le_pow_right (by decide) (by omega))
      simp only at h ⊢
      omega
theorem bel_le {A B : Nat} {e : Int} (h : BelP A B e) : ∀ k : Nat, BelP A B (e + k)
  | 0 => by rw [show e + ((0 : Nat) : Int) = e by omega]; exact h
  | k + 1 => by
    have := bel_up (bel_le h k)
    rw [show e + ((k + 1 : Nat) : Int) = e + (k : Int) + 1 by omega]; exact this
theorem size_one {A B : Nat} {e f : Int} (h : SizeP A B e) (g : SizeP A B f) : e = f := by
  have key : ∀ {e f : Int}, SizeP A B e → SizeP A B f → ¬ e < f := by
    rintro e f ⟨h1, h2, h3, h4⟩ ⟨g1, g2, g3, g4⟩ hlt
    rcases g4 with g4 | g4
    · omega
    · obtain ⟨k, hk⟩ : ∃ k : Nat, f - 1 = e + k := ⟨(f - 1 - e).toNat, by omega⟩
      exact g4 (hk ▸ bel_le h3 k)
  have a := key h g
  have b := key g h
  omega
theorem near_spec (neg : Bool) (A B : Nat) (H : Hp) (hA : (Lib.decDigits A).length ≤ 600) (hB : (Lib.decDigits B).length ≤ 600) (hB0 : 0 < B) :
    SC Tryz.prog 114 [numV neg A B] H [] (fun v M => NearR neg A B v ∧ M = []) := by
  rcases Nat.eq_zero_or_pos A with h0 | h0
  · exact (near_0 neg A B H h0).mono fun v M h => ⟨.inl ⟨h0, h.1⟩, h.2⟩
  obtain ⟨e, hS⟩ : ∃ e, SizeP A B e := by
    have key : ∀ k : Nat, BelP A B (-1074 + k) → ∃ e, e ≤ -1074 + (k : Int) ∧ -1074 ≤ e ∧ BelP A B e ∧ (e = -1074 ∨ ¬ BelP A B (e - 1)) := by
      intro k
      induction k with
      | zero => intro h; exact ⟨-1074, by omega, by omega, by rw [show (-1074 : Int) + ((0 : Nat) : Int) = -1074 by omega] at h; exact h, .inl rfl⟩
      | succ k ih =>
        intro h
        by_cases g : BelP A B (-1074 + k)
        · obtain ⟨e, h1, h2⟩ := ih g
          exact ⟨e, by omega, h2⟩
        · exact ⟨-1074 + ((k + 1 : Nat) : Int), by omega, by omega, h, .inr (by rw [show (-1074 : Int) + ((k + 1 : Nat) : Int) - 1 = -1074 + k by omega]; exact g)⟩
    have htop := bel_top hA hB0
    obtain ⟨e, h1, h2, h3, h4⟩ := key 6074 (by rw [show (-1074 : Int) + ((6074 : Nat) : Int) = 5000 by omega]; exact htop)
    exact ⟨e, h2, by omega, h3, h4⟩
  have hsz : ∀ H : Hp, SC Tryz.prog 136 [numV neg A B] H [] (fun v M => v = .int .i64 e ∧ M = []) := fun H =>
    (size_spec neg A B H hA hB hB0).mono fun v M ⟨e', h1, h2, h3⟩ => ⟨by rw [h2, size_one h1 hS], h3⟩
  by_cases he : 971 < e
  · exact (near_big neg A B e H h0 he hsz).mono fun v M h => ⟨.inr ⟨h0, e, hS, by rw [if_pos he]; exact h.1⟩, h.2⟩
  obtain ⟨hq, hb0⟩ := quo_lt hB0 hS.2.2.1
  have fin : ∀ {v : Value} {M : List Res}, v = tailV neg e (rnd (scl A B e).1 (scl A B e).2) ∧ M = [] → NearR neg A B v ∧ M = [] := fun h => ⟨.inr ⟨h0, e, hS, by rw [if_neg he]; exact h.1⟩, h.2⟩
  generalize ha : (scl A B e).1 = a at *
  generalize hb : (scl A B e).2 = b at *
  obtain ⟨m, hm⟩ : ∃ m, m = rnd a b := ⟨_, rfl⟩
  rw [← hm] at fin
  have hm1 : rnd a b ≤ a / b + 1 := by unfold rnd; split <;> omega
  have he1 := hS.1
  by_cases u1 : b < 2 * (a % b)
  · by_cases t3 : m < 4503599627370496
    · exact (near_u1lo neg A B a b m e H hA hB h0 hB0 he1 he hsz ha.symm hb.symm hb0 hq hm u1 t3).mono fun v M h => fin h
    · exact (near_u1hi neg A B a b m e H hA hB h0 hB0 he1 he hsz ha.symm hb.symm hb0 hq hm u1 t3).mono fun v M h => fin h
  by_cases u2 : 2 * (a % b) = b ∧ a / b % 2 = 1
  · by_cases t3 : m < 4503599627370496
    · exact (near_u2lo neg A B a b m e H hA hB h0 hB0 he1 he hsz ha.symm hb.symm hb0 hq hm u2 t3).mono fun v M h => fin h
    · exact (near_u2hi neg A B a b m e H hA hB h0 hB0 he1 he hsz ha.symm hb.symm hb0 hq hm u2 t3).mono fun v M h => fin h
  by_cases u3 : 2 * (a % b) = b
  · by_cases t3 : m < 4503599627370496
    · exact (near_d1lo neg A B a b m e H hA hB h0 hB0 he1 he hsz ha.symm hb.symm hb0 hq hm ⟨u3, fun g => u2 ⟨u3, g⟩⟩ t3).mono fun v M h => fin h
    · exact (near_d1hi neg A B a b m e H hA hB h0 hB0 he1 he hsz ha.symm hb.symm hb0 hq hm ⟨u3, fun g => u2 ⟨u3, g⟩⟩ t3).mono fun v M h => fin h
  · by_cases t3 : m < 4503599627370496
    · exact (near_d2lo neg A B a b m e H hA hB h0 hB0 he1 he hsz ha.symm hb.symm hb0 hq hm (by omega) t3).mono fun v M h => fin h
    · exact (near_d2hi neg A B a b m e H hA hB h0 hB0 he1 he hsz ha.symm hb.symm hb0 hq hm (by omega) t3).mono fun v M h => fin h
theorem bitV_of {neg : Bool} {A B : Nat} {v : Value} (h : NearR neg A B v) : ∃ b ok, v = bitV b ok := by
  rcases h with ⟨_, h⟩ | ⟨_, e, _, h⟩
  · exact ⟨_, _, h⟩
  · unfold tailV at h
    split at h
    · exact ⟨_, _, h⟩
    · split at h
      · split at h <;> exact ⟨_, _, h⟩
      · split at h
        · exact ⟨_, _, h⟩
        · exact ⟨_, _, h⟩
theorem ext_fromF : ExtIs Tryz.prog 115 Extern.MathFloatBits.float64frombits := ⟨Tryz.f115, Tryz.func115, by kernel_rfl, by kernel_rfl, by kernel_rfl, by kernel_rfl⟩
theorem rNear_no (n d : List UInt8) (hn : (n.length : Int) ≤ 9223372036854775807) (hd : (d.length : Int) ≤ 9223372036854775807) (h : readQ n d = none) (H : Hp) :
    SC Tryz.prog 84 [ratV n d] H [] (fun v M => v = .tuple #[.float .f64 0, .int .i64 3] ∧ M = []) := by
  have hO := fun G => of_no n d hn hd h G
  (refine SC_intro Tryz.func84 rfl (by kernel_rfl) (by rw [Tryz.ntmps84]; exact Nat.le_of_ble_eq_true rfl) ?_; simp only [Tryz.ntmps84, argE, Nat.reduceAdd])
  
  repeat' (first | (apply RW.q1; exact qt) | refine xsg cts ?_ | (apply CW_condT; exact rfl; exact ar) | (apply CW_condF; exact rfl; exact ar) | (refine hK _ _ ?_; clear hK; refine xsg xsl ?_) | ((first | apply RW.a1 | apply RW.a0); (first | (apply gw_call (f := 113); exact rfl; exact go113; intro G hG; refine SC.mono (hO G) ?_; rintro v M ⟨f1, x1, y1, rfl, rfl⟩; (try dsimp only [jL, jM])) | (apply gw_asg; exact rfl) | (apply gw_alloc; exact rfl; intro b) | (apply gw_box; exact rfl; exact rfl; intro b) | (refine gw_stx sto ?_) | (fail))) | (apply CW_region; intro K hK) | (apply CW_condX; exact rfl; exact tst; exact tst; all_goals (intro hq hc; try exact no)))
  all_goals (refine CW_ret ?_; refine xsg xsl ?_; refine bR [.tmp 2, .tmp 3] [] ?_)
  all_goals exact ⟨rfl, rfl⟩
theorem rNear_ok (n d : List UInt8) (a : Int) (q : Nat) (h : readQ n d = some (a, q)) (H : Hp) :
    SC Tryz.prog 84 [ratV n d] H [] (fun v M => ∃ (b : Nat) (ok : Bool), NearR (decide (a < 0)) a.natAbs q (bitV b ok) ∧ v = (if ok = true then .tuple #[.float .f64 b, .int .i64 0] else .tuple #[.float .f64 0, .int .i64 31]) ∧ M = []) := by
  obtain ⟨t1, t2, t3, t4, t5, t6⟩ := readQ_txt h
  have hO := fun G => of_ok n d a q h G
  have hN := fun G => near_spec (decide (a < 0)) a.natAbs q G t5 t6 t3
  (refine SC_intro Tryz.func84 rfl (by kernel_rfl) (by rw [Tryz.ntmps84]; exact Nat.le_of_ble_eq_true rfl) ?_; simp only [Tryz.ntmps84, argE, Nat.reduceAdd])
  
  repeat' (first | (apply RW.q1; exact qt) | refine xsg cts ?_ | (apply CW_condT; exact rfl; exact ar) | (apply CW_condF; exact rfl; exact ar) | (refine hK _ _ ?_; clear hK; refine xsg xsl ?_) | ((first | apply RW.a1 | apply RW.a0); (first | (apply gw_callE (f := 113); exact rfl; exact go113; intro G hG; exact hO G) | (apply gw_call (f := 114); exact rfl; exact go114; intro G hG; refine SC.mono (hN G) ?_; rintro v M ⟨hR, rfl⟩; (try dsimp only [jL, jM]); obtain ⟨b, ok, rfl⟩ := bitV_of hR; cases ok) | (apply gw_callx; exact rfl; exact ext_fromF; exact rfl) | (apply gw_asg; exact rfl) | (apply gw_alloc; exact rfl; intro b) | (apply gw_box; exact rfl; exact rfl; intro b) | (refine gw_stx sto ?_) | (fail))) | (apply CW_region; intro K hK) | (apply CW_condX; exact rfl; exact tst; exact tst; all_goals (intro hq hc; try exact no)))
  all_goals (refine CW_ret ?_; refine xsg xsl ?_; refine bR [.tmp 2, .tmp 3] [] ?_)
  · exact ⟨b, false, hR, rfl, rfl⟩
  · exact ⟨b, true, hR, rfl, rfl⟩
end Go.Proofs.YtnhbipachchlgaaGreat.HL
