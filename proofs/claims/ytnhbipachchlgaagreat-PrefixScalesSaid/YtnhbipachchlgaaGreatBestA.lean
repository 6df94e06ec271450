/- BestA: PfxK: the powers and products of the prefixes' factors. No condition. PfxW: a right number's own texts; a number brought back. Condition: none. PfxX: size and below answer. Condition: right numbers. PfxY: below answers. Condition: right numbers. -/
import Derived.Test.YtnhbipachchlgaaGreatPrefsA
import Derived.Test.YtnhbipachchlgaaGreatQuoB
import Derived.Test.YtnhbipachchlgaaGreatEng
namespace Go.Proofs.YtnhbipachchlgaaGreat.HL
open Go
attribute [local irreducible] goFn thenS blockS bodyS CW RW DW GW QW NW SC Pick Picks SubL Rd NN ResOk SrcW subE hops hseg AW hgen HC qv bldv
set_option linter.unusedVariables false
set_option linter.unusedSimpArgs false

theorem readQ_fac {x : Px} (hx : x ∈ pfx) : readQ (facN x) (facD x) = some ((powN (byP x) 1 x.pw : Int), powN 1 (byP x) x.pw) := by
  obtain ⟨h1, h2⟩ := byP_le x
  obtain ⟨a1, a2, a3, a4⟩ := fac_ok h1 h2 (pfx_pw x hx)
  exact readQ_dec a1 a2 a3 a4
theorem powN_pos {X Y : Nat} {n : Int} (hX : 0 < X) (hY : 0 < Y) : 0 < powN X Y n := by
  unfold powN
  split
  · exact Nat.pow_pos hY
  · exact Nat.pow_pos hX
theorem fn_same {z : Nat} (h : 0 < z) : fn (z : Int) (z : Int) = 1 ∧ fd (z : Int) (z : Int) = 1 := by
  unfold fn fd
  rw [Int.natAbs_natCast, Nat.gcd_self, Nat.div_self h]
  simp [sg]
theorem told_one : toldV 1 1 = .tuple #[ratV [49] [49], .int .i64 0] := by
  have h := told_dec (X := 1) (Y := 1) one_dec one_dec (by decide) (by decide)
  have e : fn ((1 : Nat) : Int) ((1 : Nat) : Int) = 1 ∧ fd ((1 : Nat) : Int) ((1 : Nat) : Int) = 1 := fn_same (by decide)
  rw [e.1, e.2] at h
  rw [h, dec_small (by decide)]
  rfl
/-- a factor times its other: one -/
theorem mulP_spec {x y : Px} (hx : x ∈ pfx) (hy : y ∈ pfx) (hb : x.bn = y.bn) (hp : y.pw = -x.pw) (H : Hp) :
    SC Tryz.prog 10 [ratV (facN x) (facD x), ratV (facN y) (facD y)] H [] (fun v M => v = .tuple #[ratV [49] [49], .int .i64 0] ∧ M = []) := by
  have hB : byP y = byP x := by unfold byP; rw [hb]
  have h0 : 0 < byP x := by have := (byP_le x).2; omega
  have h := mul_ok _ _ _ _ _ _ _ _ (readQ_fac hx) (readQ_fac hy) H
  rw [hB, hp] at h
  have e : (powN (byP x) 1 x.pw : Int) * (powN (byP x) 1 (-x.pw) : Int) = ((powN (byP x) 1 x.pw * powN (byP x) 1 (-x.pw) : Nat) : Int) := by rw [Int.natCast_mul]
  have e2 : (powN 1 (byP x) x.pw : Int) * (powN 1 (byP x) (-x.pw) : Int) = ((powN (byP x) 1 x.pw * powN (byP x) 1 (-x.pw) : Nat) : Int) := by
    rw [Int.natCast_mul]
    have hz := pfx_nz x hx
    unfold powN
    by_cases hn : x.pw < 0
    · rw [if_pos hn, if_pos hn, if_neg (by omega), if_neg (by omega), Int.natAbs_neg, Int.mul_comm]
    · rw [if_neg hn, if_neg hn, if_pos (by omega), if_pos (by omega), Int.natAbs_neg, Int.mul_comm]
  rw [e, e2] at h
  have hz := fn_same (Nat.mul_pos (powN_pos (n := x.pw) h0 (by decide : 0 < 1)) (powN_pos (n := -x.pw) h0 (by decide : 0 < 1)))
  rw [hz.1, hz.2, told_one] at h
  exact h
/-- a factor's power -/
theorem powQ_spec {y x : Px} (hy : y ∈ pfx) (hx : x ∈ pfx) (hb : x.bn = y.bn) (e : Int) (h0 : 0 < y.pw) (he : 0 < e) (he2 : e ≤ 10) (hp : x.pw = y.pw * e) (hX : powN (byP y) 1 y.pw ≤ 1024) (H : Hp) :
    SC Tryz.prog 64 [ratV (facN y) (facD y), .int .i64 e] H [] (fun v M => v = .tuple #[ratV (facN x) (facD x), .int .i64 0] ∧ M = []) := by
  have hB : byP y = byP x := by unfold byP; rw [hb]
  have hB0 : 0 < byP x := by have := (byP_le x).2; omega
  have hone : powN 1 (byP y) y.pw = 1 := by unfold powN; rw [if_neg (by omega), Nat.one_pow]
  have hpos : 0 < powN (byP y) 1 y.pw := powN_pos (by omega) (by decide)
  have hq := readQ_fac hy
  rw [hone] at hq
  have hbl := bl_mono hX hpos
  rw [bl_1024] at hbl
  have hb1 : bl 1 = 1 := by decide +kernel
  have hm : (max (bl (powN (byP y) 1 y.pw)) (bl 1) - 1) * e.natAbs ≤ 2400 := by
    rw [hb1]
    have : (max (bl (powN (byP y) 1 y.pw)) 1 - 1) * e.natAbs ≤ 10 * 10 := Nat.mul_le_mul (by omega) (by omega)
    omega
  have h := pow_ok _ _ _ _ e hq hpos (by omega) hm H
  have k1 : powN (powN (byP y) 1 y.pw) 1 e = powN (byP x) 1 x.pw := by
    unfold powN
    rw [if_neg (by omega), if_neg (by omega), hp, hB, if_neg (by have := Int.mul_pos h0 he; omega), Int.natAbs_mul, Nat.pow_mul]
  have k2 : powN 1 (powN (byP y) 1 y.pw) e = powN 1 (byP x) x.pw := by
    unfold powN
    rw [if_neg (by omega), hp, if_neg (by have := Int.mul_pos h0 he; omega), Nat.one_pow, Nat.one_pow]
  rw [k1, k2, fac_told hx] at h
  exact h
end Go.Proofs.YtnhbipachchlgaaGreat.HL
namespace Go.Proofs.YtnhbipachchlgaaGreat.HL
open Go
attribute [local irreducible] goFn thenS blockS bodyS CW RW DW GW QW NW SC Pick Picks SubL Rd NN ResOk SrcW subE hops hseg AW hgen HC qv bldv
set_option linter.unusedVariables false
set_option linter.unusedSimpArgs false

theorem whole_txt {s : List UInt8} {z : Int} (h : wholeZ s = some z) : s = decB z ∧ (Lib.decDigits z.natAbs).length ≤ 600 := by
  unfold wholeZ at h
  split at h
  · rename_i hr
    cases h
    rw [decB_nat, Int.natAbs_natCast, rightB_dec hr]
    exact ⟨rfl, (rightB_ok hr).2.2.2⟩
  · split at h
    · rename_i hh
      cases h
      obtain ⟨h1, h2, h3⟩ := hh
      have hd := rightB_dec h2
      rw [Int.natAbs_neg, Int.natAbs_natCast, hd]
      refine ⟨?_, (rightB_ok h2).2.2.2⟩
      unfold decB
      rw [if_pos (by omega), Int.natAbs_neg, Int.natAbs_natCast, hd]
      have : s = s.take 1 ++ s.drop 1 := (List.take_append_drop 1 s).symm
      rw [h1] at this
      exact this
    · cases h
theorem readQ_txt {n d : List UInt8} {a : Int} {q : Nat} (h : readQ n d = some (a, q)) : n = decB a ∧ d = Lib.decDigits q ∧ 0 < q ∧ a.natAbs.gcd q = 1 ∧ (Lib.decDigits a.natAbs).length ≤ 600 ∧ (Lib.decDigits q).length ≤ 600 := by
  unfold readQ at h
  cases hw : wholeZ n with
  | none => rw [hw] at h; cases h
  | some a' =>
    rw [hw] at h
    simp only at h
    split at h
    · rename_i hh
      cases h
      obtain ⟨k1, k2⟩ := whole_txt hw
      rw [rightB_dec hh.1]
      exact ⟨k1, rfl, by omega, hh.2.2, k2, (rightB_ok hh.1).2.2.2⟩
    · cases h
/-- a number told is its own texts -/
theorem told_back {n d : List UInt8} {a : Int} {q : Nat} (h : readQ n d = some (a, q)) : toldV a (q : Int) = .tuple #[ratV n d, .int .i64 0] := by
  obtain ⟨h1, h2, h3, _, h5, h6⟩ := readQ_txt h
  unfold toldV
  rw [den_pos h3, decB_nat, if_pos ⟨h5, h6⟩, ← h1, ← h2]
/-- one ratio, one lowest form -/
theorem fn_ratio {X Y a : Int} {q : Nat} (hY : 0 < Y) (hq : 0 < q) (hg : a.natAbs.gcd q = 1) (h : X * q = a * Y) : fn X Y = a ∧ fd X Y = (q : Int) := by
  have e : X.natAbs * q = a.natAbs * Y.natAbs := by
    have := congrArg Int.natAbs h
    rwa [Int.natAbs_mul, Int.natAbs_mul, Int.natAbs_natCast] at this
  have hd : q ∣ Y.natAbs := by
    have : q ∣ a.natAbs * Y.natAbs := ⟨X.natAbs, by rw [← e, Nat.mul_comm]⟩
    exact Nat.Coprime.dvd_of_dvd_mul_left (Nat.Coprime.symm hg) this
  obtain ⟨t, ht⟩ := hd
  have ht0 : 0 < t := by
    rcases Nat.eq_zero_or_pos t with h0 | h0
    · rw [h0, Nat.mul_zero] at ht; omega
    · exact h0
  have hX : X.natAbs = a.natAbs * t := by
    rw [ht, ← Nat.mul_assoc, Nat.mul_right_comm] at e
    exact Nat.eq_of_mul_eq_mul_right hq e
  have hgt : X.natAbs.gcd Y.natAbs = t := by
    rw [hX, ht, Nat.mul_comm a.natAbs, Nat.mul_comm q, Nat.gcd_mul_left, hg, Nat.mul_one]
  unfold fn fd
  rw [hgt, hX, ht, Nat.mul_div_cancel _ ht0, Nat.mul_div_cancel _ ht0]
  refine ⟨?_, rfl⟩
  rw [decide_eq_false (p := Y < 0) (by omega)]
  unfold sg
  by_cases hn : X < 0
  · have ha : a < 0 := by
      rcases Int.lt_trichotomy a 0 with g | g | g
      · exact g
      · subst g; simp at hX; omega
      · have h1 := Int.mul_pos g hY
        have h2 : X * q ≤ 0 := Int.mul_nonpos_of_nonpos_of_nonneg (by omega) (by omega)
        omega
    rw [decide_eq_true hn]
    simp only [bne_self_eq_false, Bool.bne_false, if_true]
    omega
  · have ha : 0 ≤ a := by
      rcases Int.lt_trichotomy a 0 with g | g | g
      · have h1 := Int.mul_neg_of_neg_of_pos g hY
        have h2 : 0 ≤ X * q := Int.mul_nonneg (by omega) (by omega)
        omega
      · omega
      · omega
    rw [decide_eq_false hn]
    simp only [bne_self_eq_false]
    rw [if_neg (by decide)]
    omega
end Go.Proofs.YtnhbipachchlgaaGreat.HL
namespace Go.Proofs.YtnhbipachchlgaaGreat.HL
open Go
attribute [local irreducible] goFn thenS blockS bodyS CW RW DW GW QW NW SC Pick Picks SubL Rd NN ResOk SrcW subE hops hseg AW hgen HC qv bldv
set_option linter.unusedVariables false
set_option linter.unusedSimpArgs false

theorem neg_txt {n d : List UInt8} {a : Int} {q : Nat} (h : readQ n d = some (a, q)) : toldV (-a) (q : Int) = .tuple #[ratV (decB (-a)) d, .int .i64 0] := by
  obtain ⟨h1, h2, h3, _, h5, h6⟩ := readQ_txt h
  unfold toldV
  rw [den_pos h3, decB_nat, Int.natAbs_neg, if_pos ⟨h5, h6⟩, ← h2]
theorem decB_abs (a : Int) : (decB a).length ≤ (Lib.decDigits a.natAbs).length + 1 := by
  unfold decB
  split
  · simp
  · omega
set_option maxHeartbeats 2000000 in
set_option maxRecDepth 100000 in
theorem size_some (n d tn td : List UInt8) (a : Int) (q : Nat) (h : readQ n d = some (a, q)) (htn : (tn.length : Int) ≤ 601) (htd : (td.length : Int) ≤ 601) : ∃ z : Int, ∀ H : Hp, SC Tryz.prog 21 [ratV n d, ratV tn td] H [] (fun v M => v = .int .i64 z ∧ M = []) := by
  obtain ⟨h1, h2, h3, _, h5, h6⟩ := readQ_txt h
  have hl1 := decB_abs a
  have hl2 := decB_abs (-a)
  rw [Int.natAbs_neg] at hl2
  rw [← h1] at hl1
  rw [← h2] at h6
  have hl3 := decB_abs 1
  have hl4 : (Lib.decDigits (1 : Int).natAbs).length ≤ 600 := one_dec
  have hO := fun G => of_spec 1 G (by decide)
  have hne : n ≠ [] := by
    intro e
    rw [e] at h
    cases h
  obtain ⟨c, t, hct⟩ : ∃ c t, n = c :: t := by
    cases n with
    | nil => exact absurd rfl hne
    | cons c t => exact ⟨c, t, rfl⟩
  have hc0 : n[0]? = some c := by rw [hct]; rfl
  by_cases hc : c = 45
  · subst hc
    have hN := neg_ok n d a q h
    rw [neg_txt h] at hN
    obtain ⟨z1, e1, k1⟩ := rcmp_any (decB (-a)) d (decB 1) [49] (by omega) (by omega) (by omega) (by decide)
    obtain ⟨z2, e2, k2⟩ := rcmp_any (decB (-a)) d tn td (by omega) (by omega) (by omega) (by omega)
    refine ⟨if z1 < 0 then -1 else if z2 < 0 then 0 else 1, fun H => ?_⟩
    by_cases g1 : z1 < 0
    · rw [if_pos g1]
      (refine SC_intro Tryz.func21 rfl (by kernel_rfl) (by rw [Tryz.ntmps21]; exact Nat.le_of_ble_eq_true rfl) ?_; simp only [Tryz.ntmps21, argE, Nat.reduceAdd])
      
      repeat' (first | ((first | apply RW.q1 | (apply DW.q1; exact rfl)); (first | (apply q_ixc 45; exact rfl; exact rfl; exact hc0; omega) | exact qt)) | apply RW.nil | (refine hK _ _ ?_; clear hK; refine xsg xsl ?_) | ((first | apply RW.c1 | (apply DW.c1; exact rfl; exact rfl) | (apply DW.c1t; exact rfl)); (first | (apply nw_call (f := 20); exact rfl; exact go20; (intro G hG; exact (hO _).mono (fun v M h => h.1))))) | ((first | apply RW.a1 | apply RW.a0 | (apply DW.a1; exact rfl; exact rfl) | (apply DW.a0; exact rfl; exact rfl) | (apply DW.ag1; exact rfl)); (first | ((first | apply gw_call (f := 74) | apply gx_call (f := 74)); exact rfl; exact go74; intro G hG; refine SC.mono (hN G) ?_; rintro v M ⟨rfl, rfl⟩; (try dsimp only [List.nil_append, List.cons_append])) | ((first | apply gw_call (f := 75) | apply gx_call (f := 75)); exact rfl; exact go75; intro G hG; refine SC.mono (k1 G) ?_; rintro v M ⟨rfl, rfl⟩; (try dsimp only [List.nil_append, List.cons_append])) | (apply gw_asg; exact rfl) | ((first | apply gw_box | apply gx_box); exact rfl; exact rfl; intro b) | (refine gw_stx sto ?_) | (fail))) | apply CW_seq | apply CW_block | (apply CW_region; intro K hK) | ((first | apply CW_skip | apply CW_exit); refine xsg xsl ?_) | (apply CW_condT; exact rfl; first | assumption | exact rfl) | (apply CW_condF; exact rfl; first | assumption | exact rfl) | (apply CW_condX; exact rfl; exact tst; exact tst; all_goals (intro hq hc; (try contradiction); (try (exfalso; omega)))) | (refine CW_draw (id := 3) [1] [(0, false), (1, true), (2, true), (3, false), (4, false), (5, false), (6, false), (7, false)] mixed (by kernel_rfl) (fun K hK => ?_)) | apply DW.nil | fail)
      all_goals (refine CW_ret ?_; refine xsg xsl ?_; refine bodyS_ret (L' := []) (rs := [.tmp 4]) (by kernel_rfl) (by (repeat (apply resok_tmp; exact rfl)); exact resok_nil) (by exact sbl) ?_)
      all_goals exact ⟨rfl, rfl⟩
    rw [if_neg g1]
    by_cases g2 : z2 < 0
    · rw [if_pos g2]
      (refine SC_intro Tryz.func21 rfl (by kernel_rfl) (by rw [Tryz.ntmps21]; exact Nat.le_of_ble_eq_true rfl) ?_; simp only [Tryz.ntmps21, argE, Nat.reduceAdd])
      
      repeat' (first | ((first | apply RW.q1 | (apply DW.q1; exact rfl)); (first | (apply q_ixc 45; exact rfl; exact rfl; exact hc0; omega) | exact qt)) | apply RW.nil | (refine hK _ _ ?_; clear hK; refine xsg xsl ?_) | ((first | apply RW.c1 | (apply DW.c1; exact rfl; exact rfl) | (apply DW.c1t; exact rfl)); (first | (apply nw_call (f := 20); exact rfl; exact go20; (intro G hG; exact (hO _).mono (fun v M h => h.1))))) | ((first | apply RW.a1 | apply RW.a0 | (apply DW.a1; exact rfl; exact rfl) | (apply DW.a0; exact rfl; exact rfl) | (apply DW.ag1; exact rfl)); (first | ((first | apply gw_call (f := 74) | apply gx_call (f := 74)); exact rfl; exact go74; intro G hG; refine SC.mono (hN G) ?_; rintro v M ⟨rfl, rfl⟩; (try dsimp only [List.nil_append, List.cons_append])) | ((first | apply gw_call (f := 75) | apply gx_call (f := 75)); exact rfl; exact go75; intro G hG; refine SC.mono (k1 G) ?_; rintro v M ⟨rfl, rfl⟩; (try dsimp only [List.nil_append, List.cons_append])) | ((first | apply gw_call (f := 75) | apply gx_call (f := 75)); exact rfl; exact go75; intro G hG; refine SC.mono (k2 G) ?_; rintro v M ⟨rfl, rfl⟩; (try dsimp only [List.nil_append, List.cons_append])) | (apply gw_asg; exact rfl) | ((first | apply gw_box | apply gx_box); exact rfl; exact rfl; intro b) | (refine gw_stx sto ?_) | (fail))) | apply CW_seq | apply CW_block | (apply CW_region; intro K hK) | ((first | apply CW_skip | apply CW_exit); refine xsg xsl ?_) | (apply CW_condT; exact rfl; first | assumption | exact rfl) | (apply CW_condF; exact rfl; first | assumption | exact rfl) | (apply CW_condX; exact rfl; exact tst; exact tst; all_goals (intro hq hc; (try contradiction); (try (exfalso; omega)))) | (refine CW_draw (id := 3) [1] [(0, false), (1, true), (2, true), (3, false), (4, false), (5, false), (6, false), (7, false)] mixed (by kernel_rfl) (fun K hK => ?_)) | apply DW.nil | fail)
      all_goals (refine CW_ret ?_; refine xsg xsl ?_; refine bodyS_ret (L' := []) (rs := [.tmp 4]) (by kernel_rfl) (by (repeat (apply resok_tmp; exact rfl)); exact resok_nil) (by exact sbl) ?_)
      all_goals exact ⟨rfl, rfl⟩
    · rw [if_neg g2]
      (refine SC_intro Tryz.func21 rfl (by kernel_rfl) (by rw [Tryz.ntmps21]; exact Nat.le_of_ble_eq_true rfl) ?_; simp only [Tryz.ntmps21, argE, Nat.reduceAdd])
      
      repeat' (first | ((first | apply RW.q1 | (apply DW.q1; exact rfl)); (first | (apply q_ixc 45; exact rfl; exact rfl; exact hc0; omega) | exact qt)) | apply RW.nil | (refine hK _ _ ?_; clear hK; refine xsg xsl ?_) | ((first | apply RW.c1 | (apply DW.c1; exact rfl; exact rfl) | (apply DW.c1t; exact rfl)); (first | (apply nw_call (f := 20); exact rfl; exact go20; (intro G hG; exact (hO _).mono (fun v M h => h.1))))) | ((first | apply RW.a1 | apply RW.a0 | (apply DW.a1; exact rfl; exact rfl) | (apply DW.a0; exact rfl; exact rfl) | (apply DW.ag1; exact rfl)); (first | ((first | apply gw_call (f := 74) | apply gx_call (f := 74)); exact rfl; exact go74; intro G hG; refine SC.mono (hN G) ?_; rintro v M ⟨rfl, rfl⟩; (try dsimp only [List.nil_append, List.cons_append])) | ((first | apply gw_call (f := 75) | apply gx_call (f := 75)); exact rfl; exact go75; intro G hG; refine SC.mono (k1 G) ?_; rintro v M ⟨rfl, rfl⟩; (try dsimp only [List.nil_append, List.cons_append])) | ((first | apply gw_call (f := 75) | apply gx_call (f := 75)); exact rfl; exact go75; intro G hG; refine SC.mono (k2 G) ?_; rintro v M ⟨rfl, rfl⟩; (try dsimp only [List.nil_append, List.cons_append])) | (apply gw_asg; exact rfl) | ((first | apply gw_box | apply gx_box); exact rfl; exact rfl; intro b) | (refine gw_stx sto ?_) | (fail))) | apply CW_seq | apply CW_block | (apply CW_region; intro K hK) | ((first | apply CW_skip | apply CW_exit); refine xsg xsl ?_) | (apply CW_condT; exact rfl; first | assumption | exact rfl) | (apply CW_condF; exact rfl; first | assumption | exact rfl) | (apply CW_condX; exact rfl; exact tst; exact tst; all_goals (intro hq hc; (try contradiction); (try (exfalso; omega)))) | (refine CW_draw (id := 3) [1] [(0, false), (1, true), (2, true), (3, false), (4, false), (5, false), (6, false), (7, false)] mixed (by kernel_rfl) (fun K hK => ?_)) | apply DW.nil | fail)
      all_goals (refine CW_ret ?_; refine xsg xsl ?_; refine bodyS_ret (L' := []) (rs := [.tmp 4]) (by kernel_rfl) (by (repeat (apply resok_tmp; exact rfl)); exact resok_nil) (by exact sbl) ?_)
      all_goals exact ⟨rfl, rfl⟩
  · have hc2 : (c.toNat : Int) ≠ 45 := fun e => hc (UInt8.toNat_inj.1 (by have : c.toNat = 45 := by omega
                                                                          exact this))
    obtain ⟨z1, e1, k1⟩ := rcmp_any n d (decB 1) [49] (by omega) (by omega) (by omega) (by decide)
    obtain ⟨z2, e2, k2⟩ := rcmp_any n d tn td (by omega) (by omega) (by omega) (by omega)
    refine ⟨if z1 < 0 then -1 else if z2 < 0 then 0 else 1, fun H => ?_⟩
    by_cases g1 : z1 < 0
    · rw [if_pos g1]
      (refine SC_intro Tryz.func21 rfl (by kernel_rfl) (by rw [Tryz.ntmps21]; exact Nat.le_of_ble_eq_true rfl) ?_; simp only [Tryz.ntmps21, argE, Nat.reduceAdd])
      
      repeat' (first | ((first | apply RW.q1 | (apply DW.q1; exact rfl)); (first | (apply q_ixc c; exact rfl; exact rfl; exact hc0; omega) | exact qt)) | apply RW.nil | (refine hK _ _ ?_; clear hK; refine xsg xsl ?_) | ((first | apply RW.c1 | (apply DW.c1; exact rfl; exact rfl) | (apply DW.c1t; exact rfl)); (first | (apply nw_call (f := 20); exact rfl; exact go20; (intro G hG; exact (hO _).mono (fun v M h => h.1))))) | ((first | apply RW.a1 | apply RW.a0 | (apply DW.a1; exact rfl; exact rfl) | (apply DW.a0; exact rfl; exact rfl) | (apply DW.ag1; exact rfl)); (first | ((first | apply gw_call (f := 75) | apply gx_call (f := 75)); exact rfl; exact go75; intro G hG; refine SC.mono (k1 G) ?_; rintro v M ⟨rfl, rfl⟩; (try dsimp only [List.nil_append, List.cons_append])) | (apply gw_asg; exact rfl) | ((first | apply gw_box | apply gx_box); exact rfl; exact rfl; intro b) | (refine gw_stx sto ?_) | (fail))) | apply CW_seq | apply CW_block | (apply CW_region; intro K hK) | ((first | apply CW_skip | apply CW_exit); refine xsg xsl ?_) | (apply CW_condT; exact rfl; first | assumption | exact rfl) | (apply CW_condF; exact rfl; first | assumption | exact rfl) | (apply CW_condX; exact rfl; exact tst; exact tst; all_goals (intro hq hc; (try contradiction); (try (exfalso; omega)))) | (refine CW_draw (id := 3) [1] [(0, false), (1, true), (2, true), (3, false), (4, false), (5, false), (6, false), (7, false)] mixed (by kernel_rfl) (fun K hK => ?_)) | apply DW.nil | fail)
      all_goals (refine CW_ret ?_; refine xsg xsl ?_; refine bodyS_ret (L' := []) (rs := [.tmp 4]) (by kernel_rfl) (by (repeat (apply resok_tmp; exact rfl)); exact resok_nil) (by exact sbl) ?_)
      all_goals exact ⟨rfl, rfl⟩
    rw [if_neg g1]
    by_cases g2 : z2 < 0
    · rw [if_pos g2]
      (refine SC_intro Tryz.func21 rfl (by kernel_rfl) (by rw [Tryz.ntmps21]; exact Nat.le_of_ble_eq_true rfl) ?_; simp only [Tryz.ntmps21, argE, Nat.reduceAdd])
      
      repeat' (first | ((first | apply RW.q1 | (apply DW.q1; exact rfl)); (first | (apply q_ixc c; exact rfl; exact rfl; exact hc0; omega) | exact qt)) | apply RW.nil | (refine hK _ _ ?_; clear hK; refine xsg xsl ?_) | ((first | apply RW.c1 | (apply DW.c1; exact rfl; exact rfl) | (apply DW.c1t; exact rfl)); (first | (apply nw_call (f := 20); exact rfl; exact go20; (intro G hG; exact (hO _).mono (fun v M h => h.1))))) | ((first | apply RW.a1 | apply RW.a0 | (apply DW.a1; exact rfl; exact rfl) | (apply DW.a0; exact rfl; exact rfl) | (apply DW.ag1; exact rfl)); (first | ((first | apply gw_call (f := 75) | apply gx_call (f := 75)); exact rfl; exact go75; intro G hG; refine SC.mono (k1 G) ?_; rintro v M ⟨rfl, rfl⟩; (try dsimp only [List.nil_append, List.cons_append])) | ((first | apply gw_call (f := 75) | apply gx_call (f := 75)); exact rfl; exact go75; intro G hG; refine SC.mono (k2 G) ?_; rintro v M ⟨rfl, rfl⟩; (try dsimp only [List.nil_append, List.cons_append])) | (apply gw_asg; exact rfl) | ((first | apply gw_box | apply gx_box); exact rfl; exact rfl; intro b) | (refine gw_stx sto ?_) | (fail))) | apply CW_seq | apply CW_block | (apply CW_region; intro K hK) | ((first | apply CW_skip | apply CW_exit); refine xsg xsl ?_) | (apply CW_condT; exact rfl; first | assumption | exact rfl) | (apply CW_condF; exact rfl; first | assumption | exact rfl) | (apply CW_condX; exact rfl; exact tst; exact tst; all_goals (intro hq hc; (try contradiction); (try (exfalso; omega)))) | (refine CW_draw (id := 3) [1] [(0, false), (1, true), (2, true), (3, false), (4, false), (5, false), (6, false), (7, false)] mixed (by kernel_rfl) (fun K hK => ?_)) | apply DW.nil | fail)
      all_goals (refine CW_ret ?_; refine xsg xsl ?_; refine bodyS_ret (L' := []) (rs := [.tmp 4]) (by kernel_rfl) (by (repeat (apply resok_tmp; exact rfl)); exact resok_nil) (by exact sbl) ?_)
      all_goals exact ⟨rfl, rfl⟩
    · rw [if_neg g2]
      (refine SC_intro Tryz.func21 rfl (by kernel_rfl) (by rw [Tryz.ntmps21]; exact Nat.le_of_ble_eq_true rfl) ?_; simp only [Tryz.ntmps21, argE, Nat.reduceAdd])
      
      repeat' (first | ((first | apply RW.q1 | (apply DW.q1; exact rfl)); (first | (apply q_ixc c; exact rfl; exact rfl; exact hc0; omega) | exact qt)) | apply RW.nil | (refine hK _ _ ?_; clear hK; refine xsg xsl ?_) | ((first | apply RW.c1 | (apply DW.c1; exact rfl; exact rfl) | (apply DW.c1t; exact rfl)); (first | (apply nw_call (f := 20); exact rfl; exact go20; (intro G hG; exact (hO _).mono (fun v M h => h.1))))) | ((first | apply RW.a1 | apply RW.a0 | (apply DW.a1; exact rfl; exact rfl) | (apply DW.a0; exact rfl; exact rfl) | (apply DW.ag1; exact rfl)); (first | ((first | apply gw_call (f := 75) | apply gx_call (f := 75)); exact rfl; exact go75; intro G hG; refine SC.mono (k1 G) ?_; rintro v M ⟨rfl, rfl⟩; (try dsimp only [List.nil_append, List.cons_append])) | ((first | apply gw_call (f := 75) | apply gx_call (f := 75)); exact rfl; exact go75; intro G hG; refine SC.mono (k2 G) ?_; rintro v M ⟨rfl, rfl⟩; (try dsimp only [List.nil_append, List.cons_append])) | (apply gw_asg; exact rfl) | ((first | apply gw_box | apply gx_box); exact rfl; exact rfl; intro b) | (refine gw_stx sto ?_) | (fail))) | apply CW_seq | apply CW_block | (apply CW_region; intro K hK) | ((first | apply CW_skip | apply CW_exit); refine xsg xsl ?_) | (apply CW_condT; exact rfl; first | assumption | exact rfl) | (apply CW_condF; exact rfl; first | assumption | exact rfl) | (apply CW_condX; exact rfl; exact tst; exact tst; all_goals (intro hq hc; (try contradiction); (try (exfalso; omega)))) | (refine CW_draw (id := 3) [1] [(0, false), (1, true), (2, true), (3, false), (4, false), (5, false), (6, false), (7, false)] mixed (by kernel_rfl) (fun K hK => ?_)) | apply DW.nil | fail)
      all_goals (refine CW_ret ?_; refine xsg xsl ?_; refine bodyS_ret (L' := []) (rs := [.tmp 4]) (by kernel_rfl) (by (repeat (apply resok_tmp; exact rfl)); exact resok_nil) (by exact sbl) ?_)
      all_goals exact ⟨rfl, rfl⟩
end Go.Proofs.YtnhbipachchlgaaGreat.HL
namespace Go.Proofs.YtnhbipachchlgaaGreat.HL
open Go
attribute [local irreducible] goFn thenS blockS bodyS CW RW DW GW QW NW SC Pick Picks SubL Rd NN ResOk SrcW subE hops hseg AW hgen HC qv bldv
set_option linter.unusedVariables false
set_option linter.unusedSimpArgs false

theorem told_len (p q : Int) : ∃ x y e, toldV p q = .tuple #[ratV x y, .int .i64 e] ∧ x.length ≤ 601 ∧ y.length ≤ 601 := by
  unfold toldV
  split
  · rename_i h
    have := decB_abs p
    exact ⟨_, _, _, rfl, by omega, by omega⟩
  · exact ⟨_, _, _, rfl, by simp, by simp⟩
set_option maxHeartbeats 2000000 in
set_option maxRecDepth 100000 in
theorem below_some (n d tn td : List UInt8) (a b : Int) (q r : Nat) (x : Px) (h : readQ n d = some (a, q)) (hx : x ∈ pfx) (ht : readQ tn td = some (b, r)) : ∃ z : Bool, ∀ H : Hp, SC Tryz.prog 23 [ratV n d, .agg (encP x).toArray, ratV tn td] H [] (fun v M => v = .bool z ∧ M = []) := by
  obtain ⟨h1, h2, h3, _, h5, h6⟩ := readQ_txt h
  have hl1 := decB_abs a
  have hl2 := decB_abs (-a)
  rw [Int.natAbs_neg] at hl2
  rw [← h1] at hl1
  rw [← h2] at h6
  have hM := mul_ok _ _ _ _ _ _ _ _ (readQ_fac hx) ht
  obtain ⟨mx, my, me, hms, hm1, hm2⟩ := told_len (fn ((powN (byP x) 1 x.pw : Int) * b) ((powN 1 (byP x) x.pw : Int) * r)) (fd ((powN (byP x) 1 x.pw : Int) * b) ((powN 1 (byP x) x.pw : Int) * r))
  rw [hms] at hM
  have hne : n ≠ [] := by
    intro e
    rw [e] at h
    cases h
  obtain ⟨c, t, hct⟩ : ∃ c t, n = c :: t := by
    cases n with
    | nil => exact absurd rfl hne
    | cons c t => exact ⟨c, t, rfl⟩
  have hc0 : n[0]? = some c := by rw [hct]; rfl
  by_cases hc : c = 45
  · subst hc
    have hN := neg_ok n d a q h
    rw [neg_txt h] at hN
    obtain ⟨z1, e1, k1⟩ := rcmp_any (decB (-a)) d mx my (by omega) (by omega) (by omega) (by omega)
    refine ⟨decide (z1 < 0), fun H => ?_⟩
    (refine SC_intro Tryz.func23 rfl (by kernel_rfl) (by rw [Tryz.ntmps23]; exact Nat.le_of_ble_eq_true rfl) ?_; simp only [Tryz.ntmps23, argE, Nat.reduceAdd])
    
    repeat' (first | (apply RW.q1; (first | (apply q_ixc 45; exact rfl; exact rfl; exact hc0; omega) | exact qt)) | apply RW.nil | (refine hK _ _ ?_; clear hK; refine xsg xsl ?_) | ((first | apply RW.a1 | apply RW.a0); (first | (apply gw_call (f := 74); exact rfl; exact go74; intro G hG; refine SC.mono (hN G) ?_; rintro v M ⟨rfl, rfl⟩; (try dsimp only [List.nil_append, List.cons_append])) | (apply gw_call (f := 10); exact rfl; exact go10; intro G hG; refine SC.mono (hM G) ?_; rintro v M ⟨rfl, rfl⟩; (try dsimp only [List.nil_append, List.cons_append])) | (apply gw_call (f := 75); exact rfl; exact go75; intro G hG; refine SC.mono (k1 G) ?_; rintro v M ⟨rfl, rfl⟩; (try dsimp only [List.nil_append, List.cons_append])) | (apply gw_asg; exact rfl) | (apply gw_alloc; exact rfl; intro b) | (apply gw_box; exact rfl; exact rfl; intro b) | (refine gw_stx sto ?_) | (fail))) | apply CW_seq | apply CW_block | (apply CW_region; intro K hK) | ((first | apply CW_skip | apply CW_exit); refine xsg xsl ?_) | (apply CW_condT; exact rfl; first | assumption | exact rfl) | (apply CW_condF; exact rfl; first | assumption | exact rfl) | (apply CW_condX; exact rfl; exact tst; exact tst; all_goals (intro hq hc; (try contradiction); (try (exfalso; omega)))) | fail)
    all_goals (refine CW_ret ?_; refine xsg xsl ?_; refine bodyS_ret (L' := []) (rs := [.tmp 6]) (by kernel_rfl) (by (repeat (apply resok_tmp; exact rfl)); exact resok_nil) (by exact sbl) ?_)
    all_goals exact ⟨rfl, rfl⟩
  · have hc2 : (c.toNat : Int) ≠ 45 := fun e => hc (UInt8.toNat_inj.1 (by have : c.toNat = 45 := by omega
                                                                          exact this))
    obtain ⟨z1, e1, k1⟩ := rcmp_any n d mx my (by omega) (by omega) (by omega) (by omega)
    refine ⟨decide (z1 < 0), fun H => ?_⟩
    (refine SC_intro Tryz.func23 rfl (by kernel_rfl) (by rw [Tryz.ntmps23]; exact Nat.le_of_ble_eq_true rfl) ?_; simp only [Tryz.ntmps23, argE, Nat.reduceAdd])
    
    repeat' (first | (apply RW.q1; (first | (apply q_ixc c; exact rfl; exact rfl; exact hc0; omega) | exact qt)) | apply RW.nil | (refine hK _ _ ?_; clear hK; refine xsg xsl ?_) | ((first | apply RW.a1 | apply RW.a0); (first | (apply gw_call (f := 10); exact rfl; exact go10; intro G hG; refine SC.mono (hM G) ?_; rintro v M ⟨rfl, rfl⟩; (try dsimp only [List.nil_append, List.cons_append])) | (apply gw_call (f := 75); exact rfl; exact go75; intro G hG; refine SC.mono (k1 G) ?_; rintro v M ⟨rfl, rfl⟩; (try dsimp only [List.nil_append, List.cons_append])) | (apply gw_asg; exact rfl) | (apply gw_alloc; exact rfl; intro b) | (apply gw_box; exact rfl; exact rfl; intro b) | (refine gw_stx sto ?_) | (fail))) | apply CW_seq | apply CW_block | (apply CW_region; intro K hK) | ((first | apply CW_skip | apply CW_exit); refine xsg xsl ?_) | (apply CW_condT; exact rfl; first | assumption | exact rfl) | (apply CW_condF; exact rfl; first | assumption | exact rfl) | (apply CW_condX; exact rfl; exact tst; exact tst; all_goals (intro hq hc; (try contradiction); (try (exfalso; omega)))) | fail)
    all_goals (refine CW_ret ?_; refine xsg xsl ?_; refine bodyS_ret (L' := []) (rs := [.tmp 6]) (by kernel_rfl) (by (repeat (apply resok_tmp; exact rfl)); exact resok_nil) (by exact sbl) ?_)
    all_goals exact ⟨rfl, rfl⟩
end Go.Proofs.YtnhbipachchlgaaGreat.HL
