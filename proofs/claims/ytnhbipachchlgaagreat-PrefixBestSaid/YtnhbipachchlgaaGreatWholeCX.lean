/- WholeC: NumM0: numbers in boxes of one's own: what is read of them. No condition. NumM: powers of a number. Conditions: it is not below 0; the power is not too long. NumN: Neg; a rational number's sign, numerator, denominator. Condition: the rows' lengths. NumO: a rational number's sign, numerator, denominator (an empty denominator is one). Condition: the rows' lengths. NumP: divide: a smaller dividend, or a divisor of one word. Condition: the rows' lengths. NumQ: words moved left by fewer than 32 bits. Condition: the row's length. NumR: words moved right by fewer than 32 bits. Condition: the row's length. NumS: right. Condition: the row's length. NumT: plain laws of guess: one word taken off, one word put back. No condition. -/
import Derived.Test.YtnhbipachchlgaaGreatWholeBX
import Derived.Test.YtnhbipachchlgaaGreatEngX
namespace Go.Proofs.YtnhbipachchlgaaGreat.HL
open Go
set_option linter.unusedSimpArgs false
set_option maxHeartbeats 8000000
set_option maxRecDepth 100000
set_option linter.unusedVariables false

abbrev intB (z : Int) (a : Option Addr) (c : Nat) : List Value := [.bool (decide (z < 0)), .slice a (wd z).length c]
theorem intW_of {H : Hp} {L L1 : List Res} {b : Nat} {T : TypeId} {z : Int} {a : Option Addr} {c : Nat} (hb : Pick L (.box b T (intB z a c)) L1) (hr : Rs H 1 a (wd z).length c (ws (wd z))) : IntW H L b 0 z :=
  ⟨a, c, rd_box hb rfl rfl (by decide), rd_box hb rfl rfl (by decide), hr⟩
theorem intW_own {H G : Hp} {L L1 L2 : List Res} {b : Nat} {T : TypeId} {z : Int} {a : Option Addr} {c : Nat} (hb : Pick L (.box b T (intB z a c)) L1) (hr : Pick L (intR z a c) L2) (hG : Hs H L G) (M : List Res) : IntW G M b 0 z := by
  have h : IntW G [] b 0 z := ⟨a, c, (rd_box hb (off := 0) rfl rfl (by decide)).base hG, (rd_box hb (off := 1) rfl rfl (by decide)).base hG, sl_own hr hG⟩
  exact h.sub subl_nil
theorem dgs_len_le {B m n : Nat} (hB : 1 < B) (h : m ≤ n) : (dgs B m).length ≤ (dgs B n).length := by
  rcases Nat.lt_or_ge (dgs B n).length (dgs B m).length with g | g
  · have := dgs_len_mono hB g; omega
  · exact g
theorem wd_nat (n : Nat) : wd ((n : Nat) : Int) = dgs W32 n := by unfold wd; rw [Int.natAbs_natCast]
theorem pow_bit (X e i : Nat) : X ^ (e % 2 ^ (i + 1)) = X ^ (e % 2 ^ i) * (if e / 2 ^ i % 2 = 1 then X ^ 2 ^ i else 1) := by
  rw [Nat.mod_pow_succ]
  rcases Nat.mod_two_eq_zero_or_one (e / 2 ^ i) with h | h
  · rw [h]; simp
  · rw [h, if_pos rfl, Nat.mul_one, Nat.pow_add]
theorem pow_le {X a e : Nat} (h : a ≤ e) : X ^ a ≤ max 1 (X ^ e) := by
  rcases Nat.eq_zero_or_pos X with rfl | hX
  · rcases Nat.eq_zero_or_pos a with rfl | ha
    · rw [Nat.pow_zero]; omega
    · rw [Nat.zero_pow ha]; omega
  · have := Nat.pow_le_pow_right hX h
    omega
theorem mod_all {e : Nat} : e % 2 ^ bl e = e := Nat.mod_eq_of_lt (bl_lt e)
end Go.Proofs.YtnhbipachchlgaaGreat.HL
namespace Go.Proofs.YtnhbipachchlgaaGreat.HL
open Go
attribute [local irreducible] goFn thenS blockS bodyS CW RW DW GW QW NW SC Pick Picks SubL Rd NN ResOk SrcW subE hops hseg AW hgen HC qv bldv
set_option linter.unusedVariables false
set_option linter.unusedSimpArgs false

theorem mulN_spec (bz off : Nat) (TB : TypeId) (cs : List Value) (x y : Nat) (bx ox by' oy : Nat) (H : Hp) (hoff : off + 1 < cs.length) (hx : IntW H [.box bz TB cs] bx ox ((x : Nat) : Int)) (hy : IntW H [.box bz TB cs] by' oy ((y : Nat) : Int)) (hN : (dgs W32 x).length ≤ 1048576) (hM : (dgs W32 y).length ≤ 1048576) :
    SC Tryz.prog 82 [.pointer (some ⟨bz, off, none⟩), .pointer (some ⟨bx, ox, none⟩), .pointer (some ⟨by', oy, none⟩)] H [.box bz TB cs] (fun v M => v = .pointer (some ⟨bz, off, none⟩) ∧ ∃ a c, M = [.box bz TB (intC cs off ((x * y : Nat) : Int) a c), intR ((x * y : Nat) : Int) a c]) := by
  have h := mul_spec bz off TB cs (x : Int) (y : Int) bx ox by' oy H hoff hx hy (by rw [wd_nat]; exact hN) (by rw [wd_nat]; exact hM)
  rw [← Int.natCast_mul] at h
  exact h
theorem bitN_spec (e i t : Nat) (bx ox : Nat) (H : Hp) (L : List Res) (hx : IntW H L bx ox ((e : Nat) : Int)) (hN : (dgs W32 e).length ≤ 1048576) (hi : i ≤ 4611686018427387904) (ht : t = e / 2 ^ i % 2) :
    SC Tryz.prog 125 [.pointer (some ⟨bx, ox, none⟩), .int .i64 (i : Nat)] H L (fun v M => v = .int .u64 ((t : Nat) : Int) ∧ M = L) := by
  have h := bit_spec (e : Int) bx ox i H L hx (by rw [wd_nat]; exact hN) hi
  rw [Int.natAbs_natCast, ← ht] at h
  exact h
theorem bitLenN_spec (e : Nat) (bx ox : Nat) (H : Hp) (L : List Res) (hx : IntW H L bx ox ((e : Nat) : Int)) (hN : (dgs W32 e).length ≤ 1048576) :
    SC Tryz.prog 92 [.pointer (some ⟨bx, ox, none⟩)] H L (fun v M => v = .int .i64 ((bl e : Nat) : Int) ∧ M = L) := by
  have h := bitLen_spec (e : Int) bx ox H L hx (by rw [wd_nat]; exact hN)
  rw [Int.natAbs_natCast] at h
  exact h
theorem exp_spec (bz off : Nat) (TB : TypeId) (cs : List Value) (X e : Nat) (bx ox by' oy : Nat) (p : Value) (H : Hp) (hoff : off + 1 < cs.length) (hx : IntW H [.box bz TB cs] bx ox ((X : Nat) : Int)) (hy : IntW H [.box bz TB cs] by' oy ((e : Nat) : Int)) (hN : (dgs W32 X).length ≤ 1048576) (hM : (dgs W32 e).length ≤ 1048576) (hB : (dgs W32 (X ^ e)).length ≤ 1048576) (he : bl e ≤ 1048576) :
    SC Tryz.prog 94 [.pointer (some ⟨bz, off, none⟩), .pointer (some ⟨bx, ox, none⟩), .pointer (some ⟨by', oy, none⟩), p] H [.box bz TB cs] (fun v M => v = .pointer (some ⟨bz, off, none⟩) ∧ ∃ a c, M = [.box bz TB (intC cs off ((X ^ e : Nat) : Int) a c), intR ((X ^ e : Nat) : Int) a c]) := by
  have hlen : ∀ a, a ≤ e → (dgs W32 (X ^ a)).length ≤ 1048576 := by
    intro a ha
    have h1 := dgs_len_le (B := W32) w1 (pow_le (X := X) ha)
    have h2 : (dgs W32 (max 1 (X ^ e))).length ≤ 1048576 := by
      rcases Nat.le_total 1 (X ^ e) with g | g
      · rw [Nat.max_eq_right g]; exact hB
      · rw [Nat.max_eq_left g, dgs_pos w1 (by decide)]
        rw [show 1 / W32 = 0 by decide, dgs_zero]; decide
    omega
  have wX := wd_nat X
  have we := wd_nat e
  (refine SC_intro Tryz.func94 rfl (by kernel_rfl) (by rw [Tryz.ntmps94]; exact Nat.le_of_ble_eq_true rfl) ?_; simp only [Tryz.ntmps94, argE, Nat.reduceAdd])
  
  repeat' (first | (apply RW.q1; exact qt) | refine xsg cts ?_ | (apply CW_condT; exact rfl; exact ar) | (apply CW_condF; exact rfl; exact ar) | (refine hK _ _ ?_; clear hK; refine xsg xsl ?_) | ((first | apply RW.a1 | apply RW.a0); (first | (apply gw_alloc (d := some 13); exact rfl; intro bb) | (apply gw_call (f := 72); exact rfl; exact go72; intro G hG; refine SC.mono (newInt_spec 1 G (by decide)) ?_; rintro v M ⟨bo, oa, oc, rfl, rfl⟩; (try dsimp only [jL, jM])) | (apply gw_callc (f := 112) (M := [.box bb _ _]); exact rfl; exact go112; exact pcs; intro G hG; refine SC.mono (set_spec bb 0 _ _ ((X : Nat) : Int) bx ox G (by decide) (((hx.sub (by exact sbl)).base hG).sub subl_nil) (by rw [wX]; omega)) ?_; rintro v M ⟨rfl, ba, bc, rfl⟩; (try dsimp only [jL, jM])) | (apply gw_callE (f := 92); exact rfl; exact go92; intro G hG; exact bitLenN_spec e by' oy G [] ((hy.sub (by exact sbl)).base hG) hM) | (apply gw_asg; exact rfl) | (apply gw_alloc; exact rfl; intro b) | (fail))) | (apply CW_region; intro K hK) | (apply CW_condX; exact rfl; exact tst; exact tst; all_goals (intro hq hc; try exact no)))
  refine CW_loop (fun m l L => ∃ (i x y : Nat) (bo bb : Nat) (oa ba : Option Addr) (oc bc : Nat), m = bl e - i + 1 ∧ l = [(0, true, .pointer (some ⟨bz, off, none⟩)), (2, true, .pointer (some ⟨by', oy, none⟩)), (9, true, .pointer (some ⟨bo, 0, none⟩)), (10, true, .pointer (some ⟨bb, 0, none⟩)), (17, true, .int .i64 ((bl e : Nat) : Int)), (18, true, .int .i64 (i : Nat))] ∧
      L = [.box bz TB cs, .box bo 88 (intB (x : Int) oa oc), intR (x : Int) oa oc, .box bb 88 (intB (y : Int) ba bc), intR (y : Int) ba bc] ∧ i ≤ bl e ∧ x = X ^ (e % 2 ^ i) ∧ (i < bl e → y = X ^ 2 ^ i))
    ⟨_, _, _, ⟨0, 1, X, bo, bb, oa, ba, oc, bc, rfl, rfl, rfl, by omega, by rw [Nat.pow_zero, Nat.mod_one, Nat.pow_zero], fun _ => by rw [Nat.pow_zero, Nat.pow_one]⟩, by exact sbe, by exact sbl⟩ ?_
  rintro m l L ⟨i, x, y, bo, bb, oa, ba, oc, bc, rfl, rfl, rfl, h0, h1, h2⟩
  by_cases hi : i < bl e
  · have hy1 := h2 hi
    have hle : 2 ^ i ≤ e := by
      have h3 : e ≠ 0 := fun h => by rw [h, bl_zero] at hi; omega
      exact Nat.le_trans (Nat.pow_le_pow_right (by decide) (by omega)) (bl_le h3)
    have hxl := hlen (e % 2 ^ i) (Nat.mod_le _ _)
    rw [← h1] at hxl
    have hyl := hlen (2 ^ i) hle
    rw [← hy1] at hyl
    have hpb := pow_bit X e i
    obtain ⟨t, ht⟩ : ∃ t, t = e / 2 ^ i % 2 := ⟨_, rfl⟩
    have ht2 : t < 2 := by rw [ht]; exact Nat.mod_lt _ (by decide)
    rw [← ht, ← h1, ← hy1] at hpb
    have hsq : y * y = X ^ 2 ^ (i + 1) := by rw [hy1, ← Nat.pow_add, Nat.pow_succ, Nat.mul_two]
    rcases (show t = 0 ∨ t = 1 by omega) with rfl | rfl
    all_goals rcases Decidable.em (i + 1 < bl e) with hj | hj
    
    all_goals repeat' (first | (apply RW.q1; exact qt) | refine xsg cts ?_ | (apply CW_condT; exact rfl; exact ar) | (apply CW_condF; exact rfl; exact ar) | (refine hK _ _ ?_; clear hK; refine xsg xsl ?_) | ((first | apply RW.a1 | apply RW.a0); (first | (apply gw_callE (f := 125); exact rfl; exact go125; intro G hG; exact bitN_spec e i _ by' oy G [] ((hy.sub (by exact sbl)).base hG) hM (by omega) ht) | (apply gw_callc (f := 82) (M := [.box bo _ _]); exact rfl; exact go82; exact pcs; intro G hG; refine SC.mono (mulN_spec bo 0 _ _ x y bo 0 bb 0 G (Nat.lt_succ_self 1) (intW_of (by exact pkx) (sl_own (by exact pkx) hG)) (intW_own (by exact pkx) (by exact pkx) hG _) hxl hyl) ?_; rintro v M ⟨rfl, oa', oc', rfl⟩; (try dsimp only [jL, jM])) | (apply gw_callc (f := 82) (M := [.box bb _ _]); exact rfl; exact go82; exact pcs; intro G hG; refine SC.mono (mulN_spec bb 0 _ _ y y bb 0 bb 0 G (Nat.lt_succ_self 1) (intW_of (by exact pkx) (sl_own (by exact pkx) hG)) (intW_of (by exact pkx) (sl_own (by exact pkx) hG)) hyl hyl) ?_; rintro v M ⟨rfl, ba', bc', rfl⟩; (try dsimp only [jL, jM])) | (apply gw_callE (f := 92); exact rfl; exact go92; intro G hG; exact bitLenN_spec e by' oy G [] ((hy.sub (by exact sbl)).base hG) hM) | (apply gw_asg; exact rfl) | (apply gw_alloc; exact rfl; intro b) | (fail))) | (apply CW_region; intro K hK) | (apply CW_condX; exact rfl; exact tst; exact tst; all_goals (intro hq hc; try exact no)))
    · refine ⟨_, _, _, ⟨i + 1, x, y * y, bo, bb, oa, ba', oc, bc', rfl, rfl, rfl, by omega, by rw [hpb]; simp, fun _ => hsq⟩, ?_, by exact sbl, by omega⟩
      have e1 : ((i + 1 : Nat) : Int) = (i : Int) + 1 := by omega
      rw [e1]
      exact sbe
    · refine ⟨_, _, _, ⟨i + 1, x, y, bo, bb, oa, ba, oc, bc, rfl, rfl, rfl, by omega, by rw [hpb]; simp, fun h => absurd h hj⟩, ?_, by exact sbl, by omega⟩
      have e1 : ((i + 1 : Nat) : Int) = (i : Int) + 1 := by omega
      rw [e1]
      exact sbe
    · refine ⟨_, _, _, ⟨i + 1, (x * y), (y * y), bo, bb, oa', ba', oc', bc', rfl, rfl, rfl, by omega, by rw [hpb]; simp, fun _ => hsq⟩, ?_, by exact sbl, by omega⟩
      have e1 : ((i + 1 : Nat) : Int) = (i : Int) + 1 := by omega
      rw [e1]
      exact sbe
    · refine ⟨_, _, _, ⟨i + 1, (x * y), y, bo, bb, oa', ba, oc', bc, rfl, rfl, rfl, by omega, by rw [hpb]; simp, fun h => absurd h hj⟩, ?_, by exact sbl, by omega⟩
      have e1 : ((i + 1 : Nat) : Int) = (i : Int) + 1 := by omega
      rw [e1]
      exact sbe
  · obtain rfl : i = bl e := by omega
    rw [mod_all] at h1
    subst h1
    
    repeat' (first | (apply RW.q1; exact qt) | refine xsg cts ?_ | (apply CW_condT; exact rfl; exact ar) | (apply CW_condF; exact rfl; exact ar) | (refine hK _ _ ?_; clear hK; refine xsg xsl ?_) | ((first | apply RW.a1 | apply RW.a0); (first | (apply gw_callc (f := 112) (M := [.box bz _ _]); exact rfl; exact go112; exact pcs; intro G hG; refine SC.mono (set_spec bz off _ _ ((X ^ e : Nat) : Int) bo 0 G hoff (intW_own (by exact pkx) (by exact pkx) hG _) (by rw [wd_nat]; omega)) ?_; rintro v M ⟨rfl, za, zc, rfl⟩; (try dsimp only [jL, jM])) | (apply gw_asg; exact rfl) | (apply gw_alloc; exact rfl; intro b) | (fail))) | (apply CW_region; intro K hK) | (apply CW_condX; exact rfl; exact tst; exact tst; all_goals (intro hq hc; try exact no)))
    (refine CW_ret ?_; refine xsg xsl ?_; refine bR [.tmp 8] [.box bz TB (intC cs off ((X ^ e : Nat) : Int) za zc), intR ((X ^ e : Nat) : Int) za zc] ?_)
    exact ⟨rfl, za, zc, rfl⟩
end Go.Proofs.YtnhbipachchlgaaGreat.HL
namespace Go.Proofs.YtnhbipachchlgaaGreat.HL
open Go
attribute [local irreducible] goFn thenS blockS bodyS CW RW DW GW QW NW SC Pick Picks SubL Rd NN ResOk SrcW subE hops hseg AW hgen HC qv bldv
set_option linter.unusedVariables false
set_option linter.unusedSimpArgs false

theorem wd_neg (z : Int) : wd (-z) = wd z := by unfold wd; rw [Int.natAbs_neg]
theorem negP_spec (b off : Nat) (TB : TypeId) (cs : List Value) (z : Int) (a : Option Addr) (c : Nat) (H : Hp) (hoff : off + 1 < cs.length) (hx : Rs H 1 a (wd z).length c (ws (wd z))) (hN : (wd z).length ≤ 1099511627776) :
    SC Tryz.prog 111 [.pointer (some ⟨b, off, none⟩), .bool (!(decide (z < 0))), .slice a (wd z).length c] H [.box b TB cs] (fun v M => v = .pointer (some ⟨b, off, none⟩) ∧ M = [.box b TB (intC cs off (-z) a c)]) := by
  have h := put_spec b off TB cs (!(decide (z < 0))) (wd z) a _ c H hoff hx rfl hN (dgs_dg w1 _)
  have h1 : nv W32 (wd z) = z.natAbs := nv_dgs w1 _
  have h2 : ((!(decide (z < 0))) && decide (0 < nv W32 (wd z))) = decide (-z < 0) := by
    rw [h1]
    by_cases h0 : z < 0
    · rw [decide_eq_true h0, decide_eq_false (p := -z < 0) (by omega)]; rfl
    · rw [decide_eq_false h0]
      by_cases h3 : z = 0
      · subst h3; rfl
      · rw [decide_eq_true (p := -z < 0) (by omega), decide_eq_true (by omega)]; rfl
  rw [h2, (put_int z).2, ← wd_neg z] at h
  rw [← wd_neg z]
  exact h
theorem intR_neg (z : Int) (a : Option Addr) (c : Nat) : intR (-z) a c = .own 116 1 a (wd z).length c (ws (wd z)) := by unfold intR; rw [wd_neg]
theorem neg_spec (b off : Nat) (TB : TypeId) (cs : List Value) (z : Int) (bx ox : Nat) (H : Hp) (hoff : off + 1 < cs.length) (hx : IntW H [.box b TB cs] bx ox z) (hN : (wd z).length ≤ 1099511627776) :
    SC Tryz.prog 127 [.pointer (some ⟨b, off, none⟩), .pointer (some ⟨bx, ox, none⟩)] H [.box b TB cs] (fun v M => v = .pointer (some ⟨b, off, none⟩) ∧ ∃ a c, M = [.box b TB (intC cs off (-z) a c), intR (-z) a c]) := by
  obtain ⟨xa, xc, x1, x2, x3⟩ := hx
  (refine SC_intro Tryz.func127 rfl (by kernel_rfl) (by rw [Tryz.ntmps127]; exact Nat.le_of_ble_eq_true rfl) ?_; simp only [Tryz.ntmps127, argE, Nat.reduceAdd])
  repeat' (first | ((first | apply RW.q1 | (apply DW.q1; exact rfl)); (first | (apply q_load; exact rfl; exact rfl; (first | exact Rd.sub x1 (by exact sbl) | exact Rd.sub x2 (by exact sbl))) | exact qt)) | refine xsg cts ?_ | (apply CW_condT; exact rfl; exact ar) | (apply CW_condF; exact rfl; exact ar) | (refine hK _ _ ?_; clear hK; refine xsg xsl ?_) | (refine xsg ahd ?_; (first | ((first | apply gw_call (f := 131) | apply gx_call (f := 131)); exact rfl; exact go131; intro G hG; refine SC.mono (clone_spec (wd z) xa _ xc G rfl hN (x3.ext hG.ext)) ?_; rintro v M ⟨ra, rc, rfl, rfl⟩; (try dsimp only [jL, jM])) | (apply gw_callc (f := 111) (M := [.box b TB cs]); exact rfl; exact go111; exact pcs; intro G hG; refine SC.mono (negP_spec b off TB cs z ra rc G hoff (sl_own (by exact pkx) hG) hN) ?_; rintro v M ⟨rfl, rfl⟩; (try dsimp only [jL, jM])) | (apply gw_asg; exact rfl) | (fail))) | (apply CW_region; intro K hK) | (apply CW_condX; exact rfl; exact tst; exact tst; all_goals (intro hq hc; try exact nx)) | (refine CW_draw (id := 1) [10] [(0, false), (1, false), (2, false), (3, false), (4, false), (5, false), (6, false), (7, false), (8, false), (9, false), (10, true), (11, true), (12, false)] mixed (by kernel_rfl) (fun K hK => ?_)))
  refine CW_drop [.box b TB (intC cs off (-z) ra rc), intR (-z) ra rc] ?_ ?_
  · apply subl_cons
    · exact pkx
    · rw [intR_neg]
      apply subl_cons
      · exact pkx
      · exact subl_nil
  · (refine CW_ret ?_; refine xsg xsl ?_; refine bR [.tmp 4] [.box b TB (intC cs off (-z) ra rc), intR (-z) ra rc] ?_)
    exact ⟨rfl, ra, rc, rfl⟩
end Go.Proofs.YtnhbipachchlgaaGreat.HL
namespace Go.Proofs.YtnhbipachchlgaaGreat.HL
open Go
attribute [local irreducible] goFn thenS blockS bodyS CW RW DW GW QW NW SC Pick Picks SubL Rd NN ResOk SrcW subE hops hseg AW hgen HC qv bldv
set_option linter.unusedVariables false
set_option linter.unusedSimpArgs false

def RatW (H : Hp) (L : List Res) (b off : Nat) (p q : Int) : Prop := IntW H L b off p ∧ IntW H L b (off + 2) q
def den (q : Int) : Int := if q = 0 then 1 else q
theorem RatW.sub {H : Hp} {L L' : List Res} {b off : Nat} {p q : Int} (h : RatW H L b off p q) (hs : SubL L L') : RatW H L' b off p q := ⟨h.1.sub hs, h.2.sub hs⟩
theorem RatW.base {H G : Hp} {L : List Res} {b off : Nat} {p q : Int} (h : RatW H L b off p q) (hg : Hs H L G) : RatW G [] b off p q := ⟨h.1.base hg, h.2.base hg⟩
theorem ratSign_spec (p q : Int) (bx ox : Nat) (H : Hp) (L : List Res) (hx : RatW H L bx ox p q) : SC Tryz.prog 77 [.pointer (some ⟨bx, ox, none⟩)] H L (fun v M => v = .int .i64 p.sign ∧ M = L) := by
  (refine SC_intro Tryz.func77 rfl (by kernel_rfl) (by rw [Tryz.ntmps77]; exact Nat.le_of_ble_eq_true rfl) ?_; simp only [Tryz.ntmps77, argE, Nat.reduceAdd])
  repeat' (first | (apply RW.q1; exact qt) | refine xsg cts ?_ | (apply CW_condT; exact rfl; exact ar) | (apply CW_condF; exact rfl; exact ar) | (refine hK _ _ ?_; clear hK; refine xsg xsl ?_) | ((first | apply RW.a1 | apply RW.a0); (first | (apply gw_callE (f := 98); exact rfl; exact go98; intro G hG; exact sign_spec p bx ox G [] (hx.1.base hG)) | (apply gw_asg; exact rfl) | (fail))) | (apply CW_region; intro K hK) | (apply CW_condX; exact rfl; exact tst; exact tst; all_goals (intro hq hc; try exact nx)))
  (refine CW_ret ?_; refine xsg xsl ?_; refine bR [.tmp 2] L ?_)
  exact ⟨rfl, rfl⟩
theorem num_spec (p q : Int) (bx ox : Nat) (H : Hp) (hx : RatW H [] bx ox p q) (hN : (wd p).length ≤ 1099511627776) :
    SC Tryz.prog 91 [.pointer (some ⟨bx, ox, none⟩)] H [] (fun v M => ∃ bo a c, v = .pointer (some ⟨bo, 0, none⟩) ∧ M = [.box bo 88 (intB p a c), intR p a c]) := by
  (refine SC_intro Tryz.func91 rfl (by kernel_rfl) (by rw [Tryz.ntmps91]; exact Nat.le_of_ble_eq_true rfl) ?_; simp only [Tryz.ntmps91, argE, Nat.reduceAdd])
  repeat' (first | (apply RW.q1; exact qt) | refine xsg cts ?_ | (apply CW_condT; exact rfl; exact ar) | (apply CW_condF; exact rfl; exact ar) | (refine hK _ _ ?_; clear hK; refine xsg xsl ?_) | ((first | apply RW.a1 | apply RW.a0); (first | (apply gw_alloc (d := some 3); exact rfl; intro bo) | (apply gw_callc (f := 112) (M := [.box bo _ _]); exact rfl; exact go112; exact pcs; intro G hG; refine SC.mono (set_spec bo 0 _ _ p bx ox G (by decide) ((hx.1.base hG).sub subl_nil) hN) ?_; rintro v M ⟨rfl, oa, oc, rfl⟩; (try dsimp only [jL, jM])) | (apply gw_asg; exact rfl) | (apply gw_alloc; exact rfl; intro b) | (fail))) | (apply CW_region; intro K hK) | (apply CW_condX; exact rfl; exact tst; exact tst; all_goals (intro hq hc; try exact nx)))
  (refine CW_ret ?_; refine xsg xsl ?_; refine bR [.tmp 2] [.box bo 88 (intB p oa oc), intR p oa oc] ?_)
  exact ⟨bo, oa, oc, rfl, rfl⟩
theorem denom_spec (p q : Int) (bx ox : Nat) (H : Hp) (hx : RatW H [] bx ox p q) (hN : (wd q).length ≤ 1099511627776) :
    SC Tryz.prog 83 [.pointer (some ⟨bx, ox, none⟩)] H [] (fun v M => ∃ bo a c, v = .pointer (some ⟨bo, 0, none⟩) ∧ M = [.box bo 88 (intB (den q) a c), intR (den q) a c]) := by
  by_cases h0 : q = 0
  · subst h0
    (refine SC_intro Tryz.func83 rfl (by kernel_rfl) (by rw [Tryz.ntmps83]; exact Nat.le_of_ble_eq_true rfl) ?_; simp only [Tryz.ntmps83, argE, Nat.reduceAdd])
    repeat' (first | (apply RW.q1; exact qt) | refine xsg cts ?_ | (apply CW_condT; exact rfl; exact ar) | (apply CW_condF; exact rfl; exact ar) | (refine hK _ _ ?_; clear hK; refine xsg xsl ?_) | ((first | apply RW.a1 | apply RW.a0); (first | (apply gw_callE (f := 98); exact rfl; exact go98; intro G hG; exact sign_spec 0 bx (ox + 2) G [] (hx.2.base hG)) | (apply gw_call (f := 72); exact rfl; exact go72; intro G hG; refine SC.mono (newInt_spec 1 G (by decide)) ?_; rintro v M ⟨bo, oa, oc, rfl, rfl⟩; (try dsimp only [jL, jM])) | (apply gw_asg; exact rfl) | (apply gw_alloc; exact rfl; intro b) | (fail))) | (apply CW_region; intro K hK) | (apply CW_condX; exact rfl; exact tst; exact tst; all_goals (intro hq hc; try exact nx)))
    all_goals (refine CW_ret ?_; refine xsg xsl ?_; refine bR [.tmp 2] [.box bo 88 (intB 1 oa oc), intR 1 oa oc] ?_)
    all_goals exact ⟨bo, oa, oc, rfl, rfl⟩
  · have hs : ¬ q.sign = 0 := fun h => h0 (Int.sign_eq_zero_iff_zero.1 h)
    have hd : den q = q := if_neg h0
    rw [hd]
    (refine SC_intro Tryz.func83 rfl (by kernel_rfl) (by rw [Tryz.ntmps83]; exact Nat.le_of_ble_eq_true rfl) ?_; simp only [Tryz.ntmps83, argE, Nat.reduceAdd])
    
    repeat' (first | (apply RW.q1; exact qt) | refine xsg cts ?_ | (apply CW_condT; exact rfl; exact ar) | (apply CW_condF; exact rfl; exact ar) | (refine hK _ _ ?_; clear hK; refine xsg xsl ?_) | ((first | apply RW.a1 | apply RW.a0); (first | (apply gw_callE (f := 98); exact rfl; exact go98; intro G hG; exact sign_spec q bx (ox + 2) G [] (hx.2.base hG)) | (apply gw_alloc (d := some 9); exact rfl; intro bo) | (apply gw_callc (f := 112) (M := [.box bo _ _]); exact rfl; exact go112; exact pcs; intro G hG; refine SC.mono (set_spec bo 0 _ _ q bx (ox + 2) G (by decide) ((hx.2.base hG).sub subl_nil) hN) ?_; rintro v M ⟨rfl, oa, oc, rfl⟩; (try dsimp only [jL, jM])) | (apply gw_asg; exact rfl) | (apply gw_alloc; exact rfl; intro b) | (fail))) | (apply CW_region; intro K hK) | (apply CW_condX; exact rfl; exact tst; exact tst; all_goals (intro hq hc; try exact no)))
    all_goals (refine CW_ret ?_; refine xsg xsl ?_; refine bR [.tmp 2] [.box bo 88 (intB q oa oc), intR q oa oc] ?_)
    all_goals exact ⟨bo, oa, oc, rfl, rfl⟩
end Go.Proofs.YtnhbipachchlgaaGreat.HL
namespace Go.Proofs.YtnhbipachchlgaaGreat.HL
open Go
attribute [local irreducible] goFn thenS blockS bodyS CW RW DW GW QW NW SC Pick Picks SubL Rd NN ResOk SrcW subE hops hseg AW hgen HC qv bldv
set_option linter.unusedVariables false
set_option linter.unusedSimpArgs false

abbrev nvR (x : Nat) (a : Option Addr) (c : Nat) : Res := .own 116 1 a (dgs W32 x).length c (ws (dgs W32 x))
theorem dgs_one {y : Nat} (h0 : 0 < y) (h : y < 4294967296) : dgs W32 y = [y] := by
  rw [dgs_pos w1 h0, Nat.mod_eq_of_lt h, show y / W32 = 0 from Nat.div_eq_of_lt h, dgs_zero]
theorem smallN_spec (x bw : Nat) (a : Option Addr) (c : Nat) (H : Hp) (hx : Rs H 1 a (dgs W32 x).length c (ws (dgs W32 x))) (hN : (dgs W32 x).length ≤ 16777216) (hb0 : 0 < bw) (hb : bw < 4294967296) :
    SC Tryz.prog 103 [.slice a (dgs W32 x).length c, .int .u32 (bw : Nat)] H [] (fun v M => ∃ qa qc qs, v = .tuple #[.slice qa (dgs W32 x).length qc, .int .u32 ((x % bw : Nat) : Int)] ∧ M = [.own 116 1 qa (dgs W32 x).length qc (ws qs)] ∧ qs.length = (dgs W32 x).length ∧ Dg W32 qs ∧ nv W32 qs = x / bw) := by
  have h := small_spec (dgs W32 x) bw a _ c H hx rfl hN (dgs_dg w1 _) hb0 hb
  rw [nv_dgs w1] at h
  exact h
theorem trimN_spec (ds : List Nat) (x : Nat) (a : Option Addr) (n c : Nat) (H : Hp) (hx : Rs H 1 a n c (ws ds)) (hn : ds.length = n) (hN : n ≤ 1099511627776) (hd : Dg W32 ds) (hv : nv W32 ds = x) :
    SC Tryz.prog 104 [.slice a n c] H [] (fun v M => v = .slice a (dgs W32 x).length c ∧ M = []) := by
  have h := trim_spec ds a n c H hx hn hN hd
  rw [hv] at h
  exact h
theorem dg_one {d : Nat} (h : d < 4294967296) : Dg W32 [d] := fun e he => by rcases List.mem_cons.1 he with rfl | he; exact h; cases he
abbrev DivPost (x y : Nat) (v : Value) (M : List Res) : Prop := ∃ qa qc ra rc, v = .tuple #[.slice qa (dgs W32 (x / y)).length qc, .slice ra (dgs W32 (x % y)).length rc] ∧ M = [nvR (x / y) qa qc, nvR (x % y) ra rc]
theorem divideS_spec (x y : Nat) (xa ya : Option Addr) (xc yc : Nat) (H : Hp) (hx : Rs H 1 xa (dgs W32 x).length xc (ws (dgs W32 x))) (hy : Rs H 1 ya (dgs W32 y).length yc (ws (dgs W32 y))) (hN : (dgs W32 x).length ≤ 1048576) (hM : (dgs W32 y).length ≤ 1048576) (hs : x < y ∨ (0 < y ∧ y < 4294967296)) :
    SC Tryz.prog 130 [.slice xa (dgs W32 x).length xc, .slice ya (dgs W32 y).length yc] H [] (fun v M => DivPost x y v M) := by
  by_cases hxy : x < y
  · unfold DivPost
    rw [Nat.div_eq_of_lt hxy, Nat.mod_eq_of_lt hxy]
    (refine SC_intro Tryz.func130 rfl (by kernel_rfl) (by rw [Tryz.ntmps130]; exact Nat.le_of_ble_eq_true rfl) ?_; simp only [Tryz.ntmps130, argE, Nat.reduceAdd])
    
    repeat' (first | ((first | apply RW.q1 | (apply DW.q1; exact rfl)); exact qt) | refine xsg cts ?_ | (apply CW_condT; exact rfl; exact ar) | (apply CW_condF; exact rfl; exact ar) | (refine hK _ _ ?_; clear hK; refine xsg xsl ?_) | (refine xsg ahd ?_; (first | (apply gw_call (f := 132); exact rfl; exact go132; intro G hG; refine SC.mono (compare_spec x y xa ya _ _ xc yc G rfl rfl (hx.ext hG.ext) (hy.ext hG.ext) (by omega) (by omega)) ?_; rintro v M ⟨r, rfl, r1, r2, r3, r4, rfl⟩; (try dsimp only [jL, jM])) | (apply gw_call (f := 131); exact rfl; exact go131; intro G hG; refine SC.mono (clone_spec (dgs W32 x) xa _ xc G rfl (by omega) (hx.ext hG.ext)) ?_; rintro v M ⟨ra, rc, rfl, rfl⟩; (try dsimp only [jL, jM])) | (apply gw_asg; exact rfl) | (apply gw_make; exact rfl; exact rfl; exact rfl; exact rfl; omega; omega; omega; omega; intro b) | (apply gw_lit1; exact rfl; exact rfl; exact rfl; exact rfl; decide; intro b) | (apply gw_lit2; exact rfl; exact rfl; exact rfl; exact rfl; intro b) | (apply gw_lit3; exact rfl; exact rfl; exact rfl; exact rfl; exact rfl; intro b) | (refine gw_stx sto ?_) | (fail))) | (apply CW_region; intro K hK) | (apply CW_condX; exact rfl; exact tst; exact tst; all_goals (intro hq hc; try exact no)) | (refine CW_draw (id := 7) [] [(0, false), (1, false), (3, false), (4, false), (6, false), (7, false), (2, true), (5, true), (8, false), (9, false), (10, false)] mixed (by kernel_rfl) (fun K hK => ?_)) | (refine CW_draw (id := 13) [] [(0, false), (2, false), (3, false), (4, false), (5, false), (6, false), (1, true), (7, true), (8, true), (9, false), (10, false)] mixed (by kernel_rfl) (fun K hK => ?_)))
    all_goals (refine CW_ret ?_; refine xsg xsl ?_; refine bR [.tmp 4, .tmp 5] [.own 116 1 none 0 0 [], nvR x ra rc] ?_)
    all_goals exact ⟨none, 0, ra, rc, by unfold nvR; rw [dgs_zero]; exact ⟨rfl, rfl⟩⟩
  · have hy1 := hs.resolve_left hxy
    obtain ⟨hy0, hyw⟩ := hy1
    have e1 := dgs_one hy0 hyw
    have e2 : (dgs W32 y).length = 1 := by rw [e1]; rfl
    (refine SC_intro Tryz.func130 rfl (by kernel_rfl) (by rw [Tryz.ntmps130]; exact Nat.le_of_ble_eq_true rfl) ?_; simp only [Tryz.ntmps130, argE, Nat.reduceAdd])
    
    repeat' (first | ((first | apply RW.q1 | (apply DW.q1; exact rfl)); (first | (apply q_ldr; exact rfl; exact rfl; exact hy; (rw [e1]; exact rfl)) | exact qt)) | refine xsg cts ?_ | (apply CW_condT; exact rfl; exact ar) | (apply CW_condF; exact rfl; exact ar) | (refine hK _ _ ?_; clear hK; refine xsg xsl ?_) | (refine xsg ahd ?_; (first | (apply gw_call (f := 132); exact rfl; exact go132; intro G hG; refine SC.mono (compare_spec x y xa ya _ _ xc yc G rfl rfl (hx.ext hG.ext) (hy.ext hG.ext) (by omega) (by omega)) ?_; rintro v M ⟨r, rfl, r1, r2, r3, r4, rfl⟩; (try dsimp only [jL, jM])) | (apply gw_call (f := 103); exact rfl; exact go103; intro G hG; refine SC.mono (smallN_spec x y xa xc G (hx.ext hG.ext) (by omega) hy0 hyw) ?_; rintro v M ⟨qa, qc, qs, rfl, rfl, q1, q2, q3⟩; (try dsimp only [jL, jM])) | (apply gw_callE (f := 104); exact rfl; exact go104; intro G hG; exact trimN_spec qs (x / y) qa _ qc G (sl_own (by exact pkx) hG) q1 (by omega) q2 q3) | (apply gw_callE (f := 104); exact rfl; exact go104; intro G hG; exact trimN_spec [x % y] (x % y) _ 1 1 G (sl_own (by exact pkx) hG) rfl (by omega) (dg_one (Nat.lt_trans (Nat.mod_lt _ hy0) hyw)) (by simp [nv])) | (apply gw_asg; exact rfl) | (apply gw_make; exact rfl; exact rfl; exact rfl; exact rfl; omega; omega; omega; omega; intro b) | (apply gw_lit1; exact rfl; exact rfl; exact rfl; exact rfl; decide; intro b) | (apply gw_lit2; exact rfl; exact rfl; exact rfl; exact rfl; intro b) | (apply gw_lit3; exact rfl; exact rfl; exact rfl; exact rfl; exact rfl; intro b) | (refine gw_stx sto ?_) | (fail))) | (apply CW_region; intro K hK) | (apply CW_condX; exact rfl; exact tst; exact tst; all_goals (intro hq hc; try exact no)) | (refine CW_draw (id := 7) [] [(0, false), (1, false), (3, false), (4, false), (6, false), (7, false), (2, true), (5, true), (8, false), (9, false), (10, false)] mixed (by kernel_rfl) (fun K hK => ?_)) | (refine CW_draw (id := 13) [] [(0, false), (2, false), (3, false), (4, false), (5, false), (6, false), (1, true), (7, true), (8, true), (9, false), (10, false)] mixed (by kernel_rfl) (fun K hK => ?_)))
    refine CW_drop [nvR (x / y) qa qc, nvR (x % y) (some ⟨b, 0, none⟩) 1] ?_ ?_
    · rw [← q3]
      apply subl_norm
      · exact pkx
      · exact q2
      · exact q1
      · have e3 := subl_norm (L := [.own 116 1 (some ⟨b, 0, none⟩) 1 1 (ws [x % y])]) (M := []) (pick0) (dg_one (Nat.lt_trans (Nat.mod_lt x hy0) hyw)) rfl subl_nil
        rw [show nv W32 [x % y] = x % y by simp [nv]] at e3
        exact e3
    · (refine CW_ret ?_; refine xsg xsl ?_; refine bR [.tmp 4, .tmp 5] [nvR (x / y) qa qc, nvR (x % y) (some ⟨b, 0, none⟩) 1] ?_)
      exact ⟨qa, qc, _, _, rfl, rfl⟩
end Go.Proofs.YtnhbipachchlgaaGreat.HL
namespace Go.Proofs.YtnhbipachchlgaaGreat.HL
open Go
attribute [local irreducible] goFn thenS blockS bodyS CW RW DW GW QW NW SC Pick Picks SubL Rd NN ResOk SrcW subE hops hseg AW hgen HC qv bldv
set_option linter.unusedVariables false
set_option linter.unusedSimpArgs false

theorem or32 {o m s : Nat} (ho : o < 2 ^ s) (hl : 2 ^ s * m < 4294967296) (ho2 : o < 4294967296) : bitI .or .u32 (o : Int) ((2 ^ s * m : Nat) : Int) = some ((2 ^ s * m + o : Nat) : Int) := by
  have h1 : (BitVec.ofInt 32 ((2 ^ s * m : Nat) : Int)).toNat = 2 ^ s * m := by rw [BitVec.toNat_ofInt]; omega
  have h2 : (BitVec.ofInt 32 (o : Int)).toNat = o := by rw [BitVec.toNat_ofInt]; omega
  have h3 : o ||| 2 ^ s * m = 2 ^ s * m + o := by
    rw [Nat.or_comm]
    exact (Nat.two_pow_add_eq_or_of_lt ho m).symm
  have h5 : 2 ^ s * m + o < 4294967296 := by
    rw [← h3]
    exact Nat.or_lt_two_pow (n := 32) ho2 hl
  have h4 : ((BitVec.ofInt 32 (o : Int) ||| BitVec.ofInt 32 ((2 ^ s * m : Nat) : Int)).toNat : Int) = ((2 ^ s * m + o : Nat) : Int) := by
    rw [BitVec.toNat_or, h1, h2, h3]
  show some (IntKind.u32.wrap ((BitVec.ofInt 32 (o : Int) ||| BitVec.ofInt 32 ((2 ^ s * m : Nat) : Int)).toNat : Int)) = _
  rw [h4, HL.wrap32]
  congr 1; omega
theorem or32_lt {o m s : Nat} (ho : o < 2 ^ s) (hl : 2 ^ s * m < 4294967296) (ho2 : o < 4294967296) : 2 ^ s * m + o < 4294967296 := by
  have h3 : o ||| 2 ^ s * m = 2 ^ s * m + o := by
    rw [Nat.or_comm]
    exact (Nat.two_pow_add_eq_or_of_lt ho m).symm
  rw [← h3]
  exact Nat.or_lt_two_pow (n := 32) ho2 hl
theorem left_dig {s x : Nat} (hs : s < 32) (hx : x < 4294967296) : ∃ m h, x * 2 ^ s = 4294967296 * h + 2 ^ s * m ∧ 2 ^ s * m < 4294967296 ∧ h < 2 ^ s ∧ h < 4294967296 ∧ x * 2 ^ s % 4294967296 = 2 ^ s * m ∧ x * 2 ^ s / 4294967296 = h ∧ x * 2 ^ s < 18446744073709551616 := by
  have e : 2 ^ (32 - s) * 2 ^ s = 4294967296 := by rw [← Nat.pow_add, show 32 - s + s = 32 by omega]
  have hp : 0 < 2 ^ s := Nat.pow_pos (by decide)
  have hps : 2 ^ s < 2 ^ 32 := Nat.pow_lt_pow_right (by decide) hs
  have h1 := Nat.div_add_mod x (2 ^ (32 - s))
  have h2 : x % 2 ^ (32 - s) < 2 ^ (32 - s) := Nat.mod_lt _ (Nat.pow_pos (by decide))
  generalize x % 2 ^ (32 - s) = m at h1 h2
  generalize hq : x / 2 ^ (32 - s) = q at h1
  have h3 : x * 2 ^ s = 4294967296 * q + 2 ^ s * m := by
    rw [← h1, Nat.add_mul, Nat.mul_right_comm, e, Nat.mul_comm m]
  have h4 : 2 ^ s * m < 4294967296 := by
    rw [← e, Nat.mul_comm]; exact Nat.mul_lt_mul_of_pos_right h2 hp
  have h5 : q < 2 ^ s := by rw [← hq]; apply Nat.div_lt_of_lt_mul; rw [e]; exact hx
  have h6 : q < 4294967296 := Nat.lt_trans h5 hps
  refine ⟨m, q, h3, h4, h5, h6, ?_, ?_, ?_⟩ <;> omega
theorem left_spec (xs : List Nat) (s : Nat) (a : Option Addr) (n c : Nat) (H : Hp) (hx : Rs H 1 a n c (ws xs)) (hn : xs.length = n) (hN : n ≤ 1048576) (hd : Dg W32 xs) (hs : s < 32) :
    SC Tryz.prog 143 [.slice a n c, .int .i64 (s : Nat)] H [] (fun v M => ∃ qa qc qs, v = .slice qa (n + 1) qc ∧ M = [.own 116 1 qa (n + 1) qc (ws qs)] ∧ qs.length = n + 1 ∧ Dg W32 qs ∧ nv W32 qs = nv W32 xs * 2 ^ s) := by
  (refine SC_intro Tryz.func143 rfl (by kernel_rfl) (by rw [Tryz.ntmps143]; exact Nat.le_of_ble_eq_true rfl) ?_; simp only [Tryz.ntmps143, argE, Nat.reduceAdd])
  
  repeat' (first | (apply RW.q1; exact qt) | refine xsg cts ?_ | (apply CW_condT; exact rfl; exact ar) | (apply CW_condF; exact rfl; exact ar) | (refine hK _ _ ?_; clear hK; refine xsg xsl ?_) | ((first | apply RW.a1 | apply RW.a0); (first | (apply gw_asg; exact rfl) | (apply gw_make; exact rfl; exact rfl; exact rfl; exact rfl; omega; omega; omega; omega; intro b) | (refine gw_stx sto ?_) | (fail))) | (apply CW_region; intro K hK) | (apply CW_condX; exact rfl; exact tst; exact tst; all_goals (intro hq hc; try exact no)))
  have e0 : zrow [Value.int .u32 0] ((n : Int) + 1).toNat = ws (List.replicate (n + 1) 0) := by rw [ws_zero, show ((n : Int) + 1).toNat = n + 1 by omega]
  rw [e0]
  refine CW_loop (fun m l L => ∃ (i : Nat) (os : List Nat) (qa : Option Addr) (qn qc : Nat), m = n - i + 1 ∧ l = [(1, true, .int .i64 (s : Nat)), (5, true, .slice qa qn qc), (13, true, .slice a n c), (14, true, .int .i64 (n : Nat)), (15, true, .int .i64 (i : Nat))] ∧
      L = [.own 116 1 qa qn qc (ws os)] ∧ qn = n + 1 ∧ i ≤ n ∧ os.length = n + 1 ∧ Dg W32 os ∧ nv W32 os = nv W32 (xs.take i) * 2 ^ s ∧ (∀ o, os[i]? = some o → o < 2 ^ s) ∧ (∀ j, i < j → j < n + 1 → os[j]? = some 0))
    ⟨_, _, _, ⟨0, _, _, ((n : Int) + 1).toNat, _, rfl, rfl, rfl, by omega, by omega, List.length_replicate, dg_zeros (by decide) _, by rw [nv_zeros, List.take_zero]; simp [nv], fun o ho => (by rw [List.getElem?_replicate, if_pos (by omega)] at ho; cases ho; exact Nat.pow_pos (by decide)), fun j h1 h2 => by rw [List.getElem?_replicate, if_pos h2]⟩, by exact sbe, by exact sbl⟩ ?_
  rintro m l L ⟨i, os, qa, qn, qc, rfl, rfl, rfl, h0, h1, h2, h3, h4, h5, h6⟩
  by_cases hi : i < n
  · obtain ⟨x, hxi⟩ : ∃ d, xs[i]? = some d := ⟨_, List.getElem?_eq_getElem (by omega)⟩
    obtain ⟨o, hoi⟩ : ∃ d, os[i]? = some d := ⟨_, List.getElem?_eq_getElem (by omega)⟩
    have hxw : x < 4294967296 := dg_at hd hxi
    have how : o < 4294967296 := dg_at h3 hoi
    obtain ⟨lo, hh, l1, l2, l3, l4, l5, l6, l7⟩ := left_dig hs hxw
    obtain ⟨t, ht⟩ : ∃ t, t = x * 2 ^ s := ⟨_, rfl⟩
    rw [← ht] at l1 l5 l6 l7
    have hor := or32 (h5 o hoi) l2 how
    obtain ⟨w, hw⟩ : ∃ w, w = 2 ^ s * lo := ⟨_, rfl⟩
    rw [← hw] at l1 l2 l5 hor
    have hsum : w + o < 4294967296 := by
      rw [hw]; exact or32_lt (h5 o hoi) (by rw [← hw]; exact l2) how
    have hz := h6 (i + 1) (by omega) (by omega)
    have hsl : IntKind.u64.wrap ((x : Int) * 2 ^ (min (s : Int).toNat IntKind.u64.bits)) = (t : Int) := by
      rw [show min (s : Int).toNat IntKind.u64.bits = s by simp [IntKind.bits]; omega, show (x : Int) * 2 ^ s = ((x * 2 ^ s : Nat) : Int) by rw [Int.natCast_mul, Int.natCast_pow]; rfl, ← ht, HL.wrap64]
      omega
    have hlo : IntKind.u32.wrap (t : Int) = (w : Int) := by rw [HL.wrap32]; omega
    have hsr : (t : Int).fdiv (2 ^ (min (32 : Int).toNat IntKind.u64.bits)) = (hh : Int) := by
      rw [show (2 : Int) ^ (min (32 : Int).toNat IntKind.u64.bits) = ((4294967296 : Nat) : Int) by decide, Int.fdiv_eq_ediv_of_nonneg _ (by omega)]
      omega
    have hhi : IntKind.u32.wrap (hh : Int) = (hh : Int) := w_in (by simp only [inb]; omega)
    
    repeat' (first | (apply RW.q1; (first | (apply q_shl; exact rfl; exact rfl; omega; exact hsl) | (apply q_shr; exact rfl; exact rfl; decide; exact hsr) | (apply q_bit; exact rfl; exact rfl; exact hor) | (apply q_cint; exact rfl; exact hlo) | (apply q_cint; exact rfl; exact hhi) | (apply q_ldr; exact rfl; exact rfl; exact hx; exact ws_at hxi _ (by omega)) | (apply q_ldo; exact rfl; exact rfl; infer_instance; exact ws_at hoi _ (by omega)) | exact qt)) | refine xsg cts ?_ | (apply CW_condT; exact rfl; exact ar) | (apply CW_condF; exact rfl; exact ar) | (refine hK _ _ ?_; clear hK; refine xsg xsl ?_) | ((first | apply RW.a1 | apply RW.a0); (first | (apply gw_sow i (w + o); exact rfl; exact rfl; infer_instance; omega; exact rfl; omega) | (apply gw_sow (i + 1) hh; exact rfl; exact rfl; infer_instance; omega; exact rfl; (try rw [List.length_set]); omega) | (apply gw_asg; exact rfl) | (apply gw_make; exact rfl; exact rfl; exact rfl; exact rfl; omega; omega; omega; omega; intro b) | (refine gw_stx sto ?_) | (fail))) | (apply CW_region; intro K hK) | (apply CW_condX; exact rfl; exact tst; exact tst; all_goals (intro hq hc; try exact no)))
    have hi1 : (os.set i (w + o))[i + 1]? = some 0 := by rw [List.getElem?_set_ne (by omega)]; exact hz
    have n1 := nv_set (B := W32) (w + o) hoi
    have n2 := nv_set (B := W32) hh hi1
    have n3 := nv_take (B := W32) hxi
    refine ⟨_, _, _, ⟨i + 1, (os.set i (w + o)).set (i + 1) hh, qa, qn, qc, rfl, rfl, rfl, by omega, by omega, by rw [List.length_set, List.length_set]; exact h2, dg_set (dg_set h3 hsum) l4, ?_, ?_, ?_⟩, ?_, by exact sbl, by omega⟩
    · rw [n3, Nat.add_mul, ← h4, Nat.mul_assoc, ← ht, l1]
      rw [Nat.mul_zero, Nat.add_zero, Nat.pow_succ] at n2
      rw [n2, Nat.mul_add, ← Nat.mul_assoc]
      rw [Nat.mul_add] at n1
      show _ + W32 ^ i * W32 * hh = _ + (W32 ^ i * W32 * hh + _)
      omega
    · intro o' ho'
      rw [List.getElem?_set_self (by rw [List.length_set]; omega)] at ho'
      cases ho'
      exact l3
    · intro j hj1 hj2
      rw [List.getElem?_set_ne (by omega), List.getElem?_set_ne (by omega)]
      exact h6 j (by omega) hj2
    · have e1 : ((i + 1 : Nat) : Int) = (i : Int) + 1 := by omega
      rw [e1]
      exact sbe
  · obtain rfl : i = n := by omega
    rw [List.take_of_length_le (by omega)] at h4
    subst h0
    
    repeat' (first | (apply RW.q1; exact qt) | refine xsg cts ?_ | (apply CW_condT; exact rfl; exact ar) | (apply CW_condF; exact rfl; exact ar) | (refine hK _ _ ?_; clear hK; refine xsg xsl ?_) | ((first | apply RW.a1 | apply RW.a0); (first | (apply gw_asg; exact rfl) | (apply gw_make; exact rfl; exact rfl; exact rfl; exact rfl; omega; omega; omega; omega; intro b) | (refine gw_stx sto ?_) | (fail))) | (apply CW_region; intro K hK) | (apply CW_condX; exact rfl; exact tst; exact tst; all_goals (intro hq hc; try exact no)))
    (refine CW_ret ?_; refine xsg xsl ?_; refine bR [.tmp 4] [.own 116 1 qa (i + 1) qc (ws os)] ?_)
    exact ⟨_, _, os, rfl, rfl, h2, h3, h4⟩
end Go.Proofs.YtnhbipachchlgaaGreat.HL
namespace Go.Proofs.YtnhbipachchlgaaGreat.HL
open Go
attribute [local irreducible] goFn thenS blockS bodyS CW RW DW GW QW NW SC Pick Picks SubL Rd NN ResOk SrcW subE hops hseg AW hgen HC qv bldv
set_option linter.unusedVariables false
set_option linter.unusedSimpArgs false

theorem or_word' {r x : Nat} (hr : r < 4294967296) (hx : x < 4294967296) : bitI .or .u64 (x : Int) ((r * 4294967296 : Nat) : Int) = some ((r * 4294967296 + x : Nat) : Int) := by
  have h := or_word hr hx
  have hc : bitI .or .u64 (x : Int) ((r * 4294967296 : Nat) : Int) = bitI .or .u64 ((r * 4294967296 : Nat) : Int) (x : Int) := by
    show some (IntKind.u64.wrap ((BitVec.ofInt 64 (x : Int) ||| BitVec.ofInt 64 ((r * 4294967296 : Nat) : Int)).toNat : Int)) = some (IntKind.u64.wrap ((BitVec.ofInt 64 ((r * 4294967296 : Nat) : Int) ||| BitVec.ofInt 64 (x : Int)).toNat : Int))
    rw [BitVec.or_comm]
  rw [hc]; exact h
def rgt (B P : Nat) : List Nat → List Nat
  | [] => []
  | x :: l => (l.headD 0 * B + x) / P % B :: rgt B P l
theorem rgt_len (B P : Nat) : ∀ l, (rgt B P l).length = l.length
  | [] => rfl
  | x :: l => congrArg (· + 1) (rgt_len B P l)
theorem rgt_at (B P : Nat) : ∀ {l : List Nat} {i x : Nat}, l[i]? = some x → (rgt B P l)[i]? = some (((l[i + 1]?).getD 0 * B + x) / P % B)
  | [], i, x, h => by cases h
  | y :: [], 0, x, h => by cases h; rfl
  | y :: z :: l, 0, x, h => by cases h; rfl
  | y :: l, i + 1, x, h => by
    have h' : l[i]? = some x := h
    exact rgt_at (l := l) (i := i) (x := x) B P h'
theorem rgt_dg {B : Nat} (hB : 0 < B) (P : Nat) : ∀ l, Dg B (rgt B P l)
  | [] => fun d hd => by cases hd
  | x :: l => dg_cons.2 ⟨Nat.mod_lt _ hB, rgt_dg hB P l⟩
theorem rgt_nv {B P Q : Nat} (e : Q * P = B) (hp : 0 < P) (hB : 0 < B) : ∀ {l : List Nat}, Dg B l → nv B (rgt B P l) = nv B l / P
  | [], _ => (Nat.zero_div P).symm
  | x :: l, hd => by
    have hx : x < B := (dg_cons.1 hd).1
    have hl := (dg_cons.1 hd).2
    have ih := rgt_nv e hp hB hl
    have hh : l.headD 0 = nv B l % B := by
      cases l with
      | nil => exact (Nat.zero_mod B).symm
      | cons y t =>
        have hy : y < B := (dg_cons.1 hl).1
        show y = (y + B * nv B t) % B
        rw [Nat.add_mul_mod_self_left, Nat.mod_eq_of_lt hy]
    show (l.headD 0 * B + x) / P % B + B * nv B (rgt B P l) = (x + B * nv B l) / P
    rw [ih, hh]
    generalize nv B l = N
    have h1 := Nat.div_add_mod N P
    have h2 := Nat.mod_lt N hp
    generalize N / P = q at *
    generalize N % P = r at *
    have h3 : (x + B * N) / P = (x + B * r) / P + B * q := by
      rw [← h1, show x + B * (P * q + r) = (x + B * r) + P * (B * q) by rw [Nat.mul_add, Nat.mul_left_comm]; omega, Nat.add_mul_div_left _ _ hp]
    have h4 : (x + B * r) / P < B := by
      apply Nat.div_lt_of_lt_mul
      have h7 : (r + 1) * B ≤ P * B := Nat.mul_le_mul_right _ h2
      rw [Nat.add_mul, Nat.one_mul, Nat.mul_comm r B] at h7
      omega
    have h5 : N % B = P * (q % Q) + r := by
      rw [← e, Nat.mul_comm Q P, ← h1, Nat.mod_mul, Nat.mul_add_mod, Nat.mod_eq_of_lt h2, Nat.mul_add_div hp, Nat.div_eq_of_lt h2, Nat.add_zero]
      omega
    have h6 : (N % B * B + x) / P = (x + B * r) / P + B * (q % Q) := by
      rw [h5, show (P * (q % Q) + r) * B + x = (x + B * r) + P * (B * (q % Q)) by rw [Nat.add_mul, Nat.mul_assoc, Nat.mul_comm (q % Q), Nat.mul_comm r B]; omega, Nat.add_mul_div_left _ _ hp]
    rw [h3, h6, Nat.add_mul_mod_self_left, Nat.mod_eq_of_lt h4]
end Go.Proofs.YtnhbipachchlgaaGreat.HL
namespace Go.Proofs.YtnhbipachchlgaaGreat.HL
open Go
attribute [local irreducible] goFn thenS blockS bodyS CW RW DW GW QW NW SC Pick Picks SubL Rd NN ResOk SrcW subE hops hseg AW hgen HC qv bldv
set_option linter.unusedVariables false
set_option linter.unusedSimpArgs false

theorem right_spec (xs : List Nat) (s : Nat) (a : Option Addr) (n c : Nat) (H : Hp) (hx : Rs H 1 a n c (ws xs)) (hn : xs.length = n) (hN : n ≤ 1048576) (hd : Dg W32 xs) (hs : s < 32) :
    SC Tryz.prog 145 [.slice a n c, .int .i64 (s : Nat)] H [] (fun v M => ∃ qa qc qs, v = .slice qa n qc ∧ M = [.own 116 1 qa n qc (ws qs)] ∧ qs.length = n ∧ Dg W32 qs ∧ nv W32 qs = nv W32 xs / 2 ^ s) := by
  have eP : 2 ^ (32 - s) * 2 ^ s = W32 := by rw [← Nat.pow_add, show 32 - s + s = 32 by omega]
  have hp : 0 < 2 ^ s := Nat.pow_pos (by decide)
  have hnv := rgt_nv eP hp (by decide) hd
  have hrd := rgt_dg (B := W32) (by decide) (2 ^ s) xs
  have hrl := rgt_len W32 (2 ^ s) xs
  have hra : ∀ {i x : Nat}, xs[i]? = some x → (rgt W32 (2 ^ s) xs)[i]? = some (((xs[i + 1]?).getD 0 * 4294967296 + x) / 2 ^ s % 4294967296) := fun h => rgt_at W32 (2 ^ s) h
  generalize rgt W32 (2 ^ s) xs = R at hnv hrd hrl hra
  have hbits : min (s : Int).toNat IntKind.u64.bits = s := by simp [IntKind.bits]; omega
  have hshr : ∀ t : Nat, (t : Int).fdiv (2 ^ (min (s : Int).toNat IntKind.u64.bits)) = ((t / 2 ^ s : Nat) : Int) := by
    intro t
    rw [hbits, show (2 : Int) ^ s = ((2 ^ s : Nat) : Int) by rw [Int.natCast_pow]; rfl, Int.fdiv_eq_ediv_of_nonneg _ (by omega), ← Int.natCast_ediv]
  have hcv : ∀ t : Nat, IntKind.u32.wrap ((t / 2 ^ s : Nat) : Int) = ((t / 2 ^ s % 4294967296 : Nat) : Int) := by
    intro t
    rw [HL.wrap32]; omega
  (refine SC_intro Tryz.func145 rfl (by kernel_rfl) (by rw [Tryz.ntmps145]; exact Nat.le_of_ble_eq_true rfl) ?_; simp only [Tryz.ntmps145, argE, Nat.reduceAdd])
  
  repeat' (first | (apply RW.q1; exact qt) | refine xsg cts ?_ | (apply CW_condT; exact rfl; exact ar) | (apply CW_condF; exact rfl; exact ar) | (refine hK _ _ ?_; clear hK; refine xsg xsl ?_) | ((first | apply RW.a1 | apply RW.a0); (first | (apply gw_asg; exact rfl) | (apply gw_make; exact rfl; exact rfl; exact rfl; exact rfl; omega; omega; omega; omega; intro b) | (refine gw_stx sto ?_) | (fail))) | (apply CW_region; intro K hK) | (apply CW_condX; exact rfl; exact tst; exact tst; all_goals (intro hq hc; try exact no)))
  have e0 : zrow [Value.int .u32 0] ((n : Int)).toNat = ws (List.replicate n 0) := by rw [ws_zero, Int.toNat_natCast]
  rw [e0]
  refine CW_loop (fun m l L => ∃ (i : Nat) (os : List Nat) (qa : Option Addr) (qn qc : Nat), m = n - i + 1 ∧ l = [(0, true, .slice a n c), (1, true, .int .i64 (s : Nat)), (5, true, .slice qa qn qc), (12, true, .slice a n c), (13, true, .int .i64 (n : Nat)), (14, true, .int .i64 (i : Nat))] ∧
      L = [.own 116 1 qa qn qc (ws os)] ∧ qn = n ∧ i ≤ n ∧ os.length = n ∧ os.take i = R.take i)
    ⟨_, _, _, ⟨0, _, _, ((n : Int)).toNat, _, rfl, rfl, rfl, by omega, by omega, List.length_replicate, rfl⟩, by exact sbe, by exact sbl⟩ ?_
  rintro m l L ⟨i, os, qa, qn, qc, rfl, rfl, rfl, h0, h1, h2, h3⟩
  by_cases hi : i < n
  · obtain ⟨x, hxi⟩ : ∃ d, xs[i]? = some d := ⟨_, List.getElem?_eq_getElem (by omega)⟩
    have hxw : x < 4294967296 := dg_at hd hxi
    have hR := hra hxi
    have hend : ∀ w, R[i]? = some w → (os.set i w).take (i + 1) = R.take (i + 1) := by
      intro w hw
      rw [take_set (by omega), h3, List.take_add_one, hw]; rfl
    by_cases hj : i + 1 < n
    · obtain ⟨y, hyi⟩ : ∃ d, xs[i + 1]? = some d := ⟨_, List.getElem?_eq_getElem (by omega)⟩
      have hyw : y < 4294967296 := dg_at hd hyi
      have hor := or_word' hyw hxw
      rw [hyi] at hR
      have hR' : R[i]? = some ((y * 4294967296 + x) / 2 ^ s % 4294967296) := hR
      have hsl : IntKind.u64.wrap ((y : Int) * 2 ^ (min (32 : Int).toNat IntKind.u64.bits)) = ((y * 4294967296 : Nat) : Int) := by
        rw [show (2 : Int) ^ (min (32 : Int).toNat IntKind.u64.bits) = ((4294967296 : Nat) : Int) by decide, HL.wrap64]
        omega
      generalize y * 4294967296 + x = t at hor hR'
      have hsr := hshr t
      have hcc := hcv t
      have htw : t / 2 ^ s % 4294967296 < 4294967296 := Nat.mod_lt _ (by decide)
      generalize t / 2 ^ s % 4294967296 = w at hcc hR' htw
      
      repeat' (first | (apply RW.q1; (first | (apply q_shl; exact rfl; exact rfl; decide; exact hsl) | (apply q_shr; exact rfl; exact rfl; omega; exact hsr) | (apply q_bit; exact rfl; exact rfl; exact hor) | (apply q_cint; exact rfl; exact hcc) | (apply q_ldr; exact rfl; exact rfl; exact hx; first | exact ws_at hyi _ (by omega) | exact ws_at hxi _ (by omega)) | exact qt)) | refine xsg cts ?_ | (apply CW_condT; exact rfl; exact ar) | (apply CW_condF; exact rfl; exact ar) | (refine hK _ _ ?_; clear hK; refine xsg xsl ?_) | ((first | apply RW.a1 | apply RW.a0); (first | (apply gw_sow i w; exact rfl; exact rfl; infer_instance; omega; exact rfl; omega) | (apply gw_asg; exact rfl) | (apply gw_make; exact rfl; exact rfl; exact rfl; exact rfl; omega; omega; omega; omega; intro b) | (refine gw_stx sto ?_) | (fail))) | (apply CW_region; intro K hK) | (apply CW_condX; exact rfl; exact tst; exact tst; all_goals (intro hq hc; try exact no)))
      refine ⟨_, _, _, ⟨i + 1, os.set i w, qa, qn, qc, rfl, rfl, rfl, h0, by omega, by rw [List.length_set]; exact h2, hend _ hR'⟩, ?_, by exact sbl, by omega⟩
      have e1 : ((i + 1 : Nat) : Int) = (i : Int) + 1 := by omega
      rw [e1]
      exact sbe
    · have hxn : xs[i + 1]? = none := List.getElem?_eq_none (by omega)
      rw [hxn] at hR
      have hR' : R[i]? = some (x / 2 ^ s % 4294967296) := by
        rw [hR]; show some ((0 * 4294967296 + x) / 2 ^ s % 4294967296) = _
        rw [Nat.zero_mul, Nat.zero_add]
      have hsr := hshr x
      have hcc := hcv x
      have htw : x / 2 ^ s % 4294967296 < 4294967296 := Nat.mod_lt _ (by decide)
      generalize x / 2 ^ s % 4294967296 = w at hcc hR' htw
      
      repeat' (first | (apply RW.q1; (first | (apply q_shr; exact rfl; exact rfl; omega; exact hsr) | (apply q_cint; exact rfl; exact hcc) | (apply q_ldr; exact rfl; exact rfl; exact hx; exact ws_at hxi _ (by omega)) | exact qt)) | refine xsg cts ?_ | (apply CW_condT; exact rfl; exact ar) | (apply CW_condF; exact rfl; exact ar) | (refine hK _ _ ?_; clear hK; refine xsg xsl ?_) | ((first | apply RW.a1 | apply RW.a0); (first | (apply gw_sow i w; exact rfl; exact rfl; infer_instance; omega; exact rfl; omega) | (apply gw_asg; exact rfl) | (apply gw_make; exact rfl; exact rfl; exact rfl; exact rfl; omega; omega; omega; omega; intro b) | (refine gw_stx sto ?_) | (fail))) | (apply CW_region; intro K hK) | (apply CW_condX; exact rfl; exact tst; exact tst; all_goals (intro hq hc; try exact no)))
      refine ⟨_, _, _, ⟨i + 1, os.set i w, qa, qn, qc, rfl, rfl, rfl, h0, by omega, by rw [List.length_set]; exact h2, hend _ hR'⟩, ?_, by exact sbl, by omega⟩
      have e1 : ((i + 1 : Nat) : Int) = (i : Int) + 1 := by omega
      rw [e1]
      exact sbe
  · obtain rfl : i = n := by omega
    rw [List.take_of_length_le (by omega), List.take_of_length_le (by omega)] at h3
    subst h3
    subst h0
    
    repeat' (first | (apply RW.q1; exact qt) | refine xsg cts ?_ | (apply CW_condT; exact rfl; exact ar) | (apply CW_condF; exact rfl; exact ar) | (refine hK _ _ ?_; clear hK; refine xsg xsl ?_) | ((first | apply RW.a1 | apply RW.a0); (first | (apply gw_asg; exact rfl) | (apply gw_make; exact rfl; exact rfl; exact rfl; exact rfl; omega; omega; omega; omega; intro b) | (refine gw_stx sto ?_) | (fail))) | (apply CW_region; intro K hK) | (apply CW_condX; exact rfl; exact tst; exact tst; all_goals (intro hq hc; try exact no)))
    (refine CW_ret ?_; refine xsg xsl ?_; refine bR [.tmp 4] [.own 116 1 qa qn qc (ws os)] ?_)
    exact ⟨_, _, os, rfl, rfl, h2, hrd, hnv⟩
end Go.Proofs.YtnhbipachchlgaaGreat.HL
namespace Go.Proofs.YtnhbipachchlgaaGreat.HL
open Go
set_option linter.unusedSimpArgs false
set_option linter.unusedVariables false

theorem subl_skip {L M : List Res} {r : Res} (h : SubL M L) : SubL M (r :: L) := fun U G hs => h _ _ (subl_right (L := [r]) U G hs)
theorem sub_dig {u m p : Nat} (hu : u < 4294967296) (hm : m < 4294967296) (hb : p ≤ 1) :
    ∃ d w q : Nat, IntKind.u64.wrap (IntKind.u64.wrap ((u : Int) - (m : Int)) - (p : Int)) = (d : Int) ∧ IntKind.u32.wrap (d : Int) = (w : Int) ∧ (d : Int).fdiv (2 ^ (min (63 : Int).toNat IntKind.u64.bits)) = (q : Int) ∧ q ≤ 1 ∧ w < 4294967296 ∧ u + 4294967296 * q = w + m + p := by
  have e63 : (2 : Int) ^ (min (63 : Int).toNat IntKind.u64.bits) = ((9223372036854775808 : Nat) : Int) := by decide
  rw [HL.wrap64, HL.wrap64, e63]
  by_cases h : m + p ≤ u
  · obtain ⟨d, hd⟩ : ∃ d : Nat, d + m + p = u := ⟨u - m - p, by omega⟩
    refine ⟨d, d, 0, by omega, by rw [HL.wrap32]; omega, ?_, by omega, by omega, by omega⟩
    rw [Int.fdiv_eq_ediv_of_nonneg _ (by omega)]; omega
  · obtain ⟨w, hw⟩ : ∃ w : Nat, w + m + p = u + 4294967296 := ⟨u + 4294967296 - m - p, by omega⟩
    refine ⟨w + 18446744069414584320, w, 1, by omega, by rw [HL.wrap32]; omega, ?_, by omega, by omega, by omega⟩
    rw [Int.fdiv_eq_ediv_of_nonneg _ (by omega)]; omega
theorem sub_step {W k u v w c' c m p q t Q N V S : Nat} (h : N + Q * V = S + W ^ k * (p + c)) (ht : t = c + Q * v) (hm : t = m + W * c') (hs : u + W * q = w + m + p) :
    N + W ^ k * w + Q * (V + W ^ k * v) = S + W ^ k * u + W ^ (k + 1) * (q + c') := by
  have e : p + c + (w + Q * v) = u + W * (q + c') := by rw [Nat.mul_add]; omega
  calc N + W ^ k * w + Q * (V + W ^ k * v) = (N + Q * V) + W ^ k * (w + Q * v) := by rw [Nat.mul_add, Nat.mul_add, Nat.mul_left_comm]; omega
    _ = S + W ^ k * (p + c + (w + Q * v)) := by rw [h, Nat.add_assoc, ← Nat.mul_add]
    _ = S + W ^ k * u + W ^ (k + 1) * (q + c') := by rw [e, Nat.mul_add, Nat.pow_succ, Nat.mul_assoc, Nat.add_assoc]
theorem back_step {W k u v w c c' N V S : Nat} (h : N + W ^ k * c = S + V) (ht : c + (u + v) = w + W * c') :
    N + W ^ k * w + W ^ (k + 1) * c' = S + W ^ k * u + (V + W ^ k * v) := by
  have e : W ^ k * (c + (u + v)) = W ^ k * w + W ^ (k + 1) * c' := by rw [ht, Nat.mul_add, Nat.pow_succ, Nat.mul_assoc]
  rw [Nat.mul_add, Nat.mul_add] at e
  omega
theorem guess_ge {W k U V t v : Nat} (hv : 0 < v) (hU : U < W ^ k * (t + 1)) (hV : W ^ k * v ≤ V) (hq : U < W * V) : U / V ≤ min (t / v) (W - 1) := by
  have hV0 : 0 < V := by
    rcases Nat.eq_zero_or_pos V with h | h
    · rw [h, Nat.mul_zero] at hq; omega
    · exact h
  have h1 : U / V ≤ t / v := by
    rw [Nat.le_div_iff_mul_le hv]
    have h2 : W ^ k * (U / V * v) ≤ U := by
      rw [Nat.mul_left_comm]
      exact Nat.le_trans (Nat.mul_le_mul_left _ hV) (by rw [Nat.mul_comm]; exact Nat.mul_div_le U V)
    have h3 : W ^ k * (U / V * v) < W ^ k * (t + 1) := Nat.lt_of_le_of_lt h2 hU
    exact Nat.le_of_lt_succ (Nat.lt_of_mul_lt_mul_left h3)
  have h4 : U / V < W := Nat.div_lt_of_lt_mul (by rw [Nat.mul_comm]; exact hq)
  omega
end Go.Proofs.YtnhbipachchlgaaGreat.HL
