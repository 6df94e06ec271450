/- WholeB: NumH0: reading in a callee; a row without the noughts behind: plain laws. No condition. NumH: Cmp, SetInt64, NewInt. Condition: the rows' lengths. NumI: the product of two numbers. Condition: the rows' lengths. NumJ: words by one word; noughts let go. Condition: the rows' lengths. NumK: one bit of a number. Condition: the row's length. NumL: how many bits a number has. Condition: the row's length. -/
import Derived.Test.YtnhbipachchlgaaGreatWholeAX
import Derived.Test.YtnhbipachchlgaaGreatEngX
import Derived.Test.YtnhbipachchlgaaGreatShelfX
namespace Go.Proofs.YtnhbipachchlgaaGreat.HL
open Go
set_option linter.unusedSimpArgs false
set_option maxHeartbeats 8000000
set_option maxRecDepth 100000
set_option linter.unusedVariables false

theorem Rd.base {H G : Hp} {L : List Res} {p : Option Addr} {n : Nat} {vs : List Value} (h : Rd H L p n vs) (hg : Hs H L G) : Rd G [] p n vs := fun G' hg' => by
  obtain ⟨b, off, e, hc⟩ := h G hg
  exact ⟨b, off, e, rdN_ext hg'.ext _ _ _ _ hc⟩
theorem IntW.base {H G : Hp} {L : List Res} {b off : Nat} {z : Int} (h : IntW H L b off z) (hg : Hs H L G) : IntW G [] b off z := by
  obtain ⟨a, c, h1, h2, h3⟩ := h
  exact ⟨a, c, h1.base hg, h2.base hg, h3.ext hg.ext⟩
theorem Rd.up {H G : Hp} {L : List Res} {p : Option Addr} {n : Nat} {vs : List Value} (h : Rd H [] p n vs) (hx : Ext H G) : Rd G L p n vs := fun G' hg' => by
  obtain ⟨b, off, e, hc⟩ := h H (hs_nil H)
  exact ⟨b, off, e, rdN_ext (hx.trans hg'.ext) _ _ _ _ hc⟩
theorem IntW.up {H G : Hp} {L : List Res} {b off : Nat} {z : Int} (h : IntW H [] b off z) (hx : Ext H G) : IntW G L b off z := by
  obtain ⟨a, c, h1, h2, h3⟩ := h
  exact ⟨a, c, h1.up hx, h2.up hx, h3.ext hx⟩
theorem norm_take {B : Nat} (hB : 1 < B) : ∀ {l : List Nat}, Dg B l → l.take (dgs B (nv B l)).length = dgs B (nv B l)
  | [], _ => by rw [nv, dgs_zero]; rfl
  | d :: l, h => by
    have hd := (dg_cons.1 h).1
    have ih := norm_take hB (dg_cons.1 h).2
    rw [nv]
    rcases Nat.eq_zero_or_pos (d + B * nv B l) with h0 | h0
    · rw [h0, dgs_zero]; rfl
    · rw [dgs_pos hB h0, Nat.add_mul_mod_self_left, Nat.mod_eq_of_lt hd, Nat.add_mul_div_left _ _ (by omega), Nat.div_eq_of_lt hd, Nat.zero_add, List.length_cons, List.take_succ_cons, ih]
theorem ws_take (l : List Nat) (k : Nat) : (ws l).take (k * 1) = ws (l.take k) := by rw [Nat.mul_one]; exact (List.map_take ..).symm
theorem subl_norm {L L' M : List Res} {e : TypeId} {a : Option Addr} {n c : Nat} {ds : List Nat} (hp : Pick L (.own e 1 a n c (ws ds)) L') (hd : Dg W32 ds) (hn : ds.length = n) (h : SubL M L') : SubL (.own e 1 a (dgs W32 (nv W32 ds)).length c (ws (dgs W32 (nv W32 ds))) :: M) L := by
  have hk := norm_take w1 hd
  have hl : (dgs W32 (nv W32 ds)).length ≤ n := by
    have := congrArg List.length hk
    rw [List.length_take] at this; omega
  have := subl_less hp hl h
  rw [ws_take, hk] at this
  exact this
theorem wrap64 (n : Int) : IntKind.u64.wrap n = n % 18446744073709551616 := by simp [IntKind.wrap, IntKind.bits, IntKind.signed]
theorem wrap32 (n : Int) : IntKind.u32.wrap n = n % 4294967296 := by simp [IntKind.wrap, IntKind.bits, IntKind.signed]
def cmpZ (x y : Int) : Int := if x < y then -1 else if x = y then 0 else 1
end Go.Proofs.YtnhbipachchlgaaGreat.HL
namespace Go.Proofs.YtnhbipachchlgaaGreat.HL
open Go
attribute [local irreducible] goFn thenS blockS bodyS CW RW DW GW QW NW SC Pick Picks SubL Rd NN ResOk SrcW subE hops hseg AW hgen HC qv bldv
set_option linter.unusedVariables false
set_option linter.unusedSimpArgs false

theorem cmp_spec (x y : Int) (bx ox by' oy : Nat) (H : Hp) (L : List Res) (hx : IntW H L bx ox x) (hy : IntW H L by' oy y) (hN : (wd x).length ≤ 1099511627776) (hM : (wd y).length ≤ 1099511627776) :
    SC Tryz.prog 101 [.pointer (some ⟨bx, ox, none⟩), .pointer (some ⟨by', oy, none⟩)] H L (fun v M => v = .int .i64 (cmpZ x y) ∧ M = L) := by
  have kx := hx
  have ky := hy
  obtain ⟨xa, xc, x1, x2, x3⟩ := hx
  obtain ⟨ya, yc, y1, y2, y3⟩ := hy
  have hsx := Int.sign_eq_neg_one_of_neg (a := x)
  have hsx0 : x = 0 → x.sign = 0 := fun h => by rw [h]; rfl
  have hsx1 := Int.sign_eq_one_of_pos (a := x)
  have hsy := Int.sign_eq_neg_one_of_neg (a := y)
  have hsy0 : y = 0 → y.sign = 0 := fun h => by rw [h]; rfl
  have hsy1 := Int.sign_eq_one_of_pos (a := y)
  rcases Decidable.em (x < 0) with hx0 | hx0
  all_goals rcases Decidable.em (y < 0) with hy0 | hy0
  all_goals (first | rw [decide_eq_true hx0] at x1 | rw [decide_eq_false hx0] at x1)
  all_goals (first | rw [decide_eq_true hy0] at y1 | rw [decide_eq_false hy0] at y1)
  all_goals (refine SC_intro Tryz.func101 rfl (by kernel_rfl) (by rw [Tryz.ntmps101]; exact Nat.le_of_ble_eq_true rfl) ?_; simp only [Tryz.ntmps101, argE, Nat.reduceAdd])
  all_goals repeat' (first | ((first | apply RW.q1 | (apply DW.q1; exact rfl)); (first | (apply q_load; exact rfl; exact rfl; (first | exact Rd.sub x1 (by exact sbl) | exact Rd.sub x2 (by exact sbl) | exact Rd.sub y1 (by exact sbl) | exact Rd.sub y2 (by exact sbl))) | exact qt)) | refine xsg cts ?_ | (apply CW_condT; exact rfl; exact ar) | (apply CW_condF; exact rfl; exact ar) | (refine hK _ _ ?_; clear hK; refine xsg xsl ?_) | (refine xsg ahd ?_; (first | (apply gw_call (f := 132); exact rfl; exact go132; intro G hG; refine SC.mono (compare_spec x.natAbs y.natAbs xa ya _ _ xc yc G rfl rfl (x3.ext hG.ext) (y3.ext hG.ext) hN hM) ?_; rintro v M ⟨r, rfl, r1, r2, r3, r4, rfl⟩; (try dsimp only [jL, jM])) | (apply gw_callE (f := 98); exact rfl; exact go98; intro G hG; exact sign_spec x bx ox G [] (kx.base hG)) | (apply gw_callE (f := 98); exact rfl; exact go98; intro G hG; exact sign_spec y by' oy G [] (ky.base hG)) | (apply gw_asg; exact rfl) | (fail))) | (apply CW_region; intro K hK) | (apply CW_condX; exact rfl; exact tst; exact tst; all_goals (intro hq hc; try exact nx)) | (refine CW_draw (id := 1) [] [(0, false), (1, false), (2, false), (3, false), (4, false), (5, false), (6, false), (7, false), (8, true), (9, false)] mixed (by kernel_rfl) (fun K hK => ?_)) | (refine CW_draw (id := 2) [] [(0, false), (1, false), (2, false), (3, false), (4, false), (5, false), (6, false), (7, false), (8, false), (9, false)] mixed (by kernel_rfl) (fun K hK => ?_)))
  all_goals (refine CW_ret ?_; refine xsg xsl ?_; refine bR [.tmp 4] L ?_)
  all_goals refine ⟨ret_i64 ?_, rfl⟩; unfold cmpZ
  all_goals (repeat' split) <;> omega

theorem setInt64_spec (bz off : Nat) (TB : TypeId) (cs : List Value) (z : Int) (H : Hp) (hoff : off + 1 < cs.length) (hz : -9223372036854775808 ≤ z ∧ z ≤ 9223372036854775807) :
    SC Tryz.prog 102 [.pointer (some ⟨bz, off, none⟩), .int .i64 z] H [.box bz TB cs] (fun v M => v = .pointer (some ⟨bz, off, none⟩) ∧ ∃ a c, M = [.box bz TB (intC cs off z a c), intR z a c]) := by
  obtain ⟨u, hu⟩ : ∃ u : Nat, u = z.natAbs := ⟨_, rfl⟩
  have hu64 : u ≤ 9223372036854775808 := by omega
  have hds : Dg W32 [u % 4294967296, u / 4294967296] := by
    intro d hd
    rcases List.mem_cons.1 hd with rfl | hd
    · exact Nat.mod_lt _ (by decide)
    · rcases List.mem_cons.1 hd with rfl | hd
      · show u / 4294967296 < 4294967296; omega
      · cases hd
  have hnv : nv W32 [u % 4294967296, u / 4294967296] = z.natAbs := by
    simp only [nv, Nat.mul_zero, Nat.add_zero]
    rw [Nat.mod_add_div, hu]
  have hP := fun G a hx => put_spec bz off TB cs (decide (z < 0)) [u % 4294967296, u / 4294967296] a 2 2 G hoff hx rfl (by decide) hds
  have hb : (decide (z < 0) && decide (0 < z.natAbs)) = decide (z < 0) := by
    by_cases h0 : z < 0
    · rw [decide_eq_true h0, decide_eq_true (by omega)]; rfl
    · rw [decide_eq_false h0]; rfl
  rw [hnv, hb] at hP
  have hlo : IntKind.u32.wrap (u : Int) = ((u % 4294967296 : Nat) : Int) := by rw [HL.wrap32]; omega
  have hhi0 : (u : Int).fdiv (2 ^ (min (32 : Int).toNat IntKind.u64.bits)) = ((u / 4294967296 : Nat) : Int) := by
    rw [show (2 : Int) ^ (min (32 : Int).toNat IntKind.u64.bits) = ((4294967296 : Nat) : Int) by decide, Int.fdiv_eq_ediv_of_nonneg _ (by omega)]
    omega
  have hhi : IntKind.u32.wrap ((u / 4294967296 : Nat) : Int) = ((u / 4294967296 : Nat) : Int) := w_in (by simp only [inb]; omega)
  have hnorm : ∀ {a : Option Addr} {L L' : List Res}, Pick L (.own 116 1 a 2 2 (ws [u % 4294967296, u / 4294967296])) L' → SubL [intR z a 2] L := by
    intro a L L' hp
    have := subl_norm (M := []) hp hds rfl subl_nil
    rw [hnv] at this
    exact this
  by_cases h0 : z < 0
  · have c1 : IntKind.u64.wrap z = 18446744073709551616 - (u : Int) := by rw [HL.wrap64]; omega
    have c2 : IntKind.u64.wrap (0 - (18446744073709551616 - (u : Int))) = (u : Int) := by rw [HL.wrap64]; omega
    (refine SC_intro Tryz.func102 rfl (by kernel_rfl) (by rw [Tryz.ntmps102]; exact Nat.le_of_ble_eq_true rfl) ?_; simp only [Tryz.ntmps102, argE, Nat.reduceAdd])
    
    repeat' (first | (apply RW.q1; (first | (apply q_cint; exact rfl; (first | exact c1 | exact hlo | exact hhi)) | (apply q_neg; exact rfl; exact c2) | (apply q_shr; exact rfl; exact rfl; decide; exact hhi0) | exact qt)) | refine xsg cts ?_ | (apply CW_condT; exact rfl; exact ar) | (apply CW_condF; exact rfl; exact ar) | (refine hK _ _ ?_; clear hK; refine xsg xsl ?_) | ((first | apply RW.a1 | apply RW.a0); (first | (apply gw_callc (f := 111) (M := [.box bz TB cs]); exact rfl; exact go111; exact pcs; intro G hG; refine SC.mono (hP G _ (sl_own (by exact pkx) hG)) ?_; rintro v M ⟨rfl, rfl⟩; (try dsimp only [jL, jM])) | (apply gw_asg; exact rfl) | (apply gw_lit1; exact rfl; exact rfl; exact rfl; exact rfl; decide; intro b) | (apply gw_lit2; exact rfl; exact rfl; exact rfl; exact rfl; intro b) | (apply gw_lit3; exact rfl; exact rfl; exact rfl; exact rfl; exact rfl; intro b) | (fail))) | (apply CW_region; intro K hK) | (apply CW_condX; exact rfl; exact tst; exact tst; all_goals (intro hq hc; try exact no)))
    refine CW_drop [.box bz TB (intC cs off z (some ⟨b, 0, none⟩) 2), intR z (some ⟨b, 0, none⟩) 2] ?_ ?_
    · apply subl_cons
      · exact pkx
      · apply hnorm
        exact pkx
    (refine CW_ret ?_; refine xsg xsl ?_; refine bR [.tmp 4] [.box bz TB (intC cs off z (some ⟨b, 0, none⟩) 2), intR z (some ⟨b, 0, none⟩) 2] ?_)
    exact ⟨rfl, _, _, rfl⟩
  · have c1 : IntKind.u64.wrap z = (u : Int) := by rw [HL.wrap64]; omega
    (refine SC_intro Tryz.func102 rfl (by kernel_rfl) (by rw [Tryz.ntmps102]; exact Nat.le_of_ble_eq_true rfl) ?_; simp only [Tryz.ntmps102, argE, Nat.reduceAdd])
    
    repeat' (first | (apply RW.q1; (first | (apply q_cint; exact rfl; (first | exact c1 | exact hlo | exact hhi)) | (apply q_shr; exact rfl; exact rfl; decide; exact hhi0) | exact qt)) | refine xsg cts ?_ | (apply CW_condT; exact rfl; exact ar) | (apply CW_condF; exact rfl; exact ar) | (refine hK _ _ ?_; clear hK; refine xsg xsl ?_) | ((first | apply RW.a1 | apply RW.a0); (first | (apply gw_callc (f := 111) (M := [.box bz TB cs]); exact rfl; exact go111; exact pcs; intro G hG; refine SC.mono (hP G _ (sl_own (by exact pkx) hG)) ?_; rintro v M ⟨rfl, rfl⟩; (try dsimp only [jL, jM])) | (apply gw_asg; exact rfl) | (apply gw_lit1; exact rfl; exact rfl; exact rfl; exact rfl; decide; intro b) | (apply gw_lit2; exact rfl; exact rfl; exact rfl; exact rfl; intro b) | (apply gw_lit3; exact rfl; exact rfl; exact rfl; exact rfl; exact rfl; intro b) | (fail))) | (apply CW_region; intro K hK) | (apply CW_condX; exact rfl; exact tst; exact tst; all_goals (intro hq hc; try exact no)))
    refine CW_drop [.box bz TB (intC cs off z (some ⟨b, 0, none⟩) 2), intR z (some ⟨b, 0, none⟩) 2] ?_ ?_
    · apply subl_cons
      · exact pkx
      · apply hnorm
        exact pkx
    (refine CW_ret ?_; refine xsg xsl ?_; refine bR [.tmp 4] [.box bz TB (intC cs off z (some ⟨b, 0, none⟩) 2), intR z (some ⟨b, 0, none⟩) 2] ?_)
    exact ⟨rfl, _, _, rfl⟩

theorem newInt_spec (z : Int) (H : Hp) (hz : -9223372036854775808 ≤ z ∧ z ≤ 9223372036854775807) :
    SC Tryz.prog 72 [.int .i64 z] H [] (fun v M => ∃ b a c, v = .pointer (some ⟨b, 0, none⟩) ∧ M = [.box b 88 [.bool (decide (z < 0)), .slice a (wd z).length c], intR z a c]) := by
  (refine SC_intro Tryz.func72 rfl (by kernel_rfl) (by rw [Tryz.ntmps72]; exact Nat.le_of_ble_eq_true rfl) ?_; simp only [Tryz.ntmps72, argE, Nat.reduceAdd])
  repeat' (first | (apply RW.q1; exact qt) | refine xsg cts ?_ | (apply CW_condT; exact rfl; exact ar) | (apply CW_condF; exact rfl; exact ar) | (refine hK _ _ ?_; clear hK; refine xsg xsl ?_) | ((first | apply RW.a1 | apply RW.a0); (first | (apply gw_alloc (d := some 3); exact rfl; intro b3) | (apply gw_callc (f := 102) (M := [.box b3 _ _]); exact rfl; exact go102; exact pcs; intro G hG; refine SC.mono (setInt64_spec b3 0 _ _ z G (by decide) hz) ?_; rintro v M ⟨rfl, a, c, rfl⟩; (try dsimp only [jL, jM])) | (apply gw_asg; exact rfl) | (apply gw_alloc; exact rfl; intro b) | (fail))) | (apply CW_region; intro K hK) | (apply CW_condX; exact rfl; exact tst; exact tst; all_goals (intro hq hc; try exact no)))
  (refine CW_ret ?_; refine xsg xsl ?_; refine bR [.tmp 2] [.box b3 88 [.bool (decide (z < 0)), .slice a (wd z).length c], intR z a c] ?_)
  exact ⟨_, _, _, rfl, rfl⟩
end Go.Proofs.YtnhbipachchlgaaGreat.HL
namespace Go.Proofs.YtnhbipachchlgaaGreat.HL
open Go
attribute [local irreducible] goFn thenS blockS bodyS CW RW DW GW QW NW SC Pick Picks SubL Rd NN ResOk SrcW subE hops hseg AW hgen HC qv bldv
set_option linter.unusedVariables false
set_option linter.unusedSimpArgs false

theorem ws_set (l : List Nat) (k d : Nat) : (ws l).set k (.int .u32 (d : Int)) = ws (l.set k d) := List.map_set.symm
theorem ws_zero (n : Nat) : zrow [Value.int .u32 0] n = ws (List.replicate n 0) := by
  rw [zrow_one]; simp
section
variable {P : Program} {l : Ents} {H : Hp} {L L' : List Res} {K : Value → List Res → Prop} {d : Option Tmp} {T : TypeId} {pos : String} {aft : Array Edge} {gd : Option (Nat × Bool)}
theorem gw_sow {t e : TypeId} {m c : Nat} {x y : Operand} {v : Int} {a : Option Addr} {k : Nat} {os : List Nat} (j w : Nat) [hz : Szc P t 1] (hx : evg l true x = some (.pointer (pt a k))) (hy : evg l true y = some (.int .u32 v)) (hp : POwn L a e 1 m c (ws os) L')
    (hk : k = j) (hv : v = (w : Int)) (hl : j < os.length) (h : K undef (.own e 1 a m c (ws (os.set j w)) :: L')) : GW P l ⟨d, .store t x y, T, pos, aft, gd⟩ H L K := by
  subst hk; subst hv
  exact gw_so1 hx hy hp rfl rfl (by rw [ws_len]; exact hl) (by rw [ws_set]; exact h)
end
theorem mul_sign (x y : Int) : (((decide (x < 0)) != (decide (y < 0))) && decide (0 < x.natAbs * y.natAbs)) = decide (x * y < 0) := by
  rcases Int.lt_trichotomy x 0 with h | h | h
  · rcases Int.lt_trichotomy y 0 with g | g | g
    · have : 0 < x * y := Int.mul_pos_of_neg_of_neg h g
      rw [decide_eq_true h, decide_eq_true g, decide_eq_false (p := x * y < 0) (by omega)]; rfl
    · subst g; simp
    · have h1 : x * y < 0 := Int.mul_neg_of_neg_of_pos h g
      have h2 : 0 < x.natAbs * y.natAbs := Nat.mul_pos (by omega) (by omega)
      rw [decide_eq_true h, decide_eq_false (p := y < 0) (by omega), decide_eq_true h1, decide_eq_true h2]; rfl
  · subst h; simp
  · rcases Int.lt_trichotomy y 0 with g | g | g
    · have h1 : x * y < 0 := Int.mul_neg_of_pos_of_neg h g
      have h2 : 0 < x.natAbs * y.natAbs := Nat.mul_pos (by omega) (by omega)
      rw [decide_eq_false (p := x < 0) (by omega), decide_eq_true g, decide_eq_true h1, decide_eq_true h2]; rfl
    · subst g; simp
    · have : 0 < x * y := Int.mul_pos h g
      rw [decide_eq_false (p := x < 0) (by omega), decide_eq_false (p := y < 0) (by omega), decide_eq_false (p := x * y < 0) (by omega)]; rfl
theorem mul_spec (bz off : Nat) (TB : TypeId) (cs : List Value) (x y : Int) (bx ox by' oy : Nat) (H : Hp) (hoff : off + 1 < cs.length) (hx : IntW H [.box bz TB cs] bx ox x) (hy : IntW H [.box bz TB cs] by' oy y) (hN : (wd x).length ≤ 1048576) (hM : (wd y).length ≤ 1048576) :
    SC Tryz.prog 82 [.pointer (some ⟨bz, off, none⟩), .pointer (some ⟨bx, ox, none⟩), .pointer (some ⟨by', oy, none⟩)] H [.box bz TB cs] (fun v M => v = .pointer (some ⟨bz, off, none⟩) ∧ ∃ a c, M = [.box bz TB (intC cs off (x * y) a c), intR (x * y) a c]) := by
  obtain ⟨xa, xc, x1, x2, x3⟩ := hx
  obtain ⟨ya, yc, y1, y2, y3⟩ := hy
  obtain ⟨xs, hxs⟩ : ∃ l, l = wd x := ⟨_, rfl⟩
  obtain ⟨ys, hys⟩ : ∃ l, l = wd y := ⟨_, rfl⟩
  have dx : Dg W32 xs := by rw [hxs]; exact dgs_dg w1 _
  have dy : Dg W32 ys := by rw [hys]; exact dgs_dg w1 _
  have vx : nv W32 xs = x.natAbs := by rw [hxs]; exact nv_dgs w1 _
  have vy : nv W32 ys = y.natAbs := by rw [hys]; exact nv_dgs w1 _
  rw [← hxs] at x2 x3 hN
  rw [← hys] at y2 y3 hM
  obtain ⟨n, hn⟩ : ∃ n, n = xs.length := ⟨_, rfl⟩
  obtain ⟨m, hm⟩ : ∃ m, m = ys.length := ⟨_, rfl⟩
  rw [← hn] at x2 x3 hN
  rw [← hm] at y2 y3 hM
  (refine SC_intro Tryz.func82 rfl (by kernel_rfl) (by rw [Tryz.ntmps82]; exact Nat.le_of_ble_eq_true rfl) ?_; simp only [Tryz.ntmps82, argE, Nat.reduceAdd])
  
  repeat' (first | ((first | apply RW.q1 | (apply DW.q1; exact rfl)); (first | (apply q_load; exact rfl; exact rfl; (first | exact Rd.sub x1 (by exact sbl) | exact Rd.sub x2 (by exact sbl) | exact Rd.sub y1 (by exact sbl) | exact Rd.sub y2 (by exact sbl))) | exact qt)) | refine xsg cts ?_ | (apply CW_condT; exact rfl; exact ar) | (apply CW_condF; exact rfl; exact ar) | (refine hK _ _ ?_; clear hK; refine xsg xsl ?_) | (refine xsg ahd ?_; (first | (apply gw_asg; exact rfl) | (apply gw_make; exact rfl; exact rfl; exact rfl; exact rfl; omega; omega; omega; omega; intro b) | (refine gw_stx sto ?_) | (fail))) | (apply CW_region; intro K hK) | (apply CW_condX; exact rfl; exact tst; exact tst; all_goals (intro hq hc; try exact no)) | (refine CW_draw (id := 1) [] [(0, false), (1, false), (2, false), (3, false), (4, false), (5, false), (6, false), (7, false), (8, false), (9, false), (10, false), (11, true), (12, false)] mixed (by kernel_rfl) (fun K hK => ?_)) | (refine CW_draw (id := 15) [] [(0, false), (1, false), (2, false), (3, false), (4, false), (5, false), (6, false), (7, false), (8, false), (9, false), (10, false), (11, true), (12, false)] mixed (by kernel_rfl) (fun K hK => ?_)))
  have e0 : zrow [Value.int .u32 0] ((n : Int) + m).toNat = ws (List.replicate (n + m) 0) := by rw [ws_zero, show ((n : Int) + m).toNat = n + m by omega]
  rw [e0]
  refine CW_loop (fun mm l L => ∃ (i : Nat) (os : List Nat) (oa : Option Addr) (on oc : Nat), mm = n - i ∧ l = [(0, true, .pointer (some ⟨bz, off, none⟩)), (1, true, .pointer (some ⟨bx, ox, none⟩)), (2, true, .pointer (some ⟨by', oy, none⟩)), (7, true, .slice oa on oc), (28, true, .slice xa n xc), (29, true, .int .i64 (n : Nat)), (30, true, .int .i64 (i : Nat))] ∧
      L = [.box bz TB cs, .own 116 1 oa on oc (ws os)] ∧ i ≤ n ∧ on = n + m ∧ os.length = n + m ∧ Dg W32 os ∧ nv W32 os = nv W32 (xs.take i) * nv W32 ys ∧ ∀ j, i + m ≤ j → j < n + m → os[j]? = some 0)
    ⟨_, _, _, ⟨0, _, _, ((n : Int) + m).toNat, _, rfl, rfl, rfl, Nat.zero_le _, by omega, List.length_replicate, dg_zeros (by decide) _, by rw [nv_zeros]; simp [nv], fun j _ hj => by rw [List.getElem?_replicate, if_pos hj]⟩, by exact sbe, by exact sbl⟩ ?_
  rintro mm l L ⟨i, os, oa, on, oc, rfl, rfl, rfl, h1, h2, h3, h4, h5, h6⟩
  have hmw : ∀ p q : Nat, p < W32 → q < W32 → p * q ≤ 18446744065119617025 := fun p q hp hq => by
    have := Nat.mul_le_mul (show p ≤ 4294967295 from Nat.le_of_lt_succ hp) (show q ≤ 4294967295 from Nat.le_of_lt_succ hq)
    omega
  by_cases hlt : i < n
  · obtain ⟨xi, hxi⟩ : ∃ d, xs[i]? = some d := ⟨_, List.getElem?_eq_getElem (by omega)⟩
    have hxw := dg_at dx hxi
    
    repeat' (first | ((first | apply RW.q1 | (apply DW.q1; exact rfl)); (first | (apply q_load; exact rfl; exact rfl; (first | exact Rd.sub y1 (by exact sbl) | exact Rd.sub y2 (by exact sbl))) | (apply q_ldr; exact rfl; exact rfl; exact x3; exact ws_at hxi _ (by omega)) | exact qt)) | refine xsg cts ?_ | (apply CW_condT; exact rfl; exact ar) | (apply CW_condF; exact rfl; exact ar) | (refine hK _ _ ?_; clear hK; refine xsg xsl ?_) | (refine xsg ahd ?_; (first | (apply gw_asg; exact rfl) | (apply gw_make; exact rfl; exact rfl; exact rfl; exact rfl; omega; omega; omega; omega; intro b) | (refine gw_stx sto ?_) | (fail))) | (apply CW_region; intro K hK) | (apply CW_condX; exact rfl; exact tst; exact tst; all_goals (intro hq hc; try exact no)) | (refine CW_draw (id := 1) [] [(0, false), (1, false), (2, false), (3, false), (4, false), (5, false), (6, false), (7, false), (8, false), (9, false), (10, false), (11, true), (12, false)] mixed (by kernel_rfl) (fun K hK => ?_)) | (refine CW_draw (id := 15) [] [(0, false), (1, false), (2, false), (3, false), (4, false), (5, false), (6, false), (7, false), (8, false), (9, false), (10, false), (11, true), (12, false)] mixed (by kernel_rfl) (fun K hK => ?_)))
    refine CW_loop (fun mm l L => ∃ (k c : Nat) (os' : List Nat), mm = m - k ∧ l = [(0, true, .pointer (some ⟨bz, off, none⟩)), (1, true, .pointer (some ⟨bx, ox, none⟩)), (2, true, .pointer (some ⟨by', oy, none⟩)), (7, true, .slice oa on oc), (8, true, .int .i64 (i : Nat)), (9, true, .int .u32 (xi : Nat)), (10, true, .int .u64 (c : Nat)), (28, true, .slice xa n xc), (29, true, .int .i64 (n : Nat)), (30, true, .int .i64 (i : Nat)), (38, true, .slice ya m yc), (39, true, .int .i64 (m : Nat)), (40, true, .int .i64 (k : Nat))] ∧
        L = [.box bz TB cs, .own 116 1 oa on oc (ws os')] ∧ k ≤ m ∧ os'.length = n + m ∧ Dg W32 os' ∧ c < 4294967296 ∧ nv W32 os' + W32 ^ (i + k) * c = nv W32 os + W32 ^ i * (xi * nv W32 (ys.take k)) ∧ ∀ j, i + m ≤ j → j < n + m → os'[j]? = some 0)
      ⟨_, _, _, ⟨0, 0, os, rfl, rfl, rfl, Nat.zero_le _, h3, h4, by decide, by simp [nv], h6⟩, by exact sbe, by exact sbl⟩ ?_
    rintro mm l L ⟨k, c, os', rfl, rfl, rfl, g1, g2, g3, g4, g5, g6⟩
    by_cases hkt : k < m
    · obtain ⟨yk, hyk⟩ : ∃ d, ys[k]? = some d := ⟨_, List.getElem?_eq_getElem (by omega)⟩
      obtain ⟨o, ho⟩ : ∃ d, os'[i + k]? = some d := ⟨_, List.getElem?_eq_getElem (by omega)⟩
      have hyw := dg_at dy hyk
      have how := dg_at g3 ho
      have hpb := hmw xi yk hxw hyw
      obtain ⟨p, hp⟩ : ∃ p, p = xi * yk := ⟨_, rfl⟩
      have hpi : ((xi : Nat) : Int) * ((yk : Nat) : Int) = (p : Int) := by rw [hp]; exact (Int.natCast_mul ..).symm
      rw [← hp] at hpb
      have wpi : IntKind.u64.wrap (((xi : Nat) : Int) * ((yk : Nat) : Int)) = (p : Int) := by rw [hpi]; exact w_in (by simp only [inb]; omega)
      have hxw' : xi < 4294967296 := hxw
      have hyw' : yk < 4294967296 := hyw
      have how' : o < 4294967296 := how
      obtain ⟨t, ht⟩ : ∃ t, t = c + p + o := ⟨_, rfl⟩
      have wti : IntKind.u32.wrap ((c : Int) + ((p : Int) + (o : Int))) = ((t % 4294967296 : Nat) : Int) := by rw [HL.wrap32]; omega
      have wsh : ((c : Int) + ((p : Int) + (o : Int))).fdiv (2 ^ (min (32 : Int).toNat IntKind.u64.bits)) = ((t / 4294967296 : Nat) : Int) := by
        rw [show (2 : Int) ^ (min (32 : Int).toNat IntKind.u64.bits) = ((4294967296 : Nat) : Int) by decide, Int.fdiv_eq_ediv_of_nonneg _ (by omega)]
        omega
      have hstep := mul_step (W := W32) g5 hp
      rw [← nv_take hyk] at hstep
      have hdig := mul_dig (W := W32) (j := i + k) (t := t) (x := c + p) ho ht
      
      repeat' (first | ((first | apply RW.q1 | (apply DW.q1; exact rfl)); (first | (apply q_mul; exact rfl; exact rfl; exact wpi) | (apply q_cint; exact rfl; exact wti) | (apply q_shr; exact rfl; exact rfl; decide; exact wsh) | (apply q_ldr; exact rfl; exact rfl; exact y3; exact ws_at hyk _ (by omega)) | (apply q_ldo; exact rfl; exact rfl; infer_instance; exact ws_at ho _ (by omega)) | exact qt)) | refine xsg cts ?_ | (apply CW_condT; exact rfl; exact ar) | (apply CW_condF; exact rfl; exact ar) | (refine hK _ _ ?_; clear hK; refine xsg xsl ?_) | (refine xsg ahd ?_; (first | (apply gw_sow (i + k) (t % 4294967296); exact rfl; exact rfl; infer_instance; omega; exact rfl; omega) | (apply gw_asg; exact rfl) | (apply gw_make; exact rfl; exact rfl; exact rfl; exact rfl; omega; omega; omega; omega; intro b) | (refine gw_stx sto ?_) | (fail))) | (apply CW_region; intro K hK) | (apply CW_condX; exact rfl; exact tst; exact tst; all_goals (intro hq hc; try exact no)) | (refine CW_draw (id := 1) [] [(0, false), (1, false), (2, false), (3, false), (4, false), (5, false), (6, false), (7, false), (8, false), (9, false), (10, false), (11, true), (12, false)] mixed (by kernel_rfl) (fun K hK => ?_)) | (refine CW_draw (id := 15) [] [(0, false), (1, false), (2, false), (3, false), (4, false), (5, false), (6, false), (7, false), (8, false), (9, false), (10, false), (11, true), (12, false)] mixed (by kernel_rfl) (fun K hK => ?_)))
      refine ⟨_, _, _, ⟨k + 1, t / 4294967296, os'.set (i + k) (t % 4294967296), rfl, rfl, rfl, by omega, by rw [List.length_set]; exact g2, dg_set g3 (Nat.mod_lt _ (by decide)), by omega, ?_, ?_⟩, by exact sbe, by exact sbl, by omega⟩
      · rw [← hstep, ← hdig]; rfl
      · intro j hj1 hj2
        rw [List.getElem?_set_ne (by omega)]
        exact g6 j hj1 hj2
    · obtain rfl : k = m := by omega
      rw [List.take_of_length_le (by omega)] at g5
      have hz := g6 (i + k) (by omega) (by omega)
      have hset := nv_set (B := W32) c hz
      have hwc : IntKind.u32.wrap (c : Int) = (c : Int) := w_in (by simp only [inb]; omega)
      
      repeat' (first | ((first | apply RW.q1 | (apply DW.q1; exact rfl)); (first | (apply q_load; exact rfl; exact rfl; (first | exact Rd.sub y1 (by exact sbl) | exact Rd.sub y2 (by exact sbl))) | exact qt)) | refine xsg cts ?_ | (apply CW_condT; exact rfl; exact ar) | (apply CW_condF; exact rfl; exact ar) | (refine hK _ _ ?_; clear hK; refine xsg xsl ?_) | (refine xsg ahd ?_; (first | (apply gw_sow (i + k) c; exact rfl; exact rfl; infer_instance; omega; exact rfl; omega) | (apply gw_asg; exact rfl) | (apply gw_make; exact rfl; exact rfl; exact rfl; exact rfl; omega; omega; omega; omega; intro b) | (refine gw_stx sto ?_) | (fail))) | (apply CW_region; intro K hK) | (apply CW_condX; exact rfl; exact tst; exact tst; all_goals (intro hq hc; try exact no)) | (refine CW_draw (id := 1) [] [(0, false), (1, false), (2, false), (3, false), (4, false), (5, false), (6, false), (7, false), (8, false), (9, false), (10, false), (11, true), (12, false)] mixed (by kernel_rfl) (fun K hK => ?_)) | (refine CW_draw (id := 15) [] [(0, false), (1, false), (2, false), (3, false), (4, false), (5, false), (6, false), (7, false), (8, false), (9, false), (10, false), (11, true), (12, false)] mixed (by kernel_rfl) (fun K hK => ?_)))
      refine ⟨_, _, _, ⟨i + 1, os'.set (i + k) c, _, _, _, rfl, rfl, rfl, by omega, h2, by rw [List.length_set]; exact g2, dg_set g3 g4, ?_, ?_⟩, by exact sbe, by exact sbl, by omega⟩
      · rw [nv_take hxi, Nat.add_mul, ← h5, Nat.mul_assoc]
        omega
      · intro j hj1 hj2
        rw [List.getElem?_set_ne (by omega)]
        exact g6 j (by omega) hj2
  · obtain rfl : i = n := by omega
    rw [List.take_of_length_le (by omega), vx, vy, ← Int.natAbs_mul] at h5
    have hP := fun G hr => put_spec bz off TB cs ((decide (x < 0)) != (decide (y < 0))) os oa on oc G hoff hr (by omega) (by omega) h4
    have hms := mul_sign x y
    rw [← Int.natAbs_mul] at hms
    rw [h5, hms] at hP
    
    repeat' (first | ((first | apply RW.q1 | (apply DW.q1; exact rfl)); (first | (apply q_load; exact rfl; exact rfl; (first | exact Rd.sub x1 (by exact sbl) | exact Rd.sub x2 (by exact sbl) | exact Rd.sub y1 (by exact sbl) | exact Rd.sub y2 (by exact sbl))) | exact qt)) | refine xsg cts ?_ | (apply CW_condT; exact rfl; exact ar) | (apply CW_condF; exact rfl; exact ar) | (refine hK _ _ ?_; clear hK; refine xsg xsl ?_) | (refine xsg ahd ?_; (first | (apply gw_callc (f := 111) (M := [.box bz TB cs]); exact rfl; exact go111; exact pcs; intro G hG; refine SC.mono (hP G (sl_own (by exact pkx) hG)) ?_; rintro v M ⟨rfl, rfl⟩; (try dsimp only [jL, jM])) | (apply gw_asg; exact rfl) | (apply gw_make; exact rfl; exact rfl; exact rfl; exact rfl; omega; omega; omega; omega; intro b) | (refine gw_stx sto ?_) | (fail))) | (apply CW_region; intro K hK) | (apply CW_condX; exact rfl; exact tst; exact tst; all_goals (intro hq hc; try exact no)) | (refine CW_draw (id := 1) [] [(0, false), (1, false), (2, false), (3, false), (4, false), (5, false), (6, false), (7, false), (8, false), (9, false), (10, false), (11, true), (12, false)] mixed (by kernel_rfl) (fun K hK => ?_)) | (refine CW_draw (id := 15) [] [(0, false), (1, false), (2, false), (3, false), (4, false), (5, false), (6, false), (7, false), (8, false), (9, false), (10, false), (11, true), (12, false)] mixed (by kernel_rfl) (fun K hK => ?_)))
    refine CW_drop [.box bz TB (intC cs off (x * y) oa oc), intR (x * y) oa oc] ?_ ?_
    · apply subl_cons
      · exact pkx
      · have := @subl_norm
        unfold intR wd
        rw [← h5]
        apply subl_norm
        · exact pkx
        · exact h4
        · omega
        · exact subl_nil
    (refine CW_ret ?_; refine xsg xsl ?_; refine bR [.tmp 6] [.box bz TB (intC cs off (x * y) oa oc), intR (x * y) oa oc] ?_)
    exact ⟨rfl, _, _, rfl⟩
end Go.Proofs.YtnhbipachchlgaaGreat.HL
namespace Go.Proofs.YtnhbipachchlgaaGreat.HL
open Go
attribute [local irreducible] goFn thenS blockS bodyS CW RW DW GW QW NW SC Pick Picks SubL Rd NN ResOk SrcW subE hops hseg AW hgen HC qv bldv
set_option linter.unusedVariables false
set_option linter.unusedSimpArgs false

theorem trim_spec (ds : List Nat) (a : Option Addr) (n c : Nat) (H : Hp) (hx : Rs H 1 a n c (ws ds)) (hn : ds.length = n) (hN : n ≤ 1099511627776) (hd : Dg W32 ds) :
    SC Tryz.prog 104 [.slice a n c] H [] (fun v M => v = .slice a (dgs W32 (nv W32 ds)).length c ∧ M = []) := by
  (refine SC_intro Tryz.func104 rfl (by kernel_rfl) (by rw [Tryz.ntmps104]; exact Nat.le_of_ble_eq_true rfl) ?_; simp only [Tryz.ntmps104, argE, Nat.reduceAdd])
  repeat' (first | (apply RW.q1; exact qt) | (apply RW.qg; exact gvx; refine hgx tst ?_; intro hg hg'; exact qu) | refine xsg cts ?_ | (apply CW_condT; exact rfl; exact ar) | (apply CW_condF; exact rfl; exact ar) | ((first | apply RW.s1 | apply RW.s0); exact gva) | (refine hK _ _ ?_; clear hK; refine xsg xsl ?_) | ((first | apply RW.a1 | apply RW.a0 | (apply RW.at; exact gva)); (first | (apply gw_asg; exact rfl) | (fail))) | (apply CW_region; intro K hK) | (apply CW_condX; exact rfl; exact tst; exact tst; all_goals (intro hq hc; try exact no)))
  refine CW_loop (fun m l L => ∃ (k : Nat), m = k + 1 ∧ l = [(0, true, .slice a k c)] ∧ L = [] ∧ k ≤ n ∧ nv W32 (ds.take k) = nv W32 ds)
    ⟨_, _, _, ⟨n, rfl, rfl, rfl, Nat.le_refl _, by rw [List.take_of_length_le (by omega)]⟩, by exact sbe, by exact sbl⟩ ?_
  rintro m l L ⟨k, rfl, rfl, rfl, h1, h2⟩
  have hrk := rs_take hx h1
  have hlast : (0 < k → ∃ d, ds[k - 1]? = some d ∧ nv W32 (ds.take k) = nv W32 (ds.take (k - 1)) + W32 ^ (k - 1) * d) := by
    intro h
    obtain ⟨d, hd⟩ : ∃ d, ds[k - 1]? = some d := ⟨_, List.getElem?_eq_getElem (by omega)⟩
    have := nv_take (B := W32) hd
    rw [show k - 1 + 1 = k by omega] at this
    exact ⟨d, hd, this⟩
  have hrd : ∀ d, ds[k - 1]? = some d → 0 < k → ∀ j : Int, j.toNat = k - 1 → (((ws ds).take (k * 1)).drop (j.toNat * 1)).take 1 = [.int .u32 (d : Int)] := by
    intro d hd h0 j hj
    rw [ws_take]
    exact ws_at (l := ds.take k) (k := k - 1) (by rw [List.getElem?_take_of_lt (by omega)]; exact hd) j hj
  by_cases hz : 0 < k ∧ ds[k - 1]? = some 0
  · obtain ⟨hz1, hz2⟩ := hz
    obtain ⟨d, hd1, hd2⟩ := hlast hz1
    obtain rfl : 0 = d := Option.some.inj (hz2.symm.trans hd1)
    
    repeat' (first | (apply RW.q1; (first | (apply q_ldr; exact rfl; exact rfl; exact hrk; exact hrd _ hz2 hz1 _ (by omega)) | exact qt)) | (apply RW.qg; exact gvx; refine hgx tst ?_; intro hg hg'; (first | (apply q_ldr; exact rfl; exact evgx; exact hrk; exact hrd _ hz2 hz1 _ (by omega)) | exact qu)) | refine xsg cts ?_ | (apply CW_condT; exact rfl; exact ar) | (apply CW_condF; exact rfl; exact ar) | ((first | apply RW.s1 | apply RW.s0); exact gva) | (refine hK _ _ ?_; clear hK; refine xsg xsl ?_) | ((first | apply RW.a1 | apply RW.a0 | (apply RW.at; exact gva)); (first | (apply gw_asg; exact rfl) | (fail))) | (apply CW_region; intro K hK) | (apply CW_condX; exact rfl; exact tst; exact tst; all_goals (intro hq hc; try exact no)))
    refine ⟨_, _, _, ⟨k - 1, rfl, rfl, rfl, by omega, by rw [← h2, hd2]; simp⟩, ?_, by exact sbl, by omega⟩
    have e1 : ((k : Int) - 1).toNat = k - 1 := by omega
    rw [e1]
    exact sbe
  · have hend : ds.take k = dgs W32 (nv W32 ds) := by
      have := norm_eq (B := W32) (by decide) (dg_take hd k) (fun j hj => by
        rw [List.length_take, Nat.min_eq_left (by omega)] at hj
        rw [List.getElem?_take_of_lt (by omega)]
        intro e
        exact hz ⟨by omega, by rw [show k - 1 = j by omega]; exact e⟩)
      rw [h2] at this
      exact this
    have hlen : (dgs W32 (nv W32 ds)).length = k := by rw [← hend, List.length_take]; omega
    rw [hlen]
    
    by_cases h0 : 0 < k
    · obtain ⟨d, hd1, hd2⟩ := hlast h0
      have hd0 : d ≠ 0 := fun e => hz ⟨h0, by rw [hd1, e]⟩
      repeat' (first | (apply RW.q1; (first | (apply q_ldr; exact rfl; exact rfl; exact hrk; exact hrd _ hd1 h0 _ (by omega)) | exact qt)) | (apply RW.qg; exact gvx; refine hgx tst ?_; intro hg hg'; (first | (apply q_ldr; exact rfl; exact evgx; exact hrk; exact hrd _ hd1 h0 _ (by omega)) | exact qu)) | refine xsg cts ?_ | (apply CW_condT; exact rfl; exact ar) | (apply CW_condF; exact rfl; exact ar) | ((first | apply RW.s1 | apply RW.s0); exact gva) | (refine hK _ _ ?_; clear hK; refine xsg xsl ?_) | ((first | apply RW.a1 | apply RW.a0 | (apply RW.at; exact gva)); (first | (apply gw_asg; exact rfl) | (fail))) | (apply CW_region; intro K hK) | (apply CW_condX; exact rfl; exact tst; exact tst; all_goals (intro hq hc; try exact no)))
      (refine CW_ret ?_; refine xsg xsl ?_; refine bR [.tmp 2] [] ?_)
      exact ⟨rfl, rfl⟩
    · repeat' (first | (apply RW.q1; exact qt) | (apply RW.qg; exact gvx; refine hgx tst ?_; intro hg hg'; exact qu) | refine xsg cts ?_ | (apply CW_condT; exact rfl; exact ar) | (apply CW_condF; exact rfl; exact ar) | ((first | apply RW.s1 | apply RW.s0); exact gva) | (refine hK _ _ ?_; clear hK; refine xsg xsl ?_) | ((first | apply RW.a1 | apply RW.a0 | (apply RW.at; exact gva)); (first | (apply gw_asg; exact rfl) | (fail))) | (apply CW_region; intro K hK) | (apply CW_condX; exact rfl; exact tst; exact tst; all_goals (intro hq hc; try exact no)))
      (refine CW_ret ?_; refine xsg xsl ?_; refine bR [.tmp 2] [] ?_)
      exact ⟨rfl, rfl⟩

theorem or_word {r x : Nat} (hr : r < 4294967296) (hx : x < 4294967296) : bitI .or .u64 ((r * 4294967296 : Nat) : Int) (x : Int) = some ((r * 4294967296 + x : Nat) : Int) := by
  have h1 : (BitVec.ofInt 64 ((r * 4294967296 : Nat) : Int)).toNat = r * 4294967296 := by rw [BitVec.toNat_ofInt]; omega
  have h2 : (BitVec.ofInt 64 (x : Int)).toNat = x := by rw [BitVec.toNat_ofInt]; omega
  have h3 : r * 4294967296 ||| x = r * 4294967296 + x := by
    have := Nat.two_pow_add_eq_or_of_lt (i := 32) (b := x) (by simpa using hx) r
    rw [show 2 ^ 32 * r = r * 4294967296 by omega] at this
    exact this.symm
  have h4 : ((BitVec.ofInt 64 ((r * 4294967296 : Nat) : Int) ||| BitVec.ofInt 64 (x : Int)).toNat : Int) = ((r * 4294967296 + x : Nat) : Int) := by
    rw [BitVec.toNat_or, h1, h2, h3]
  show some (IntKind.u64.wrap ((BitVec.ofInt 64 ((r * 4294967296 : Nat) : Int) ||| BitVec.ofInt 64 (x : Int)).toNat : Int)) = _
  rw [h4, HL.wrap64]
  congr 1; omega
theorem small_spec (xs : List Nat) (bw : Nat) (a : Option Addr) (n c : Nat) (H : Hp) (hx : Rs H 1 a n c (ws xs)) (hn : xs.length = n) (hN : n ≤ 16777216) (hd : Dg W32 xs) (hb0 : 0 < bw) (hb : bw < 4294967296) :
    SC Tryz.prog 103 [.slice a n c, .int .u32 (bw : Nat)] H [] (fun v M => ∃ qa qc qs, v = .tuple #[.slice qa n qc, .int .u32 ((nv W32 xs % bw : Nat) : Int)] ∧ M = [.own 116 1 qa n qc (ws qs)] ∧ qs.length = n ∧ Dg W32 qs ∧ nv W32 qs = nv W32 xs / bw) := by
  (refine SC_intro Tryz.func103 rfl (by kernel_rfl) (by rw [Tryz.ntmps103]; exact Nat.le_of_ble_eq_true rfl) ?_; simp only [Tryz.ntmps103, argE, Nat.reduceAdd])
  
  repeat' (first | (apply RW.q1; exact qt) | refine xsg cts ?_ | (apply CW_condT; exact rfl; exact ar) | (apply CW_condF; exact rfl; exact ar) | (refine hK _ _ ?_; clear hK; refine xsg xsl ?_) | ((first | apply RW.a1 | apply RW.a0); (first | (apply gw_asg; exact rfl) | (apply gw_make; exact rfl; exact rfl; exact rfl; exact rfl; omega; omega; omega; omega; intro b) | (refine gw_stx sto ?_) | (fail))) | (apply CW_region; intro K hK) | (apply CW_condX; exact rfl; exact tst; exact tst; all_goals (intro hq hc; try exact no)))
  have e0 : zrow [Value.int .u32 0] ((n : Int)).toNat = ws (List.replicate n 0) := by rw [ws_zero, Int.toNat_natCast]
  rw [e0]
  refine CW_loop (fun m l L => ∃ (k r : Nat) (os : List Nat) (qa : Option Addr) (qn qc : Nat), m = k + 1 ∧ l = [(0, true, .slice a n c), (1, true, .int .u32 (bw : Nat)), (6, true, .slice qa qn qc), (7, true, .int .u64 (r : Nat)), (8, true, .int .i64 ((k : Int) - 1))] ∧
      L = [.own 116 1 qa qn qc (ws os)] ∧ qn = n ∧ k ≤ n ∧ os.length = n ∧ Dg W32 os ∧ r < bw ∧ nv W32 (xs.drop k) = bw * nv W32 (os.drop k) + r)
    ⟨_, _, _, ⟨n, 0, _, _, ((n : Int)).toNat, _, rfl, rfl, rfl, by omega, Nat.le_refl _, List.length_replicate, dg_zeros (by decide) _, hb0, by rw [List.drop_eq_nil_of_le (by omega), List.drop_eq_nil_of_le (by rw [List.length_replicate]; exact Nat.le_refl _)]; rfl⟩, by exact sbe, by exact sbl⟩ ?_
  rintro m l L ⟨k, r, os, qa, qn, qc, rfl, rfl, rfl, h0, h1, h2, h3, h4, h5⟩
  by_cases hk : 0 < k
  · obtain ⟨xi, hxi⟩ : ∃ d, xs[k - 1]? = some d := ⟨_, List.getElem?_eq_getElem (by omega)⟩
    have hxw : xi < 4294967296 := dg_at hd hxi
    obtain ⟨t, ht⟩ : ∃ t, t = r * 4294967296 + xi := ⟨_, rfl⟩
    have htb : t < bw * 4294967296 := by
      have : (r + 1) * 4294967296 ≤ bw * 4294967296 := Nat.mul_le_mul_right _ h4
      omega
    obtain ⟨q, hqe⟩ : ∃ q, q = t / bw := ⟨_, rfl⟩
    have hqw : q < 4294967296 := by rw [hqe]; exact Nat.div_lt_of_lt_mul htb
    have hor := or_word (r := r) (by omega) hxw
    rw [← ht] at hor
    have hsl : IntKind.u64.wrap ((r : Int) * 2 ^ (min (32 : Int).toNat IntKind.u64.bits)) = ((r * 4294967296 : Nat) : Int) := by
      rw [show (2 : Int) ^ (min (32 : Int).toNat IntKind.u64.bits) = ((4294967296 : Nat) : Int) by decide, HL.wrap64]
      omega
    have hqv : IntKind.u64.wrap ((t : Int).tdiv (bw : Int)) = (q : Int) := by
      rw [Int.tdiv_eq_ediv_of_nonneg (by omega), ← Int.natCast_ediv, ← hqe]
      exact w_in (by simp only [inb]; omega)
    have hqc : IntKind.u32.wrap (q : Int) = (q : Int) := w_in (by simp only [inb]; omega)
    have hm : (t : Int).tmod (bw : Int) = ((t % bw : Nat) : Int) := by
      rw [Int.tmod_eq_emod_of_nonneg (by omega), ← Int.natCast_emod]
    have hbz : (bw : Int) ≠ 0 := by omega
    have hdig := div_dig (W := W32) (out := os) (i := k - 1) (b := bw) (r := r) hxi (by omega) (by rw [show k - 1 + 1 = k by omega]; exact h5)
    have htl : r * W32 + xi = t := by rw [ht]
    rw [htl, ← hqe] at hdig
    
    repeat' (first | (apply RW.q1; (first | (apply q_shl; exact rfl; exact rfl; decide; exact hsl) | (apply q_bit; exact rfl; exact rfl; exact hor) | (apply q_quo; exact rfl; exact rfl; exact hbz; exact hqv) | (apply q_rem; exact rfl; exact rfl; exact hbz; exact hm) | (apply q_cint; exact rfl; exact hqc) | (apply q_ldr; exact rfl; exact rfl; exact hx; exact ws_at hxi _ (by omega)) | exact qt)) | refine xsg cts ?_ | (apply CW_condT; exact rfl; exact ar) | (apply CW_condF; exact rfl; exact ar) | (refine hK _ _ ?_; clear hK; refine xsg xsl ?_) | ((first | apply RW.a1 | apply RW.a0); (first | (apply gw_sow (k - 1) q; exact rfl; exact rfl; infer_instance; omega; exact rfl; omega) | (apply gw_asg; exact rfl) | (apply gw_make; exact rfl; exact rfl; exact rfl; exact rfl; omega; omega; omega; omega; intro b) | (refine gw_stx sto ?_) | (fail))) | (apply CW_region; intro K hK) | (apply CW_condX; exact rfl; exact tst; exact tst; all_goals (intro hq hc; try exact no)))
    refine ⟨_, _, _, ⟨k - 1, t % bw, os.set (k - 1) q, _, _, _, rfl, rfl, rfl, h0, by omega, by rw [List.length_set]; exact h2, dg_set h3 hqw, Nat.mod_lt _ hb0, hdig⟩, by exact sbe, by exact sbl, by omega⟩
  · obtain rfl : k = 0 := by omega
    rw [List.drop_zero, List.drop_zero] at h5
    have hdiv : nv W32 os = nv W32 xs / bw := by rw [h5, Nat.mul_add_div hb0, Nat.div_eq_of_lt h4, Nat.add_zero]
    have hmod : nv W32 xs % bw = r := by rw [h5, Nat.mul_add_mod, Nat.mod_eq_of_lt h4]
    rw [hmod]
    subst h0
    
    repeat' (first | (apply RW.q1; exact qt) | refine xsg cts ?_ | (apply CW_condT; exact rfl; exact ar) | (apply CW_condF; exact rfl; exact ar) | (refine hK _ _ ?_; clear hK; refine xsg xsl ?_) | ((first | apply RW.a1 | apply RW.a0); (first | (apply gw_asg; exact rfl) | (apply gw_make; exact rfl; exact rfl; exact rfl; exact rfl; omega; omega; omega; omega; intro b) | (refine gw_stx sto ?_) | (fail))) | (apply CW_region; intro K hK) | (apply CW_condX; exact rfl; exact tst; exact tst; all_goals (intro hq hc; try exact no)))
    (refine CW_ret ?_; refine xsg xsl ?_; refine bR [.tmp 4, .tmp 5] [.own 116 1 qa qn qc (ws os)] ?_)
    exact ⟨_, _, os, rfl, rfl, h2, h3, hdiv⟩
end Go.Proofs.YtnhbipachchlgaaGreat.HL
namespace Go.Proofs.YtnhbipachchlgaaGreat.HL
open Go
attribute [local irreducible] goFn thenS blockS bodyS CW RW DW GW QW NW SC Pick Picks SubL Rd NN ResOk SrcW subE hops hseg AW hgen HC qv bldv
set_option linter.unusedVariables false
set_option linter.unusedSimpArgs false

theorem and_one {x : Nat} (hx : x < 4294967296) : bitI .and .u64 (x : Int) 1 = some ((x % 2 : Nat) : Int) := by
  have h2 : (BitVec.ofInt 64 (x : Int)).toNat = x := by rw [BitVec.toNat_ofInt]; omega
  have h3 : ((BitVec.ofInt 64 (x : Int) &&& BitVec.ofInt 64 1).toNat : Int) = ((x % 2 : Nat) : Int) := by
    rw [BitVec.toNat_and, h2, show (BitVec.ofInt 64 1).toNat = 1 by decide, Nat.and_one_is_mod]
  show some (IntKind.u64.wrap ((BitVec.ofInt 64 (x : Int) &&& BitVec.ofInt 64 1).toNat : Int)) = _
  rw [h3, HL.wrap64]
  congr 1; omega
theorem dgs_get {n i d : Nat} (h : (dgs W32 n)[i]? = some d) : d = n / W32 ^ i % W32 := by
  have := dgs_bit (n := n) w1 i
  rw [List.getD_eq_getElem?_getD, h] at this
  exact this
theorem dgs_over {n i : Nat} (h : (dgs W32 n).length ≤ i) : n / W32 ^ i = 0 := by
  have h1 := dgs_len_lt (n := n) w1
  have h2 : W32 ^ (dgs W32 n).length ≤ W32 ^ i := Nat.pow_le_pow_right (by decide) h
  exact Nat.div_eq_of_lt (by omega)
theorem bit_over {n i : Nat} (h : (dgs W32 n).length ≤ i / 32) : n / 2 ^ i % 2 = 0 := by
  rw [← word_bit n i]
  have : n / (2 ^ 32) ^ (i / 32) = 0 := dgs_over h
  rw [this]; simp
theorem bit_at {n i d : Nat} (h : (dgs W32 n)[i / 32]? = some d) : d / 2 ^ (i % 32) % 2 = n / 2 ^ i % 2 := by
  rw [dgs_get h, ← word_bit n i]
theorem bit_spec (z : Int) (bx ox : Nat) (i : Nat) (H : Hp) (L : List Res) (hx : IntW H L bx ox z) (hN : (wd z).length ≤ 1048576) (hi : i ≤ 4611686018427387904) :
    SC Tryz.prog 125 [.pointer (some ⟨bx, ox, none⟩), .int .i64 (i : Nat)] H L (fun v M => v = .int .u64 ((z.natAbs / 2 ^ i % 2 : Nat) : Int) ∧ M = L) := by
  obtain ⟨xa, xc, x1, x2, x3⟩ := hx
  have hquo : IntKind.i64.wrap ((i : Int).tdiv 32) = ((i / 32 : Nat) : Int) := by
    rw [Int.tdiv_eq_ediv_of_nonneg (by omega)]
    exact (w_in (by simp only [inb]; omega)).trans (by omega)
  have hrem : (i : Int).tmod 32 = ((i % 32 : Nat) : Int) := by rw [Int.tmod_eq_emod_of_nonneg (by omega)]; omega
  by_cases hlt : i / 32 < (wd z).length
  · obtain ⟨d, hd⟩ : ∃ d, (wd z)[i / 32]? = some d := ⟨_, List.getElem?_eq_getElem hlt⟩
    have hdw : d < 4294967296 := dg_at (dgs_dg w1 _) hd
    have hb := bit_at hd
    rw [← hb]
    obtain ⟨r, hr⟩ : ∃ r, r = i % 32 := ⟨_, rfl⟩
    have hr32 : r < 32 := by omega
    rw [← hr] at hrem ⊢
    obtain ⟨s, hs⟩ : ∃ s, s = d / 2 ^ r := ⟨_, rfl⟩
    have hsd : s ≤ d := by rw [hs]; exact Nat.div_le_self _ _
    rw [← hs]
    have hshr : (d : Int).fdiv (2 ^ (min (r : Int).toNat IntKind.u32.bits)) = (s : Int) := by
      rw [show min (r : Int).toNat IntKind.u32.bits = r by simp [IntKind.bits]; omega, Int.fdiv_eq_ediv_of_nonneg _ (by exact Int.le_of_lt (Int.pow_pos (by decide))), hs]
      norm_cast
    have hand := and_one (x := s) (by omega)
    (refine SC_intro Tryz.func125 rfl (by kernel_rfl) (by rw [Tryz.ntmps125]; exact Nat.le_of_ble_eq_true rfl) ?_; simp only [Tryz.ntmps125, argE, Nat.reduceAdd])
    
    repeat' (first | (apply RW.q1; (first | (apply q_load; exact rfl; exact rfl; (first | exact Rd.sub x1 (by exact sbl) | exact Rd.sub x2 (by exact sbl))) | (apply q_quo; exact rfl; exact rfl; decide; exact hquo) | (apply q_rem; exact rfl; exact rfl; decide; exact hrem) | (apply q_shr; exact rfl; exact rfl; omega; exact hshr) | (apply q_bit; exact rfl; exact rfl; exact hand) | (apply q_ldr; exact rfl; exact rfl; exact x3; exact ws_at hd _ (by omega)) | exact qt)) | (apply RW.qg; exact gvx; refine hgx tst ?_; intro hg hg'; (first | (apply q_load; exact rfl; exact evgx; (first | exact Rd.sub x1 (by exact sbl) | exact Rd.sub x2 (by exact sbl))) | (apply q_quo; exact evgx; exact evgx; decide; exact hquo) | (apply q_rem; exact evgx; exact evgx; decide; exact hrem) | (apply q_shr; exact evgx; exact evgx; omega; exact hshr) | (apply q_bit; exact evgx; exact evgx; exact hand) | (apply q_ldr; exact rfl; exact evgx; exact x3; exact ws_at hd _ (by omega)) | exact qu)) | refine xsg cts ?_ | (apply CW_condT; exact rfl; exact ar) | (apply CW_condF; exact rfl; exact ar) | ((first | apply RW.s1 | apply RW.s0); exact gva) | (refine hK _ _ ?_; clear hK; refine xsg xsl ?_) | ((first | apply RW.a1 | apply RW.a0 | (apply RW.at; exact gva)); (first | (apply gw_asg; exact rfl) | (fail))) | (apply CW_region; intro K hK) | (apply CW_condX; exact rfl; exact tst; exact tst; all_goals (intro hq hc; try exact no)))
    all_goals (refine CW_ret ?_; refine xsg xsl ?_; refine bR [.tmp 4] L ?_)
    all_goals exact ⟨rfl, rfl⟩
  · rw [bit_over (show (wd z).length ≤ i / 32 by omega)]
    (refine SC_intro Tryz.func125 rfl (by kernel_rfl) (by rw [Tryz.ntmps125]; exact Nat.le_of_ble_eq_true rfl) ?_; simp only [Tryz.ntmps125, argE, Nat.reduceAdd])
    
    repeat' (first | (apply RW.q1; (first | (apply q_load; exact rfl; exact rfl; (first | exact Rd.sub x1 (by exact sbl) | exact Rd.sub x2 (by exact sbl))) | (apply q_quo; exact rfl; exact rfl; decide; exact hquo) | exact qt)) | (apply RW.qg; exact gvx; refine hgx tst ?_; intro hg hg'; (first | (apply q_load; exact rfl; exact evgx; (first | exact Rd.sub x1 (by exact sbl) | exact Rd.sub x2 (by exact sbl))) | (apply q_quo; exact evgx; exact evgx; decide; exact hquo) | exact qu)) | refine xsg cts ?_ | (apply CW_condT; exact rfl; exact ar) | (apply CW_condF; exact rfl; exact ar) | ((first | apply RW.s1 | apply RW.s0); exact gva) | (refine hK _ _ ?_; clear hK; refine xsg xsl ?_) | ((first | apply RW.a1 | apply RW.a0 | (apply RW.at; exact gva)); (first | (apply gw_asg; exact rfl) | (fail))) | (apply CW_region; intro K hK) | (apply CW_condX; exact rfl; exact tst; exact tst; all_goals (intro hq hc; try exact no)))
    all_goals (refine CW_ret ?_; refine xsg xsl ?_; refine bR [.tmp 4] L ?_)
    all_goals exact ⟨rfl, rfl⟩
end Go.Proofs.YtnhbipachchlgaaGreat.HL
namespace Go.Proofs.YtnhbipachchlgaaGreat.HL
open Go
attribute [local irreducible] goFn thenS blockS bodyS CW RW DW GW QW NW SC Pick Picks SubL Rd NN ResOk SrcW subE hops hseg AW hgen HC qv bldv
set_option linter.unusedVariables false
set_option linter.unusedSimpArgs false

def bl (n : Nat) : Nat := if n = 0 then 0 else Nat.log2 n + 1
theorem bl_zero : bl 0 = 0 := rfl
theorem bl_lt (n : Nat) : n < 2 ^ bl n := by
  unfold bl
  split
  · rename_i h; subst h; decide
  · exact Nat.lt_log2_self
theorem bl_le {n : Nat} (h : n ≠ 0) : 2 ^ (bl n - 1) ≤ n := by
  unfold bl
  rw [if_neg h, Nat.add_sub_cancel]
  exact Nat.log2_self_le h
theorem bl_uniq {n k : Nat} (h1 : n < 2 ^ k) (h2 : n ≠ 0 → 2 ^ (k - 1) ≤ n) (h3 : n = 0 → k = 0) : bl n = k := by
  by_cases h : n = 0
  · subst h; rw [h3 rfl]; rfl
  · have a1 := bl_lt n
    have a2 := bl_le h
    have a3 := h2 h
    have hk : 0 < k := by
      rcases Nat.eq_zero_or_pos k with e | e
      · subst e; rw [Nat.pow_zero] at h1; omega
      · exact e
    have hb : 0 < bl n := by unfold bl; rw [if_neg h]; omega
    rcases Nat.lt_trichotomy (bl n) k with g | g | g
    · have : 2 ^ bl n ≤ 2 ^ (k - 1) := Nat.pow_le_pow_right (by decide) (by omega)
      omega
    · exact g
    · have : 2 ^ k ≤ 2 ^ (bl n - 1) := Nat.pow_le_pow_right (by decide) (by omega)
      omega
theorem bl_words {n k d : Nat} (hk : (dgs W32 n).length = k + 1) (hd : (dgs W32 n)[k]? = some d) : bl n = 32 * k + bl d := by
  have hd0 : d ≠ 0 := fun e => dgs_top w1 hk (by rw [hd, e])
  have hn : n = nv W32 ((dgs W32 n).take k) + W32 ^ k * d := by
    have := nv_take (B := W32) hd
    rw [List.take_of_length_le (by omega), nv_dgs w1] at this
    exact this
  have hlow := nv_lt (dg_take (dgs_dg w1 n) k)
  rw [List.length_take, Nat.min_eq_left (by omega)] at hlow
  have hW : W32 ^ k = 2 ^ (32 * k) := by rw [show W32 = 2 ^ 32 by decide, ← Nat.pow_mul]
  rw [hW] at hn hlow
  have a1 := bl_lt d
  have a2 := bl_le hd0
  have hb : 0 < bl d := by unfold bl; rw [if_neg hd0]; omega
  refine bl_uniq ?_ (fun _ => ?_) (fun h0 => ?_)
  · rw [Nat.pow_add]
    have : 2 ^ (32 * k) * (d + 1) ≤ 2 ^ (32 * k) * 2 ^ bl d := Nat.mul_le_mul_left _ a1
    rw [Nat.mul_add, Nat.mul_one] at this
    omega
  · rw [show 32 * k + bl d - 1 = 32 * k + (bl d - 1) by omega, Nat.pow_add]
    have : 2 ^ (32 * k) * 2 ^ (bl d - 1) ≤ 2 ^ (32 * k) * d := Nat.mul_le_mul_left _ a2
    omega
  · exfalso
    have : 0 < 2 ^ (32 * k) * d := Nat.mul_pos (Nat.pow_pos (by decide)) (by omega)
    omega
theorem bl_half {x : Nat} (h : x ≠ 0) : bl x = 1 + bl (x / 2) := by
  by_cases h2 : 2 ≤ x
  · unfold bl
    rw [if_neg h, if_neg (by omega), Nat.log2_def, if_pos h2]; omega
  · obtain rfl : x = 1 := by omega
    decide
theorem bl_aux : ∀ (f x : Nat), x < 2 ^ f → Lib.bitLenAux f x = bl x
  | 0, x, h => by
    have : x = 0 := by simpa using h
    subst this; rfl
  | f + 1, x, h => by
    unfold Lib.bitLenAux
    by_cases h0 : x = 0
    · rw [if_pos h0, h0]; rfl
    · rw [if_neg h0, bl_aux f (x / 2) (by rw [Nat.pow_succ] at h; omega), bl_half h0]
theorem bl_le32 {x : Nat} (h : x < 4294967296) : bl x ≤ 32 := by
  by_cases h0 : x = 0
  · subst h0; decide
  · have := bl_le h0
    rcases Nat.lt_or_ge 32 (bl x) with g | g
    · have : 2 ^ 32 ≤ 2 ^ (bl x - 1) := Nat.pow_le_pow_right (by decide) (by omega)
      omega
    · exact g
theorem len32_spec (x : Nat) (hx : x < 4294967296) (H : Hp) : SC Tryz.prog 124 [.int .u32 (x : Nat)] H [] (fun v M => v = .int .i64 ((bl x : Nat) : Int) ∧ M = []) :=
  SC_same (fun Ω w fw => by
    have h := Tryz.bits_Len32 (x : Int) w (by omega) (by omega)
    rw [Int.toNat_natCast, show Lib.bitLen x = bl x from bl_aux 64 x (by omega)] at h
    exact h) ⟨rfl, rfl⟩ subl_nil
theorem bitLen_spec (z : Int) (bx ox : Nat) (H : Hp) (L : List Res) (hx : IntW H L bx ox z) (hN : (wd z).length ≤ 1048576) :
    SC Tryz.prog 92 [.pointer (some ⟨bx, ox, none⟩)] H L (fun v M => v = .int .i64 ((bl z.natAbs : Nat) : Int) ∧ M = L) := by
  obtain ⟨xa, xc, x1, x2, x3⟩ := hx
  by_cases h0 : (wd z).length = 0
  · have : z.natAbs = 0 := (dgs_nil w1).1 (List.length_eq_zero_iff.1 h0)
    rw [this]
    (refine SC_intro Tryz.func92 rfl (by kernel_rfl) (by rw [Tryz.ntmps92]; exact Nat.le_of_ble_eq_true rfl) ?_; simp only [Tryz.ntmps92, argE, Nat.reduceAdd])
    
    repeat' (first | ((first | apply RW.q1 | (apply DW.q1; exact rfl)); (first | (apply q_load; exact rfl; exact rfl; (first | exact Rd.sub x1 (by exact sbl) | exact Rd.sub x2 (by exact sbl))) | exact qt)) | refine xsg cts ?_ | (apply CW_condT; exact rfl; exact ar) | (apply CW_condF; exact rfl; exact ar) | (refine hK _ _ ?_; clear hK; refine xsg xsl ?_) | (refine xsg ahd ?_; (first | (apply gw_asg; exact rfl) | (fail))) | (apply CW_region; intro K hK) | (apply CW_condX; exact rfl; exact tst; exact tst; all_goals (intro hq hc; try exact no)) | (refine CW_draw (id := 3) [19] [(0, false), (1, false), (2, false), (3, false), (4, false), (5, false), (6, false), (7, false), (8, false), (9, false), (10, false), (11, false), (12, false), (13, false), (14, false), (15, false), (16, false), (17, false), (18, false), (19, true), (20, false), (21, false)] mixed (by kernel_rfl) (fun K hK => ?_)))
    all_goals (refine CW_ret ?_; refine xsg xsl ?_; refine bR [.tmp 2] L ?_)
    all_goals exact ⟨rfl, rfl⟩
  · obtain ⟨k, hk⟩ : ∃ k, (wd z).length = k + 1 := ⟨(wd z).length - 1, by omega⟩
    obtain ⟨d, hd⟩ : ∃ d, (wd z)[k]? = some d := ⟨_, List.getElem?_eq_getElem (by omega)⟩
    have hdw : d < 4294967296 := dg_at (dgs_dg w1 _) hd
    have hb := bl_words hk hd
    have h32 := bl_le32 hdw
    rw [hb]
    (refine SC_intro Tryz.func92 rfl (by kernel_rfl) (by rw [Tryz.ntmps92]; exact Nat.le_of_ble_eq_true rfl) ?_; simp only [Tryz.ntmps92, argE, Nat.reduceAdd])
    
    repeat' (first | ((first | apply RW.q1 | (apply DW.q1; exact rfl)); (first | (apply q_load; exact rfl; exact rfl; (first | exact Rd.sub x1 (by exact sbl) | exact Rd.sub x2 (by exact sbl))) | (apply q_ldr; exact rfl; exact rfl; exact x3; exact ws_at hd _ (by omega)) | exact qt)) | refine xsg cts ?_ | (apply CW_condT; exact rfl; exact ar) | (apply CW_condF; exact rfl; exact ar) | (refine hK _ _ ?_; clear hK; refine xsg xsl ?_) | ((first | apply RW.c1 | (apply DW.c1; exact rfl; exact rfl) | (apply DW.c1t; exact rfl)); (first | (apply nw_call (f := 124); exact rfl; exact go124; (intro G hG; exact (len32_spec d hdw _).mono (fun v M h => h.1))))) | (refine xsg ahd ?_; (first | (apply gw_asg; exact rfl) | (fail))) | (apply CW_region; intro K hK) | (apply CW_condX; exact rfl; exact tst; exact tst; all_goals (intro hq hc; try exact no)) | (refine CW_draw (id := 3) [19] [(0, false), (1, false), (2, false), (3, false), (4, false), (5, false), (6, false), (7, false), (8, false), (9, false), (10, false), (11, false), (12, false), (13, false), (14, false), (15, false), (16, false), (17, false), (18, false), (19, true), (20, false), (21, false)] mixed (by kernel_rfl) (fun K hK => ?_)))
    all_goals (refine CW_ret ?_; refine xsg xsl ?_; refine bR [.tmp 2] L ?_)
    all_goals exact ⟨ret_i64 (by omega), rfl⟩
end Go.Proofs.YtnhbipachchlgaaGreat.HL
