/- LimbsB: RefE: the document's numbers: one held against another; how often one goes into another. Condition: the rows' lengths. RefF: the document's numbers: some times one taken off another. Condition: the rows' lengths; there is room. RefG: the document's numbers: Divide, Common. Condition: at most 1000000 digits; the divisor is not 0. RefH: the document's numbers: Common, Compare, Plus. Condition: at most 1000000 digits. RefJ: the document's Plus. Condition: at most 1000000 digits. -/
import Derived.Test.YtnhbipachchlgaaGreatEngX
import Derived.Test.YtnhbipachchlgaaGreatLimbsX
namespace Go.Proofs.YtnhbipachchlgaaGreat.HL
open Go
attribute [local irreducible] goFn thenS blockS bodyS CW RW DW GW QW NW SC Pick Picks SubL Rd NN ResOk SrcW subE hops hseg AW hgen HC qv bldv
set_option maxHeartbeats 8000000
set_option maxRecDepth 100000
set_option linter.unusedVariables false
set_option linter.unusedSimpArgs false

theorem less_spec (x y : Nat) (a b : Option Addr) (n m c d : Nat) (H : Hp) (hn : (dgs B4 x).length = n) (hm : (dgs B4 y).length = m) (hx : Rs H 1 a n c (li (dgs B4 x))) (hy : Rs H 1 b m d (li (dgs B4 y))) (hN : n ≤ 1099511627776) (hM : m ≤ 1099511627776) :
    SC Tryz.prog 119 [.slice a n c, .slice b m d] H [] (fun v M => v = .bool (decide (x < y)) ∧ M = []) := by
  by_cases hl : n = m
  case neg =>
    have he : (x < y) ↔ (n : Int) < m := by
      constructor
      · intro h
        rcases Nat.lt_or_ge n m with h1 | h1
        · omega
        · have := dgs_len_mono (B := B4) b1 (m := y) (n := x) (by omega); omega
      · intro h; exact dgs_len_mono b1 (by omega)
    have hd : decide (x < y) = decide ((n : Int) < m) := by
      by_cases h : x < y
      · rw [decide_eq_true h, decide_eq_true (he.1 h)]
      · rw [decide_eq_false h, decide_eq_false (fun g => h (he.2 g))]
    rw [hd]
    (refine SC_intro Tryz.func119 rfl (by kernel_rfl) (by rw [Tryz.ntmps119]; exact Nat.le_of_ble_eq_true rfl) ?_; simp only [Tryz.ntmps119, argE, Nat.reduceAdd])
    
    repeat' (first | ((first | apply RW.q1 | (apply DW.q1; exact rfl)); exact qt) | refine xsg cts ?_ | (apply CW_condT; exact rfl; exact ar) | (apply CW_condF; exact rfl; exact ar) | (refine hK _ _ ?_; clear hK; refine xsg xsl ?_) | (refine xsg ahd ?_; (first | (apply gw_asg; exact rfl) | (fail))) | (apply CW_region; intro K hK) | (apply CW_condX; exact rfl; exact tst; exact tst; all_goals (intro hq hc; try exact no)) | (refine CW_draw (id := 6) [] [(0, false), (1, false), (2, false), (3, false), (4, false), (5, false), (6, false), (7, false), (8, false)] mixed (by kernel_rfl) (fun K hK => ?_)) | (refine CW_draw (id := 7) [] [(0, false), (1, false), (2, false), (3, false), (4, false), (5, false), (6, false), (7, false), (8, false), (9, false)] mixed (by kernel_rfl) (fun K hK => ?_)))
    (refine CW_ret ?_; refine xsg xsl ?_; refine bR [.tmp 4] [] ?_)
    exact ⟨rfl, rfl⟩
  subst hl
  (refine SC_intro Tryz.func119 rfl (by kernel_rfl) (by rw [Tryz.ntmps119]; exact Nat.le_of_ble_eq_true rfl) ?_; simp only [Tryz.ntmps119, argE, Nat.reduceAdd])
  
  repeat' (first | ((first | apply RW.q1 | (apply DW.q1; exact rfl)); exact qt) | refine xsg cts ?_ | (apply CW_condT; exact rfl; exact ar) | (apply CW_condF; exact rfl; exact ar) | (refine hK _ _ ?_; clear hK; refine xsg xsl ?_) | (refine xsg ahd ?_; (first | (apply gw_asg; exact rfl) | (fail))) | (apply CW_region; intro K hK) | (apply CW_condX; exact rfl; exact tst; exact tst; all_goals (intro hq hc; try exact no)) | (refine CW_draw (id := 6) [] [(0, false), (1, false), (2, false), (3, false), (4, false), (5, false), (6, false), (7, false), (8, false)] mixed (by kernel_rfl) (fun K hK => ?_)) | (refine CW_draw (id := 7) [] [(0, false), (1, false), (2, false), (3, false), (4, false), (5, false), (6, false), (7, false), (8, false), (9, false)] mixed (by kernel_rfl) (fun K hK => ?_)))
  refine CW_loop (fun mm l L => ∃ (k : Nat), mm = k + 1 ∧ l = [(0, true, .slice a n c), (1, true, .slice b n d), (5, true, .int .i64 ((k : Int) - 1))] ∧ L = [] ∧ k ≤ n ∧ (dgs B4 x).drop k = (dgs B4 y).drop k)
    ⟨_, _, _, ⟨n, rfl, rfl, rfl, Nat.le_refl _, by rw [List.drop_eq_nil_of_le (by omega), List.drop_eq_nil_of_le (by omega)]⟩, by exact sbe, by exact sbl⟩ ?_
  rintro mm l L ⟨k, rfl, rfl, rfl, h1, h2⟩
  by_cases h0 : 0 < k
  · obtain ⟨p, ep⟩ : ∃ p, (dgs B4 x)[k - 1]? = some p := ⟨_, List.getElem?_eq_getElem (by omega)⟩
    obtain ⟨q, eq⟩ : ∃ q, (dgs B4 y)[k - 1]? = some q := ⟨_, List.getElem?_eq_getElem (by omega)⟩
    have h2' : (dgs B4 x).drop (k - 1 + 1) = (dgs B4 y).drop (k - 1 + 1) := by rw [show k - 1 + 1 = k by omega]; exact h2
    have hxy : p < q → x < y := fun h => by
      have := nv_cmp (dgs_dg b1 x) (dgs_dg b1 y) (by omega) ep eq h2' h
      rwa [nv_dgs b1, nv_dgs b1] at this
    have hyx : q < p → y < x := fun h => by
      have := nv_cmp (dgs_dg b1 y) (dgs_dg b1 x) (by omega) eq ep h2'.symm h
      rwa [nv_dgs b1, nv_dgs b1] at this
    by_cases hpq : p = q
    · subst hpq
      
      repeat' (first | ((first | apply RW.q1 | (apply DW.q1; exact rfl)); (first | (apply q_ldr; exact rfl; exact rfl; exact hx; exact li_at ep (by omega)) | (apply q_ldr; exact rfl; exact rfl; exact hy; exact li_at eq (by omega)) | exact qt)) | refine xsg cts ?_ | (apply CW_condT; exact rfl; exact ar) | (apply CW_condF; exact rfl; exact ar) | (refine hK _ _ ?_; clear hK; refine xsg xsl ?_) | (refine xsg ahd ?_; (first | (apply gw_asg; exact rfl) | (fail))) | (apply CW_region; intro K hK) | (apply CW_condX; exact rfl; exact tst; exact tst; all_goals (intro hq hc; try exact no)) | (refine CW_draw (id := 6) [] [(0, false), (1, false), (2, false), (3, false), (4, false), (5, false), (6, false), (7, false), (8, false)] mixed (by kernel_rfl) (fun K hK => ?_)) | (refine CW_draw (id := 7) [] [(0, false), (1, false), (2, false), (3, false), (4, false), (5, false), (6, false), (7, false), (8, false), (9, false)] mixed (by kernel_rfl) (fun K hK => ?_)))
      exact ⟨_, _, _, ⟨k - 1, rfl, rfl, rfl, by omega, drop_eq ep eq h2'⟩, by exact sbe, by exact sbl, by omega⟩
    · have hd : decide ((p : Int) < q) = decide (x < y) := by
        rcases Nat.lt_or_ge p q with h | h
        · rw [decide_eq_true (hxy h), decide_eq_true (by omega)]
        · have := hyx (by omega)
          rw [decide_eq_false (p := x < y) (by omega), decide_eq_false (by omega)]
      
      repeat' (first | ((first | apply RW.q1 | (apply DW.q1; exact rfl)); (first | (apply q_ldr; exact rfl; exact rfl; exact hx; exact li_at ep (by omega)) | (apply q_ldr; exact rfl; exact rfl; exact hy; exact li_at eq (by omega)) | exact qt)) | refine xsg cts ?_ | (apply CW_condT; exact rfl; exact ar) | (apply CW_condF; exact rfl; exact ar) | (refine hK _ _ ?_; clear hK; refine xsg xsl ?_) | (refine xsg ahd ?_; (first | (apply gw_asg; exact rfl) | (fail))) | (apply CW_region; intro K hK) | (apply CW_condX; exact rfl; exact tst; exact tst; all_goals (intro hq hc; try exact no)) | (refine CW_draw (id := 6) [] [(0, false), (1, false), (2, false), (3, false), (4, false), (5, false), (6, false), (7, false), (8, false)] mixed (by kernel_rfl) (fun K hK => ?_)) | (refine CW_draw (id := 7) [] [(0, false), (1, false), (2, false), (3, false), (4, false), (5, false), (6, false), (7, false), (8, false), (9, false)] mixed (by kernel_rfl) (fun K hK => ?_)))
      (refine CW_ret ?_; refine xsg xsl ?_; refine bR [.tmp 4] [] ?_)
      exact ⟨congrArg Value.bool hd, rfl⟩
  · obtain rfl : k = 0 := by omega
    rw [List.drop_zero, List.drop_zero] at h2
    have := dgs_inj b1 h2
    rw [decide_eq_false (p := x < y) (by omega)]
    
    repeat' (first | ((first | apply RW.q1 | (apply DW.q1; exact rfl)); exact qt) | refine xsg cts ?_ | (apply CW_condT; exact rfl; exact ar) | (apply CW_condF; exact rfl; exact ar) | (refine hK _ _ ?_; clear hK; refine xsg xsl ?_) | (refine xsg ahd ?_; (first | (apply gw_asg; exact rfl) | (fail))) | (apply CW_region; intro K hK) | (apply CW_condX; exact rfl; exact tst; exact tst; all_goals (intro hq hc; try exact no)) | (refine CW_draw (id := 6) [] [(0, false), (1, false), (2, false), (3, false), (4, false), (5, false), (6, false), (7, false), (8, false)] mixed (by kernel_rfl) (fun K hK => ?_)) | (refine CW_draw (id := 7) [] [(0, false), (1, false), (2, false), (3, false), (4, false), (5, false), (6, false), (7, false), (8, false), (9, false)] mixed (by kernel_rfl) (fun K hK => ?_)))
    (refine CW_ret ?_; refine xsg xsl ?_; refine bR [.tmp 4] [] ?_)
    exact ⟨rfl, rfl⟩
theorem rs_end {H : Hp} {xs : List Nat} {a : Option Addr} {n c up : Nat} (hx : Rs H 1 a n c (li xs)) (hn : xs.length = n) (hd : Dg B4 xs) (hu : up ≤ n) :
    Rs H 1 (if c = up then a else a.map (·.add (up * 1))) (n - up) (c - up) (li (xs.drop up)) ∧ Rs H 1 (if c = up then a else a.map (·.add (up * 1))) (dgs B4 (nv B4 (xs.drop up))).length (c - up) (li (dgs B4 (nv B4 (xs.drop up)))) := by
  have h1 := sl_drop hx hu (rs_cap hx)
  have e1 : (li xs).drop (up * 1) = li (xs.drop up) := by rw [Nat.mul_one]; exact (List.map_drop ..).symm
  rw [e1] at h1
  refine ⟨h1, ?_⟩
  have hk := norm_take b1 (dg_drop hd up)
  have hl : (dgs B4 (nv B4 (xs.drop up))).length ≤ n - up := by
    have := congrArg List.length hk
    rw [List.length_take, List.length_drop] at this; omega
  have h2 := rs_take h1 hl
  rw [li_take, hk] at h2
  exact h2
theorem fits_spec (xs : List Nat) (Y U up n m : Nat) (xa ya : Option Addr) (xc yc : Nat) (H : Hp) (hn : xs.length = n) (hm : (dgs B4 Y).length = m) (dx : Dg B4 xs) (x3 : Rs H 1 xa n xc (li xs)) (y3 : Rs H 1 ya m yc (li (dgs B4 Y))) (hN : n ≤ 1048576) (hM : m ≤ 1048575) (hu : up ≤ n) (hU : nv B4 (xs.drop up) = U) (hY : 0 < Y) (hq : U < 10000 * Y) :
    SC Tryz.prog 120 [.slice xa n xc, .slice ya m yc, .int .i64 (up : Nat)] H [] (fun v M => v = .int .i64 (U / Y : Nat) ∧ M = []) := by
  obtain ⟨r1, r2⟩ := rs_end x3 hn dx hu
  rw [hU] at r2
  have hUl : (dgs B4 U).length ≤ 1048576 := by
    have hk := norm_take b1 (dg_drop dx up)
    have := congrArg List.length hk
    rw [List.length_take, List.length_drop, hU] at this; omega
  have hQ : U / Y < 10000 := Nat.div_lt_of_lt_mul (by rw [Nat.mul_comm]; exact hq)
  obtain ⟨Q, hQe⟩ : ∃ Q, U / Y = Q := ⟨_, rfl⟩
  rw [hQe] at hQ ⊢
  (refine SC_intro Tryz.func120 rfl (by kernel_rfl) (by rw [Tryz.ntmps120]; exact Nat.le_of_ble_eq_true rfl) ?_; simp only [Tryz.ntmps120, argE, Nat.reduceAdd])
  
  repeat' (first | (apply RW.q1; exact qt) | refine xsg cts ?_ | (apply CW_condT; exact rfl; exact ar) | (apply CW_condF; exact rfl; exact ar) | (refine hK _ _ ?_; clear hK; refine xsg xsl ?_) | ((first | apply RW.a1 | apply RW.a0); (first | (apply gw_asg; exact rfl) | (apply gw_lit1; exact rfl; exact rfl; exact rfl; exact rfl; decide; intro b) | (apply gw_lit2; exact rfl; exact rfl; exact rfl; exact rfl; intro b) | (apply gw_lit3; exact rfl; exact rfl; exact rfl; exact rfl; exact rfl; intro b) | (fail))) | (apply CW_region; intro K hK) | (apply CW_condX; exact rfl; exact tst; exact tst; all_goals (intro hq hc; try exact no)))
  refine CW_loop (fun mm l L => ∃ (lo hi : Nat), mm = hi - lo ∧ l = [(0, true, .slice xa n xc), (1, true, .slice ya m yc), (2, true, .int .i64 (up : Nat)), (7, true, .int .i64 (lo : Nat)), (8, true, .int .i64 (hi : Nat))] ∧ L = [] ∧ hi < 10000 ∧ lo ≤ Q ∧ Q ≤ hi)
    ⟨_, _, _, ⟨0, 9999, rfl, rfl, rfl, by omega, by omega, by omega⟩, by exact sbe, by exact sbl⟩ ?_
  rintro mm l L ⟨lo, hi, rfl, rfl, rfl, h1, h2, h3⟩
  by_cases hlt : lo < hi
  · obtain ⟨q, hq2⟩ : ∃ q, q = (lo + hi + 1) / 2 := ⟨_, rfl⟩
    have wqu : IntKind.i64.wrap ((((lo : Int) + (hi : Int)) + 1).tdiv 2) = (q : Int) := by
      rw [Int.tdiv_eq_ediv_of_nonneg (by omega), show (((lo : Int) + (hi : Int)) + 1) / 2 = (q : Int) by omega]
      exact w_in (by simp only [inb]; omega)
    have hT := times_spec (dgs B4 Y) [q] Y q m 1 ya
    have hpl : (dgs B4 (Y * q)).length ≤ 1048576 := by
      have h1 : Y * q < B4 ^ (m + 1) := by
        rw [Nat.pow_succ, ← hm]
        exact Nat.lt_of_le_of_lt (Nat.mul_le_mul_left Y (show q ≤ 10000 by omega)) (Nat.mul_lt_mul_of_pos_right (dgs_len_lt b1) (by decide))
      rcases Nat.lt_or_ge (m + 1) (dgs B4 (Y * q)).length with h | h
      · have := dgs_len_ge (B := B4) b1 (n := Y * q) (k := (dgs B4 (Y * q)).length - 1) (by omega)
        have := Nat.pow_le_pow_right (n := B4) (by decide) (show m + 1 ≤ (dgs B4 (Y * q)).length - 1 by omega)
        omega
      · omega
    have hqd : U < Y * q ↔ Q < q := by rw [← hQe, Nat.div_lt_iff_lt_mul hY, Nat.mul_comm]
    
    repeat' (first | (apply RW.q1; (first | (apply q_quo; exact rfl; exact rfl; decide; exact wqu) | (apply q_slxr; exact rfl; exact rfl; exact x3; omega) | exact qt)) | refine xsg cts ?_ | (apply CW_condT; exact rfl; exact ar) | (apply CW_condF; exact rfl; exact ar) | (refine hK _ _ ?_; clear hK; refine xsg xsl ?_) | ((first | apply RW.a1 | apply RW.a0); (first | (apply gw_call (f := 117); exact rfl; exact go117; intro G hG; refine SC.mono (hT _ yc _ G hm rfl (dgs_dg b1 Y) (dg_cons.2 ⟨show q < 10000 by omega, fun d hd => by cases hd⟩) (nv_dgs b1 Y) (by simp [nv]) (y3.ext hG.ext) (sl_own (by exact pkx) hG) (by omega) (by omega)) ?_; rintro v M ⟨pa, pc, rfl, rfl⟩; (try dsimp only [jL, jM])) | (apply gw_callE (f := 122); exact rfl; exact go122; intro G hG; exact trimL_spec (xs.drop up) U _ (n - up) _ G (r1.ext hG.ext) (by rw [List.length_drop, hn]) (by omega) (dg_drop dx up) hU) | (apply gw_callE (f := 119); exact rfl; exact go119; intro G hG; exact less_spec U (Y * q) _ pa _ _ _ pc G rfl rfl (r2.ext hG.ext) (sl_own (by exact pkx) hG) (by omega) (by omega)) | (apply gw_asg; exact rfl) | (apply gw_lit1; exact rfl; exact rfl; exact rfl; exact rfl; decide; intro b) | (apply gw_lit2; exact rfl; exact rfl; exact rfl; exact rfl; intro b) | (apply gw_lit3; exact rfl; exact rfl; exact rfl; exact rfl; exact rfl; intro b) | (fail))) | (apply CW_region; intro K hK) | (apply CW_condX; exact rfl; exact tst; exact tst; all_goals (intro hq hc; try exact no)))
    · exact ⟨_, _, _, ⟨lo, q - 1, rfl, rfl, rfl, by omega, by omega, by omega⟩, by exact sbe, by exact sbl, by omega⟩
    · exact ⟨_, _, _, ⟨q, hi, rfl, rfl, rfl, by omega, by omega, by omega⟩, by exact sbe, by exact sbl, by omega⟩
  · obtain rfl : lo = Q := by omega
    
    repeat' (first | (apply RW.q1; exact qt) | refine xsg cts ?_ | (apply CW_condT; exact rfl; exact ar) | (apply CW_condF; exact rfl; exact ar) | (refine hK _ _ ?_; clear hK; refine xsg xsl ?_) | ((first | apply RW.a1 | apply RW.a0); (first | (apply gw_asg; exact rfl) | (apply gw_lit1; exact rfl; exact rfl; exact rfl; exact rfl; decide; intro b) | (apply gw_lit2; exact rfl; exact rfl; exact rfl; exact rfl; intro b) | (apply gw_lit3; exact rfl; exact rfl; exact rfl; exact rfl; exact rfl; intro b) | (fail))) | (apply CW_region; intro K hK) | (apply CW_condX; exact rfl; exact tst; exact tst; all_goals (intro hq hc; try exact no)))
    (refine CW_ret ?_; refine xsg xsl ?_; refine bR [.tmp 6] [] ?_)
    exact ⟨rfl, rfl⟩
end Go.Proofs.YtnhbipachchlgaaGreat.HL
namespace Go.Proofs.YtnhbipachchlgaaGreat.HL
open Go
attribute [local irreducible] goFn thenS blockS bodyS CW RW DW GW QW NW SC Pick Picks SubL Rd NN ResOk SrcW subE hops hseg AW hgen HC qv bldv
set_option linter.unusedVariables false
set_option linter.unusedSimpArgs false

theorem take_step {W u k o d c c' q y N N' T X : Nat} (h : N + W ^ u * (q * T) = X + W ^ (u + k) * c) (hs : N' + W ^ (u + k) * o = N + W ^ (u + k) * d) (he : o + W * c' = d + c + q * y) : N' + W ^ u * (q * (T + W ^ k * y)) = X + W ^ (u + (k + 1)) * c' := by
  have e1 : W ^ u * (q * (T + W ^ k * y)) = W ^ u * (q * T) + W ^ (u + k) * (q * y) := by
    rw [Nat.mul_add, Nat.mul_add, Nat.pow_add, Nat.mul_assoc (W ^ u) (W ^ k), Nat.mul_left_comm (W ^ k) q y]
  have e2 : W ^ (u + (k + 1)) * c' = W ^ (u + k) * (W * c') := by rw [← Nat.add_assoc, Nat.pow_succ, Nat.mul_assoc]
  have e3 : W ^ (u + k) * o + W ^ (u + k) * (W * c') = W ^ (u + k) * d + W ^ (u + k) * c + W ^ (u + k) * (q * y) := by
    rw [← Nat.mul_add, ← Nat.mul_add, ← Nat.mul_add, he]
  omega
theorem take_room {W u k c q T N X n : Nat} {l : List Nat} (h : N + W ^ u * (q * T) = X + W ^ (u + k) * c) (hc : 0 < c) (hle : W ^ u * (q * T) ≤ X) (hN : N < W ^ n) (hW : 0 < W) : u + k < n := by
  rcases Nat.lt_or_ge (u + k) n with g | g
  · exact g
  · have h1 := Nat.pow_le_pow_right hW g
    have h2 : W ^ (u + k) * 1 ≤ W ^ (u + k) * c := Nat.mul_le_mul_left _ hc
    omega
theorem takeQ_spec (xs : List Nat) (Y q up n m : Nat) (xa ya : Option Addr) (xc yc : Nat) (H : Hp) (hn : xs.length = n) (hm : (dgs B4 Y).length = m) (dx : Dg B4 xs) (y3 : Rs H 1 ya m yc (li (dgs B4 Y))) (hN : n ≤ 1048576) (hM : m ≤ 1048576) (hu : up + m ≤ n) (hq : q < 10000) (hle : B4 ^ up * (q * Y) ≤ nv B4 xs) :
    SC Tryz.prog 121 [.slice xa n xc, .slice ya m yc, .int .i64 (up : Nat), .int .i64 (q : Nat)] H [.own 3 1 xa n xc (li xs)] (fun v M => ∃ xs', M = [.own 3 1 xa n xc (li xs')] ∧ xs'.length = n ∧ Dg B4 xs' ∧ nv B4 xs' + B4 ^ up * (q * Y) = nv B4 xs) := by
  have hYv := nv_dgs b1 Y
  (refine SC_intro Tryz.func121 rfl (by kernel_rfl) (by rw [Tryz.ntmps121]; exact Nat.le_of_ble_eq_true rfl) ?_; simp only [Tryz.ntmps121, argE, Nat.reduceAdd])
  
  repeat' (first | (apply RW.q1; exact qt) | (apply RW.qg; exact gvx; refine hgx tst ?_; intro hg hg'; exact qu) | refine xsg cts ?_ | (apply CW_condT; exact rfl; exact ar) | (apply CW_condF; exact rfl; exact ar) | ((first | apply RW.s1 | apply RW.s0); exact gva) | (refine hK _ _ ?_; clear hK; refine xsg xsl ?_) | ((first | apply RW.a1 | apply RW.a0 | (apply RW.at; exact gva)); (first | (apply gw_asg; exact rfl) | (refine gw_stx sto ?_) | (fail))) | (apply CW_region; intro K hK) | (apply CW_condX; exact rfl; exact tst; exact tst; all_goals (intro hq hc; try exact no)))
  refine CW_loop (fun mm l L => ∃ (k c : Nat) (xs' : List Nat), mm = n - (up + k) ∧ l = [(0, true, .slice xa n xc), (1, true, .slice ya m yc), (2, true, .int .i64 (up : Nat)), (3, true, .int .i64 (q : Nat)), (8, true, .int .i64 (c : Nat)), (9, true, .int .i64 (k : Nat))] ∧
      L = [.own 3 1 xa n xc (li xs')] ∧ xs'.length = n ∧ Dg B4 xs' ∧ c ≤ 10000 ∧ up + k ≤ n ∧ nv B4 xs' + B4 ^ up * (q * nv B4 ((dgs B4 Y).take k)) = nv B4 xs + B4 ^ (up + k) * c)
    ⟨_, _, _, ⟨0, 0, xs, rfl, rfl, rfl, hn, dx, by omega, by omega, by simp [nv]⟩, by exact sbe, by exact sbl⟩ ?_
  rintro mm l L ⟨k, c, xs', rfl, rfl, rfl, h1, h2, h3, h4, h5⟩
  by_cases hk : k < m
  · have hroom : up + k < n := by omega
    obtain ⟨o, ho⟩ : ∃ d, xs'[up + k]? = some d := ⟨_, List.getElem?_eq_getElem (by omega)⟩
    obtain ⟨y, hy⟩ : ∃ d, (dgs B4 Y)[k]? = some d := ⟨_, List.getElem?_eq_getElem (by omega)⟩
    have how : o < 10000 := dg_at h2 ho
    have hyw : y < 10000 := dg_at (dgs_dg b1 Y) hy
    obtain ⟨p, hp⟩ : ∃ p, p = q * y := ⟨_, rfl⟩
    have hpb : p ≤ 99980001 := by
      have := Nat.mul_le_mul (show q ≤ 9999 by omega) (show y ≤ 9999 by omega)
      omega
    have hpi : ((q : Nat) : Int) * ((y : Nat) : Int) = (p : Int) := by rw [hp]; exact (Int.natCast_mul ..).symm
    have wpi : IntKind.i64.wrap (((q : Nat) : Int) * ((y : Nat) : Int)) = (p : Int) := by rw [hpi]; exact w_in (by simp only [inb]; omega)
    obtain ⟨c', hc'⟩ : ∃ c', c' = (c + p - o + 9999) / 10000 := ⟨_, rfl⟩
    obtain ⟨d, hd⟩ : ∃ d, d = o + c' * 10000 - c - p := ⟨_, rfl⟩
    have hd1 : o + 10000 * c' = d + c + p := by omega
    have hd2 : d < 10000 := by omega
    have hset := nv_set (B := B4) d ho
    have hstep := take_step (W := B4) h5 hset (by rw [← hp]; exact hd1)
    rw [← nv_take hy] at hstep
    have hw2 : IntKind.i64.wrap ((o : Int) - (c : Int)) = (o : Int) - c := w_in (by simp only [inb]; omega)
    by_cases hneg : o < c + p
    · have wqu : IntKind.i64.wrap ((-((o : Int) - (c : Int) - (p : Int)) + 10000 - 1).tdiv 10000) = (c' : Int) := by
        rw [Int.tdiv_eq_ediv_of_nonneg (by omega), show (-((o : Int) - (c : Int) - (p : Int)) + 10000 - 1) / 10000 = (c' : Int) by omega]
        exact w_in (by simp only [inb]; omega)
      
      repeat' (first | (apply RW.q1; (first | (apply q_ldo; exact rfl; exact rfl; infer_instance; exact li_at ho (by omega)) | (apply q_ldr; exact rfl; exact rfl; exact y3; exact li_at hy (by omega)) | (apply q_mul; exact rfl; exact rfl; exact wpi) | (apply q_quo; exact rfl; exact rfl; decide; exact wqu) | exact qt)) | (apply RW.qg; exact gvx; refine hgx tst ?_; intro hg hg'; (first | (apply q_ldo; exact rfl; exact evgx; infer_instance; exact li_at ho (by omega)) | (apply q_ldr; exact rfl; exact evgx; exact y3; exact li_at hy (by omega)) | (apply q_mul; exact evgx; exact evgx; exact wpi) | (apply q_quo; exact evgx; exact evgx; decide; exact wqu) | exact qu)) | refine xsg cts ?_ | (apply CW_condT; exact rfl; exact ar) | (apply CW_condF; exact rfl; exact ar) | ((first | apply RW.s1 | apply RW.s0); exact gva) | (refine hK _ _ ?_; clear hK; refine xsg xsl ?_) | ((first | apply RW.a1 | apply RW.a0 | (apply RW.at; exact gva)); (first | (apply gw_sol (up + k) d; exact rfl; exact rfl; infer_instance; omega; omega; omega) | (apply gw_asg; exact rfl) | (refine gw_stx sto ?_) | (fail))) | (apply CW_region; intro K hK) | (apply CW_condX; exact rfl; exact tst; exact tst; all_goals (intro hq hc; try exact no)))
      all_goals exact ⟨_, _, _, ⟨k + 1, c', xs'.set (up + k) d, rfl, rfl, rfl, by rw [List.length_set]; exact h1, dg_set h2 hd2, by omega, by omega, hstep⟩, by exact sbe, by exact sbl, by omega⟩
    · have hc0 : c' = 0 := by omega
      rw [hc0] at hstep
      
      repeat' (first | (apply RW.q1; (first | (apply q_ldo; exact rfl; exact rfl; infer_instance; exact li_at ho (by omega)) | (apply q_ldr; exact rfl; exact rfl; exact y3; exact li_at hy (by omega)) | (apply q_mul; exact rfl; exact rfl; exact wpi) | exact qt)) | (apply RW.qg; exact gvx; refine hgx tst ?_; intro hg hg'; (first | (apply q_ldo; exact rfl; exact evgx; infer_instance; exact li_at ho (by omega)) | (apply q_ldr; exact rfl; exact evgx; exact y3; exact li_at hy (by omega)) | (apply q_mul; exact evgx; exact evgx; exact wpi) | exact qu)) | refine xsg cts ?_ | (apply CW_condT; exact rfl; exact ar) | (apply CW_condF; exact rfl; exact ar) | ((first | apply RW.s1 | apply RW.s0); exact gva) | (refine hK _ _ ?_; clear hK; refine xsg xsl ?_) | ((first | apply RW.a1 | apply RW.a0 | (apply RW.at; exact gva)); (first | (apply gw_sol (up + k) d; exact rfl; exact rfl; infer_instance; omega; omega; omega) | (apply gw_asg; exact rfl) | (refine gw_stx sto ?_) | (fail))) | (apply CW_region; intro K hK) | (apply CW_condX; exact rfl; exact tst; exact tst; all_goals (intro hq hc; try exact no)))
      all_goals exact ⟨_, _, _, ⟨k + 1, 0, xs'.set (up + k) d, rfl, rfl, rfl, by rw [List.length_set]; exact h1, dg_set h2 hd2, by omega, by omega, hstep⟩, by exact sbe, by exact sbl, by omega⟩
  · have htk : ∀ j, m ≤ j → (dgs B4 Y).take j = dgs B4 Y := fun j hj => List.take_of_length_le (by omega)
    rw [htk k (by omega), hYv] at h5
    by_cases hc : 0 < c
    · have hroom := take_room (l := []) h5 hc hle (by have := nv_lt h2; rw [h1] at this; exact this) (by decide)
      obtain ⟨o, ho⟩ : ∃ d, xs'[up + k]? = some d := ⟨_, List.getElem?_eq_getElem (by omega)⟩
      have how : o < 10000 := dg_at h2 ho
      obtain ⟨c', hc'⟩ : ∃ c', c' = (c - o + 9999) / 10000 := ⟨_, rfl⟩
      obtain ⟨d, hd⟩ : ∃ d, d = o + c' * 10000 - c := ⟨_, rfl⟩
      have hd1 : o + 10000 * c' = d + c + q * 0 := by omega
      have hd2 : d < 10000 := by omega
      have hset := nv_set (B := B4) d ho
      have hstep := take_step (W := B4) (y := 0) h5 hset hd1
      rw [Nat.mul_zero, Nat.add_zero, ← hYv] at hstep
      rw [← htk (k + 1) (by omega)] at hstep
      by_cases hneg : o < c
      · have wqu : IntKind.i64.wrap ((-((o : Int) - (c : Int)) + 10000 - 1).tdiv 10000) = (c' : Int) := by
          rw [Int.tdiv_eq_ediv_of_nonneg (by omega), show (-((o : Int) - (c : Int)) + 10000 - 1) / 10000 = (c' : Int) by omega]
          exact w_in (by simp only [inb]; omega)
        
        repeat' (first | (apply RW.q1; (first | (apply q_ldo; exact rfl; exact rfl; infer_instance; exact li_at ho (by omega)) | (apply q_quo; exact rfl; exact rfl; decide; exact wqu) | exact qt)) | (apply RW.qg; exact gvx; refine hgx tst ?_; intro hg hg'; (first | (apply q_ldo; exact rfl; exact evgx; infer_instance; exact li_at ho (by omega)) | (apply q_quo; exact evgx; exact evgx; decide; exact wqu) | exact qu)) | refine xsg cts ?_ | (apply CW_condT; exact rfl; exact ar) | (apply CW_condF; exact rfl; exact ar) | ((first | apply RW.s1 | apply RW.s0); exact gva) | (refine hK _ _ ?_; clear hK; refine xsg xsl ?_) | ((first | apply RW.a1 | apply RW.a0 | (apply RW.at; exact gva)); (first | (apply gw_sol (up + k) d; exact rfl; exact rfl; infer_instance; omega; omega; omega) | (apply gw_asg; exact rfl) | (refine gw_stx sto ?_) | (fail))) | (apply CW_region; intro K hK) | (apply CW_condX; exact rfl; exact tst; exact tst; all_goals (intro hq hc; try exact no)))
        all_goals exact ⟨_, _, _, ⟨k + 1, c', xs'.set (up + k) d, rfl, rfl, rfl, by rw [List.length_set]; exact h1, dg_set h2 hd2, by omega, by omega, hstep⟩, by exact sbe, by exact sbl, by omega⟩
      · have hc0 : c' = 0 := by omega
        rw [hc0] at hstep
        
        repeat' (first | (apply RW.q1; (first | (apply q_ldo; exact rfl; exact rfl; infer_instance; exact li_at ho (by omega)) | exact qt)) | (apply RW.qg; exact gvx; refine hgx tst ?_; intro hg hg'; (first | (apply q_ldo; exact rfl; exact evgx; infer_instance; exact li_at ho (by omega)) | exact qu)) | refine xsg cts ?_ | (apply CW_condT; exact rfl; exact ar) | (apply CW_condF; exact rfl; exact ar) | ((first | apply RW.s1 | apply RW.s0); exact gva) | (refine hK _ _ ?_; clear hK; refine xsg xsl ?_) | ((first | apply RW.a1 | apply RW.a0 | (apply RW.at; exact gva)); (first | (apply gw_sol (up + k) d; exact rfl; exact rfl; infer_instance; omega; omega; omega) | (apply gw_asg; exact rfl) | (refine gw_stx sto ?_) | (fail))) | (apply CW_region; intro K hK) | (apply CW_condX; exact rfl; exact tst; exact tst; all_goals (intro hq hc; try exact no)))
        all_goals exact ⟨_, _, _, ⟨k + 1, 0, xs'.set (up + k) d, rfl, rfl, rfl, by rw [List.length_set]; exact h1, dg_set h2 hd2, by omega, by omega, hstep⟩, by exact sbe, by exact sbl, by omega⟩
    · obtain rfl : c = 0 := by omega
      rw [Nat.mul_zero, Nat.add_zero] at h5
      
      repeat' (first | (apply RW.q1; exact qt) | (apply RW.qg; exact gvx; refine hgx tst ?_; intro hg hg'; exact qu) | refine xsg cts ?_ | (apply CW_condT; exact rfl; exact ar) | (apply CW_condF; exact rfl; exact ar) | ((first | apply RW.s1 | apply RW.s0); exact gva) | (refine hK _ _ ?_; clear hK; refine xsg xsl ?_) | ((first | apply RW.a1 | apply RW.a0 | (apply RW.at; exact gva)); (first | (apply gw_asg; exact rfl) | (refine gw_stx sto ?_) | (fail))) | (apply CW_region; intro K hK) | (apply CW_condX; exact rfl; exact tst; exact tst; all_goals (intro hq hc; try exact no)))
      (refine bE [] [.own 3 1 xa n xc (li xs')] ?_)
      exact ⟨xs', rfl, h1, h2, h5⟩
end Go.Proofs.YtnhbipachchlgaaGreat.HL
namespace Go.Proofs.YtnhbipachchlgaaGreat.HL
open Go
attribute [local irreducible] goFn thenS blockS bodyS CW RW DW GW QW NW SC Pick Picks SubL Rd NN ResOk SrcW subE hops hseg AW hgen HC qv bldv
set_option linter.unusedVariables false
set_option linter.unusedSimpArgs false

theorem div_step {W up q U Y N N' T A Q Q' : Nat} (hN : N = T + W ^ up * U) (hT : T < W ^ up) (hq : q = U / Y) (hY : 0 < Y) (h1 : N' + W ^ up * (q * Y) = N) (hA : A = N + Y * Q) (hQ : Q' = Q + W ^ up * q) :
    A = N' + Y * Q' ∧ N' < W ^ up * Y := by
  have e : W ^ up * (q * Y) = Y * (W ^ up * q) := by rw [← Nat.mul_assoc, Nat.mul_comm Y]
  refine ⟨by rw [hQ, Nat.mul_add]; omega, ?_⟩
  have h2 := Nat.div_add_mod U Y
  have h3 := Nat.mod_lt U hY
  rw [← hq] at h2
  have h4 : W ^ up * U = W ^ up * (q * Y) + W ^ up * (U % Y) := by rw [← Nat.mul_add, Nat.mul_comm q Y, h2]
  have h5 : W ^ up * (U % Y) + W ^ up ≤ W ^ up * Y := by
    have := Nat.mul_le_mul_left (W ^ up) (show U % Y + 1 ≤ Y from h3)
    rw [Nat.mul_add, Nat.mul_one] at this
    exact this
  omega
theorem rs_norm {H : Hp} {xs : List Nat} {a : Option Addr} {n c : Nat} (hx : Rs H 1 a n c (li xs)) (hd : Dg B4 xs) (hn : xs.length = n) : Rs H 1 a (dgs B4 (nv B4 xs)).length c (li (dgs B4 (nv B4 xs))) ∧ (dgs B4 (nv B4 xs)).length ≤ n := by
  have hk := norm_take b1 hd
  have hl : (dgs B4 (nv B4 xs)).length ≤ n := by
    have := congrArg List.length hk
    rw [List.length_take] at this; omega
  have h2 := rs_take hx hl
  rw [li_take, hk] at h2
  exact ⟨h2, hl⟩
theorem dgs_len_norm {xs : List Nat} {n : Nat} (hd : Dg B4 xs) (hn : xs.length = n) : (dgs B4 (nv B4 xs)).length ≤ n := by
  have := congrArg List.length (norm_take b1 hd)
  rw [List.length_take] at this; omega
theorem end_small {W up U Y N T : Nat} (hN : N = T + W ^ up * U) (h : N < W ^ (up + 1) * Y) : U < W * Y := by
  have e : W ^ (up + 1) * Y = W ^ up * (W * Y) := by rw [Nat.pow_succ, Nat.mul_assoc]
  rw [e] at h
  exact Nat.lt_of_mul_lt_mul_left (a := W ^ up) (by omega)
theorem rDivide_spec (A Y : Nat) (H : Hp) (hY : 0 < Y) (hA : (Lib.decDigits A).length ≤ 1000000) (hYl : (Lib.decDigits Y).length ≤ 1000000) :
    SC Tryz.prog 88 [.string (bstr (Lib.decDigits A)), .string (bstr (Lib.decDigits Y))] H [] (fun v M => v = .tuple #[.string (bstr (Lib.decDigits (A / Y))), .string (bstr (Lib.decDigits (A % Y)))] ∧ M = []) := by
  have h1 := limbs_spec (Lib.decDigits A)
  have h2 := limbs_spec (Lib.decDigits Y)
  rw [dec_dv] at h1 h2
  have l1 := dec_b4_len A
  have l2 := dec_b4_len Y
  by_cases hlt : A < Y
  · rw [Nat.div_eq_of_lt hlt, Nat.mod_eq_of_lt hlt]
    (refine SC_intro Tryz.func88 rfl (by kernel_rfl) (by rw [Tryz.ntmps88]; exact Nat.le_of_ble_eq_true rfl) ?_; simp only [Tryz.ntmps88, argE, Nat.reduceAdd])
    
    repeat' (first | (apply RW.q1; exact qt) | refine xsg cts ?_ | (apply CW_condT; exact rfl; exact ar) | (apply CW_condF; exact rfl; exact ar) | (refine hK _ _ ?_; clear hK; refine xsg xsl ?_) | ((first | apply RW.a1 | apply RW.a0); (first | (apply gw_call (f := 118); exact rfl; exact go118; intro G hG; refine SC.mono (h1 G (dec_isDg A) hA) ?_; rintro v M ⟨xa, xc, rfl, rfl⟩; (try dsimp only [jL, jM])) | (apply gw_call (f := 118); exact rfl; exact go118; intro G hG; refine SC.mono (h2 G (dec_isDg Y) hYl) ?_; rintro v M ⟨ya, yc, rfl, rfl⟩; (try dsimp only [jL, jM])) | (apply gw_callE (f := 119); exact rfl; exact go119; intro G hG; exact less_spec A Y xa ya _ _ xc yc G rfl rfl (sl_own (by exact pkx) hG) (sl_own (by exact pkx) hG) (by omega) (by omega); rw [decide_eq_true hlt]) | (apply gw_asg; exact rfl) | (apply gw_make; exact rfl; exact rfl; exact rfl; exact rfl; omega; omega; omega; omega; intro b) | (refine gw_stx sto ?_) | (fail))) | (apply CW_region; intro K hK) | (apply CW_condX; exact rfl; exact tst; exact tst; all_goals (intro hq hc; try exact no)))
    (refine CW_ret ?_; refine xsg xsl ?_; refine bR [.tmp 4, .tmp 5] [] ?_)
    exact ⟨by rw [dec_small (u := 0) (by decide)]; rfl, rfl⟩
  obtain ⟨n, hn⟩ : ∃ n, n = (dgs B4 A).length := ⟨_, rfl⟩
  obtain ⟨m, hm⟩ : ∃ m, m = (dgs B4 Y).length := ⟨_, rfl⟩
  have hmn : m ≤ n := by
    rcases Nat.lt_or_ge n m with h | h
    · have := dgs_len_mono (B := B4) b1 (m := A) (n := Y) (by omega); omega
    · exact h
  have hm0 : 0 < m := by rw [hm, dgs_pos b1 hY]; exact Nat.succ_pos _
  rw [← hn] at h1 l1
  rw [← hm] at h2 l2
  (refine SC_intro Tryz.func88 rfl (by kernel_rfl) (by rw [Tryz.ntmps88]; exact Nat.le_of_ble_eq_true rfl) ?_; simp only [Tryz.ntmps88, argE, Nat.reduceAdd])
  
  repeat' (first | (apply RW.q1; exact qt) | refine xsg cts ?_ | (apply CW_condT; exact rfl; exact ar) | (apply CW_condF; exact rfl; exact ar) | (refine hK _ _ ?_; clear hK; refine xsg xsl ?_) | ((first | apply RW.a1 | apply RW.a0); (first | (apply gw_call (f := 118); exact rfl; exact go118; intro G hG; refine SC.mono (h1 G (dec_isDg A) hA) ?_; rintro v M ⟨xa, xc, rfl, rfl⟩; (try dsimp only [jL, jM])) | (apply gw_call (f := 118); exact rfl; exact go118; intro G hG; refine SC.mono (h2 G (dec_isDg Y) hYl) ?_; rintro v M ⟨ya, yc, rfl, rfl⟩; (try dsimp only [jL, jM])) | (apply gw_callE (f := 119); exact rfl; exact go119; intro G hG; exact less_spec A Y xa ya _ _ xc yc G hn.symm hm.symm (sl_own (by exact pkx) hG) (sl_own (by exact pkx) hG) (by omega) (by omega); rw [decide_eq_false hlt]) | (apply gw_asg; exact rfl) | (apply gw_make; exact rfl; exact rfl; exact rfl; exact rfl; omega; omega; omega; omega; intro b) | (refine gw_stx sto ?_) | (fail))) | (apply CW_region; intro K hK) | (apply CW_condX; exact rfl; exact tst; exact tst; all_goals (intro hq hc; try exact no)))
  have e0 : zrow [Value.int .i64 0] ((n : Int)).toNat = li (List.replicate n 0) := by rw [li_zero, Int.toNat_natCast]
  rw [e0]
  refine CW_loop (fun mm l L => ∃ (k : Nat) (xs qs : List Nat) (qa : Option Addr) (qn qc : Nat), mm = k + 1 ∧ l = [(6, true, .slice xa n xc), (7, true, .slice ya m yc), (8, true, .slice qa qn qc), (9, true, .int .i64 ((k : Int) - 1))] ∧
      L = [.own 3 1 qa qn qc (li qs), .own 3 1 xa n xc (li xs), .own 3 1 ya m yc (li (dgs B4 Y))] ∧ qn = n ∧ k + m ≤ n + 1 ∧ xs.length = n ∧ qs.length = n ∧ Dg B4 xs ∧ Dg B4 qs ∧ A = nv B4 xs + Y * nv B4 qs ∧ nv B4 xs < B4 ^ k * Y ∧ ∀ j, j < k → j < n → qs[j]? = some 0)
    ⟨_, _, _, ⟨n - m + 1, dgs B4 A, List.replicate n 0, _, ((n : Int)).toNat, _, rfl, rfl, rfl, by omega, by omega, hn.symm, List.length_replicate, dgs_dg b1 A, dg_zeros (by decide) n, by rw [nv_zeros, nv_dgs b1]; omega, ?_, fun j _ hj => by rw [List.getElem?_replicate, if_pos hj]⟩, ?_, by exact sbl⟩ ?_
  · rw [nv_dgs b1]
    have g1 := dgs_len_lt (B := B4) (n := A) b1
    have g2 := dgs_len_ge (B := B4) b1 (n := Y) (k := m - 1) (by omega)
    rw [← hn] at g1
    have g3 : B4 ^ (n - m + 1) * B4 ^ (m - 1) ≤ B4 ^ (n - m + 1) * Y := Nat.mul_le_mul_left _ g2
    rw [← Nat.pow_add, show n - m + 1 + (m - 1) = n by omega] at g3
    omega
  · have e1 : ((n - m + 1 : Nat) : Int) - 1 = (n : Int) - (m : Int) := by omega
    rw [e1]
    exact sbe
  rintro mm l L ⟨k, xs, qs, qa, qn, qc, rfl, rfl, rfl, rfl, g1, g2, g3, g4, g5, g6, g7, g8⟩
  by_cases hk : 0 < k
  · obtain ⟨up, rfl⟩ : ∃ up, k = up + 1 := ⟨k - 1, by omega⟩
    obtain ⟨U, hU⟩ : ∃ U, nv B4 (xs.drop up) = U := ⟨_, rfl⟩
    obtain ⟨q, hqU⟩ : ∃ q, q = U / Y := ⟨_, rfl⟩
    have hsp := nv_split B4 xs up (by omega)
    rw [hU] at hsp
    have hT : nv B4 (xs.take up) < B4 ^ up := by
      have := nv_lt (dg_take g4 up)
      rw [List.length_take, Nat.min_eq_left (by omega)] at this
      exact this
    have hUs : U < 10000 * Y := end_small (W := B4) hsp g7
    have hq4 : q < 10000 := by rw [hqU]; exact Nat.div_lt_of_lt_mul (by rw [Nat.mul_comm]; exact hUs)
    have hle : B4 ^ up * (q * Y) ≤ nv B4 xs := by
      have : q * Y ≤ U := by rw [hqU]; exact Nat.div_mul_le_self U Y
      have := Nat.mul_le_mul_left (B4 ^ up) this
      omega
    have hz := g8 up (by omega) (by omega)
    have hset := nv_set (B := B4) q hz
    rw [Nat.mul_zero, Nat.add_zero] at hset
    have hz' : ∀ j, j < up → j < qn → (qs.set up q)[j]? = some 0 := fun j h1 h2 => by
      rw [List.getElem?_set_ne (by omega)]; exact g8 j (by omega) h2
    have hqq : (qs.set up q)[up]? = some q := by rw [List.getElem?_set_self (by omega)]
    have hF := fits_spec xs Y U up qn m xa ya xc yc
    rw [← hqU] at hF
    have hi1 : ((up + 1 : Nat) : Int) - 1 = (up : Int) := by omega
    rw [hi1]
    by_cases hq0 : q = 0
    · have hst := div_step hsp hT hqU hY (N' := nv B4 xs) (by rw [hq0]; simp) g6 hset
      
      repeat' (first | (apply RW.q1; (first | (apply q_ldo; exact rfl; exact rfl; infer_instance; exact li_at hqq (by omega)) | exact qt)) | refine xsg cts ?_ | (apply CW_condT; exact rfl; exact ar) | (apply CW_condF; exact rfl; exact ar) | (refine hK _ _ ?_; clear hK; refine xsg xsl ?_) | ((first | apply RW.a1 | apply RW.a0); (first | (apply gw_callE (f := 120); exact rfl; exact go120; intro G hG; exact hF G g2 hm.symm g4 (sl_own (by exact pkx) hG) (sl_own (by exact pkx) hG) (by omega) (by omega) (by omega) hU hY hUs) | (apply gw_sol up q; exact rfl; exact rfl; infer_instance; omega; exact rfl; omega) | (apply gw_asg; exact rfl) | (apply gw_make; exact rfl; exact rfl; exact rfl; exact rfl; omega; omega; omega; omega; intro b) | (refine gw_stx sto ?_) | (fail))) | (apply CW_region; intro K hK) | (apply CW_condX; exact rfl; exact tst; exact tst; all_goals (intro hq hc; try exact no)))
      exact ⟨_, _, _, ⟨up, xs, qs.set up q, _, _, _, rfl, rfl, rfl, rfl, by omega, g2, by rw [List.length_set]; exact g3, g4, dg_set g5 hq4, hst.1, hst.2, hz'⟩, by exact sbe, by exact sbl, by omega⟩
    · 
      repeat' (first | (apply RW.q1; (first | (apply q_ldo; exact rfl; exact rfl; infer_instance; exact li_at hqq (by omega)) | exact qt)) | refine xsg cts ?_ | (apply CW_condT; exact rfl; exact ar) | (apply CW_condF; exact rfl; exact ar) | (refine hK _ _ ?_; clear hK; refine xsg xsl ?_) | ((first | apply RW.a1 | apply RW.a0); (first | (apply gw_callE (f := 120); exact rfl; exact go120; intro G hG; exact hF G g2 hm.symm g4 (sl_own (by exact pkx) hG) (sl_own (by exact pkx) hG) (by omega) (by omega) (by omega) hU hY hUs) | (apply gw_sol up q; exact rfl; exact rfl; infer_instance; omega; exact rfl; omega) | (apply gw_callc (f := 121) (M := [.own 3 1 xa qn xc (li xs)]); exact rfl; exact go121; exact pcs; intro G hG; refine SC.mono (takeQ_spec xs Y q up qn m xa ya xc yc G g2 hm.symm g4 (sl_own (by exact pkx) hG) (by omega) (by omega) (by omega) hq4 hle) ?_; rintro v M ⟨xs', rfl, r1, r2, r3⟩; (try dsimp only [jL, jM])) | (apply gw_asg; exact rfl) | (apply gw_make; exact rfl; exact rfl; exact rfl; exact rfl; omega; omega; omega; omega; intro b) | (refine gw_stx sto ?_) | (fail))) | (apply CW_region; intro K hK) | (apply CW_condX; exact rfl; exact tst; exact tst; all_goals (intro hq hc; try exact no)))
      have hst := div_step hsp hT hqU hY r3 g6 hset
      exact ⟨_, _, _, ⟨up, xs', qs.set up q, _, _, _, rfl, rfl, rfl, rfl, by omega, r1, by rw [List.length_set]; exact g3, r2, dg_set g5 hq4, hst.1, hst.2, hz'⟩, by exact sbe, by exact sbl, by omega⟩
  · obtain rfl : k = 0 := by omega
    rw [Nat.pow_zero, Nat.one_mul] at g7
    have e1 : A / Y = nv B4 qs := by rw [g6, Nat.add_mul_div_left _ _ hY, Nat.div_eq_of_lt g7, Nat.zero_add]
    have e2 : A % Y = nv B4 xs := by rw [g6, Nat.add_mul_mod_self_left, Nat.mod_eq_of_lt g7]
    have hql := dgs_len_norm g5 g3
    have hxl := dgs_len_norm g4 g2
    rw [e1, e2]
    
    repeat' (first | (apply RW.q1; exact qt) | refine xsg cts ?_ | (apply CW_condT; exact rfl; exact ar) | (apply CW_condF; exact rfl; exact ar) | (refine hK _ _ ?_; clear hK; refine xsg xsl ?_) | ((first | apply RW.a1 | apply RW.a0); (first | (apply gw_callE (f := 122); exact rfl; exact go122; intro G hG; exact trimL_spec qs _ qa qn qc G (sl_own (by exact pkx) hG) g3 (by omega) g5 rfl) | (apply gw_callE (f := 116); exact rfl; exact go116; intro G hG; exact text_spec (nv B4 qs) _ qa qc G rfl (by omega) (rs_norm (sl_own (by exact pkx) hG) g5 g3).1) | (apply gw_callE (f := 122); exact rfl; exact go122; intro G hG; exact trimL_spec xs _ xa qn xc G (sl_own (by exact pkx) hG) g2 (by omega) g4 rfl) | (apply gw_callE (f := 116); exact rfl; exact go116; intro G hG; exact text_spec (nv B4 xs) _ xa xc G rfl (by omega) (rs_norm (sl_own (by exact pkx) hG) g4 g2).1) | (apply gw_asg; exact rfl) | (apply gw_make; exact rfl; exact rfl; exact rfl; exact rfl; omega; omega; omega; omega; intro b) | (refine gw_stx sto ?_) | (fail))) | (apply CW_region; intro K hK) | (apply CW_condX; exact rfl; exact tst; exact tst; all_goals (intro hq hc; try exact no)))
    (refine CW_ret ?_; refine xsg xsl ?_; refine bR [.tmp 4, .tmp 5] [] ?_)
    exact ⟨rfl, rfl⟩
end Go.Proofs.YtnhbipachchlgaaGreat.HL
namespace Go.Proofs.YtnhbipachchlgaaGreat.HL
open Go
attribute [local irreducible] goFn thenS blockS bodyS CW RW DW GW QW NW SC Pick Picks SubL Rd NN ResOk SrcW subE hops hseg AW hgen HC qv bldv
set_option linter.unusedVariables false
set_option linter.unusedSimpArgs false

section
variable {P : Program} {l : Ents} {H : Hp} {L : List Res} {d : Option Tmp} {T : TypeId} {pos : String} {aft : Array Edge} {gd : Option (Nat × Bool)} {t ty : TypeId} {x y : Operand} {a b : List UInt8}
theorem q_sbneF (hx : evg l true x = some (.string (bstr a))) (hy : evg l true y = some (.string (bstr b))) (h : a = b) : QW P l H L ⟨d, .binOp .neq t x y ty, T, pos, aft, gd⟩ (.bool false) := by
  have := q_sbne (P := P) (l := l) (H := H) (L := L) (d := d) (T := T) (pos := pos) (aft := aft) (gd := gd) (t := t) (ty := ty) hx hy
  rw [decide_eq_true h] at this; exact this
theorem q_sbneT (hx : evg l true x = some (.string (bstr a))) (hy : evg l true y = some (.string (bstr b))) (h : a ≠ b) : QW P l H L ⟨d, .binOp .neq t x y ty, T, pos, aft, gd⟩ (.bool true) := by
  have := q_sbne (P := P) (l := l) (H := H) (L := L) (d := d) (T := T) (pos := pos) (aft := aft) (gd := gd) (t := t) (ty := ty) hx hy
  rw [decide_eq_false h] at this; exact this
end
theorem dec_zero : Lib.decDigits 0 = [48] := by rw [dec_small (by decide)]; rfl
theorem dec_nz {n : Nat} (h : 0 < n) : Lib.decDigits n ≠ [48] := fun e => by
  have := congrArg dv e
  rw [dec_dv] at this
  have e2 : dv [48] = 0 := rfl
  omega
theorem rCommon_spec (A B : Nat) (H : Hp) (hA : (Lib.decDigits A).length ≤ 1000000) (hB : (Lib.decDigits B).length ≤ 1000000) :
    SC Tryz.prog 87 [.string (bstr (Lib.decDigits A)), .string (bstr (Lib.decDigits B))] H [] (fun v M => v = .string (bstr (Lib.decDigits (A.gcd B))) ∧ M = []) := by
  (refine SC_intro Tryz.func87 rfl (by kernel_rfl) (by rw [Tryz.ntmps87]; exact Nat.le_of_ble_eq_true rfl) ?_; simp only [Tryz.ntmps87, argE, Nat.reduceAdd])
  
  repeat' (first | (apply RW.q1; exact qt) | refine xsg cts ?_ | (apply CW_condT; exact rfl; exact ar) | (apply CW_condF; exact rfl; exact ar) | (refine hK _ _ ?_; clear hK; refine xsg xsl ?_) | ((first | apply RW.a1 | apply RW.a0); (first | (apply gw_asg; exact rfl) | (fail))) | (apply CW_region; intro K hK) | (apply CW_condX; exact rfl; exact tst; exact tst; all_goals (intro hq hc; try exact no)))
  refine CW_loop (fun mm l L => ∃ (u w : Nat), mm = w + 1 ∧ l = [(0, true, .string (bstr (Lib.decDigits u))), (1, true, .string (bstr (Lib.decDigits w)))] ∧ L = [] ∧ u.gcd w = A.gcd B ∧ (Lib.decDigits u).length ≤ 1000000 ∧ (Lib.decDigits w).length ≤ 1000000)
    ⟨_, _, _, ⟨A, B, rfl, rfl, rfl, rfl, hA, hB⟩, by exact sbe, by exact sbl⟩ ?_
  rintro mm l L ⟨u, w, rfl, rfl, rfl, h1, h2, h3⟩
  rcases Nat.eq_zero_or_pos w with h0 | h0
  · have hz : Lib.decDigits w = [48] := by rw [h0]; exact dec_zero
    rw [h0, Nat.gcd_zero_right] at h1
    rw [← h1]
    repeat' (first | (apply RW.q1; (first | (apply q_sbneF (b := [48]); exact rfl; exact rfl; exact hz) | exact qt)) | refine xsg cts ?_ | (apply CW_condT; exact rfl; exact ar) | (apply CW_condF; exact rfl; exact ar) | (refine hK _ _ ?_; clear hK; refine xsg xsl ?_) | ((first | apply RW.a1 | apply RW.a0); (first | (apply gw_asg; exact rfl) | (fail))) | (apply CW_region; intro K hK) | (apply CW_condX; exact rfl; exact tst; exact tst; all_goals (intro hq hc; try exact no)))
    (refine CW_ret ?_; refine xsg xsl ?_; refine bR [.tmp 4] [] ?_)
    exact ⟨rfl, rfl⟩
  · have hz := dec_nz h0
    have hgc : w.gcd (u % w) = u.gcd w := by rw [Nat.gcd_comm u w, Nat.gcd_rec w u, Nat.gcd_comm]
    have hD := fun G => rDivide_spec u w G h0 h2 h3
    repeat' (first | (apply RW.q1; (first | (apply q_sbneT (b := [48]); exact rfl; exact rfl; exact hz) | exact qt)) | refine xsg cts ?_ | (apply CW_condT; exact rfl; exact ar) | (apply CW_condF; exact rfl; exact ar) | (refine hK _ _ ?_; clear hK; refine xsg xsl ?_) | ((first | apply RW.a1 | apply RW.a0); (first | (apply gw_callE (f := 88); exact rfl; exact go88; intro G hG; exact hD G) | (apply gw_asg; exact rfl) | (fail))) | (apply CW_region; intro K hK) | (apply CW_condX; exact rfl; exact tst; exact tst; all_goals (intro hq hc; try exact no)))
    exact ⟨_, _, _, ⟨w, u % w, rfl, rfl, rfl, hgc.trans h1, h3, Nat.le_trans (dec_len_mono (Nat.le_of_lt (Nat.mod_lt u h0))) h3⟩, by exact sbe, by exact sbl, Nat.succ_lt_succ (Nat.mod_lt u h0)⟩
theorem dv_cons (c : UInt8) (t : List UInt8) : dv (c :: t) = (c.toNat - 48) * 10 ^ t.length + dv t := by
  have h := dv_app [c] t
  have e : dv [c] = c.toNat - 48 := by unfold dv; simp
  rw [e] at h
  exact h
theorem less_dv : ∀ {a b : List UInt8}, isDg a → isDg b → a.length = b.length → Op.bytesLess a b = decide (dv a < dv b)
  | [], [], _, _, _ => rfl
  | [], _ :: _, _, _, h => by simp at h
  | _ :: _, [], _, _, h => by simp at h
  | c :: t, c' :: t', ha, hb, h => by
    have hl : t.length = t'.length := by simpa using h
    have ha2 : isDg t := fun x hx => ha x (List.mem_cons_of_mem _ hx)
    have hb2 : isDg t' := fun x hx => hb x (List.mem_cons_of_mem _ hx)
    have ih := less_dv ha2 hb2 hl
    have k1 := ha c (List.mem_cons_self ..)
    have k2 := hb c' (List.mem_cons_self ..)
    have g1 := dv_lt t.length t rfl ha2
    have g2 := dv_lt t'.length t' rfl hb2
    rw [dv_cons, dv_cons, hl]
    rw [hl] at g1
    generalize hP : 10 ^ t'.length = p at g1 g2
    have e : Op.bytesLess (c :: t) (c' :: t') = (decide (c < c') || (c == c' && Op.bytesLess t t')) := rfl
    rw [e, ih]
    have hlt : c < c' ↔ c.toNat < c'.toNat := UInt8.lt_iff_toNat_lt
    rcases Nat.lt_trichotomy c.toNat c'.toNat with h1 | h1 | h1
    · rw [decide_eq_true (hlt.2 h1), Bool.true_or]
      have := Nat.mul_le_mul_right p (show c.toNat - 48 + 1 ≤ c'.toNat - 48 by omega)
      rw [Nat.add_mul, Nat.one_mul] at this
      rw [decide_eq_true (by omega)]
    · have hc : c = c' := UInt8.toNat_inj.1 h1
      subst hc
      rw [decide_eq_false (p := c < c) (by rw [hlt]; omega), Bool.false_or, beq_self_eq_true, Bool.true_and]
      by_cases h2 : dv t < dv t'
      · rw [decide_eq_true h2, decide_eq_true (by omega)]
      · rw [decide_eq_false h2, decide_eq_false (by omega)]
    · have := Nat.mul_le_mul_right p (show c'.toNat - 48 + 1 ≤ c.toNat - 48 by omega)
      rw [Nat.add_mul, Nat.one_mul] at this
      have hne : (c == c') = false := by
        rw [beq_eq_false_iff_ne]; intro e; rw [e] at h1; omega
      rw [decide_eq_false (p := c < c') (by rw [hlt]; omega), hne, Bool.false_and, Bool.or_false, decide_eq_false (by omega)]
theorem sLt_dec {A B : Nat} (h : (Lib.decDigits A).length = (Lib.decDigits B).length) : sLt (bstr (Lib.decDigits A)) (bstr (Lib.decDigits B)) = decide (A < B) := by
  have := less_dv (dec_isDg A) (dec_isDg B) h
  rw [dec_dv, dec_dv] at this
  exact this
theorem dec_len_cmp {A B : Nat} (h : (Lib.decDigits A).length < (Lib.decDigits B).length) : A < B := by
  rcases Nat.lt_or_ge A B with g | g
  · exact g
  · have := dec_len_mono g; omega
def cmpN3 (A B : Nat) : Int := if A < B then -1 else if B < A then 1 else 0
theorem rCompare_spec (A B : Nat) (H : Hp) (hA : (Lib.decDigits A).length ≤ 1000000000) (hB : (Lib.decDigits B).length ≤ 1000000000) :
    SC Tryz.prog 85 [.string (bstr (Lib.decDigits A)), .string (bstr (Lib.decDigits B))] H [] (fun v M => v = .int .i64 (cmpN3 A B) ∧ M = []) := by
  have n1 : (bstr (Lib.decDigits A)).size = (Lib.decDigits A).length := rfl
  have n2 : (bstr (Lib.decDigits B)).size = (Lib.decDigits B).length := rfl
  rcases Nat.lt_trichotomy (Lib.decDigits A).length (Lib.decDigits B).length with hl | hl | hl
  · have := dec_len_cmp hl
    unfold cmpN3
    rw [if_pos this]
    (refine SC_intro Tryz.func85 rfl (by kernel_rfl) (by rw [Tryz.ntmps85]; exact Nat.le_of_ble_eq_true rfl) ?_; simp only [Tryz.ntmps85, argE, Nat.reduceAdd])
    
    repeat' (first | (apply RW.q1; (first | (apply q_lenb; exact rfl) | exact qt)) | refine xsg cts ?_ | (apply CW_condT; exact rfl; exact ar) | (apply CW_condF; exact rfl; exact ar) | (refine hK _ _ ?_; clear hK; refine xsg xsl ?_) | ((first | apply RW.a1 | apply RW.a0); (first | (apply gw_asg; exact rfl) | (fail))) | (apply CW_region; intro K hK) | (apply CW_condX; exact rfl; exact tst; exact tst; all_goals (intro hq hc; try exact no)))
    (refine CW_ret ?_; refine xsg xsl ?_; refine bR [.tmp 4] [] ?_)
    exact ⟨rfl, rfl⟩
  · have h1 := sLt_dec hl
    have hw : (decide (bstr (Lib.decDigits A) = bstr (Lib.decDigits B))) = decide (A = B) := by
      by_cases g : A = B
      · rw [g]; simp
      · rw [decide_eq_false g, decide_eq_false (fun e => g (dec_inj (bstr_inj e)))]
    unfold cmpN3
    rcases Nat.lt_trichotomy A B with g | g | g
    · rw [if_pos g]
      have h2 : cmpS .lss (bstr (Lib.decDigits A)) (bstr (Lib.decDigits B)) = some true := by unfold cmpS; simp only [h1]; rw [decide_eq_true g]
      (refine SC_intro Tryz.func85 rfl (by kernel_rfl) (by rw [Tryz.ntmps85]; exact Nat.le_of_ble_eq_true rfl) ?_; simp only [Tryz.ntmps85, argE, Nat.reduceAdd])
      
      repeat' (first | (apply RW.q1; (first | (apply q_lenb; exact rfl) | (apply q_scmp; exact rfl; exact rfl; exact h2) | exact qt)) | refine xsg cts ?_ | (apply CW_condT; exact rfl; exact ar) | (apply CW_condF; exact rfl; exact ar) | (refine hK _ _ ?_; clear hK; refine xsg xsl ?_) | ((first | apply RW.a1 | apply RW.a0); (first | (apply gw_asg; exact rfl) | (fail))) | (apply CW_region; intro K hK) | (apply CW_condX; exact rfl; exact tst; exact tst; all_goals (intro hq hc; try exact no)))
      (refine CW_ret ?_; refine xsg xsl ?_; refine bR [.tmp 4] [] ?_)
      exact ⟨rfl, rfl⟩
    · rw [if_neg (by omega), if_neg (by omega)]
      have h2 : cmpS .lss (bstr (Lib.decDigits A)) (bstr (Lib.decDigits B)) = some false := by unfold cmpS; simp only [h1]; rw [decide_eq_false (by omega)]
      have h3 : cmpS .gtr (bstr (Lib.decDigits A)) (bstr (Lib.decDigits B)) = some false := by unfold cmpS; simp only [h1, hw]; rw [decide_eq_false (by omega), decide_eq_true g]; rfl
      (refine SC_intro Tryz.func85 rfl (by kernel_rfl) (by rw [Tryz.ntmps85]; exact Nat.le_of_ble_eq_true rfl) ?_; simp only [Tryz.ntmps85, argE, Nat.reduceAdd])
      
      repeat' (first | (apply RW.q1; (first | (apply q_lenb; exact rfl) | (apply q_scmp; exact rfl; exact rfl; exact h2) | (apply q_scmp; exact rfl; exact rfl; exact h3) | exact qt)) | refine xsg cts ?_ | (apply CW_condT; exact rfl; exact ar) | (apply CW_condF; exact rfl; exact ar) | (refine hK _ _ ?_; clear hK; refine xsg xsl ?_) | ((first | apply RW.a1 | apply RW.a0); (first | (apply gw_asg; exact rfl) | (fail))) | (apply CW_region; intro K hK) | (apply CW_condX; exact rfl; exact tst; exact tst; all_goals (intro hq hc; try exact no)))
      (refine CW_ret ?_; refine xsg xsl ?_; refine bR [.tmp 4] [] ?_)
      exact ⟨rfl, rfl⟩
    · rw [if_neg (by omega), if_pos (by omega)]
      have h2 : cmpS .lss (bstr (Lib.decDigits A)) (bstr (Lib.decDigits B)) = some false := by unfold cmpS; simp only [h1]; rw [decide_eq_false (by omega)]
      have h3 : cmpS .gtr (bstr (Lib.decDigits A)) (bstr (Lib.decDigits B)) = some true := by unfold cmpS; simp only [h1, hw]; rw [decide_eq_false (by omega), decide_eq_false (by omega)]; rfl
      (refine SC_intro Tryz.func85 rfl (by kernel_rfl) (by rw [Tryz.ntmps85]; exact Nat.le_of_ble_eq_true rfl) ?_; simp only [Tryz.ntmps85, argE, Nat.reduceAdd])
      
      repeat' (first | (apply RW.q1; (first | (apply q_lenb; exact rfl) | (apply q_scmp; exact rfl; exact rfl; exact h2) | (apply q_scmp; exact rfl; exact rfl; exact h3) | exact qt)) | refine xsg cts ?_ | (apply CW_condT; exact rfl; exact ar) | (apply CW_condF; exact rfl; exact ar) | (refine hK _ _ ?_; clear hK; refine xsg xsl ?_) | ((first | apply RW.a1 | apply RW.a0); (first | (apply gw_asg; exact rfl) | (fail))) | (apply CW_region; intro K hK) | (apply CW_condX; exact rfl; exact tst; exact tst; all_goals (intro hq hc; try exact no)))
      (refine CW_ret ?_; refine xsg xsl ?_; refine bR [.tmp 4] [] ?_)
      exact ⟨rfl, rfl⟩
  · have := dec_len_cmp hl
    unfold cmpN3
    rw [if_neg (by omega), if_pos this]
    (refine SC_intro Tryz.func85 rfl (by kernel_rfl) (by rw [Tryz.ntmps85]; exact Nat.le_of_ble_eq_true rfl) ?_; simp only [Tryz.ntmps85, argE, Nat.reduceAdd])
    
    repeat' (first | (apply RW.q1; (first | (apply q_lenb; exact rfl) | exact qt)) | refine xsg cts ?_ | (apply CW_condT; exact rfl; exact ar) | (apply CW_condF; exact rfl; exact ar) | (refine hK _ _ ?_; clear hK; refine xsg xsl ?_) | ((first | apply RW.a1 | apply RW.a0); (first | (apply gw_asg; exact rfl) | (fail))) | (apply CW_region; intro K hK) | (apply CW_condX; exact rfl; exact tst; exact tst; all_goals (intro hq hc; try exact no)))
    (refine CW_ret ?_; refine xsg xsl ?_; refine bR [.tmp 4] [] ?_)
    exact ⟨rfl, rfl⟩
end Go.Proofs.YtnhbipachchlgaaGreat.HL
namespace Go.Proofs.YtnhbipachchlgaaGreat.HL
open Go
attribute [local irreducible] goFn thenS blockS bodyS CW RW DW GW QW NW SC Pick Picks SubL Rd NN ResOk SrcW subE hops hseg AW hgen HC qv bldv
set_option linter.unusedVariables false
set_option linter.unusedSimpArgs false

theorem plus_step {W i c c' t r N X Y x y : Nat} (h : N + W ^ i * c = X + Y) (ht : t = c + x + y) (hs : t = r + W * c') : N + W ^ i * r + W ^ (i + 1) * c' = X + W ^ i * x + (Y + W ^ i * y) := by
  have e1 : W ^ (i + 1) * c' = W ^ i * (W * c') := by rw [Nat.pow_succ, Nat.mul_assoc]
  have e2 : W ^ i * r + W ^ i * (W * c') = W ^ i * c + W ^ i * x + W ^ i * y := by
    rw [← Nat.mul_add, ← Nat.mul_add, ← Nat.mul_add, ← hs, ht]
  omega
theorem nv_at {B : Nat} {l : List Nat} {i : Nat} : nv B (l.take (i + 1)) = nv B (l.take i) + B ^ i * (l[i]?).getD 0 := by
  cases h : l[i]? with
  | some d => rw [nv_take h]; rfl
  | none =>
    have := List.getElem?_eq_none_iff.1 h
    rw [List.take_of_length_le (by omega), List.take_of_length_le (by omega)]; simp
theorem plus_dig {t : Nat} (h : t < 20000) : (t : Int).tmod 10000 = ((t % 10000 : Nat) : Int) ∧ IntKind.i64.wrap ((t : Int).tdiv 10000) = ((t / 10000 : Nat) : Int) := by
  refine ⟨by rw [Int.tmod_eq_emod_of_nonneg (by omega)]; omega, ?_⟩
  rw [Int.tdiv_eq_ediv_of_nonneg (by omega), show (t : Int) / 10000 = ((t / 10000 : Nat) : Int) by omega]
  exact w_in (by simp only [inb]; omega)
theorem rPlus_spec (A B : Nat) (H : Hp) (hA : (Lib.decDigits A).length ≤ 1000000) (hB : (Lib.decDigits B).length ≤ 1000000) :
    SC Tryz.prog 139 [.string (bstr (Lib.decDigits A)), .string (bstr (Lib.decDigits B))] H [] (fun v M => v = .string (bstr (Lib.decDigits (A + B))) ∧ M = []) := by
  have h1 := limbs_spec (Lib.decDigits A)
  have h2 := limbs_spec (Lib.decDigits B)
  rw [dec_dv] at h1 h2
  have l1 := dec_b4_len A
  have l2 := dec_b4_len B
  obtain ⟨n, hn⟩ : ∃ n, n = (dgs B4 A).length := ⟨_, rfl⟩
  obtain ⟨m, hm⟩ : ∃ m, m = (dgs B4 B).length := ⟨_, rfl⟩
  rw [← hn] at h1 l1
  rw [← hm] at h2 l2
  (refine SC_intro Tryz.func139 rfl (by kernel_rfl) (by rw [Tryz.ntmps139]; exact Nat.le_of_ble_eq_true rfl) ?_; simp only [Tryz.ntmps139, argE, Nat.reduceAdd])
  
  repeat' (first | (apply RW.q1; exact qt) | (apply RW.qg; exact gvx; refine hgx tst ?_; intro hg hg'; exact qu) | refine xsg cts ?_ | (apply CW_condT; exact rfl; exact ar) | (apply CW_condF; exact rfl; exact ar) | ((first | apply RW.s1 | apply RW.s0); exact gva) | (refine hK _ _ ?_; clear hK; refine xsg xsl ?_) | ((first | apply RW.a1 | apply RW.a0 | (apply RW.at; exact gva)); (first | (apply gw_call (f := 118); exact evx; exact go118; intro G hG; refine SC.mono (h1 G (dec_isDg A) hA) ?_; rintro v M ⟨xa, xc, rfl, rfl⟩; (try dsimp only [jL, jM])) | (apply gw_call (f := 118); exact evx; exact go118; intro G hG; refine SC.mono (h2 G (dec_isDg B) hB) ?_; rintro v M ⟨ya, yc, rfl, rfl⟩; (try dsimp only [jL, jM])) | (apply gw_asg; exact rfl) | (apply gw_lit1; exact rfl; exact rfl; exact rfl; exact rfl; decide; intro b) | (apply gw_lit2; exact rfl; exact rfl; exact rfl; exact rfl; intro b) | (apply gw_lit3; exact rfl; exact rfl; exact rfl; exact rfl; exact rfl; intro b) | (apply gw_ap1; exact rfl; exact rfl; infer_instance; infer_instance; exact rfl; exact rfl; exact rfl; exact rfl; omega; intro a c) | (apply gw_ap1n; exact rfl; exact rfl; infer_instance; exact rfl; exact rfl; exact rfl; exact rfl; omega; intro a c) | (fail))) | (apply CW_region; intro K hK) | (apply CW_condX; exact rfl; exact tst; exact tst; all_goals (intro hq hc; try exact no)))
  refine CW_loop (fun mm l L => ∃ (i cy : Nat) (os : List Nat) (oa : Option Addr) (on oc : Nat) (cs : List Value), mm = 2 * (n + m + 1 - i) + cy ∧ l = [(5, true, .slice xa n xc), (6, true, .slice ya m yc), (7, true, .slice oa on oc), (8, true, .int .i64 (cy : Nat)), (9, true, .int .i64 (i : Nat))] ∧
      L = [.own 3 1 oa on oc cs, .own 3 1 xa n xc (li (dgs B4 A)), .own 3 1 ya m yc (li (dgs B4 B))] ∧ cs = li os ∧ on = i ∧ os.length = i ∧ cy ≤ 1 ∧ i ≤ n + m + 1 ∧ (n ≤ i → m ≤ i → i ≤ n ∨ i ≤ m ∨ cy = 0) ∧ Dg B4 os ∧ nv B4 os + B4 ^ i * cy = nv B4 ((dgs B4 A).take i) + nv B4 ((dgs B4 B).take i))
    ⟨_, _, _, ⟨0, 0, [], none, 0, 0, [], rfl, rfl, rfl, rfl, rfl, rfl, by omega, by omega, by omega, (fun d hd => by cases hd), by simp [nv]⟩, by exact sbe, by exact sbl⟩ ?_
  rintro mm l L ⟨i, cy, os, oa, on, oc, cs, rfl, rfl, rfl, rfl, rfl, g1, g2, g3, g4, g5, g6⟩
  by_cases hi : on < n
  · by_cases hj : on < m
    · obtain ⟨x, xe⟩ : ∃ d, (dgs B4 A)[on]? = some d := ⟨_, List.getElem?_eq_getElem (by omega)⟩
      have xw : x < 10000 := dg_at (dgs_dg b1 A) xe
      obtain ⟨y, ye⟩ : ∃ d, (dgs B4 B)[on]? = some d := ⟨_, List.getElem?_eq_getElem (by omega)⟩
      have yw : y < 10000 := dg_at (dgs_dg b1 B) ye
      obtain ⟨t, ht⟩ : ∃ t, t = cy + x + y := ⟨_, rfl⟩
      obtain ⟨p1, p2⟩ := plus_dig (t := t) (by omega)
      have hst := plus_step (W := B4) (r := t % 10000) (c' := t / 10000) (x := x) (y := y) g6 ht (by have : B4 = 10000 := rfl; rw [this]; omega)
      have ex : ((dgs B4 A)[on]?).getD 0 = x := by rw [xe]; rfl
      have ey : ((dgs B4 B)[on]?).getD 0 = y := by rw [ye]; rfl
      have hA1 := nv_at (B := B4) (l := dgs B4 A) (i := on)
      have hB1 := nv_at (B := B4) (l := dgs B4 B) (i := on)
      rw [ex] at hA1
      rw [ey] at hB1
      rw [← hA1, ← hB1] at hst
      have hti : (cy : Int) + (x : Int) + (y : Int) = (t : Int) := by omega
      have wa : IntKind.i64.wrap ((cy : Int) + (x : Int) + (y : Int)) = (t : Int) := by rw [hti]; exact w_in (by simp only [inb]; omega)
      have hnl : nv B4 (os ++ [t % 10000]) = nv B4 os + B4 ^ on * (t % 10000) := by rw [nv_app, g1]; simp [nv]
      
      repeat' (first | (apply RW.q1; (first | (apply q_ldo; exact rfl; exact rfl; infer_instance; exact li_at xe (by omega)) | (apply q_ldo; exact rfl; exact rfl; infer_instance; exact li_at ye (by omega)) | (apply q_add; exact rfl; exact rfl; exact wa) | (apply q_rem; exact rfl; exact rfl; decide; exact p1) | (apply q_quo; exact rfl; exact rfl; decide; exact p2) | exact qt)) | (apply RW.qg; exact gvx; refine hgx tst ?_; intro hg hg'; (first | (apply q_ldo; exact rfl; exact evgx; infer_instance; exact li_at xe (by omega)) | (apply q_ldo; exact rfl; exact evgx; infer_instance; exact li_at ye (by omega)) | (apply q_add; exact evgx; exact evgx; exact wa) | (apply q_rem; exact evgx; exact evgx; decide; exact p1) | (apply q_quo; exact evgx; exact evgx; decide; exact p2) | exact qu)) | refine xsg cts ?_ | (apply CW_condT; exact rfl; exact ar) | (apply CW_condF; exact rfl; exact ar) | ((first | apply RW.s1 | apply RW.s0); exact gva) | (refine hK _ _ ?_; clear hK; refine xsg xsl ?_) | ((first | apply RW.a1 | apply RW.a0 | (apply RW.at; exact gva)); (first | (apply gw_asg; exact rfl) | (apply gw_lit1; exact rfl; exact rfl; exact rfl; exact rfl; decide; intro b) | (apply gw_lit2; exact rfl; exact rfl; exact rfl; exact rfl; intro b) | (apply gw_lit3; exact rfl; exact rfl; exact rfl; exact rfl; exact rfl; intro b) | (apply gw_ap1; exact rfl; exact rfl; infer_instance; infer_instance; exact rfl; exact rfl; exact rfl; exact rfl; omega; intro a c) | (apply gw_ap1n; exact rfl; exact rfl; infer_instance; exact rfl; exact rfl; exact rfl; exact rfl; omega; intro a c) | (fail))) | (apply CW_region; intro K hK) | (apply CW_condX; exact rfl; exact tst; exact tst; all_goals (intro hq hc; try exact no)))
      exact ⟨_, _, _, ⟨on + 1, t / 10000, os ++ [t % 10000], _, _, _, _, rfl, rfl, rfl, by unfold li; (first | (rw [List.map_append]; done) | (rw [List.map_append]; rfl)), rfl, by rw [List.length_append, g1]; rfl, by omega, by omega, by omega, dg_append.2 ⟨g5, fun d hd => by rw [List.mem_singleton.1 hd]; exact Nat.mod_lt _ (by decide)⟩, by rw [hnl]; exact hst⟩, by exact sbe, by exact sbl, by omega⟩
    · obtain ⟨x, xe⟩ : ∃ d, (dgs B4 A)[on]? = some d := ⟨_, List.getElem?_eq_getElem (by omega)⟩
      have xw : x < 10000 := dg_at (dgs_dg b1 A) xe
      obtain ⟨t, ht⟩ : ∃ t, t = cy + x + 0 := ⟨_, rfl⟩
      obtain ⟨p1, p2⟩ := plus_dig (t := t) (by omega)
      have hst := plus_step (W := B4) (r := t % 10000) (c' := t / 10000) (x := x) (y := 0) g6 ht (by have : B4 = 10000 := rfl; rw [this]; omega)
      have ex : ((dgs B4 A)[on]?).getD 0 = x := by rw [xe]; rfl
      have ey : ((dgs B4 B)[on]?).getD 0 = 0 := by rw [List.getElem?_eq_none (by omega)]; rfl
      have hA1 := nv_at (B := B4) (l := dgs B4 A) (i := on)
      have hB1 := nv_at (B := B4) (l := dgs B4 B) (i := on)
      rw [ex] at hA1
      rw [ey] at hB1
      rw [← hA1, ← hB1] at hst
      have hti : (cy : Int) + (x : Int) = (t : Int) := by omega
      have wa : IntKind.i64.wrap ((cy : Int) + (x : Int)) = (t : Int) := by rw [hti]; exact w_in (by simp only [inb]; omega)
      have hnl : nv B4 (os ++ [t % 10000]) = nv B4 os + B4 ^ on * (t % 10000) := by rw [nv_app, g1]; simp [nv]
      
      repeat' (first | (apply RW.q1; (first | (apply q_ldo; exact rfl; exact rfl; infer_instance; exact li_at xe (by omega)) | (apply q_add; exact rfl; exact rfl; exact wa) | (apply q_rem; exact rfl; exact rfl; decide; exact p1) | (apply q_quo; exact rfl; exact rfl; decide; exact p2) | exact qt)) | (apply RW.qg; exact gvx; refine hgx tst ?_; intro hg hg'; (first | (apply q_ldo; exact rfl; exact evgx; infer_instance; exact li_at xe (by omega)) | (apply q_add; exact evgx; exact evgx; exact wa) | (apply q_rem; exact evgx; exact evgx; decide; exact p1) | (apply q_quo; exact evgx; exact evgx; decide; exact p2) | exact qu)) | refine xsg cts ?_ | (apply CW_condT; exact rfl; exact ar) | (apply CW_condF; exact rfl; exact ar) | ((first | apply RW.s1 | apply RW.s0); exact gva) | (refine hK _ _ ?_; clear hK; refine xsg xsl ?_) | ((first | apply RW.a1 | apply RW.a0 | (apply RW.at; exact gva)); (first | (apply gw_asg; exact rfl) | (apply gw_lit1; exact rfl; exact rfl; exact rfl; exact rfl; decide; intro b) | (apply gw_lit2; exact rfl; exact rfl; exact rfl; exact rfl; intro b) | (apply gw_lit3; exact rfl; exact rfl; exact rfl; exact rfl; exact rfl; intro b) | (apply gw_ap1; exact rfl; exact rfl; infer_instance; infer_instance; exact rfl; exact rfl; exact rfl; exact rfl; omega; intro a c) | (apply gw_ap1n; exact rfl; exact rfl; infer_instance; exact rfl; exact rfl; exact rfl; exact rfl; omega; intro a c) | (fail))) | (apply CW_region; intro K hK) | (apply CW_condX; exact rfl; exact tst; exact tst; all_goals (intro hq hc; try exact no)))
      exact ⟨_, _, _, ⟨on + 1, t / 10000, os ++ [t % 10000], _, _, _, _, rfl, rfl, rfl, by unfold li; (first | (rw [List.map_append]; done) | (rw [List.map_append]; rfl)), rfl, by rw [List.length_append, g1]; rfl, by omega, by omega, by omega, dg_append.2 ⟨g5, fun d hd => by rw [List.mem_singleton.1 hd]; exact Nat.mod_lt _ (by decide)⟩, by rw [hnl]; exact hst⟩, by exact sbe, by exact sbl, by omega⟩
  · by_cases hj : on < m
    · obtain ⟨y, ye⟩ : ∃ d, (dgs B4 B)[on]? = some d := ⟨_, List.getElem?_eq_getElem (by omega)⟩
      have yw : y < 10000 := dg_at (dgs_dg b1 B) ye
      obtain ⟨t, ht⟩ : ∃ t, t = cy + 0 + y := ⟨_, rfl⟩
      obtain ⟨p1, p2⟩ := plus_dig (t := t) (by omega)
      have hst := plus_step (W := B4) (r := t % 10000) (c' := t / 10000) (x := 0) (y := y) g6 ht (by have : B4 = 10000 := rfl; rw [this]; omega)
      have ex : ((dgs B4 A)[on]?).getD 0 = 0 := by rw [List.getElem?_eq_none (by omega)]; rfl
      have ey : ((dgs B4 B)[on]?).getD 0 = y := by rw [ye]; rfl
      have hA1 := nv_at (B := B4) (l := dgs B4 A) (i := on)
      have hB1 := nv_at (B := B4) (l := dgs B4 B) (i := on)
      rw [ex] at hA1
      rw [ey] at hB1
      rw [← hA1, ← hB1] at hst
      have hti : (cy : Int) + (y : Int) = (t : Int) := by omega
      have wa : IntKind.i64.wrap ((cy : Int) + (y : Int)) = (t : Int) := by rw [hti]; exact w_in (by simp only [inb]; omega)
      have hnl : nv B4 (os ++ [t % 10000]) = nv B4 os + B4 ^ on * (t % 10000) := by rw [nv_app, g1]; simp [nv]
      
      repeat' (first | (apply RW.q1; (first | (apply q_ldo; exact rfl; exact rfl; infer_instance; exact li_at ye (by omega)) | (apply q_add; exact rfl; exact rfl; exact wa) | (apply q_rem; exact rfl; exact rfl; decide; exact p1) | (apply q_quo; exact rfl; exact rfl; decide; exact p2) | exact qt)) | (apply RW.qg; exact gvx; refine hgx tst ?_; intro hg hg'; (first | (apply q_ldo; exact rfl; exact evgx; infer_instance; exact li_at ye (by omega)) | (apply q_add; exact evgx; exact evgx; exact wa) | (apply q_rem; exact evgx; exact evgx; decide; exact p1) | (apply q_quo; exact evgx; exact evgx; decide; exact p2) | exact qu)) | refine xsg cts ?_ | (apply CW_condT; exact rfl; exact ar) | (apply CW_condF; exact rfl; exact ar) | ((first | apply RW.s1 | apply RW.s0); exact gva) | (refine hK _ _ ?_; clear hK; refine xsg xsl ?_) | ((first | apply RW.a1 | apply RW.a0 | (apply RW.at; exact gva)); (first | (apply gw_asg; exact rfl) | (apply gw_lit1; exact rfl; exact rfl; exact rfl; exact rfl; decide; intro b) | (apply gw_lit2; exact rfl; exact rfl; exact rfl; exact rfl; intro b) | (apply gw_lit3; exact rfl; exact rfl; exact rfl; exact rfl; exact rfl; intro b) | (apply gw_ap1; exact rfl; exact rfl; infer_instance; infer_instance; exact rfl; exact rfl; exact rfl; exact rfl; omega; intro a c) | (apply gw_ap1n; exact rfl; exact rfl; infer_instance; exact rfl; exact rfl; exact rfl; exact rfl; omega; intro a c) | (fail))) | (apply CW_region; intro K hK) | (apply CW_condX; exact rfl; exact tst; exact tst; all_goals (intro hq hc; try exact no)))
      exact ⟨_, _, _, ⟨on + 1, t / 10000, os ++ [t % 10000], _, _, _, _, rfl, rfl, rfl, by unfold li; (first | (rw [List.map_append]; done) | (rw [List.map_append]; rfl)), rfl, by rw [List.length_append, g1]; rfl, by omega, by omega, by omega, dg_append.2 ⟨g5, fun d hd => by rw [List.mem_singleton.1 hd]; exact Nat.mod_lt _ (by decide)⟩, by rw [hnl]; exact hst⟩, by exact sbe, by exact sbl, by omega⟩
    · by_cases hc : 0 < cy
      · obtain ⟨t, ht⟩ : ∃ t, t = cy + 0 + 0 := ⟨_, rfl⟩
        obtain ⟨p1, p2⟩ := plus_dig (t := t) (by omega)
        have hst := plus_step (W := B4) (r := t % 10000) (c' := t / 10000) (x := 0) (y := 0) g6 ht (by have : B4 = 10000 := rfl; rw [this]; omega)
        have ex : ((dgs B4 A)[on]?).getD 0 = 0 := by rw [List.getElem?_eq_none (by omega)]; rfl
        have ey : ((dgs B4 B)[on]?).getD 0 = 0 := by rw [List.getElem?_eq_none (by omega)]; rfl
        have hA1 := nv_at (B := B4) (l := dgs B4 A) (i := on)
        have hB1 := nv_at (B := B4) (l := dgs B4 B) (i := on)
        rw [ex] at hA1
        rw [ey] at hB1
        rw [← hA1, ← hB1] at hst
        have hti : (cy : Int) = (t : Int) := by omega
        have htc : cy = t := by omega
        subst htc
        have hnl : nv B4 (os ++ [cy % 10000]) = nv B4 os + B4 ^ on * (cy % 10000) := by rw [nv_app, g1]; simp [nv]
        
        repeat' (first | (apply RW.q1; (first | (apply q_rem; exact rfl; exact rfl; decide; exact p1) | (apply q_quo; exact rfl; exact rfl; decide; exact p2) | exact qt)) | (apply RW.qg; exact gvx; refine hgx tst ?_; intro hg hg'; (first | (apply q_rem; exact evgx; exact evgx; decide; exact p1) | (apply q_quo; exact evgx; exact evgx; decide; exact p2) | exact qu)) | refine xsg cts ?_ | (apply CW_condT; exact rfl; exact ar) | (apply CW_condF; exact rfl; exact ar) | ((first | apply RW.s1 | apply RW.s0); exact gva) | (refine hK _ _ ?_; clear hK; refine xsg xsl ?_) | ((first | apply RW.a1 | apply RW.a0 | (apply RW.at; exact gva)); (first | (apply gw_asg; exact rfl) | (apply gw_lit1; exact rfl; exact rfl; exact rfl; exact rfl; decide; intro b) | (apply gw_lit2; exact rfl; exact rfl; exact rfl; exact rfl; intro b) | (apply gw_lit3; exact rfl; exact rfl; exact rfl; exact rfl; exact rfl; intro b) | (apply gw_ap1; exact rfl; exact rfl; infer_instance; infer_instance; exact rfl; exact rfl; exact rfl; exact rfl; omega; intro a c) | (apply gw_ap1n; exact rfl; exact rfl; infer_instance; exact rfl; exact rfl; exact rfl; exact rfl; omega; intro a c) | (fail))) | (apply CW_region; intro K hK) | (apply CW_condX; exact rfl; exact tst; exact tst; all_goals (intro hq hc; try exact no)))
        exact ⟨_, _, _, ⟨on + 1, cy / 10000, os ++ [cy % 10000], _, _, _, _, rfl, rfl, rfl, by unfold li; (first | (rw [List.map_append]; done) | (rw [List.map_append]; rfl)), rfl, by rw [List.length_append, g1]; rfl, by omega, by omega, by omega, dg_append.2 ⟨g5, fun d hd => by rw [List.mem_singleton.1 hd]; exact Nat.mod_lt _ (by decide)⟩, by rw [hnl]; exact hst⟩, by exact sbe, by exact sbl, by omega⟩
      · obtain rfl : cy = 0 := by omega
        rw [Nat.mul_zero, Nat.add_zero, List.take_of_length_le (by omega), List.take_of_length_le (by omega), nv_dgs b1, nv_dgs b1] at g6
        have hol := dgs_len_norm g5 g1
        rw [← g6]
        
        repeat' (first | (apply RW.q1; exact qt) | (apply RW.qg; exact gvx; refine hgx tst ?_; intro hg hg'; exact qu) | refine xsg cts ?_ | (apply CW_condT; exact rfl; exact ar) | (apply CW_condF; exact rfl; exact ar) | ((first | apply RW.s1 | apply RW.s0); exact gva) | (refine hK _ _ ?_; clear hK; refine xsg xsl ?_) | ((first | apply RW.a1 | apply RW.a0 | (apply RW.at; exact gva)); (first | (apply gw_callE (f := 122); exact evx; exact go122; intro G hG; exact trimL_spec os _ oa on oc G (sl_own (by exact pkx) hG) g1 (by omega) g5 rfl) | (apply gw_callE (f := 116); exact evx; exact go116; intro G hG; exact text_spec (nv B4 os) _ oa oc G rfl (by omega) (rs_norm (sl_own (by exact pkx) hG) g5 g1).1) | (apply gw_asg; exact rfl) | (apply gw_lit1; exact rfl; exact rfl; exact rfl; exact rfl; decide; intro b) | (apply gw_lit2; exact rfl; exact rfl; exact rfl; exact rfl; intro b) | (apply gw_lit3; exact rfl; exact rfl; exact rfl; exact rfl; exact rfl; intro b) | (apply gw_ap1; exact rfl; exact rfl; infer_instance; infer_instance; exact rfl; exact rfl; exact rfl; exact rfl; omega; intro a c) | (apply gw_ap1n; exact rfl; exact rfl; infer_instance; exact rfl; exact rfl; exact rfl; exact rfl; omega; intro a c) | (fail))) | (apply CW_region; intro K hK) | (apply CW_condX; exact rfl; exact tst; exact tst; all_goals (intro hq hc; try exact no)))
        (refine CW_ret ?_; refine xsg xsl ?_; refine bR [.tmp 4] [] ?_)
        exact ⟨rfl, rfl⟩
end Go.Proofs.YtnhbipachchlgaaGreat.HL
