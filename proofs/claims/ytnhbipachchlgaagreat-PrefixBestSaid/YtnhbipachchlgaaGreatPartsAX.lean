/- PartsA: RatA: products of fractions. Condition: the rows' lengths. RatB: a row the other way round. Condition: its length. RatC: String: a number's decimal digits. Condition: the row's length. RatD: Int64 of a number that has room. Condition: none besides. RatE: more: words times a word, and one more. Condition: the row's length. StrA: texts as rows of bytes: rules. No condition. RatF: SetString of decimal digits. Condition: how many they are. StrB: HasPrefix, TrimPrefix, CutPrefix; nat.Right. Condition: none. RatG: natural, whole: a text's number. Condition: none. -/
import Derived.Test.YtnhbipachchlgaaGreatEngX
import Derived.Test.YtnhbipachchlgaaGreatWholeDX
namespace Go.Proofs.YtnhbipachchlgaaGreat.HL
open Go
attribute [local irreducible] goFn thenS blockS bodyS CW RW DW GW QW NW SC Pick Picks SubL Rd NN ResOk SrcW subE hops hseg AW hgen HC qv bldv
set_option maxHeartbeats 8000000
set_option maxRecDepth 100000
set_option linter.unusedVariables false
set_option linter.unusedSimpArgs false

theorem dgs_len_of_lt {B n k : Nat} (hB : 1 < B) (h : n < B ^ k) : (dgs B n).length ≤ k := by
  rcases Nat.lt_or_ge k (dgs B n).length with g | g
  · exfalso
    obtain ⟨j, hj⟩ : ∃ j, (dgs B n).length = j + 1 := ⟨(dgs B n).length - 1, by omega⟩
    have h1 := dgs_len_ge hB hj
    have h2 : B ^ k ≤ B ^ j := Nat.pow_le_pow_right (by omega) (by omega)
    omega
  · exact g
theorem dgs_len_mul {B : Nat} (hB : 1 < B) (m n : Nat) : (dgs B (m * n)).length ≤ (dgs B m).length + (dgs B n).length := by
  refine dgs_len_of_lt hB ?_
  rw [Nat.pow_add]
  exact Nat.mul_lt_mul'' (dgs_len_lt hB) (dgs_len_lt hB)
theorem wd_mul_len (x y : Int) : (wd (x * y)).length ≤ (wd x).length + (wd y).length := by
  unfold wd; rw [Int.natAbs_mul]; exact dgs_len_mul w1 _ _
theorem den_ne (q : Int) : den q ≠ 0 := by unfold den; split <;> omega
theorem wd_den_len (q : Int) : (wd (den q)).length ≤ (wd q).length + 1 := by
  unfold den
  split
  · rw [show wd 1 = [1] from dgs_one (by decide) (by decide)]; simp
  · omega
theorem ratW_own {H G : Hp} {L L1 L2 L3 : List Res} {b : Nat} {T : TypeId} {p q : Int} {pa qa : Option Addr} {pc qc : Nat} (hb : Pick L (.box b T (ratB p q pa pc qa qc)) L1) (hp : Pick L (intR p pa pc) L2) (hq : Pick L (intR q qa qc) L3) (hG : Hs H L G) (M : List Res) : RatW G M b 0 p q := by
  have h : RatW G [] b 0 p q := ⟨⟨pa, pc, (rd_box hb (off := 0) rfl rfl (by decide)).base hG, (rd_box hb (off := 1) rfl rfl (by decide)).base hG, sl_own hp hG⟩, ⟨qa, qc, (rd_box hb (off := 2) rfl rfl (by decide)).base hG, (rd_box hb (off := 3) rfl rfl (by decide)).base hG, sl_own hq hG⟩⟩
  exact h.sub subl_nil
theorem ratMul_spec (bz : Nat) (TB : TypeId) (c0 c1 c2 c3 : Value) (p1 q1 p2 q2 : Int) (bx ox by' oy : Nat) (H : Hp) (hx : RatW H [.box bz TB [c0, c1, c2, c3]] bx ox p1 q1) (hy : RatW H [.box bz TB [c0, c1, c2, c3]] by' oy p2 q2) (hp1 : (wd p1).length ≤ 131072) (hq1 : (wd q1).length ≤ 131072) (hp2 : (wd p2).length ≤ 131072) (hq2 : (wd q2).length ≤ 131072) :
    SC Tryz.prog 27 [.pointer (some ⟨bz, 0, none⟩), .pointer (some ⟨bx, ox, none⟩), .pointer (some ⟨by', oy, none⟩)] H [.box bz TB [c0, c1, c2, c3]] (fun v M => v = .pointer (some ⟨bz, 0, none⟩) ∧ ∃ pa pc qa qc, M = [.box bz TB (ratB (fn (p1 * p2) (den q1 * den q2)) (fd (p1 * p2) (den q1 * den q2)) pa pc qa qc), intR (fn (p1 * p2) (den q1 * den q2)) pa pc, intR (fd (p1 * p2) (den q1 * den q2)) qa qc]) := by
  have l1 := wd_mul_len p1 p2
  have l2 := wd_mul_len (den q1) (den q2)
  have l3 := wd_den_len q1
  have l4 := wd_den_len q2
  have hne : den q1 * den q2 ≠ 0 := Int.mul_ne_zero (den_ne q1) (den_ne q2)
  (refine SC_intro Tryz.func27 rfl (by kernel_rfl) (by rw [Tryz.ntmps27]; exact Nat.le_of_ble_eq_true rfl) ?_; simp only [Tryz.ntmps27, argE, Nat.reduceAdd])
  
  repeat' (first | ((first | apply RW.q1 | (apply DW.q1; exact rfl)); exact qt) | refine xsg cts ?_ | (apply CW_condT; exact rfl; exact ar) | (apply CW_condF; exact rfl; exact ar) | (refine hK _ _ ?_; clear hK; refine xsg xsl ?_) | (refine xsg ahd ?_; (first | ((first | apply gw_alloc (d := some 8) | apply gx_alloc (d := some 8)); exact rfl; intro b1) | ((first | apply gw_alloc (d := some 16) | apply gx_alloc (d := some 16)); exact rfl; intro b2) | (apply gw_callc (f := 82) (M := [.box b1 _ _]); exact rfl; exact go82; exact pcs; intro G hG; refine SC.mono (mul_spec b1 0 _ _ p1 p2 bx ox by' oy G (by decide) (((hx.1.sub (by exact sbl)).base hG).sub subl_nil) (((hy.1.sub (by exact sbl)).base hG).sub subl_nil) (by omega) (by omega)) ?_; rintro v M ⟨rfl, ma, mc, rfl⟩; (try dsimp only [jL, jM])) | ((first | apply gw_call (f := 83) | apply gx_call (f := 83)); exact rfl; exact go83; intro G hG; refine SC.mono (denom_spec p1 q1 bx ox G ((hx.sub (by exact sbl)).base hG) (by omega)) ?_; rintro v M ⟨e1, ea, ec, rfl, rfl⟩; (try dsimp only [jL, jM])) | ((first | apply gw_call (f := 83) | apply gx_call (f := 83)); exact rfl; exact go83; intro G hG; refine SC.mono (denom_spec p2 q2 by' oy G ((hy.sub (by exact sbl)).base hG) (by omega)) ?_; rintro v M ⟨f1, fa, fc, rfl, rfl⟩; (try dsimp only [jL, jM])) | (apply gw_callc (f := 82) (M := [.box b2 _ _]); exact rfl; exact go82; exact pcs; intro G hG; refine SC.mono (mul_spec b2 0 _ _ (den q1) (den q2) e1 0 f1 0 G (by decide) (intW_own (by exact pkx) (by exact pkx) hG _) (intW_own (by exact pkx) (by exact pkx) hG _) (by omega) (by omega)) ?_; rintro v M ⟨rfl, na, nc, rfl⟩; (try dsimp only [jL, jM])) | (apply gw_callc (f := 81) (M := [.box bz TB _]); exact rfl; exact go81; exact pcs; intro G hG; refine SC.mono (setFrac_spec bz TB c0 c1 c2 c3 (p1 * p2) (den q1 * den q2) b1 0 b2 0 G (intW_own (by exact pkx) (by exact pkx) hG _) (intW_own (by exact pkx) (by exact pkx) hG _) (by omega) (by omega) hne) ?_; rintro v M ⟨rfl, pa, pc, qa, qc, rfl⟩; (try dsimp only [jL, jM])) | (apply gw_asg; exact rfl) | ((first | apply gw_alloc | apply gx_alloc); exact rfl; intro b) | (fail))) | (apply CW_region; intro K hK) | (apply CW_condX; exact rfl; exact tst; exact tst; all_goals (intro hq hc; try exact no)) | (refine CW_drawS (id := 1) [1, 8, 9, 11, 13, 14, 15] [([1, 8, 9, 11, 13, 14, 15], [], [(0, false), (2, false), (3, false), (4, false), (5, false), (6, false), (7, false), (10, false), (12, false), (1, true), (8, true), (9, true), (11, true), (13, true), (14, true), (15, true), (16, false)]), ([1, 8, 11, 9, 13, 14, 15], [], [(0, false), (2, false), (3, false), (4, false), (5, false), (6, false), (7, false), (10, false), (12, false), (1, true), (8, true), (11, true), (9, true), (13, true), (14, true), (15, true), (16, false)]), ([1, 8, 11, 13, 9, 14, 15], [], [(0, false), (2, false), (3, false), (4, false), (5, false), (6, false), (7, false), (10, false), (12, false), (1, true), (8, true), (11, true), (13, true), (9, true), (14, true), (15, true), (16, false)]), ([1, 9, 8, 11, 13, 14, 15], [], [(0, false), (2, false), (3, false), (4, false), (5, false), (6, false), (7, false), (10, false), (12, false), (1, true), (9, true), (8, true), (11, true), (13, true), (14, true), (15, true), (16, false)]), ([9, 1, 8, 11, 13, 14, 15], [], [(0, false), (2, false), (3, false), (4, false), (5, false), (6, false), (7, false), (10, false), (12, false), (9, true), (1, true), (8, true), (11, true), (13, true), (14, true), (15, true), (16, false)])] mixed (by kernel_rfl) ⟨fun K hK => ?_, fun K hK => ?_, fun K hK => ?_, fun K hK => ?_, fun K hK => ?_, trivial⟩))
  all_goals (refine CW_ret ?_; refine xsg xsl ?_; refine bR [.tmp 6] [.box bz TB (ratB (fn (p1 * p2) (den q1 * den q2)) (fd (p1 * p2) (den q1 * den q2)) pa pc qa qc), intR (fn (p1 * p2) (den q1 * den q2)) pa pc, intR (fd (p1 * p2) (den q1 * den q2)) qa qc] ?_)
  all_goals exact ⟨rfl, pa, pc, qa, qc, rfl⟩
end Go.Proofs.YtnhbipachchlgaaGreat.HL
namespace Go.Proofs.YtnhbipachchlgaaGreat.HL
open Go
attribute [local irreducible] goFn thenS blockS bodyS CW RW DW GW QW NW SC Pick Picks SubL Rd NN ResOk SrcW subE hops hseg AW hgen HC qv bldv
set_option linter.unusedVariables false
set_option linter.unusedSimpArgs false

theorem at_one {cs : List Value} {k : Nat} {v : Value} {j : Nat} (h : cs[k]? = some v) (hj : j = k) : (cs.drop j).take 1 = [v] := by
  have hlt : k < cs.length := by
    rcases Nat.lt_or_ge k cs.length with h' | h'
    · exact h'
    · rw [List.getElem?_eq_none h'] at h; cases h
  subst hj
  rw [List.getElem?_eq_getElem hlt] at h
  rw [List.drop_eq_getElem_cons hlt, Option.some.inj h]; rfl
section
variable {P : Program} {l : Ents} {H : Hp} {L L' : List Res} {K : Value → List Res → Prop} {d : Option Tmp} {T : TypeId} {pos : String} {aft : Array Edge} {gd : Option (Nat × Bool)}
abbrev by8 (bs : List UInt8) : List Value := bs.map fun b => .int .u8 b.toNat
theorem gw_so8 {t e : TypeId} {m c : Nat} {x y : Operand} {v : Int} {a : Option Addr} {k : Nat} {bs : List UInt8} (j : Nat) (w : UInt8) [hz : Szc P t 1] (hx : evg l true x = some (.pointer (pt a k))) (hy : evg l true y = some (.int .u8 v)) (hp : POwn L a e 1 m c (by8 bs) L')
    (hk : k = j) (hv : v = (w.toNat : Int)) (hl : j < bs.length) (h : K undef (.own e 1 a m c (by8 (bs.set j w)) :: L')) : GW P l ⟨d, .store t x y, T, pos, aft, gd⟩ H L K := by
  subst hk; subst hv
  refine gw_so1 hx hy hp rfl rfl (by rw [List.length_map]; exact hl) ?_
  unfold by8 at h ⊢
  rw [List.map_set] at h
  exact h
end
theorem reverse_spec (bs : List UInt8) (a : Option Addr) (n c : Nat) (H : Hp) (hn : bs.length = n) (hN : n ≤ 1099511627776) :
    SC Tryz.prog 105 [.slice a n c] H [.own 5 1 a n c (by8 bs)] (fun v M => M = [.own 5 1 a n c (by8 bs.reverse)]) := by
  (refine SC_intro Tryz.func105 rfl (by kernel_rfl) (by rw [Tryz.ntmps105]; exact Nat.le_of_ble_eq_true rfl) ?_; simp only [Tryz.ntmps105, argE, Nat.reduceAdd])
  
  repeat' (first | ((first | apply RW.q1 | (apply DW.q1; exact rfl)); exact qt) | refine xsg cts ?_ | (apply CW_condT; exact rfl; exact ar) | (apply CW_condF; exact rfl; exact ar) | (refine hK _ _ ?_; clear hK; refine xsg xsl ?_) | (refine xsg ahd ?_; (first | (apply gw_asg; exact rfl) | (refine gw_stx sto ?_) | (fail))) | (apply CW_region; intro K hK) | (apply CW_condX; exact rfl; exact tst; exact tst; all_goals (intro hq hc; try exact no)) | (refine CW_draw (id := 3) [] [(0, false), (1, false), (2, false), (3, false), (4, false), (5, false), (6, false), (7, false), (8, false), (9, false), (10, false), (11, false), (12, false), (13, true), (14, false), (15, true)] mixed (by kernel_rfl) (fun K hK => ?_)))
  refine CW_loop (fun m l L => ∃ (i : Nat) (ds : List UInt8), m = n - i ∧ l = [(0, true, .slice a n c), (2, true, .int .i64 (i : Nat)), (3, true, .int .i64 ((n : Int) - 1 - i))] ∧
      L = [.own 5 1 a n c (by8 ds)] ∧ 2 * i ≤ n + 1 ∧ ds.length = n ∧ ∀ k, k < n → ds[k]? = if k < i ∨ n ≤ k + i then bs[n - 1 - k]? else bs[k]?)
    ⟨_, _, _, ⟨0, bs, rfl, rfl, rfl, by omega, hn, fun k hk => by rw [if_neg (by omega)]⟩, by exact sbe, by exact sbl⟩ ?_
  rintro m l L ⟨i, ds, rfl, rfl, rfl, h1, h2, h3⟩
  by_cases hi : 2 * i + 1 < n
  · obtain ⟨x, hx⟩ : ∃ d, ds[i]? = some d := ⟨_, List.getElem?_eq_getElem (by omega)⟩
    obtain ⟨y, hy⟩ : ∃ d, ds[n - 1 - i]? = some d := ⟨_, List.getElem?_eq_getElem (by omega)⟩
    have hx' : (by8 ds)[i]? = some (.int .u8 x.toNat) := by rw [List.getElem?_map, hx]; rfl
    have hy' : (by8 ds)[n - 1 - i]? = some (.int .u8 y.toNat) := by rw [List.getElem?_map, hy]; rfl
    have hx0 := h3 i (by omega)
    have hy0 := h3 (n - 1 - i) (by omega)
    rw [if_neg (by omega), hx] at hx0
    rw [if_neg (by omega), hy] at hy0
    
    repeat' (first | ((first | apply RW.q1 | (apply DW.q1; exact rfl)); (first | (apply q_ldo; exact rfl; exact rfl; infer_instance; (first | exact at_one hx' (by omega) | exact at_one hy' (by omega))) | exact qt)) | refine xsg cts ?_ | (apply CW_condT; exact rfl; exact ar) | (apply CW_condF; exact rfl; exact ar) | (refine hK _ _ ?_; clear hK; refine xsg xsl ?_) | (refine xsg ahd ?_; (first | (apply gw_so8 i y; exact rfl; exact rfl; infer_instance; omega; exact rfl; omega) | (apply gw_so8 (n - 1 - i) x; exact rfl; exact rfl; infer_instance; omega; exact rfl; (rw [List.length_set]; omega)) | (apply gw_asg; exact rfl) | (refine gw_stx sto ?_) | (fail))) | (apply CW_region; intro K hK) | (apply CW_condX; exact rfl; exact tst; exact tst; all_goals (intro hq hc; try exact no)) | (refine CW_draw (id := 3) [] [(0, false), (1, false), (2, false), (3, false), (4, false), (5, false), (6, false), (7, false), (8, false), (9, false), (10, false), (11, false), (12, false), (13, true), (14, false), (15, true)] mixed (by kernel_rfl) (fun K hK => ?_)))
    refine ⟨_, _, _, ⟨i + 1, (ds.set i y).set (n - 1 - i) x, rfl, rfl, rfl, by omega, by rw [List.length_set, List.length_set]; exact h2, ?_⟩, by exact sbe, by exact sbl, by omega⟩
    intro k hk
    by_cases e1 : k = n - 1 - i
    · subst e1
      rw [List.getElem?_set_self (by rw [List.length_set]; omega), if_pos (by omega), hx0, show n - 1 - (n - 1 - i) = i by omega]
    · rw [List.getElem?_set_ne (fun e => e1 e.symm)]
      by_cases e2 : k = i
      · subst e2
        rw [List.getElem?_set_self (by omega), if_pos (by omega), hy0]
      · rw [List.getElem?_set_ne (fun e => e2 e.symm), h3 k hk]
        by_cases e3 : k < i ∨ n ≤ k + i
        · rw [if_pos e3, if_pos (by omega)]
        · rw [if_neg e3, if_neg (by omega)]
  · have hend : ds = bs.reverse := by
      apply List.ext_getElem?
      intro k
      rcases Nat.lt_or_ge k n with hk | hk
      · rw [h3 k hk, List.getElem?_reverse (by omega), hn]
        split
        · rfl
        · congr 1; omega
      · rw [List.getElem?_eq_none (by omega), List.getElem?_eq_none (by rw [List.length_reverse]; omega)]
    subst hend
    
    repeat' (first | ((first | apply RW.q1 | (apply DW.q1; exact rfl)); exact qt) | refine xsg cts ?_ | (apply CW_condT; exact rfl; exact ar) | (apply CW_condF; exact rfl; exact ar) | (refine hK _ _ ?_; clear hK; refine xsg xsl ?_) | (refine xsg ahd ?_; (first | (apply gw_asg; exact rfl) | (refine gw_stx sto ?_) | (fail))) | (apply CW_region; intro K hK) | (apply CW_condX; exact rfl; exact tst; exact tst; all_goals (intro hq hc; try exact no)) | (refine CW_draw (id := 3) [] [(0, false), (1, false), (2, false), (3, false), (4, false), (5, false), (6, false), (7, false), (8, false), (9, false), (10, false), (11, false), (12, false), (13, true), (14, false), (15, true)] mixed (by kernel_rfl) (fun K hK => ?_)))
    (refine bE [] [.own 5 1 a n c (by8 bs.reverse)] ?_)
    exact rfl
end Go.Proofs.YtnhbipachchlgaaGreat.HL
namespace Go.Proofs.YtnhbipachchlgaaGreat.HL
open Go
attribute [local irreducible] goFn thenS blockS bodyS CW RW DW GW QW NW SC Pick Picks SubL Rd NN ResOk SrcW subE hops hseg AW hgen HC qv bldv
set_option linter.unusedVariables false
set_option linter.unusedSimpArgs false

def decB (z : Int) : List UInt8 := if z < 0 then 45 :: Lib.decDigits z.natAbs else Lib.decDigits z.natAbs
abbrev dg8 (d : List Nat) : List Value := d.map fun (x : Nat) => .int .u8 ((48 + x : Nat) : Int)
theorem dg8_by8 {d : List Nat} (h : Dg 10 d) : dg8 d = by8 (d.map digB) := by
  unfold dg8 by8
  rw [List.map_map]
  apply List.map_congr_left
  intro x hx
  show _ = Value.int .u8 ((digB x).toNat : Int)
  rw [digB_nat (h x hx)]
theorem padD_len : ∀ (k n : Nat), (padD k n).length = k
  | 0, _ => rfl
  | k + 1, n => congrArg (· + 1) (padD_len k (n / 10))
theorem padD_app : ∀ (k m v q : Nat), v < 10 ^ k → padD k v ++ padD m q = padD (k + m) (v + 10 ^ k * q)
  | 0, m, v, q, h => by
    have : v = 0 := by simpa using h
    subst this; simp [padD]
  | k + 1, m, v, q, h => by
    have e1 : 10 ^ (k + 1) * q = 10 * (10 ^ k * q) := by rw [Nat.pow_succ, Nat.mul_comm (10 ^ k) 10, Nat.mul_assoc]
    rw [padD, jM, padD_app k m (v / 10) q (by rw [Nat.pow_succ] at h; omega), e1, show k + 1 + m = (k + m) + 1 by omega, padD]
    congr 1
    · omega
    · congr 1; omega
def nxt (q i r : Nat) : List Nat := if 0 < q then padD (9 - i) r else dgs 10 r
theorem nxt_step {q i r : Nat} (hi : i < 9) (h : 0 < q ∨ 0 < r) : nxt q i r = r % 10 :: nxt q (i + 1) (r / 10) := by
  unfold nxt
  by_cases h0 : 0 < q
  · rw [if_pos h0, if_pos h0, show 9 - i = (9 - (i + 1)) + 1 by omega, padD]
  · rw [if_neg h0, if_neg h0, dgs_pos (by decide) (by omega)]
theorem nxt_end {q i r : Nat} (hr : r < 10 ^ (9 - i)) (h : ¬ (i < 9 ∧ (0 < q ∨ 0 < r))) : nxt q i r = [] := by
  unfold nxt
  by_cases hi : i < 9
  · have h1 : ¬ (0 < q ∨ 0 < r) := fun g => h ⟨hi, g⟩
    rw [if_neg (by omega), show r = 0 by omega, dgs_zero]
  · rw [show 9 - i = 0 by omega] at hr ⊢
    rw [Nat.pow_zero] at hr
    split
    · rfl
    · rw [show r = 0 by omega, dgs_zero]
theorem nxt_pow {i r : Nat} (hi : i < 9) (hr : r < 10 ^ (9 - i)) : r / 10 < 10 ^ (9 - (i + 1)) := by
  rw [show 9 - i = (9 - (i + 1)) + 1 by omega, Nat.pow_succ] at hr
  omega
theorem sl_norm {L L' : List Res} {H G : Hp} {e : TypeId} {a : Option Addr} {n c x : Nat} {ds : List Nat} (hp : Pick L (.own e 1 a n c (ws ds)) L') (hG : Hs H L G) (hd : Dg W32 ds) (hn : ds.length = n) (hv : nv W32 ds = x) : Rs G 1 a (dgs W32 x).length c (ws (dgs W32 x)) := by
  subst hv
  have hk := norm_take w1 hd
  have hl : (dgs W32 (nv W32 ds)).length ≤ n := by
    have := congrArg List.length hk
    rw [List.length_take] at this; omega
  have := rs_take (sl_own hp hG) hl
  rw [ws_take, hk] at this
  exact this
def Said (N n : Nat) (d : List Nat) : Prop := (n = 0 ∧ d = dgs 10 N) ∨ (0 < n ∧ ∃ v, v < 10 ^ d.length ∧ d = padD d.length v ∧ N = v + 10 ^ d.length * n)
theorem said_len {N n M : Nat} {d : List Nat} (h : Said N n d) (hn : 0 < n) (hN : (dgs W32 N).length ≤ M) : d.length ≤ 32 * M := by
  rcases h with ⟨h, _⟩ | ⟨_, v, h1, h2, h3⟩
  · omega
  · have h4 : 10 ^ d.length ≤ N := by
      have := Nat.mul_le_mul_left (10 ^ d.length) hn
      omega
    have h5 : 2 ^ d.length ≤ 10 ^ d.length := Nat.pow_le_pow_left (by decide) _
    have h6 : N < 2 ^ (32 * M) := by
      have a1 := dgs_len_lt (n := N) w1
      have a2 : W32 ^ (dgs W32 N).length ≤ W32 ^ M := Nat.pow_le_pow_right (by decide) hN
      have a3 : W32 ^ M = 2 ^ (32 * M) := by rw [Nat.pow_mul]
      rw [a3] at a2
      exact Nat.lt_of_lt_of_le a1 a2
    rcases Nat.lt_or_ge (32 * M) d.length with g | g
    · exfalso
      have := Nat.pow_lt_pow_right (a := 2) (by decide) g
      omega
    · exact g
theorem said_step {N n : Nat} {d : List Nat} (h : Said N n d) (hn : 0 < n) : Said N (n / 1000000000) (d ++ nxt (n / 1000000000) 0 (n % 1000000000)) := by
  rcases h with ⟨h, _⟩ | ⟨_, v, h1, h2, h3⟩
  · omega
  · have h4 := Nat.div_add_mod n 1000000000
    generalize n / 1000000000 = q at h4 ⊢
    have h5 : n % 1000000000 < 1000000000 := Nat.mod_lt _ (by decide)
    generalize n % 1000000000 = r at h4 h5 ⊢
    unfold nxt
    by_cases hq0 : 0 < q
    · rw [if_pos hq0]
      right
      have hl : (d ++ padD 9 r).length = d.length + 9 := by rw [List.length_append, padD_len]
      have e : 10 ^ (d.length + 9) = 10 ^ d.length * 1000000000 := by rw [Nat.pow_add]
      rw [show 9 - 0 = 9 from rfl, hl]
      refine ⟨hq0, v + 10 ^ d.length * r, ?_, ?_, ?_⟩
      · rw [e]
        have := Nat.mul_le_mul_left (10 ^ d.length) (show r + 1 ≤ 1000000000 from h5)
        rw [Nat.mul_add, Nat.mul_one] at this
        omega
      · conv => lhs; rw [h2]
        exact padD_app _ _ _ _ h1
      · rw [h3, ← h4, e, Nat.mul_add, Nat.mul_assoc]
        omega
    · rw [if_neg hq0]
      left
      obtain rfl : q = 0 := by omega
      rw [Nat.mul_zero, Nat.zero_add] at h4
      subst h4
      refine ⟨rfl, ?_⟩
      conv => lhs; rw [h2]
      rw [padD_dgs _ _ _ h1 hn, h3]
theorem string_spec (z : Int) (bx ox : Nat) (H : Hp) (hx : IntW H [] bx ox z) (hN : (wd z).length ≤ 1048576) :
    SC Tryz.prog 73 [.pointer (some ⟨bx, ox, none⟩)] H [] (fun v M => v = .string (bstr (decB z)) ∧ M = []) := by
  obtain ⟨xa, xc, x1, x2, x3⟩ := hx
  by_cases hz : z = 0
  · subst hz
    have e0 : (wd 0).length = 0 := by unfold wd; rw [Int.natAbs_zero, dgs_zero]; rfl
    rw [e0] at x2
    (refine SC_intro Tryz.func73 rfl (by kernel_rfl) (by rw [Tryz.ntmps73]; exact Nat.le_of_ble_eq_true rfl) ?_; simp only [Tryz.ntmps73, argE, Nat.reduceAdd])
    
    repeat' (first | (apply RW.q1; (first | (apply q_load; exact rfl; exact rfl; (first | exact Rd.sub x1 (by exact sbl) | exact Rd.sub x2 (by exact sbl))) | exact qt)) | (apply RW.qg; exact gvx; refine hgx tst ?_; intro hg hg'; (first | (apply q_load; exact rfl; exact evgx; (first | exact Rd.sub x1 (by exact sbl) | exact Rd.sub x2 (by exact sbl))) | exact qu)) | refine xsg cts ?_ | (apply CW_condT; exact rfl; exact ar) | (apply CW_condF; exact rfl; exact ar) | ((first | apply RW.s1 | apply RW.s0); exact gva) | (refine hK _ _ ?_; clear hK; refine xsg xsl ?_) | ((first | apply RW.a1 | apply RW.a0 | (apply RW.at; exact gva)); (first | (apply gw_asg; exact rfl) | (apply gw_lit1; exact rfl; exact rfl; exact rfl; exact rfl; decide; intro b) | (apply gw_lit2; exact rfl; exact rfl; exact rfl; exact rfl; intro b) | (apply gw_lit3; exact rfl; exact rfl; exact rfl; exact rfl; exact rfl; intro b) | (apply gw_ap1; exact rfl; exact rfl; infer_instance; infer_instance; exact rfl; exact rfl; exact rfl; exact rfl; omega; intro a c) | (apply gw_ap1n; exact rfl; exact rfl; infer_instance; exact rfl; exact rfl; exact rfl; exact rfl; omega; intro a c) | (fail))) | (apply CW_region; intro K hK) | (apply CW_condX; exact rfl; exact tst; exact tst; all_goals (intro hq hc; try exact no)))
    all_goals (refine CW_ret ?_; refine xsg xsl ?_; refine bR [.tmp 2] [] ?_)
    all_goals exact ⟨by rw [show decB 0 = [48] by unfold decB; rw [if_neg (by decide), Int.natAbs_zero, dec_small (by decide)]; rfl]; rfl, rfl⟩
  have hz0 : 0 < z.natAbs := Int.natAbs_pos.2 hz
  have hpos : 0 < (wd z).length := by unfold wd; rw [dgs_pos w1 hz0]; exact Nat.succ_pos _
  have hpos' : ¬ ((wd z).length : Int) = 0 := by omega
  (refine SC_intro Tryz.func73 rfl (by kernel_rfl) (by rw [Tryz.ntmps73]; exact Nat.le_of_ble_eq_true rfl) ?_; simp only [Tryz.ntmps73, argE, Nat.reduceAdd])
  
  repeat' (first | (apply RW.q1; (first | (apply q_load; exact rfl; exact rfl; (first | exact Rd.sub x1 (by exact sbl) | exact Rd.sub x2 (by exact sbl))) | exact qt)) | (apply RW.qg; exact gvx; refine hgx tst ?_; intro hg hg'; (first | (apply q_load; exact rfl; exact evgx; (first | exact Rd.sub x1 (by exact sbl) | exact Rd.sub x2 (by exact sbl))) | exact qu)) | refine xsg cts ?_ | (apply CW_condT; exact rfl; exact ar) | (apply CW_condF; exact rfl; exact ar) | ((first | apply RW.s1 | apply RW.s0); exact gva) | (refine hK _ _ ?_; clear hK; refine xsg xsl ?_) | ((first | apply RW.a1 | apply RW.a0 | (apply RW.at; exact gva)); (first | (apply gw_asg; exact rfl) | (apply gw_lit1; exact rfl; exact rfl; exact rfl; exact rfl; decide; intro b) | (apply gw_lit2; exact rfl; exact rfl; exact rfl; exact rfl; intro b) | (apply gw_lit3; exact rfl; exact rfl; exact rfl; exact rfl; exact rfl; intro b) | (apply gw_ap1; exact rfl; exact rfl; infer_instance; infer_instance; exact rfl; exact rfl; exact rfl; exact rfl; omega; intro a c) | (apply gw_ap1n; exact rfl; exact rfl; infer_instance; exact rfl; exact rfl; exact rfl; exact rfl; omega; intro a c) | (fail))) | (apply CW_region; intro K hK) | (apply CW_condX; exact rfl; exact tst; exact tst; all_goals (intro hq hc; try exact no)))
  refine CW_loop (fun m l L => ∃ (n : Nat) (d : List Nat) (cs : List Value) (wa ba : Option Addr) (wc bn bc : Nat) (L' : List Res), m = n + 1 ∧ l = [(0, true, .pointer (some ⟨bx, ox, none⟩)), (3, true, .slice ba bn bc), (4, true, .slice wa (dgs W32 n).length wc)] ∧
      L = .own 5 1 ba bn bc cs :: L' ∧ cs = dg8 d ∧ d.length = bn ∧ Said z.natAbs n d ∧ bn ≤ 33554441 ∧ (dgs W32 n).length ≤ 1048576 ∧ ∀ G, Hs H L' G → Rs G 1 wa (dgs W32 n).length wc (ws (dgs W32 n)))
    ⟨_, _, _, ⟨z.natAbs, [], [], xa, none, xc, 0, 0, [], rfl, rfl, rfl, rfl, rfl, .inr ⟨hz0, 0, by decide, rfl, by simp⟩, by omega, hN, fun G hG => x3.ext hG.ext⟩, by exact sbe, by exact sbl⟩ ?_
  rintro m l L ⟨n, d, cs, wa, ba, wc, bn, bc, L', rfl, rfl, rfl, h1, h2, h3, h4, h5, h6⟩
  by_cases h0 : 0 < n
  · have hlp : 0 < (dgs W32 n).length := by rw [dgs_pos w1 h0]; exact Nat.succ_pos _
    have hbn := said_len (M := 1048576) h3 h0 hN
    rw [h2] at hbn
    
    repeat' (first | (apply RW.q1; exact qt) | (apply RW.qg; exact gvx; refine hgx tst ?_; intro hg hg'; exact qu) | refine xsg cts ?_ | (apply CW_condT; exact rfl; exact ar) | (apply CW_condF; exact rfl; exact ar) | ((first | apply RW.s1 | apply RW.s0); exact gva) | (refine hK _ _ ?_; clear hK; refine xsg xsl ?_) | ((first | apply RW.a1 | apply RW.a0 | (apply RW.at; exact gva)); (first | (apply gw_call (f := 103); exact evx; exact go103; intro G hG; refine SC.mono (smallN_spec n 1000000000 wa wc G (h6 G (hG.sub (subl_skip subl_refl))) (by omega) (by decide) (by decide)) ?_; rintro v M ⟨qa, qc, qs, rfl, rfl, q1, q2, q3⟩; (try dsimp only [jL, jM])) | (apply gw_callE (f := 104); exact evx; exact go104; intro G hG; exact trimN_spec qs (n / 1000000000) qa _ qc G (sl_own (by exact pkx) hG) q1 (by omega) q2 q3) | (apply gw_asg; exact rfl) | (apply gw_lit1; exact rfl; exact rfl; exact rfl; exact rfl; decide; intro b) | (apply gw_lit2; exact rfl; exact rfl; exact rfl; exact rfl; intro b) | (apply gw_lit3; exact rfl; exact rfl; exact rfl; exact rfl; exact rfl; intro b) | (apply gw_ap1; exact rfl; exact rfl; infer_instance; infer_instance; exact rfl; exact rfl; exact rfl; exact rfl; omega; intro a c) | (apply gw_ap1n; exact rfl; exact rfl; infer_instance; exact rfl; exact rfl; exact rfl; exact rfl; omega; intro a c) | (fail))) | (apply CW_region; intro K hK) | (apply CW_condX; exact rfl; exact tst; exact tst; all_goals (intro hq hc; try exact no)))
    have hlq : 0 < (dgs W32 (n / 1000000000)).length ↔ 0 < n / 1000000000 := by
      rw [List.length_pos_iff]
      constructor
      · intro h
        rcases Nat.eq_zero_or_pos (n / 1000000000) with e | e
        · exact absurd (by rw [e]; exact dgs_zero _) h
        · exact e
      · intro h e
        rw [dgs_nil w1] at e
        omega
    have hlen : (dgs W32 (n / 1000000000)).length ≤ (dgs W32 n).length := dgs_len_le w1 (Nat.div_le_self _ _)
    refine CW_loop (fun m l L => ∃ (i r : Nat) (d' : List Nat) (cs' : List Value) (ba' : Option Addr) (bn' bc' : Nat), m = 9 - i ∧ l = [(0, true, .pointer (some ⟨bx, ox, none⟩)), (3, true, .slice ba' bn' bc'), (4, true, .slice qa (dgs W32 (n / 1000000000)).length qc), (6, true, .int .u32 (r : Nat)), (7, true, .int .i64 (i : Nat))] ∧
        L = .own 5 1 ba' bn' bc' cs' :: .own 116 1 qa (dgs W32 n).length qc (ws qs) :: L' ∧ cs' = dg8 d' ∧ d'.length = bn' ∧ i ≤ 9 ∧ r < 10 ^ (9 - i) ∧ r < 1000000000 ∧ d' ++ nxt (n / 1000000000) i r = d ++ nxt (n / 1000000000) 0 (n % 1000000000) ∧ bn' = bn + i)
      ⟨_, _, _, ⟨0, n % 1000000000, d, cs, ba, bn, bc, rfl, rfl, rfl, h1, h2, by omega, Nat.mod_lt _ (by decide), Nat.mod_lt _ (by decide), rfl, rfl⟩, by exact sbe, by exact sbl⟩ ?_
    rintro m l L ⟨i, r, d', cs', ba', bn', bc', rfl, rfl, rfl, g1, g2, g3, g4, g5, g6, g7⟩
    by_cases hcond : i < 9 ∧ (0 < n / 1000000000 ∨ 0 < r)
    · have hrm : (r : Int).tmod 10 = ((r % 10 : Nat) : Int) := by rw [Int.tmod_eq_emod_of_nonneg (by omega)]; omega
      have hrd : IntKind.u32.wrap ((r : Int).tdiv 10) = ((r / 10 : Nat) : Int) := by
        rw [Int.tdiv_eq_ediv_of_nonneg (by omega), show (r : Int) / 10 = ((r / 10 : Nat) : Int) by omega]
        exact w_in (by simp only [inb]; omega)
      have hst := nxt_step hcond.1 hcond.2
      have hpw := nxt_pow hcond.1 g4
      have h10 : r % 10 < 10 := Nat.mod_lt _ (by decide)
      have hr10 : r / 10 ≤ r := Nat.div_le_self _ _
      obtain ⟨x, hx⟩ : ∃ x, x = r % 10 := ⟨_, rfl⟩
      obtain ⟨r', hr'⟩ : ∃ r', r' = r / 10 := ⟨_, rfl⟩
      rw [← hx] at hrm h10 hst
      rw [← hr'] at hrd hst hpw hr10
      have hcx : IntKind.u8.wrap (48 + (x : Int)) = ((48 + x : Nat) : Int) := by rw [show 48 + (x : Int) = ((48 + x : Nat) : Int) by omega]; exact w_in (by simp only [inb]; omega)
      
      repeat' (first | (apply RW.q1; (first | (apply q_rem; exact rfl; exact rfl; decide; exact hrm) | (apply q_quo; exact rfl; exact rfl; decide; exact hrd) | (apply q_cint; exact rfl; exact hcx) | exact qt)) | (apply RW.qg; exact gvx; refine hgx tst ?_; intro hg hg'; (first | (apply q_rem; exact evgx; exact evgx; decide; exact hrm) | (apply q_quo; exact evgx; exact evgx; decide; exact hrd) | (apply q_cint; exact evgx; exact hcx) | exact qu)) | refine xsg cts ?_ | (apply CW_condT; exact rfl; exact ar) | (apply CW_condF; exact rfl; exact ar) | ((first | apply RW.s1 | apply RW.s0); exact gva) | (refine hK _ _ ?_; clear hK; refine xsg xsl ?_) | ((first | apply RW.a1 | apply RW.a0 | (apply RW.at; exact gva)); (first | (apply gw_asg; exact rfl) | (apply gw_lit1; exact rfl; exact rfl; exact rfl; exact rfl; decide; intro b) | (apply gw_lit2; exact rfl; exact rfl; exact rfl; exact rfl; intro b) | (apply gw_lit3; exact rfl; exact rfl; exact rfl; exact rfl; exact rfl; intro b) | (apply gw_ap1; exact rfl; exact rfl; infer_instance; infer_instance; exact rfl; exact rfl; exact rfl; exact rfl; omega; intro a c) | (apply gw_ap1n; exact rfl; exact rfl; infer_instance; exact rfl; exact rfl; exact rfl; exact rfl; omega; intro a c) | (fail))) | (apply CW_region; intro K hK) | (apply CW_condX; exact rfl; exact tst; exact tst; all_goals (intro hq hc; try exact no)))
      refine ⟨_, _, _, ⟨i + 1, r', d' ++ [x], _, _, bn' + 1, _, rfl, rfl, rfl, ?_, by rw [List.length_append, g2]; rfl, by omega, hpw, by omega, ?_, by omega⟩, by exact sbe, by exact sbl, by omega⟩
      · rw [g1]; unfold dg8; rw [List.map_append]; rfl
      · rw [← g6, hst, List.append_assoc]; rfl
    · have hend := nxt_end (q := n / 1000000000) g4 hcond
      rw [hend, List.append_nil] at g6
      
      repeat' (first | (apply RW.q1; exact qt) | (apply RW.qg; exact gvx; refine hgx tst ?_; intro hg hg'; exact qu) | refine xsg cts ?_ | (apply CW_condT; exact rfl; exact ar) | (apply CW_condF; exact rfl; exact ar) | ((first | apply RW.s1 | apply RW.s0); exact gva) | (refine hK _ _ ?_; clear hK; refine xsg xsl ?_) | ((first | apply RW.a1 | apply RW.a0 | (apply RW.at; exact gva)); (first | (apply gw_asg; exact rfl) | (apply gw_lit1; exact rfl; exact rfl; exact rfl; exact rfl; decide; intro b) | (apply gw_lit2; exact rfl; exact rfl; exact rfl; exact rfl; intro b) | (apply gw_lit3; exact rfl; exact rfl; exact rfl; exact rfl; exact rfl; intro b) | (apply gw_ap1; exact rfl; exact rfl; infer_instance; infer_instance; exact rfl; exact rfl; exact rfl; exact rfl; omega; intro a c) | (apply gw_ap1n; exact rfl; exact rfl; infer_instance; exact rfl; exact rfl; exact rfl; exact rfl; omega; intro a c) | (fail))) | (apply CW_region; intro K hK) | (apply CW_condX; exact rfl; exact tst; exact tst; all_goals (intro hq hc; try exact no)))
      refine ⟨_, _, _, ⟨n / 1000000000, d', cs', qa, ba', qc, bn', bc', .own 116 1 qa (dgs W32 n).length qc (ws qs) :: L', rfl, rfl, rfl, g1, g2, by rw [g6]; exact said_step h3 h0, by omega, by omega, fun G hG => sl_norm (by exact pkx) hG q2 q1 q3⟩, by exact sbe, by exact sbl, by omega⟩
  · obtain rfl : n = 0 := by omega
    have hd : d = dgs 10 z.natAbs := by
      rcases h3 with ⟨_, h⟩ | ⟨h, _⟩
      · exact h
      · omega
    have e0 : (dgs W32 0).length = 0 := by rw [dgs_zero]; rfl
    have e1 : cs = by8 ((dgs 10 z.natAbs).map digB) := by rw [h1, hd]; exact dg8_by8 (dgs_dg (by decide) _)
    have e2 : ((dgs 10 z.natAbs).map digB).reverse = Lib.decDigits z.natAbs := (dec_rev _ hz0).symm
    have e3 : ((dgs 10 z.natAbs).map digB).length = bn := by rw [List.length_map, ← hd]; exact h2
    subst e1
    obtain ⟨X, hX⟩ : ∃ X, X = (dgs 10 z.natAbs).map digB := ⟨_, rfl⟩
    rw [← hX] at e2 e3 ⊢
    by_cases hzn : z < 0
    · have hdec : decB z = (X ++ [45]).reverse := by unfold decB; rw [if_pos hzn, List.reverse_append, e2]; rfl
      rw [decide_eq_true hzn] at x1
      have hR := fun a c G => reverse_spec (X ++ [45]) a (bn + 1) c G (by rw [List.length_append, e3]; rfl) (by omega)
      rw [show by8 (X ++ [45]) = by8 X ++ [.int .u8 45] from List.map_append, ← hdec] at hR
      
      repeat' (first | (apply RW.q1; (first | (apply q_load; exact rfl; exact rfl; (first | exact Rd.sub x1 (by exact sbl) | exact Rd.sub x2 (by exact sbl))) | exact qt)) | (apply RW.qg; exact gvx; refine hgx tst ?_; intro hg hg'; (first | (apply q_load; exact rfl; exact evgx; (first | exact Rd.sub x1 (by exact sbl) | exact Rd.sub x2 (by exact sbl))) | exact qu)) | refine xsg cts ?_ | (apply CW_condT; exact rfl; exact ar) | (apply CW_condF; exact rfl; exact ar) | ((first | apply RW.s1 | apply RW.s0); exact gva) | (refine hK _ _ ?_; clear hK; refine xsg xsl ?_) | ((first | apply RW.a1 | apply RW.a0 | (apply RW.at; exact gva)); (first | (apply gw_callc (f := 105) (M := [.own 5 1 _ _ _ _]); exact evx; exact go105; exact pcs; intro G hG; refine SC.mono (hR _ _ G) ?_; rintro v M rfl; (try dsimp only [jL, jM])) | (apply gw_b2s (bs := decB z); exact rfl; exact fun G hG => sl_own (by exact pkx) hG) | (apply gw_asg; exact rfl) | (apply gw_lit1; exact rfl; exact rfl; exact rfl; exact rfl; decide; intro b) | (apply gw_lit2; exact rfl; exact rfl; exact rfl; exact rfl; intro b) | (apply gw_lit3; exact rfl; exact rfl; exact rfl; exact rfl; exact rfl; intro b) | (apply gw_ap1; exact rfl; exact rfl; infer_instance; infer_instance; exact rfl; exact rfl; exact rfl; exact rfl; omega; intro a c) | (apply gw_ap1n; exact rfl; exact rfl; infer_instance; exact rfl; exact rfl; exact rfl; exact rfl; omega; intro a c) | (fail))) | (apply CW_region; intro K hK) | (apply CW_condX; exact rfl; exact tst; exact tst; all_goals (intro hq hc; try exact no)))
      all_goals (refine CW_ret ?_; refine xsg xsl ?_; refine bR [.tmp 2] [] ?_)
      all_goals exact ⟨rfl, rfl⟩
    · have hdec : decB z = X.reverse := by unfold decB; rw [if_neg hzn, e2]
      rw [decide_eq_false hzn] at x1
      have hR := fun a c G => reverse_spec X a bn c G e3 (by omega)
      rw [← hdec] at hR
      
      repeat' (first | (apply RW.q1; (first | (apply q_load; exact rfl; exact rfl; (first | exact Rd.sub x1 (by exact sbl) | exact Rd.sub x2 (by exact sbl))) | exact qt)) | (apply RW.qg; exact gvx; refine hgx tst ?_; intro hg hg'; (first | (apply q_load; exact rfl; exact evgx; (first | exact Rd.sub x1 (by exact sbl) | exact Rd.sub x2 (by exact sbl))) | exact qu)) | refine xsg cts ?_ | (apply CW_condT; exact rfl; exact ar) | (apply CW_condF; exact rfl; exact ar) | ((first | apply RW.s1 | apply RW.s0); exact gva) | (refine hK _ _ ?_; clear hK; refine xsg xsl ?_) | ((first | apply RW.a1 | apply RW.a0 | (apply RW.at; exact gva)); (first | (apply gw_callc (f := 105) (M := [.own 5 1 _ _ _ _]); exact evx; exact go105; exact pcs; intro G hG; refine SC.mono (hR _ _ G) ?_; rintro v M rfl; (try dsimp only [jL, jM])) | (apply gw_b2s (bs := decB z); exact rfl; exact fun G hG => sl_own (by exact pkx) hG) | (apply gw_asg; exact rfl) | (apply gw_lit1; exact rfl; exact rfl; exact rfl; exact rfl; decide; intro b) | (apply gw_lit2; exact rfl; exact rfl; exact rfl; exact rfl; intro b) | (apply gw_lit3; exact rfl; exact rfl; exact rfl; exact rfl; exact rfl; intro b) | (apply gw_ap1; exact rfl; exact rfl; infer_instance; infer_instance; exact rfl; exact rfl; exact rfl; exact rfl; omega; intro a c) | (apply gw_ap1n; exact rfl; exact rfl; infer_instance; exact rfl; exact rfl; exact rfl; exact rfl; omega; intro a c) | (fail))) | (apply CW_region; intro K hK) | (apply CW_condX; exact rfl; exact tst; exact tst; all_goals (intro hq hc; try exact no)))
      all_goals (refine CW_ret ?_; refine xsg xsl ?_; refine bR [.tmp 2] [] ?_)
      all_goals exact ⟨rfl, rfl⟩
end Go.Proofs.YtnhbipachchlgaaGreat.HL
namespace Go.Proofs.YtnhbipachchlgaaGreat.HL
open Go
attribute [local irreducible] goFn thenS blockS bodyS CW RW DW GW QW NW SC Pick Picks SubL Rd NN ResOk SrcW subE hops hseg AW hgen HC qv bldv
set_option linter.unusedVariables false
set_option linter.unusedSimpArgs false

theorem or_zero {x : Nat} (hx : x < 18446744073709551616) : bitI .or .u64 (0 : Int) (x : Int) = some (x : Int) := by
  have h2 : (BitVec.ofInt 64 (x : Int)).toNat = x := by rw [BitVec.toNat_ofInt]; omega
  have h4 : ((BitVec.ofInt 64 (0 : Int) ||| BitVec.ofInt 64 (x : Int)).toNat : Int) = (x : Int) := by
    rw [BitVec.toNat_or, h2, show (BitVec.ofInt 64 (0 : Int)).toNat = 0 by decide, Nat.zero_or]
  show some (IntKind.u64.wrap ((BitVec.ofInt 64 (0 : Int) ||| BitVec.ofInt 64 (x : Int)).toNat : Int)) = _
  rw [h4, HL.wrap64]
  congr 1; omega
theorem wrapi64 (n : Int) : IntKind.i64.wrap n = if n % 18446744073709551616 ≥ 9223372036854775808 then n % 18446744073709551616 - 18446744073709551616 else n % 18446744073709551616 := by
  unfold IntKind.wrap
  simp [IntKind.bits, IntKind.signed]
theorem int64_spec (z : Int) (bx ox : Nat) (H : Hp) (L : List Res) (hx : IntW H L bx ox z) (hz : -9223372036854775808 ≤ z ∧ z ≤ 9223372036854775807) :
    SC Tryz.prog 93 [.pointer (some ⟨bx, ox, none⟩)] H L (fun v M => v = .int .i64 z ∧ M = L) := by
  obtain ⟨xa, xc, x1, x2, x3⟩ := hx
  obtain ⟨xs, hxs⟩ : ∃ xs, xs = wd z := ⟨_, rfl⟩
  have vx : nv W32 xs = z.natAbs := by rw [hxs]; exact nv_dgs w1 _
  have dx : Dg W32 xs := by rw [hxs]; exact dgs_dg w1 _
  have hl2 : xs.length ≤ 2 := by rw [hxs]; exact dgs_len_of_lt w1 (by show z.natAbs < 18446744073709551616; omega)
  rw [← hxs] at x2 x3
  obtain ⟨n, hn⟩ : ∃ n, n = xs.length := ⟨_, rfl⟩
  rw [← hn] at x2 x3 hl2
  (refine SC_intro Tryz.func93 rfl (by kernel_rfl) (by rw [Tryz.ntmps93]; exact Nat.le_of_ble_eq_true rfl) ?_; simp only [Tryz.ntmps93, argE, Nat.reduceAdd])
  
  repeat' (first | (apply RW.q1; (first | (apply q_load; exact rfl; exact rfl; (first | exact Rd.sub x1 (by exact sbl) | exact Rd.sub x2 (by exact sbl))) | exact qt)) | refine xsg cts ?_ | (apply CW_condT; exact rfl; exact ar) | (apply CW_condF; exact rfl; exact ar) | (refine hK _ _ ?_; clear hK; refine xsg xsl ?_) | ((first | apply RW.a1 | apply RW.a0); (first | (apply gw_asg; exact rfl) | (fail))) | (apply CW_region; intro K hK) | (apply CW_condX; exact rfl; exact tst; exact tst; all_goals (intro hq hc; try exact no)))
  refine CW_loop (fun m l L' => ∃ (k u : Nat), m = n - k ∧ l = [(0, true, .pointer (some ⟨bx, ox, none⟩)), (3, true, .int .u64 (u : Nat)), (9, true, .slice xa n xc), (10, true, .int .i64 (n : Nat)), (11, true, .int .i64 (k : Nat))] ∧ L' = L ∧ k ≤ n ∧ u = nv W32 (xs.take k))
    ⟨_, _, _, ⟨0, 0, rfl, rfl, rfl, by omega, by simp [nv]⟩, by exact sbe, by exact sbl⟩ ?_
  rintro m l L' ⟨k, u, rfl, rfl, rfl, h1, h2⟩
  by_cases hk : k < n
  · obtain ⟨x, hxk⟩ : ∃ d, xs[k]? = some d := ⟨_, List.getElem?_eq_getElem (by omega)⟩
    have hxw : x < 4294967296 := dg_at dx hxk
    have hst := nv_take (B := W32) hxk
    rw [← h2] at hst
    rcases (show k = 0 ∨ k = 1 by omega) with rfl | rfl
    · have hu : u = 0 := by rw [h2]; rfl
      subst hu
      have hsl : IntKind.u64.wrap ((x : Int) * 2 ^ (min (32 * (0 : Int)).toNat IntKind.u64.bits)) = (x : Int) := by
        rw [show (2 : Int) ^ (min (32 * (0 : Int)).toNat IntKind.u64.bits) = 1 by decide, HL.wrap64]; omega
      have hor := or_zero (x := x) (by omega)
      
      repeat' (first | (apply RW.q1; (first | (apply q_shl; exact rfl; exact rfl; decide; exact hsl) | (apply q_bit; exact rfl; exact rfl; exact hor) | (apply q_ldr; exact rfl; exact rfl; exact x3; exact ws_at hxk _ (by omega)) | exact qt)) | refine xsg cts ?_ | (apply CW_condT; exact rfl; exact ar) | (apply CW_condF; exact rfl; exact ar) | (refine hK _ _ ?_; clear hK; refine xsg xsl ?_) | ((first | apply RW.a1 | apply RW.a0); (first | (apply gw_asg; exact rfl) | (fail))) | (apply CW_region; intro K hK) | (apply CW_condX; exact rfl; exact tst; exact tst; all_goals (intro hq hc; try exact no)))
      exact ⟨_, _, _, ⟨1, x, rfl, rfl, rfl, by omega, by rw [hst]; simp⟩, by exact sbe, by exact sbl, by omega⟩
    · have huw : u < 4294967296 := by
        have := nv_lt (dg_take dx 1)
        rw [← h2, List.length_take, Nat.min_eq_left (by omega), Nat.pow_one] at this
        exact this
      have hsl : IntKind.u64.wrap ((x : Int) * 2 ^ (min (32 * (1 : Int)).toNat IntKind.u64.bits)) = ((x * 4294967296 : Nat) : Int) := by
        rw [show (2 : Int) ^ (min (32 * (1 : Int)).toNat IntKind.u64.bits) = 4294967296 by decide, HL.wrap64]; omega
      have hor := or_word' hxw huw
      
      repeat' (first | (apply RW.q1; (first | (apply q_shl; exact rfl; exact rfl; decide; exact hsl) | (apply q_bit; exact rfl; exact rfl; exact hor) | (apply q_ldr; exact rfl; exact rfl; exact x3; exact ws_at hxk _ (by omega)) | exact qt)) | refine xsg cts ?_ | (apply CW_condT; exact rfl; exact ar) | (apply CW_condF; exact rfl; exact ar) | (refine hK _ _ ?_; clear hK; refine xsg xsl ?_) | ((first | apply RW.a1 | apply RW.a0); (first | (apply gw_asg; exact rfl) | (fail))) | (apply CW_region; intro K hK) | (apply CW_condX; exact rfl; exact tst; exact tst; all_goals (intro hq hc; try exact no)))
      exact ⟨_, _, _, ⟨2, x * 4294967296 + u, rfl, rfl, rfl, by omega, by rw [hst, Nat.pow_one, Nat.mul_comm W32 x]; exact Nat.add_comm _ _⟩, by exact sbe, by exact sbl, by omega⟩
  · obtain rfl : k = n := by omega
    rw [List.take_of_length_le (by omega), vx] at h2
    by_cases hzn : z < 0
    · rw [decide_eq_true hzn] at x1
      have hneg : IntKind.u64.wrap (0 - (u : Int)) = 18446744073709551616 - (u : Int) := by rw [HL.wrap64]; omega
      have hcv : IntKind.i64.wrap (18446744073709551616 - (u : Int)) = z := by rw [wrapi64]; split <;> omega
      
      repeat' (first | (apply RW.q1; (first | (apply q_load; exact rfl; exact rfl; (first | exact Rd.sub x1 (by exact sbl) | exact Rd.sub x2 (by exact sbl))) | (apply q_neg; exact rfl; exact hneg) | (apply q_cint; exact rfl; exact hcv) | exact qt)) | refine xsg cts ?_ | (apply CW_condT; exact rfl; exact ar) | (apply CW_condF; exact rfl; exact ar) | (refine hK _ _ ?_; clear hK; refine xsg xsl ?_) | ((first | apply RW.a1 | apply RW.a0); (first | (apply gw_asg; exact rfl) | (fail))) | (apply CW_region; intro K hK) | (apply CW_condX; exact rfl; exact tst; exact tst; all_goals (intro hq hc; try exact no)))
      all_goals (refine CW_ret ?_; refine xsg xsl ?_; refine bR [.tmp 2] L' ?_)
      all_goals exact ⟨rfl, rfl⟩
    · rw [decide_eq_false hzn] at x1
      have hcv : IntKind.i64.wrap (u : Int) = z := by rw [wrapi64]; split <;> omega
      
      repeat' (first | (apply RW.q1; (first | (apply q_load; exact rfl; exact rfl; (first | exact Rd.sub x1 (by exact sbl) | exact Rd.sub x2 (by exact sbl))) | (apply q_cint; exact rfl; exact hcv) | exact qt)) | refine xsg cts ?_ | (apply CW_condT; exact rfl; exact ar) | (apply CW_condF; exact rfl; exact ar) | (refine hK _ _ ?_; clear hK; refine xsg xsl ?_) | ((first | apply RW.a1 | apply RW.a0); (first | (apply gw_asg; exact rfl) | (fail))) | (apply CW_region; intro K hK) | (apply CW_condX; exact rfl; exact tst; exact tst; all_goals (intro hq hc; try exact no)))
      all_goals (refine CW_ret ?_; refine xsg xsl ?_; refine bR [.tmp 2] L' ?_)
      all_goals exact ⟨rfl, rfl⟩
end Go.Proofs.YtnhbipachchlgaaGreat.HL
namespace Go.Proofs.YtnhbipachchlgaaGreat.HL
open Go
attribute [local irreducible] goFn thenS blockS bodyS CW RW DW GW QW NW SC Pick Picks SubL Rd NN ResOk SrcW subE hops hseg AW hgen HC qv bldv
set_option linter.unusedVariables false
set_option linter.unusedSimpArgs false

theorem more_spec (xs : List Nat) (t d : Nat) (a : Option Addr) (n c : Nat) (H : Hp) (hn : xs.length = n) (hN : n ≤ 1048576) (hd : Dg W32 xs) (ht : t < 4294967296) (hdw : d < 4294967296) :
    SC Tryz.prog 141 [.slice a n c, .int .u32 (t : Nat), .int .u32 (d : Nat)] H [.own 116 1 a n c (ws xs)] (fun v M => ∃ a' n' c' ys, v = .slice a' n' c' ∧ M = [.own 116 1 a' n' c' (ws ys)] ∧ ys.length = n' ∧ n' ≤ n + 1 ∧ Dg W32 ys ∧ nv W32 ys = nv W32 xs * t + d) := by
  (refine SC_intro Tryz.func141 rfl (by kernel_rfl) (by rw [Tryz.ntmps141]; exact Nat.le_of_ble_eq_true rfl) ?_; simp only [Tryz.ntmps141, argE, Nat.reduceAdd])
  
  repeat' (first | (apply RW.q1; exact qt) | refine xsg cts ?_ | (apply CW_condT; exact rfl; exact ar) | (apply CW_condF; exact rfl; exact ar) | (refine hK _ _ ?_; clear hK; refine xsg xsl ?_) | ((first | apply RW.a1 | apply RW.a0); (first | (apply gw_asg; exact rfl) | (apply gw_lit1; exact rfl; exact rfl; exact rfl; exact rfl; decide; intro b) | (apply gw_lit2; exact rfl; exact rfl; exact rfl; exact rfl; intro b) | (apply gw_lit3; exact rfl; exact rfl; exact rfl; exact rfl; exact rfl; intro b) | (apply gw_ap1; exact rfl; exact rfl; infer_instance; infer_instance; exact rfl; exact rfl; exact rfl; exact rfl; omega; intro a c) | (apply gw_ap1n; exact rfl; exact rfl; infer_instance; exact rfl; exact rfl; exact rfl; exact rfl; omega; intro a c) | (refine gw_stx sto ?_) | (fail))) | (apply CW_region; intro K hK) | (apply CW_condX; exact rfl; exact tst; exact tst; all_goals (intro hq hc; try exact no)))
  refine CW_loop (fun m l L => ∃ (k cc : Nat) (ys : List Nat), m = n - k ∧ l = [(0, true, .slice a n c), (1, true, .int .u32 (t : Nat)), (7, true, .int .u64 (cc : Nat)), (12, true, .int .i64 (n : Nat)), (13, true, .int .i64 (k : Nat))] ∧
      L = [.own 116 1 a n c (ws ys)] ∧ k ≤ n ∧ ys.length = n ∧ Dg W32 ys ∧ cc < 4294967296 ∧ ys.drop k = xs.drop k ∧ nv W32 (ys.take k) + W32 ^ k * cc = nv W32 (xs.take k) * t + d)
    ⟨_, _, _, ⟨0, d, xs, rfl, rfl, rfl, by omega, hn, hd, hdw, rfl, by simp [nv]⟩, by exact sbe, by exact sbl⟩ ?_
  rintro m l L ⟨k, cc, ys, rfl, rfl, rfl, h1, h2, h3, h4, h5, h6⟩
  by_cases hk : k < n
  · obtain ⟨x, hxk⟩ : ∃ d, ys[k]? = some d := ⟨_, List.getElem?_eq_getElem (by omega)⟩
    have hxk' : xs[k]? = some x := by rw [← drop_at h5 (Nat.le_refl k)]; exact hxk
    have hxw : x < 4294967296 := dg_at h3 hxk
    have hpb : x * t ≤ 18446744065119617025 := by
      have := Nat.mul_le_mul (show x ≤ 4294967295 by omega) (show t ≤ 4294967295 by omega)
      omega
    obtain ⟨p, hp⟩ : ∃ p, p = x * t := ⟨_, rfl⟩
    have hpi : ((x : Nat) : Int) * ((t : Nat) : Int) = (p : Int) := by rw [hp]; exact (Int.natCast_mul ..).symm
    rw [← hp] at hpb
    have wpi : IntKind.u64.wrap (((x : Nat) : Int) * ((t : Nat) : Int)) = (p : Int) := by rw [hpi]; exact w_in (by simp only [inb]; omega)
    obtain ⟨tt, htt⟩ : ∃ tt, tt = cc + p := ⟨_, rfl⟩
    have wadd : IntKind.u64.wrap ((cc : Int) + (p : Int)) = (tt : Int) := by rw [HL.wrap64]; omega
    have wsh : (tt : Int).fdiv (2 ^ (min (32 : Int).toNat IntKind.u64.bits)) = ((tt / 4294967296 : Nat) : Int) := by
      rw [show (2 : Int) ^ (min (32 : Int).toNat IntKind.u64.bits) = ((4294967296 : Nat) : Int) by decide, Int.fdiv_eq_ediv_of_nonneg _ (by omega)]
      omega
    have wcv : IntKind.u32.wrap (tt : Int) = ((tt % 4294967296 : Nat) : Int) := by rw [HL.wrap32]; omega
    have hmw : tt % 4294967296 < 4294967296 := Nat.mod_lt _ (by decide)
    have hcw : tt / 4294967296 < 4294967296 := by omega
    have hsp := split_mul W32 k tt
    have hst : nv W32 (ys.take k) + W32 ^ k * (tt % 4294967296) + W32 ^ (k + 1) * (tt / 4294967296) = (nv W32 (xs.take k) + W32 ^ k * x) * t + d := by
      rw [Nat.add_mul, Nat.mul_assoc, ← hp]
      rw [show W32 ^ k * tt = W32 ^ k * cc + W32 ^ k * p by rw [htt, Nat.mul_add]] at hsp
      have e : W32 ^ k * (tt % 4294967296) + W32 ^ (k + 1) * (tt / 4294967296) = W32 ^ k * cc + W32 ^ k * p := hsp
      rw [Nat.add_assoc, e]
      omega
    generalize tt % 4294967296 = mm at wcv hmw hst
    generalize tt / 4294967296 = c2 at wsh hst hcw
    
    repeat' (first | (apply RW.q1; (first | (apply q_mul; exact rfl; exact rfl; exact wpi) | (apply q_add; exact rfl; exact rfl; exact wadd) | (apply q_shr; exact rfl; exact rfl; decide; exact wsh) | (apply q_cint; exact rfl; exact wcv) | (apply q_ldo; exact rfl; exact rfl; infer_instance; exact ws_at hxk _ (by omega)) | exact qt)) | refine xsg cts ?_ | (apply CW_condT; exact rfl; exact ar) | (apply CW_condF; exact rfl; exact ar) | (refine hK _ _ ?_; clear hK; refine xsg xsl ?_) | ((first | apply RW.a1 | apply RW.a0); (first | (apply gw_sow k mm; exact rfl; exact rfl; infer_instance; omega; exact rfl; omega) | (apply gw_asg; exact rfl) | (apply gw_lit1; exact rfl; exact rfl; exact rfl; exact rfl; decide; intro b) | (apply gw_lit2; exact rfl; exact rfl; exact rfl; exact rfl; intro b) | (apply gw_lit3; exact rfl; exact rfl; exact rfl; exact rfl; exact rfl; intro b) | (apply gw_ap1; exact rfl; exact rfl; infer_instance; infer_instance; exact rfl; exact rfl; exact rfl; exact rfl; omega; intro a c) | (apply gw_ap1n; exact rfl; exact rfl; infer_instance; exact rfl; exact rfl; exact rfl; exact rfl; omega; intro a c) | (refine gw_stx sto ?_) | (fail))) | (apply CW_region; intro K hK) | (apply CW_condX; exact rfl; exact tst; exact tst; all_goals (intro hq hc; try exact no)))
    refine ⟨_, _, _, ⟨k + 1, c2, ys.set k mm, rfl, rfl, rfl, by omega, by rw [List.length_set]; exact h2, dg_set h3 hmw, hcw, drop_set1 h5, ?_⟩, by exact sbe, by exact sbl, by omega⟩
    rw [nv_settake mm (by omega), nv_take hxk']
    exact hst
  · obtain rfl : k = n := by omega
    rw [List.take_of_length_le (by omega), List.take_of_length_le (by omega)] at h6
    have wcv : IntKind.u32.wrap (cc : Int) = (cc : Int) := w_in (by simp only [inb]; omega)
    by_cases hc0 : 0 < cc
    · have happ : ws ys ++ [Value.int .u32 (cc : Int)] = ws (ys ++ [cc]) := by unfold ws; rw [List.map_append]; rfl
      
      repeat' (first | (apply RW.q1; (first | (apply q_cint; exact rfl; exact wcv) | exact qt)) | refine xsg cts ?_ | (apply CW_condT; exact rfl; exact ar) | (apply CW_condF; exact rfl; exact ar) | (refine hK _ _ ?_; clear hK; refine xsg xsl ?_) | ((first | apply RW.a1 | apply RW.a0); (first | (apply gw_asg; exact rfl) | (apply gw_lit1; exact rfl; exact rfl; exact rfl; exact rfl; decide; intro b) | (apply gw_lit2; exact rfl; exact rfl; exact rfl; exact rfl; intro b) | (apply gw_lit3; exact rfl; exact rfl; exact rfl; exact rfl; exact rfl; intro b) | (apply gw_ap1; exact rfl; exact rfl; infer_instance; infer_instance; exact rfl; exact rfl; exact rfl; exact rfl; omega; intro a c) | (apply gw_ap1n; exact rfl; exact rfl; infer_instance; exact rfl; exact rfl; exact rfl; exact rfl; omega; intro a c) | (refine gw_stx sto ?_) | (fail))) | (apply CW_region; intro K hK) | (apply CW_condX; exact rfl; exact tst; exact tst; all_goals (intro hq hc; try exact no)))
      rw [happ]
      (refine CW_ret ?_; refine xsg xsl ?_; refine bR [.tmp 6] [.own 116 1 a (k + 1) c (ws (ys ++ [cc]))] ?_)
      refine ⟨a, k + 1, c, ys ++ [cc], rfl, rfl, by rw [List.length_append, h2]; rfl, by omega, dg_append.2 ⟨h3, dg_one h4⟩, ?_⟩
      rw [nv_app, h2, ← h6]
      simp [nv]
    · 
      repeat' (first | (apply RW.q1; exact qt) | refine xsg cts ?_ | (apply CW_condT; exact rfl; exact ar) | (apply CW_condF; exact rfl; exact ar) | (refine hK _ _ ?_; clear hK; refine xsg xsl ?_) | ((first | apply RW.a1 | apply RW.a0); (first | (apply gw_asg; exact rfl) | (apply gw_lit1; exact rfl; exact rfl; exact rfl; exact rfl; decide; intro b) | (apply gw_lit2; exact rfl; exact rfl; exact rfl; exact rfl; intro b) | (apply gw_lit3; exact rfl; exact rfl; exact rfl; exact rfl; exact rfl; intro b) | (apply gw_ap1; exact rfl; exact rfl; infer_instance; infer_instance; exact rfl; exact rfl; exact rfl; exact rfl; omega; intro a c) | (apply gw_ap1n; exact rfl; exact rfl; infer_instance; exact rfl; exact rfl; exact rfl; exact rfl; omega; intro a c) | (refine gw_stx sto ?_) | (fail))) | (apply CW_region; intro K hK) | (apply CW_condX; exact rfl; exact tst; exact tst; all_goals (intro hq hc; try exact no)))
      all_goals (refine CW_ret ?_; refine xsg xsl ?_; refine bR [.tmp 6] [.own 116 1 a k c (ws ys)] ?_)
      all_goals exact ⟨a, k, c, ys, rfl, rfl, h2, by omega, h3, by rw [← h6, show cc = 0 by omega, Nat.mul_zero, Nat.add_zero]⟩
end Go.Proofs.YtnhbipachchlgaaGreat.HL
namespace Go.Proofs.YtnhbipachchlgaaGreat.HL
open Go
set_option linter.unusedSimpArgs false
set_option linter.unusedVariables false

theorem bstr_app (a b : List UInt8) : bstr a ++ bstr b = bstr (a ++ b) := by
  apply ByteArray.ext
  simp [bstr]
theorem bstr_inj {a b : List UInt8} (h : bstr a = bstr b) : a = b := by
  have := congrArg (fun b : ByteArray => b.data.toList) h
  simpa [bstr] using this
theorem bstr_sz (l : List UInt8) : (bstr l).size = l.length := rfl
theorem bstr_of (s : ByteArray) : ∃ l, s = bstr l := ⟨s.data.toList, by apply ByteArray.ext; simp [bstr]⟩
theorem bstr_ext (l : List UInt8) (i j : Nat) : (bstr l).extract i j = bstr ((l.drop i).take (j - i)) := by
  apply ByteArray.ext
  rw [ByteArray.data_extract]
  simp [bstr]
theorem bt_bstr {s : List UInt8} {c : UInt8} {j : Int} (hc : s[j.toNat]? = some c) : bt (bstr s) j = (c.toNat : Int) := by
  have hlt : j.toNat < s.length := by
    rcases Nat.lt_or_ge j.toNat s.length with h' | h'
    · exact h'
    · rw [List.getElem?_eq_none h'] at hc; cases hc
  rw [List.getElem?_eq_getElem hlt] at hc
  show ((s.toArray.toList.getD j.toNat 0).toNat : Int) = _
  rw [List.getD_eq_getElem?_getD, List.toList_toArray, List.getElem?_eq_getElem hlt, Option.getD_some, Option.some.inj hc]
theorem bstr_dec (a b : List UInt8) : decide (bstr a = bstr b) = decide (a = b) := decide_eq_decide.2 ⟨bstr_inj, fun h => by rw [h]⟩
section
variable {P : Program} {l : Ents} {H : Hp} {L L' : List Res} {d : Option Tmp} {T : TypeId} {pos : String} {aft : Array Edge} {gd : Option (Nat × Bool)}
theorem q_lenb {x : Operand} {t : TypeId} {s : List UInt8} [hu : Und P t .string] (hx : evg l true x = some (.string (bstr s))) : QW P l H L ⟨d, .call ⟨.builtin .len, #[x], #[t]⟩, T, pos, aft, gd⟩ (.int .i64 s.length) := q_lens hx
theorem q_ixc {t : TypeId} {x i : Operand} {s : List UInt8} {k : IntKind} {j : Int} (c : UInt8) [hu : Und P t .string] (hx : evg l true x = some (.string (bstr s))) (hi : evg l true i = some (.int k j)) (hc : s[j.toNat]? = some c) (h0 : 0 ≤ j) :
    QW P l H L ⟨d, .index t x i, T, pos, aft, gd⟩ (.int .u8 (c.toNat : Int)) := by
  rw [← bt_bstr hc]
  refine q_ixstr hx hi h0 ?_
  have hlt : j.toNat < s.length := by
    rcases Nat.lt_or_ge j.toNat s.length with h' | h'
    · exact h'
    · rw [List.getElem?_eq_none h'] at hc; cases hc
  rw [bstr_sz]; omega
theorem q_sbhi {t : TypeId} {x hi : Operand} {s : List UInt8} {kd : IntKind} {j : Int} (k : Nat) [hu : Und P t .string] (hx : evg l true x = some (.string (bstr s))) (hh : evg l true hi = some (.int kd j)) (hj : j = (k : Int)) (hk : k ≤ s.length) :
    QW P l H L ⟨d, .slice t x none (some hi) none, T, pos, aft, gd⟩ (.string (bstr (s.take k))) := by
  have e0 : evo l true none = some none := rfl
  have e1 : evo l true (some hi) = some (some (.int kd j)) := by simp [evo, hh]
  have h := q_str (P := P) (H := H) (L := L) (d := d) (T := T) (pos := pos) (aft := aft) (gd := gd) (t := t) hx e0 e1 (bnd_hi (by omega) (by rw [bstr_sz]; omega))
  rw [bstr_ext, show j.toNat - 0 = k by omega, List.drop_zero] at h
  exact h
theorem q_sblo {t : TypeId} {x lo : Operand} {s : List UInt8} {kd : IntKind} {j : Int} (k : Nat) [hu : Und P t .string] (hx : evg l true x = some (.string (bstr s))) (hl : evg l true lo = some (.int kd j)) (hj : j = (k : Int)) (hk : k ≤ s.length) :
    QW P l H L ⟨d, .slice t x (some lo) none none, T, pos, aft, gd⟩ (.string (bstr (s.drop k))) := by
  have e0 : evo l true none = some none := rfl
  have e1 : evo l true (some lo) = some (some (.int kd j)) := by simp [evo, hl]
  have h := q_str (P := P) (H := H) (L := L) (d := d) (T := T) (pos := pos) (aft := aft) (gd := gd) (t := t) hx e1 e0 (bnd_lo (by omega) (by rw [bstr_sz]; omega) (Nat.le_refl _))
  rw [bstr_ext, show j.toNat = k by omega, List.take_of_length_le (by rw [List.length_drop, bstr_sz]; exact Nat.le_refl _)] at h
  exact h
theorem q_sbeq {t ty : TypeId} {x y : Operand} {a b : List UInt8} (hx : evg l true x = some (.string (bstr a))) (hy : evg l true y = some (.string (bstr b))) :
    QW P l H L ⟨d, .binOp .eql t x y ty, T, pos, aft, gd⟩ (.bool (decide (a = b))) := by
  rw [← bstr_dec]
  exact q_scmp hx hy rfl
theorem q_sbne {t ty : TypeId} {x y : Operand} {a b : List UInt8} (hx : evg l true x = some (.string (bstr a))) (hy : evg l true y = some (.string (bstr b))) :
    QW P l H L ⟨d, .binOp .neq t x y ty, T, pos, aft, gd⟩ (.bool (!decide (a = b))) := by
  rw [← bstr_dec]
  exact q_scmp hx hy rfl
theorem q_sapp {t ty : TypeId} {x y : Operand} {a b : List UInt8} (hx : evg l true x = some (.string (bstr a))) (hy : evg l true y = some (.string (bstr b))) (h : ((a.length + b.length : Nat) : Int) ≤ 9223372036854775807) :
    QW P l H L ⟨d, .binOp .add t x y ty, T, pos, aft, gd⟩ (.string (bstr (a ++ b))) := by
  rw [← bstr_app]
  exact q_sadd hx hy h
end
theorem at8 {bs : List UInt8} {k j : Nat} {c : UInt8} (h : bs[k]? = some c) (hj : j = k) : ((by8 bs).drop j).take 1 = [.int .u8 c.toNat] := at_one (by rw [List.getElem?_map, h]; rfl) hj
end Go.Proofs.YtnhbipachchlgaaGreat.HL
namespace Go.Proofs.YtnhbipachchlgaaGreat.HL
open Go
attribute [local irreducible] goFn thenS blockS bodyS CW RW DW GW QW NW SC Pick Picks SubL Rd NN ResOk SrcW subE hops hseg AW hgen HC qv bldv
set_option linter.unusedVariables false
set_option linter.unusedSimpArgs false

theorem putW_spec (b off : Nat) (TB : TypeId) (cs : List Value) (s : Bool) (ds : List Nat) (n : Nat) (a : Option Addr) (m c : Nat) (H : Hp) (hoff : off + 1 < cs.length) (hx : Rs H 1 a m c (ws ds)) (hm : ds.length = m) (hN : m ≤ 1099511627776) (hd : Dg W32 ds) (hv : nv W32 ds = n) :
    SC Tryz.prog 111 [.pointer (some ⟨b, off, none⟩), .bool s, .slice a m c] H [.box b TB cs] (fun v M => v = .pointer (some ⟨b, off, none⟩) ∧ M = [.box b TB (intC cs off (sg s n) a c)]) := by
  have h := put_spec b off TB cs s ds a m c H hoff hx hm hN hd
  rw [hv, sg_neg] at h
  unfold intC
  rw [wd_sg]
  exact h
theorem subl_int {L L' M : List Res} {a : Option Addr} {m c n : Nat} {ds : List Nat} {s : Bool} (hp : Pick L (.own 116 1 a m c (ws ds)) L') (hd : Dg W32 ds) (hm : ds.length = m) (hv : nv W32 ds = n) (h : SubL M L') : SubL (intR (sg s n) a c :: M) L := by
  unfold intR
  rw [wd_sg, ← hv]
  exact subl_norm hp hd hm h
theorem dv_lt : ∀ (n : Nat) (l : List UInt8), l.length = n → isDg l → dv l < 10 ^ n := by
  intro n
  induction n with
  | zero => intro l h _; rw [List.length_eq_zero_iff.1 h]; decide
  | succ n ih =>
    intro l h hd
    have hne : l ≠ [] := fun e => by rw [e] at h; cases h
    obtain ⟨k, c, rfl⟩ : ∃ k c, l = k ++ [c] := ⟨l.dropLast, l.getLast hne, (List.dropLast_concat_getLast hne).symm⟩
    have hk : k.length = n := by rw [List.length_append] at h; simpa using h
    have := ih k hk (fun d hd' => hd d (List.mem_append_left _ hd'))
    have hc := hd c (by simp)
    rw [dv_snoc, Nat.pow_succ]
    omega
theorem setString_spec (b off : Nat) (TB : TypeId) (cs : List Value) (bs : List UInt8) (bb : Int) (H : Hp) (hoff : off + 1 < cs.length) (hne : bs ≠ []) (hd : isDg bs) (hl : bs.length ≤ 1000000) :
    SC Tryz.prog 129 [.pointer (some ⟨b, off, none⟩), .string (bstr bs), .int .i64 bb] H [.box b TB cs] (fun v M => v = .tuple #[.pointer (some ⟨b, off, none⟩), .bool true] ∧ ∃ a c, M = [.box b TB (intC cs off ((dv bs : Nat) : Int) a c), intR ((dv bs : Nat) : Int) a c]) := by
  obtain ⟨c0, hc0⟩ : ∃ c, bs[0]? = some c := ⟨_, List.getElem?_eq_getElem (List.length_pos_iff.2 hne)⟩
  have hpos : 0 < bs.length := List.length_pos_iff.2 hne
  have hcd := hd c0 (List.mem_of_getElem? hc0)
  have hnb : ¬ (bs = ([] : List UInt8)) := hne
  have hngf : (decide (0 < (bs.length : Int)) && decide ((c0.toNat : Int) = 45)) = false := by rw [decide_eq_false (p := ((c0.toNat : Int) = 45)) (by omega), Bool.and_false]
  (refine SC_intro Tryz.func129 rfl (by kernel_rfl) (by rw [Tryz.ntmps129]; exact Nat.le_of_ble_eq_true rfl) ?_; simp only [Tryz.ntmps129, argE, Nat.reduceAdd])
  
  repeat' (first | ((first | apply RW.q1 | (apply DW.q1; exact rfl)); (first | (apply q_lenb; exact rfl) | (apply q_ixc c0; exact rfl; exact rfl; exact hc0; decide) | (apply q_sbeq (b := []); exact rfl; exact rfl) | exact qt)) | ((first | apply RW.qg | (apply DW.qg; exact rfl)); exact gvx; refine hgx tst ?_; intro hg hg'; (first | (apply q_lenb; exact evgx) | (apply q_ixc c0; exact evgx; exact evgx; exact hc0; decide) | (apply q_sbeq (b := []); exact evgx; exact evgx) | exact qu)) | refine xsg cts ?_ | (apply CW_condT; exact rfl; exact ar) | (apply CW_condF; exact rfl; exact ar) | ((first | apply RW.s1 | apply RW.s0 | (apply DW.sa; exact rfl)); exact gva) | (refine hK _ _ ?_; clear hK; refine xsg xsl ?_) | (refine xsg ahd ?_; (first | (apply gw_asg; exact rfl) | (fail))) | (apply CW_region; intro K hK) | (apply CW_condX; exact rfl; exact tst; exact tst; all_goals (intro hq hc; try exact no)) | (refine CW_draw (id := 17) [] [(0, false), (1, false), (2, false), (4, false), (5, false), (6, false), (3, true), (7, true), (8, true)] mixed (by kernel_rfl) (fun K hK => ?_)))
  refine CW_loop (fun m l L => ∃ (ng : Bool) (don rest : List UInt8) (ys : List Nat) (wa : Option Addr) (wn wc : Nat) (es : List Value), m = rest.length + 1 ∧ l = [(0, true, .pointer (some ⟨b, off, none⟩)), (1, true, .string (bstr rest)), (8, true, .bool ng), (9, true, .slice wa wn wc)] ∧
      L = [.box b TB cs, .own 116 1 wa wn wc es] ∧ ng = false ∧ es = ws ys ∧ bs = don ++ rest ∧ ys.length = wn ∧ wn ≤ don.length ∧ Dg W32 ys ∧ nv W32 ys = dv don)
    ⟨_, _, _, ⟨(decide (0 < (bs.length : Int)) && decide ((c0.toNat : Int) = 45)), [], bs, [], none, 0, 0, [], rfl, rfl, rfl, hngf, rfl, rfl, rfl, by simp, (fun d hd => by cases hd), rfl⟩, by exact sbe, by exact sbl⟩ ?_
  rintro m l L ⟨ng, don, rest, ys, wa, wn, wc, es, rfl, rfl, rfl, rfl, e1, e2, h1, h2, h3, h4⟩
  subst e1
  have hlen : don.length + rest.length = bs.length := by rw [e2, List.length_append]
  by_cases h0 : 0 < rest.length
  · obtain ⟨n, hn⟩ : ∃ n, n = (rest.length - 1) % 9 + 1 := ⟨_, rfl⟩
    have hn9 : n ≤ 9 := by omega
    have hnl : n ≤ rest.length := by omega
    have hrm : ((rest.length : Int) - 1).tmod 9 = (n : Int) - 1 := by rw [Int.tmod_eq_emod_of_nonneg (by omega)]; omega
    have hdc : isDg (rest.take n) := fun c hc => hd c (by rw [e2]; exact List.mem_append_right _ (List.mem_of_mem_take hc))
    obtain ⟨ch, hch⟩ : ∃ ch, ch = rest.take n := ⟨_, rfl⟩
    have hcl : ch.length = n := by rw [hch, List.length_take]; omega
    rw [← hch] at hdc
    
    repeat' (first | ((first | apply RW.q1 | (apply DW.q1; exact rfl)); (first | (apply q_lenb; exact rfl) | (apply q_rem; exact rfl; exact rfl; decide; exact hrm) | (apply q_sbhi n; exact rfl; exact rfl; omega; omega) | exact qt)) | ((first | apply RW.qg | (apply DW.qg; exact rfl)); exact gvx; refine hgx tst ?_; intro hg hg'; (first | (apply q_lenb; exact evgx) | (apply q_rem; exact evgx; exact evgx; decide; exact hrm) | (apply q_sbhi n; exact evgx; exact evgx; omega; omega) | exact qu)) | refine xsg cts ?_ | (apply CW_condT; exact rfl; exact ar) | (apply CW_condF; exact rfl; exact ar) | ((first | apply RW.s1 | apply RW.s0 | (apply DW.sa; exact rfl)); exact gva) | (refine hK _ _ ?_; clear hK; refine xsg xsl ?_) | (refine xsg ahd ?_; (first | ((apply gw_s2b; exact rfl; intro sa sc; rw [bstr_sz, ← hch, hcl])) | (apply gw_asg; exact rfl) | (fail))) | (apply CW_region; intro K hK) | (apply CW_condX; exact rfl; exact tst; exact tst; all_goals (intro hq hc; try exact no)) | (refine CW_draw (id := 17) [] [(0, false), (1, false), (2, false), (4, false), (5, false), (6, false), (3, true), (7, true), (8, true)] mixed (by kernel_rfl) (fun K hK => ?_)))
    have hcn : isDg ch := hdc
    refine CW_loop (fun m l L => ∃ (i p t : Nat), m = n - i ∧ l = [(0, true, .pointer (some ⟨b, off, none⟩)), (1, true, .string (bstr rest)), (8, true, .bool false), (9, true, .slice wa wn wc), (10, true, .int .i64 (n : Nat)), (11, true, .int .u32 (p : Nat)), (12, true, .int .u32 (t : Nat)), (49, true, .slice sa n sc), (50, true, .int .i64 (n : Nat)), (51, true, .int .i64 (i : Nat))] ∧
        L = [.own 5 1 sa n sc (by8 ch), .box b TB cs, .own 116 1 wa wn wc (ws ys)] ∧ i ≤ n ∧ p = dv (ch.take i) ∧ t = 10 ^ i)
      ⟨_, _, _, ⟨0, 0, 1, rfl, rfl, rfl, Nat.zero_le _, rfl, rfl⟩, by exact sbe, by exact sbl⟩ ?_
    rintro m l L ⟨i, p, t, rfl, rfl, rfl, g1, g2, g3⟩
    by_cases hi : i < n
    · obtain ⟨x, hx⟩ : ∃ c, ch[i]? = some c := ⟨_, List.getElem?_eq_getElem (by omega)⟩
      have hxd := hcn x (List.mem_of_getElem? hx)
      have hpl : p < 10 ^ i := by
        rw [g2]
        exact dv_lt i _ (by rw [List.length_take]; omega) (fun c hc => hcn c (List.mem_of_mem_take hc))
      have hib : 10 ^ i ≤ 100000000 := by
        have : 10 ^ i ≤ 10 ^ 8 := Nat.pow_le_pow_right (by decide) (by omega)
        simpa using this
      rw [← g3] at hpl hib
      have hp' : dv (ch.take (i + 1)) = p * 10 + (x.toNat - 48) := by rw [List.take_add_one, hx, g2]; exact dv_snoc _ _
      have ht' : 10 ^ (i + 1) = t * 10 := by rw [Nat.pow_succ, g3]
      
      repeat' (first | ((first | apply RW.q1 | (apply DW.q1; exact rfl)); (first | (apply q_ldo; exact rfl; exact rfl; infer_instance; exact at8 hx (by omega)) | exact qt)) | ((first | apply RW.qg | (apply DW.qg; exact rfl)); exact gvx; refine hgx tst ?_; intro hg hg'; (first | (apply q_ldo; exact rfl; exact evgx; infer_instance; exact at8 hx (by omega)) | exact qu)) | refine xsg cts ?_ | (apply CW_condT; exact rfl; exact ar) | (apply CW_condF; exact rfl; exact ar) | ((first | apply RW.s1 | apply RW.s0 | (apply DW.sa; exact rfl)); exact gva) | (refine hK _ _ ?_; clear hK; refine xsg xsl ?_) | (refine xsg ahd ?_; (first | (apply gw_asg; exact rfl) | (fail))) | (apply CW_region; intro K hK) | (apply CW_condX; exact rfl; exact tst; exact tst; all_goals (intro hq hc; try exact no)) | (refine CW_draw (id := 17) [] [(0, false), (1, false), (2, false), (4, false), (5, false), (6, false), (3, true), (7, true), (8, true)] mixed (by kernel_rfl) (fun K hK => ?_)))
      exact ⟨_, _, _, ⟨i + 1, p * 10 + (x.toNat - 48), t * 10, rfl, rfl, rfl, by omega, hp'.symm, ht'.symm⟩, by exact sbe, by exact sbl, by omega⟩
    · obtain rfl : i = n := by omega
      rw [List.take_of_length_le (by omega)] at g2
      have hpl : p < 10 ^ i := by rw [g2]; exact dv_lt i _ hcl hcn
      have hib : 10 ^ i ≤ 1000000000 := by
        have : 10 ^ i ≤ 10 ^ 9 := Nat.pow_le_pow_right (by decide) (by omega)
        simpa using this
      rw [← g3] at hpl hib
      
      repeat' (first | ((first | apply RW.q1 | (apply DW.q1; exact rfl)); (first | (apply q_sblo i; exact rfl; exact rfl; omega; omega) | exact qt)) | ((first | apply RW.qg | (apply DW.qg; exact rfl)); exact gvx; refine hgx tst ?_; intro hg hg'; (first | (apply q_sblo i; exact evgx; exact evgx; omega; omega) | exact qu)) | refine xsg cts ?_ | (apply CW_condT; exact rfl; exact ar) | (apply CW_condF; exact rfl; exact ar) | ((first | apply RW.s1 | apply RW.s0 | (apply DW.sa; exact rfl)); exact gva) | (refine hK _ _ ?_; clear hK; refine xsg xsl ?_) | (refine xsg ahd ?_; (first | (apply gw_callc (f := 141) (M := [.own 116 1 wa wn wc (ws ys)]); exact evx; exact go141; exact pcs; intro G hG; refine SC.mono (more_spec ys t p wa wn wc G h1 (by omega) h3 (by omega) (by omega)) ?_; rintro v M ⟨wa', wn', wc', ys', rfl, rfl, y1, y2, y3, y4⟩; (try dsimp only [jL, jM])) | (apply gw_asg; exact rfl) | (fail))) | (apply CW_region; intro K hK) | (apply CW_condX; exact rfl; exact tst; exact tst; all_goals (intro hq hc; try exact no)) | (refine CW_draw (id := 17) [] [(0, false), (1, false), (2, false), (4, false), (5, false), (6, false), (3, true), (7, true), (8, true)] mixed (by kernel_rfl) (fun K hK => ?_)))
      refine ⟨_, _, _, ⟨false, don ++ ch, rest.drop i, ys', wa', wn', wc', _, rfl, rfl, rfl, rfl, rfl, ?_, y1, by rw [List.length_append]; omega, y3, ?_⟩, by exact sbe, by exact sbl, by rw [List.length_drop]; omega⟩
      · rw [e2, List.append_assoc, hch, List.take_append_drop]
      · rw [y4, dv_app, hcl, h4, g2, g3]
  · have hr : rest = [] := List.length_eq_zero_iff.1 (by omega)
    subst hr
    rw [List.append_nil] at e2
    rw [← e2] at h4
    
    repeat' (first | ((first | apply RW.q1 | (apply DW.q1; exact rfl)); (first | (apply q_lenb; exact rfl) | exact qt)) | ((first | apply RW.qg | (apply DW.qg; exact rfl)); exact gvx; refine hgx tst ?_; intro hg hg'; (first | (apply q_lenb; exact evgx) | exact qu)) | refine xsg cts ?_ | (apply CW_condT; exact rfl; exact ar) | (apply CW_condF; exact rfl; exact ar) | ((first | apply RW.s1 | apply RW.s0 | (apply DW.sa; exact rfl)); exact gva) | (refine hK _ _ ?_; clear hK; refine xsg xsl ?_) | (refine xsg ahd ?_; (first | (apply gw_callc (f := 111) (M := [.box b TB cs]); exact evx; exact go111; exact pcs; intro G hG; refine SC.mono (putW_spec b off TB cs false ys (dv bs) wa wn wc G hoff (sl_own (by exact pkx) hG) h1 (by omega) h3 h4) ?_; rintro v M ⟨rfl, rfl⟩; (try dsimp only [jL, jM])) | (apply gw_asg; exact rfl) | (fail))) | (apply CW_region; intro K hK) | (apply CW_condX; exact rfl; exact tst; exact tst; all_goals (intro hq hc; try exact no)) | (refine CW_draw (id := 17) [] [(0, false), (1, false), (2, false), (4, false), (5, false), (6, false), (3, true), (7, true), (8, true)] mixed (by kernel_rfl) (fun K hK => ?_)))
    refine CW_drop [.box b TB (intC cs off (sg false (dv bs)) wa wc), intR (sg false (dv bs)) wa wc] ?_ ?_
    · apply subl_cons
      · exact pkx
      · apply subl_int
        · exact pkx
        · exact h3
        · exact h1
        · exact h4
        · exact subl_nil
    · (refine CW_ret ?_; refine xsg xsl ?_; refine bR [.tmp 6, .tmp 7] [.box b TB (intC cs off (sg false (dv bs)) wa wc), intR (sg false (dv bs)) wa wc] ?_)
      exact ⟨rfl, wa, wc, rfl⟩
end Go.Proofs.YtnhbipachchlgaaGreat.HL
namespace Go.Proofs.YtnhbipachchlgaaGreat.HL
open Go
attribute [local irreducible] goFn thenS blockS bodyS CW RW DW GW QW NW SC Pick Picks SubL Rd NN ResOk SrcW subE hops hseg AW hgen HC qv bldv
set_option linter.unusedVariables false
set_option linter.unusedSimpArgs false

theorem hasPrefix_spec (s p : List UInt8) (H : Hp) : SC Tryz.prog 146 [.string (bstr s), .string (bstr p)] H [] (fun v M => v = .bool (decide (s.take p.length = p)) ∧ M = []) := by
  (refine SC_intro Tryz.func146 rfl (by kernel_rfl) (by rw [Tryz.ntmps146]; exact Nat.le_of_ble_eq_true rfl) ?_; simp only [Tryz.ntmps146, argE, Nat.reduceAdd])
  
  repeat' (first | (apply RW.q1; (first | (apply q_lenb; exact rfl) | (apply q_sbhi p.length; exact rfl; exact rfl; exact rfl; omega) | (apply q_sbeq; exact rfl; exact rfl) | exact qt)) | (apply RW.qg; exact gvx; refine hgx tst ?_; intro hg hg'; (first | (apply q_lenb; exact evgx) | (apply q_sbhi p.length; exact evgx; exact evgx; exact rfl; omega) | (apply q_sbeq; exact evgx; exact evgx) | exact qu)) | refine xsg cts ?_ | (apply CW_condT; exact rfl; exact ar) | (apply CW_condF; exact rfl; exact ar) | ((first | apply RW.s1 | apply RW.s0); exact gva) | (refine hK _ _ ?_; clear hK; refine xsg xsl ?_) | ((first | apply RW.a1 | apply RW.a0 | (apply RW.at; exact gva)); (first | (apply gw_asg; exact rfl) | (fail))) | (apply CW_region; intro K hK) | (apply CW_condX; exact rfl; exact tst; exact tst; all_goals (intro hq hc; try exact no)))
  (refine CW_ret ?_; refine xsg xsl ?_; refine bR [.tmp 4] [] ?_)
  refine ⟨ret_bool ?_, rfl⟩
  by_cases h : s.take p.length = p
  · have := congrArg List.length h
    rw [List.length_take] at this
    rw [decide_eq_true h, decide_eq_true (by omega)]; rfl
  · rw [decide_eq_false h, Bool.and_false]
theorem trimPrefix0_spec (s p : List UInt8) (H : Hp) : SC Tryz.prog 134 [.string (bstr s), .string (bstr p)] H [] (fun v M => v = .string (bstr (if s.take p.length = p then s.drop p.length else s)) ∧ M = []) := by
  by_cases h : s.take p.length = p
  · have hl := congrArg List.length h
    rw [List.length_take] at hl
    rw [if_pos h]
    have hP := hasPrefix_spec s p
    rw [decide_eq_true h] at hP
    (refine SC_intro Tryz.func134 rfl (by kernel_rfl) (by rw [Tryz.ntmps134]; exact Nat.le_of_ble_eq_true rfl) ?_; simp only [Tryz.ntmps134, argE, Nat.reduceAdd])
    
    repeat' (first | (apply RW.q1; (first | (apply q_lenb; exact rfl) | (apply q_sblo p.length; exact rfl; exact rfl; exact rfl; omega) | exact qt)) | refine xsg cts ?_ | (apply CW_condT; exact rfl; exact ar) | (apply CW_condF; exact rfl; exact ar) | (refine hK _ _ ?_; clear hK; refine xsg xsl ?_) | (apply RW.c1; (first | (apply nw_call (f := 146); exact rfl; exact go146; (intro G hG; exact (hP _).mono (fun v M h => h.1))))) | ((first | apply RW.a1 | apply RW.a0); (first | (apply gw_asg; exact rfl) | (fail))) | (apply CW_region; intro K hK) | (apply CW_condX; exact rfl; exact tst; exact tst; all_goals (intro hq hc; try exact no)))
    all_goals (refine CW_ret ?_; refine xsg xsl ?_; refine bR [.tmp 4] [] ?_)
    all_goals exact ⟨rfl, rfl⟩
  · rw [if_neg h]
    have hP := hasPrefix_spec s p
    rw [decide_eq_false h] at hP
    (refine SC_intro Tryz.func134 rfl (by kernel_rfl) (by rw [Tryz.ntmps134]; exact Nat.le_of_ble_eq_true rfl) ?_; simp only [Tryz.ntmps134, argE, Nat.reduceAdd])
    
    repeat' (first | (apply RW.q1; exact qt) | refine xsg cts ?_ | (apply CW_condT; exact rfl; exact ar) | (apply CW_condF; exact rfl; exact ar) | (refine hK _ _ ?_; clear hK; refine xsg xsl ?_) | (apply RW.c1; (first | (apply nw_call (f := 146); exact rfl; exact go146; (intro G hG; exact (hP _).mono (fun v M h => h.1))))) | ((first | apply RW.a1 | apply RW.a0); (first | (apply gw_asg; exact rfl) | (fail))) | (apply CW_region; intro K hK) | (apply CW_condX; exact rfl; exact tst; exact tst; all_goals (intro hq hc; try exact no)))
    all_goals (refine CW_ret ?_; refine xsg xsl ?_; refine bR [.tmp 4] [] ?_)
    all_goals exact ⟨rfl, rfl⟩
theorem trimPrefix_spec (s p : List UInt8) (H : Hp) : SC Tryz.prog 109 [.string (bstr s), .string (bstr p)] H [] (fun v M => v = .string (bstr (if s.take p.length = p then s.drop p.length else s)) ∧ M = []) := by
  (refine SC_intro Tryz.func109 rfl (by kernel_rfl) (by rw [Tryz.ntmps109]; exact Nat.le_of_ble_eq_true rfl) ?_; simp only [Tryz.ntmps109, argE, Nat.reduceAdd])
  repeat' (first | (apply RW.q1; exact qt) | refine xsg cts ?_ | (apply CW_condT; exact rfl; exact ar) | (apply CW_condF; exact rfl; exact ar) | (refine hK _ _ ?_; clear hK; refine xsg xsl ?_) | (apply RW.c1; (first | (apply nw_call (f := 134); exact rfl; exact go134; (intro G hG; exact (trimPrefix0_spec s p _).mono (fun v M h => h.1))))) | ((first | apply RW.a1 | apply RW.a0); (first | (apply gw_asg; exact rfl) | (fail))) | (apply CW_region; intro K hK) | (apply CW_condX; exact rfl; exact tst; exact tst; all_goals (intro hq hc; try exact no)))
  (refine CW_ret ?_; refine xsg xsl ?_; refine bR [.tmp 4] [] ?_)
  exact ⟨rfl, rfl⟩
theorem cutPrefix0_spec (s p : List UInt8) (H : Hp) : SC Tryz.prog 140 [.string (bstr s), .string (bstr p)] H [] (fun v M => v = .tuple #[.string (bstr (if s.take p.length = p then s.drop p.length else s)), .bool (decide (s.take p.length = p))] ∧ M = []) := by
  by_cases h : s.take p.length = p
  · have hl := congrArg List.length h
    rw [List.length_take] at hl
    rw [if_pos h]
    have hP := hasPrefix_spec s p
    rw [decide_eq_true h] at hP ⊢
    (refine SC_intro Tryz.func140 rfl (by kernel_rfl) (by rw [Tryz.ntmps140]; exact Nat.le_of_ble_eq_true rfl) ?_; simp only [Tryz.ntmps140, argE, Nat.reduceAdd])
    
    repeat' (first | (apply RW.q1; (first | (apply q_lenb; exact rfl) | (apply q_sblo p.length; exact rfl; exact rfl; exact rfl; omega) | exact qt)) | refine xsg cts ?_ | (apply CW_condT; exact rfl; exact ar) | (apply CW_condF; exact rfl; exact ar) | (refine hK _ _ ?_; clear hK; refine xsg xsl ?_) | (apply RW.c1; (first | (apply nw_call (f := 146); exact rfl; exact go146; (intro G hG; exact (hP _).mono (fun v M h => h.1))))) | ((first | apply RW.a1 | apply RW.a0); (first | (apply gw_asg; exact rfl) | (fail))) | (apply CW_region; intro K hK) | (apply CW_condX; exact rfl; exact tst; exact tst; all_goals (intro hq hc; try exact no)))
    all_goals (refine CW_ret ?_; refine xsg xsl ?_; refine bR [.tmp 4, .tmp 5] [] ?_)
    all_goals exact ⟨rfl, rfl⟩
  · rw [if_neg h]
    have hP := hasPrefix_spec s p
    rw [decide_eq_false h] at hP ⊢
    (refine SC_intro Tryz.func140 rfl (by kernel_rfl) (by rw [Tryz.ntmps140]; exact Nat.le_of_ble_eq_true rfl) ?_; simp only [Tryz.ntmps140, argE, Nat.reduceAdd])
    
    repeat' (first | (apply RW.q1; exact qt) | refine xsg cts ?_ | (apply CW_condT; exact rfl; exact ar) | (apply CW_condF; exact rfl; exact ar) | (refine hK _ _ ?_; clear hK; refine xsg xsl ?_) | (apply RW.c1; (first | (apply nw_call (f := 146); exact rfl; exact go146; (intro G hG; exact (hP _).mono (fun v M h => h.1))))) | ((first | apply RW.a1 | apply RW.a0); (first | (apply gw_asg; exact rfl) | (fail))) | (apply CW_region; intro K hK) | (apply CW_condX; exact rfl; exact tst; exact tst; all_goals (intro hq hc; try exact no)))
    all_goals (refine CW_ret ?_; refine xsg xsl ?_; refine bR [.tmp 4, .tmp 5] [] ?_)
    all_goals exact ⟨rfl, rfl⟩
theorem cutPrefix_spec (s p : List UInt8) (H : Hp) : SC Tryz.prog 126 [.string (bstr s), .string (bstr p)] H [] (fun v M => v = .tuple #[.string (bstr (if s.take p.length = p then s.drop p.length else s)), .bool (decide (s.take p.length = p))] ∧ M = []) := by
  (refine SC_intro Tryz.func126 rfl (by kernel_rfl) (by rw [Tryz.ntmps126]; exact Nat.le_of_ble_eq_true rfl) ?_; simp only [Tryz.ntmps126, argE, Nat.reduceAdd])
  repeat' (first | (apply RW.q1; exact qt) | refine xsg cts ?_ | (apply CW_condT; exact rfl; exact ar) | (apply CW_condF; exact rfl; exact ar) | (refine hK _ _ ?_; clear hK; refine xsg xsl ?_) | ((first | apply RW.a1 | apply RW.a0); (first | (apply gw_callE (f := 140); exact rfl; exact go140; intro G hG; exact cutPrefix0_spec s p G) | (apply gw_asg; exact rfl) | (fail))) | (apply CW_region; intro K hK) | (apply CW_condX; exact rfl; exact tst; exact tst; all_goals (intro hq hc; try exact no)))
  (refine CW_ret ?_; refine xsg xsl ?_; refine bR [.tmp 4, .tmp 5] [] ?_)
  exact ⟨rfl, rfl⟩

def dgB (c : UInt8) : Bool := decide (48 ≤ c.toNat) && decide (c.toNat ≤ 57)
def rightB (s : List UInt8) : Bool := decide (0 < s.length) && decide (s.length ≤ 600) && !(decide (s[0]? = some 48) && decide (1 < s.length)) && s.all dgB
theorem rightB_ok {s : List UInt8} (h : rightB s = true) : s ≠ [] ∧ isDg s ∧ (∀ t, s = 48 :: t → t = []) ∧ s.length ≤ 600 := by
  unfold rightB at h
  simp only [jC, jA, List.all_eq_true, jE, jG, jB] at h
  obtain ⟨⟨⟨h1, h2⟩, h3⟩, h4⟩ := h
  refine ⟨List.length_pos_iff.1 h1, fun c hc => ?_, ?_, h2⟩
  · have := h4 c hc
    unfold dgB at this
    simpa [jC] using this
  · rintro t rfl
    rcases h3 with h3 | h3
    · exact absurd rfl h3
    · rw [List.length_cons] at h3
      exact List.length_eq_zero_iff.1 (by omega)
theorem rightB_dec {s : List UInt8} (h : rightB s = true) : Lib.decDigits (dv s) = s := dec_of s (rightB_ok h).1 (rightB_ok h).2.1 (rightB_ok h).2.2.1
theorem all_take {s : List UInt8} {k : Nat} {c : UInt8} (h : s[k]? = some c) (h1 : (s.take k).all dgB = true) : (s.take (k + 1)).all dgB = dgB c := by
  rw [List.take_add_one, h, List.all_append, h1]; simp
theorem natRight_spec (s : List UInt8) (hs : (s.length : Int) ≤ 9223372036854775807) (H : Hp) : SC Tryz.prog 128 [.string (bstr s)] H [] (fun v M => v = .bool (rightB s) ∧ M = []) := by
  by_cases h0 : s.length = 0
  · have e : rightB s = false := by unfold rightB; rw [decide_eq_false (p := 0 < s.length) (by omega)]; rfl
    rw [e]
    obtain rfl : s = [] := List.length_eq_zero_iff.1 h0
    (refine SC_intro Tryz.func128 rfl (by kernel_rfl) (by rw [Tryz.ntmps128]; exact Nat.le_of_ble_eq_true rfl) ?_; simp only [Tryz.ntmps128, argE, Nat.reduceAdd])
    
    repeat' (first | (apply RW.q1; (first | (apply q_lenb; exact rfl) | (apply q_ixc 0; exact rfl; exact rfl; (exfalso; omega); decide) | exact qt)) | (apply RW.qg; exact gvx; refine hgx tst ?_; intro hg hg'; (first | (apply q_lenb; exact evgx) | (apply q_ixc 0; exact evgx; exact evgx; (exfalso; omega); decide) | exact qu)) | refine xsg cts ?_ | (apply CW_condT; exact rfl; exact ar) | (apply CW_condF; exact rfl; exact ar) | ((first | apply RW.s1 | apply RW.s0); exact gva) | (refine hK _ _ ?_; clear hK; refine xsg xsl ?_) | ((first | apply RW.a1 | apply RW.a0 | (apply RW.at; exact gva)); (first | (apply gw_asg; exact rfl) | (fail))) | (apply CW_region; intro K hK) | (apply CW_condX; exact rfl; exact tst; exact tst; all_goals (intro hq hc; try exact no)))
    all_goals (refine CW_ret ?_; refine xsg xsl ?_; refine bR [.tmp 2] [] ?_)
    all_goals exact ⟨rfl, rfl⟩
  obtain ⟨c0, hc0⟩ : ∃ c, s[0]? = some c := ⟨_, List.getElem?_eq_getElem (by omega)⟩
  have e48 : (c0 = 48) ↔ (c0.toNat : Int) = 48 := by
    constructor
    · rintro rfl; rfl
    · intro h; apply UInt8.toNat_inj.1; have : (48 : UInt8).toNat = 48 := rfl; omega
  by_cases hbad : 600 < s.length ∨ (c0 = 48 ∧ 1 < s.length)
  · have e : rightB s = false := by
      unfold rightB
      rcases hbad with h | ⟨h1, h2⟩
      · rw [decide_eq_false (p := s.length ≤ 600) (by omega), Bool.and_false]; rfl
      · rw [hc0, h1, decide_eq_true h2]; simp
    rw [e]
    rw [e48] at hbad
    (refine SC_intro Tryz.func128 rfl (by kernel_rfl) (by rw [Tryz.ntmps128]; exact Nat.le_of_ble_eq_true rfl) ?_; simp only [Tryz.ntmps128, argE, Nat.reduceAdd])
    
    repeat' (first | (apply RW.q1; (first | (apply q_lenb; exact rfl) | (apply q_ixc c0; exact rfl; exact rfl; exact hc0; decide) | exact qt)) | (apply RW.qg; exact gvx; refine hgx tst ?_; intro hg hg'; (first | (apply q_lenb; exact evgx) | (apply q_ixc c0; exact evgx; exact evgx; exact hc0; decide) | exact qu)) | refine xsg cts ?_ | (apply CW_condT; exact rfl; exact ar) | (apply CW_condF; exact rfl; exact ar) | ((first | apply RW.s1 | apply RW.s0); exact gva) | (refine hK _ _ ?_; clear hK; refine xsg xsl ?_) | ((first | apply RW.a1 | apply RW.a0 | (apply RW.at; exact gva)); (first | (apply gw_asg; exact rfl) | (fail))) | (apply CW_region; intro K hK) | (apply CW_condX; exact rfl; exact tst; exact tst; all_goals (intro hq hc; try exact no)))
    all_goals (first | (exfalso; omega) | skip)
    all_goals (refine CW_ret ?_; refine xsg xsl ?_; refine bR [.tmp 2] [] ?_)
    all_goals exact ⟨rfl, rfl⟩
  have hgood : s.length ≤ 600 ∧ (¬ ((c0.toNat : Int) = 48) ∨ s.length ≤ 1) := by
    refine ⟨Nat.not_lt.1 fun h => hbad (.inl h), ?_⟩
    by_cases h : c0 = 48
    · exact .inr (Nat.not_lt.1 fun h1 => hbad (.inr ⟨h, h1⟩))
    · exact .inl fun e => h (e48.2 e)
  have er : rightB s = s.all dgB := by
    unfold rightB
    rw [decide_eq_true (p := 0 < s.length) (by omega), decide_eq_true (p := s.length ≤ 600) hgood.1, hc0]
    have : (decide (some c0 = some (48 : UInt8)) && decide (1 < s.length)) = false := by
      rw [jG, jB, jB]
      rcases hgood.2 with h | h
      · exact .inl fun e => h (e48.1 (Option.some.inj e))
      · exact .inr (by omega)
    rw [this]; rfl
  rw [er]
  (refine SC_intro Tryz.func128 rfl (by kernel_rfl) (by rw [Tryz.ntmps128]; exact Nat.le_of_ble_eq_true rfl) ?_; simp only [Tryz.ntmps128, argE, Nat.reduceAdd])
  
  repeat' (first | (apply RW.q1; (first | (apply q_lenb; exact rfl) | (apply q_ixc c0; exact rfl; exact rfl; exact hc0; decide) | exact qt)) | (apply RW.qg; exact gvx; refine hgx tst ?_; intro hg hg'; (first | (apply q_lenb; exact evgx) | (apply q_ixc c0; exact evgx; exact evgx; exact hc0; decide) | exact qu)) | refine xsg cts ?_ | (apply CW_condT; exact rfl; exact ar) | (apply CW_condF; exact rfl; exact ar) | ((first | apply RW.s1 | apply RW.s0); exact gva) | (refine hK _ _ ?_; clear hK; refine xsg xsl ?_) | ((first | apply RW.a1 | apply RW.a0 | (apply RW.at; exact gva)); (first | (apply gw_asg; exact rfl) | (fail))) | (apply CW_region; intro K hK) | (apply CW_condX; exact rfl; exact tst; exact tst; all_goals (intro hq hc; try exact no)))
  refine CW_loop (fun m l L => ∃ (k : Nat), m = s.length - k ∧ l = [(0, true, .string (bstr s)), (23, true, .int .i64 (s.length : Nat)), (24, true, .int .i64 (k : Nat))] ∧ L = [] ∧ k ≤ s.length ∧ (s.take k).all dgB = true)
    ⟨_, _, _, ⟨0, rfl, rfl, rfl, by omega, rfl⟩, by exact sbe, by exact sbl⟩ ?_
  rintro m l L ⟨k, rfl, rfl, rfl, h1, h2⟩
  by_cases hk : k < s.length
  · obtain ⟨x, hx⟩ : ∃ c, s[k]? = some c := ⟨_, List.getElem?_eq_getElem hk⟩
    have ha := all_take hx h2
    by_cases hd : dgB x = true
    · rw [hd] at ha
      have hd' := hd
      unfold dgB at hd'
      simp only [jC, jA] at hd'
      
      repeat' (first | (apply RW.q1; (first | (apply q_ixc x; exact rfl; exact rfl; exact hx; omega) | exact qt)) | (apply RW.qg; exact gvx; refine hgx tst ?_; intro hg hg'; (first | (apply q_ixc x; exact evgx; exact evgx; exact hx; omega) | exact qu)) | refine xsg cts ?_ | (apply CW_condT; exact rfl; exact ar) | (apply CW_condF; exact rfl; exact ar) | ((first | apply RW.s1 | apply RW.s0); exact gva) | (refine hK _ _ ?_; clear hK; refine xsg xsl ?_) | ((first | apply RW.a1 | apply RW.a0 | (apply RW.at; exact gva)); (first | (apply gw_asg; exact rfl) | (fail))) | (apply CW_region; intro K hK) | (apply CW_condX; exact rfl; exact tst; exact tst; all_goals (intro hq hc; try exact no)))
      exact ⟨_, _, _, ⟨k + 1, rfl, rfl, rfl, by omega, ha⟩, by exact sbe, by exact sbl, by omega⟩
    · have hall : s.all dgB = false := by
        rw [List.all_eq_false]
        exact ⟨x, List.mem_of_getElem? hx, hd⟩
      rw [hall]
      unfold dgB at hd
      simp only [jC, jA] at hd
      
      repeat' (first | (apply RW.q1; (first | (apply q_ixc x; exact rfl; exact rfl; exact hx; omega) | exact qt)) | (apply RW.qg; exact gvx; refine hgx tst ?_; intro hg hg'; (first | (apply q_ixc x; exact evgx; exact evgx; exact hx; omega) | exact qu)) | refine xsg cts ?_ | (apply CW_condT; exact rfl; exact ar) | (apply CW_condF; exact rfl; exact ar) | ((first | apply RW.s1 | apply RW.s0); exact gva) | (refine hK _ _ ?_; clear hK; refine xsg xsl ?_) | ((first | apply RW.a1 | apply RW.a0 | (apply RW.at; exact gva)); (first | (apply gw_asg; exact rfl) | (fail))) | (apply CW_region; intro K hK) | (apply CW_condX; exact rfl; exact tst; exact tst; all_goals (intro hq hc; try exact no)))
      all_goals (first | (exfalso; omega) | skip)
      all_goals (refine CW_ret ?_; refine xsg xsl ?_; refine bR [.tmp 2] [] ?_)
      all_goals exact ⟨rfl, rfl⟩
  · rw [List.take_of_length_le (by omega)] at h2
    rw [h2]
    
    repeat' (first | (apply RW.q1; exact qt) | (apply RW.qg; exact gvx; refine hgx tst ?_; intro hg hg'; exact qu) | refine xsg cts ?_ | (apply CW_condT; exact rfl; exact ar) | (apply CW_condF; exact rfl; exact ar) | ((first | apply RW.s1 | apply RW.s0); exact gva) | (refine hK _ _ ?_; clear hK; refine xsg xsl ?_) | ((first | apply RW.a1 | apply RW.a0 | (apply RW.at; exact gva)); (first | (apply gw_asg; exact rfl) | (fail))) | (apply CW_region; intro K hK) | (apply CW_condX; exact rfl; exact tst; exact tst; all_goals (intro hq hc; try exact no)))
    (refine CW_ret ?_; refine xsg xsl ?_; refine bR [.tmp 2] [] ?_)
    exact ⟨rfl, rfl⟩
end Go.Proofs.YtnhbipachchlgaaGreat.HL
namespace Go.Proofs.YtnhbipachchlgaaGreat.HL
open Go
attribute [local irreducible] goFn thenS blockS bodyS CW RW DW GW QW NW SC Pick Picks SubL Rd NN ResOk SrcW subE hops hseg AW hgen HC qv bldv
set_option linter.unusedVariables false
set_option linter.unusedSimpArgs false

theorem natural_no (s : List UInt8) (hs : (s.length : Int) ≤ 9223372036854775807) (h : rightB s = false) (H : Hp) : SC Tryz.prog 97 [.string (bstr s)] H [] (fun v M => v = .pointer none ∧ M = []) := by
  have hR := natRight_spec s hs
  rw [h] at hR
  (refine SC_intro Tryz.func97 rfl (by kernel_rfl) (by rw [Tryz.ntmps97]; exact Nat.le_of_ble_eq_true rfl) ?_; simp only [Tryz.ntmps97, argE, Nat.reduceAdd])
  repeat' (first | (apply RW.q1; exact qt) | refine xsg cts ?_ | (apply CW_condT; exact rfl; exact ar) | (apply CW_condF; exact rfl; exact ar) | (refine hK _ _ ?_; clear hK; refine xsg xsl ?_) | (apply RW.c1; (first | (apply nw_call (f := 128); exact rfl; exact go128; (intro G hG; exact (hR _).mono (fun v M h => h.1))))) | ((first | apply RW.a1 | apply RW.a0); (first | (apply gw_asg; exact rfl) | (apply gw_alloc; exact rfl; intro b) | (fail))) | (apply CW_region; intro K hK) | (apply CW_condX; exact rfl; exact tst; exact tst; all_goals (intro hq hc; try exact nx)))
  all_goals (refine CW_ret ?_; refine xsg xsl ?_; refine bR [.tmp 2] [] ?_)
  all_goals exact ⟨rfl, rfl⟩
theorem natural_ok (s : List UInt8) (h : rightB s = true) (H : Hp) : SC Tryz.prog 97 [.string (bstr s)] H [] (fun v M => ∃ b a c, v = .pointer (some ⟨b, 0, none⟩) ∧ M = [.box b 88 (intB ((dv s : Nat) : Int) a c), intR ((dv s : Nat) : Int) a c]) := by
  obtain ⟨r1, r2, r3, r4⟩ := rightB_ok h
  have hR := natRight_spec s (by omega)
  rw [h] at hR
  (refine SC_intro Tryz.func97 rfl (by kernel_rfl) (by rw [Tryz.ntmps97]; exact Nat.le_of_ble_eq_true rfl) ?_; simp only [Tryz.ntmps97, argE, Nat.reduceAdd])
  repeat' (first | (apply RW.q1; exact qt) | refine xsg cts ?_ | (apply CW_condT; exact rfl; exact ar) | (apply CW_condF; exact rfl; exact ar) | (refine hK _ _ ?_; clear hK; refine xsg xsl ?_) | (apply RW.c1; (first | (apply nw_call (f := 128); exact rfl; exact go128; (intro G hG; exact (hR _).mono (fun v M h => h.1))))) | ((first | apply RW.a1 | apply RW.a0); (first | (apply gw_alloc (d := some 9); exact rfl; intro bo) | (apply gw_callc (f := 129) (M := [.box bo _ _]); exact rfl; exact go129; exact pcs; intro G hG; refine SC.mono (setString_spec bo 0 _ _ s 10 G (by decide) r1 r2 (by omega)) ?_; rintro v M ⟨rfl, oa, oc, rfl⟩; (try dsimp only [jL, jM])) | (apply gw_asg; exact rfl) | (apply gw_alloc; exact rfl; intro b) | (fail))) | (apply CW_region; intro K hK) | (apply CW_condX; exact rfl; exact tst; exact tst; all_goals (intro hq hc; try exact nx)))
  all_goals (refine CW_ret ?_; refine xsg xsl ?_; refine bR [.tmp 2] [.box bo 88 (intB ((dv s : Nat) : Int) oa oc), intR ((dv s : Nat) : Int) oa oc] ?_)
  all_goals exact ⟨bo, oa, oc, rfl, rfl⟩
def wholeZ (s : List UInt8) : Option Int := if rightB s = true then some ((dv s : Nat) : Int) else if s.take 1 = [45] ∧ rightB (s.drop 1) = true ∧ dv (s.drop 1) ≠ 0 then some (-((dv (s.drop 1) : Nat) : Int)) else none
theorem right_take {s : List UInt8} (h : rightB s = true) : ¬ s.take 1 = [45] := by
  intro h2
  cases s with
  | nil => cases h2
  | cons c t =>
    have : c = 45 := by
      have h3 : [c] = [45] := h2
      exact (List.cons.inj h3).1
    subst this
    have := (rightB_ok h).2.1 45 (by simp)
    exact absurd this.1 (by decide)
theorem dv_wd_le {s : List UInt8} {n : Nat} (r2 : isDg s) (r4 : s.length ≤ n) : (wd ((dv s : Nat) : Int)).length ≤ n := by
  rw [wd_nat]
  refine dgs_len_of_lt w1 ?_
  have h1 := dv_lt _ s rfl r2
  have h2 : (10 : Nat) ^ s.length ≤ 10 ^ n := Nat.pow_le_pow_right (by decide) r4
  have h3 : (10 : Nat) ^ n ≤ W32 ^ n := Nat.pow_le_pow_left (by decide) n
  exact Nat.lt_of_lt_of_le h1 (Nat.le_trans h2 h3)
theorem dv_wd_len {s : List UInt8} (h : rightB s = true) : (wd ((dv s : Nat) : Int)).length ≤ 600 := by
  obtain ⟨r1, r2, r3, r4⟩ := rightB_ok h
  exact dv_wd_le r2 r4
theorem whole_no (s : List UInt8) (hs : (s.length : Int) ≤ 9223372036854775807) (h : wholeZ s = none) (H : Hp) : SC Tryz.prog 96 [.string (bstr s)] H [] (fun v M => v = .pointer none ∧ M = []) := by
  unfold wholeZ at h
  by_cases hr : rightB s = true
  · rw [if_pos hr] at h; cases h
  rw [if_neg hr] at h
  have hrf : rightB s = false := by simpa using hr
  have hC := cutPrefix_spec s [45]
  have hd1 : ((s.drop 1).length : Int) ≤ 9223372036854775807 := by rw [List.length_drop]; omega
  by_cases hp : s.take 1 = [45]
  · have hp' : s.take ([45] : List UInt8).length = [45] := hp
    rw [if_pos hp', decide_eq_true hp', show s.drop ([45] : List UInt8).length = s.drop 1 from rfl] at hC
    by_cases hr2 : rightB (s.drop 1) = true
    · have hz : dv (s.drop 1) = 0 := by
        rcases Nat.eq_zero_or_pos (dv (s.drop 1)) with h0 | h0
        · exact h0
        · rw [if_pos ⟨hp, hr2, by omega⟩] at h; cases h
      have hN := natural_ok (s.drop 1) hr2
      rw [hz] at hN
      (refine SC_intro Tryz.func96 rfl (by kernel_rfl) (by rw [Tryz.ntmps96]; exact Nat.le_of_ble_eq_true rfl) ?_; simp only [Tryz.ntmps96, argE, Nat.reduceAdd])
      
      repeat' (first | (apply RW.q1; exact qt) | (apply RW.qg; exact gvx; refine hgx tst ?_; intro hg hg'; exact qu) | refine xsg cts ?_ | (apply CW_condT; exact rfl; exact ar) | (apply CW_condF; exact rfl; exact ar) | ((first | apply RW.s1 | apply RW.s0); exact gva) | (refine hK _ _ ?_; clear hK; refine xsg xsl ?_) | (apply RW.c1; (first | (apply nw_call (f := 98); exact rfl; exact go98; (intro G hG; exact (sign_spec 0 bo 0 G [] (intW_own (by exact pkx) (by exact pkx) hG _)).mono (fun v M h => h.1))))) | ((first | apply RW.a1 | apply RW.a0 | (apply RW.at; exact gva)); (first | (apply gw_callE (f := 126); exact evx; exact go126; intro G hG; exact hC G) | (apply gw_call (f := 97); exact evx; exact go97; intro G hG; refine SC.mono (hN G) ?_; rintro v M ⟨bo, oa, oc, rfl, rfl⟩; (try dsimp only [jL, jM])) | (apply gw_asg; exact rfl) | (fail))) | (apply RW.cg; exact gvx; refine hgx tst ?_; intro hg hg'; first | (apply nw_call (f := 98); exact evx; exact go98; (intro G hG; exact (sign_spec 0 bo 0 G [] (intW_own (by exact pkx) (by exact pkx) hG _)).mono (fun v M h => h.1)))) | (apply CW_region; intro K hK) | (apply CW_condX; exact rfl; exact tst; exact tst; all_goals (intro hq hc; try exact no)))
      all_goals (refine CW_ret ?_; refine xsg xsl ?_; refine bR [.tmp 2] [] ?_)
      all_goals exact ⟨rfl, rfl⟩
    · have hN := natural_no (s.drop 1) hd1 (by simpa using hr2)
      (refine SC_intro Tryz.func96 rfl (by kernel_rfl) (by rw [Tryz.ntmps96]; exact Nat.le_of_ble_eq_true rfl) ?_; simp only [Tryz.ntmps96, argE, Nat.reduceAdd])
      
      repeat' (first | (apply RW.q1; exact qt) | (apply RW.qg; exact gvx; refine hgx tst ?_; intro hg hg'; exact qu) | refine xsg cts ?_ | (apply CW_condT; exact rfl; exact ar) | (apply CW_condF; exact rfl; exact ar) | ((first | apply RW.s1 | apply RW.s0); exact gva) | (refine hK _ _ ?_; clear hK; refine xsg xsl ?_) | ((first | apply RW.a1 | apply RW.a0 | (apply RW.at; exact gva)); (first | (apply gw_callE (f := 126); exact evx; exact go126; intro G hG; exact hC G) | (apply gw_callE (f := 97); exact evx; exact go97; intro G hG; exact hN G) | (apply gw_asg; exact rfl) | (fail))) | (apply CW_region; intro K hK) | (apply CW_condX; exact rfl; exact tst; exact tst; all_goals (intro hq hc; try exact no)))
      all_goals (refine CW_ret ?_; refine xsg xsl ?_; refine bR [.tmp 2] [] ?_)
      all_goals exact ⟨rfl, rfl⟩
  · have hp' : ¬ s.take ([45] : List UInt8).length = [45] := hp
    rw [if_neg hp', decide_eq_false hp'] at hC
    have hN := natural_no s hs hrf
    (refine SC_intro Tryz.func96 rfl (by kernel_rfl) (by rw [Tryz.ntmps96]; exact Nat.le_of_ble_eq_true rfl) ?_; simp only [Tryz.ntmps96, argE, Nat.reduceAdd])
    
    repeat' (first | (apply RW.q1; exact qt) | (apply RW.qg; exact gvx; refine hgx tst ?_; intro hg hg'; exact qu) | refine xsg cts ?_ | (apply CW_condT; exact rfl; exact ar) | (apply CW_condF; exact rfl; exact ar) | ((first | apply RW.s1 | apply RW.s0); exact gva) | (refine hK _ _ ?_; clear hK; refine xsg xsl ?_) | ((first | apply RW.a1 | apply RW.a0 | (apply RW.at; exact gva)); (first | (apply gw_callE (f := 126); exact evx; exact go126; intro G hG; exact hC G) | (apply gw_callE (f := 97); exact evx; exact go97; intro G hG; exact hN G) | (apply gw_asg; exact rfl) | (fail))) | (apply CW_region; intro K hK) | (apply CW_condX; exact rfl; exact tst; exact tst; all_goals (intro hq hc; try exact no)))
    all_goals (refine CW_ret ?_; refine xsg xsl ?_; refine bR [.tmp 2] [] ?_)
    all_goals exact ⟨rfl, rfl⟩
theorem whole_ok (s : List UInt8) (z : Int) (h : wholeZ s = some z) (H : Hp) : SC Tryz.prog 96 [.string (bstr s)] H [] (fun v M => ∃ b a c, v = .pointer (some ⟨b, 0, none⟩) ∧ M = [.box b 88 (intB z a c), intR z a c]) := by
  have hC := cutPrefix_spec s [45]
  unfold wholeZ at h
  by_cases hr : rightB s = true
  · rw [if_pos hr] at h
    cases h
    have hp' : ¬ s.take ([45] : List UInt8).length = [45] := right_take hr
    rw [if_neg hp', decide_eq_false hp'] at hC
    have hN := natural_ok s hr
    (refine SC_intro Tryz.func96 rfl (by kernel_rfl) (by rw [Tryz.ntmps96]; exact Nat.le_of_ble_eq_true rfl) ?_; simp only [Tryz.ntmps96, argE, Nat.reduceAdd])
    
    repeat' (first | (apply RW.q1; exact qt) | (apply RW.qg; exact gvx; refine hgx tst ?_; intro hg hg'; exact qu) | refine xsg cts ?_ | (apply CW_condT; exact rfl; exact ar) | (apply CW_condF; exact rfl; exact ar) | ((first | apply RW.s1 | apply RW.s0); exact gva) | (refine hK _ _ ?_; clear hK; refine xsg xsl ?_) | ((first | apply RW.a1 | apply RW.a0 | (apply RW.at; exact gva)); (first | (apply gw_callE (f := 126); exact evx; exact go126; intro G hG; exact hC G) | (apply gw_call (f := 97); exact evx; exact go97; intro G hG; refine SC.mono (hN G) ?_; rintro v M ⟨bo, oa, oc, rfl, rfl⟩; (try dsimp only [jL, jM])) | (apply gw_asg; exact rfl) | (fail))) | (apply CW_region; intro K hK) | (apply CW_condX; exact rfl; exact tst; exact tst; all_goals (intro hq hc; try exact no)))
    all_goals (refine CW_ret ?_; refine xsg xsl ?_; refine bR [.tmp 2] [.box bo 88 (intB ((dv s : Nat) : Int) oa oc), intR ((dv s : Nat) : Int) oa oc] ?_)
    all_goals exact ⟨bo, oa, oc, rfl, rfl⟩
  rw [if_neg hr] at h
  split at h
  case isFalse => cases h
  case isTrue hh =>
    cases h
    obtain ⟨hp, hr2, hz⟩ := hh
    have hp' : s.take ([45] : List UInt8).length = [45] := hp
    rw [if_pos hp', decide_eq_true hp', show s.drop ([45] : List UInt8).length = s.drop 1 from rfl] at hC
    have hN := natural_ok (s.drop 1) hr2
    have hwl := dv_wd_len hr2
    have hsg : ¬ (((dv (s.drop 1) : Nat) : Int)).sign = 0 := fun e => hz (by have := Int.sign_eq_zero_iff_zero.1 e; omega)
    obtain ⟨n, hn⟩ : ∃ n, n = dv (s.drop 1) := ⟨_, rfl⟩
    rw [← hn] at hN hwl hsg ⊢
    (refine SC_intro Tryz.func96 rfl (by kernel_rfl) (by rw [Tryz.ntmps96]; exact Nat.le_of_ble_eq_true rfl) ?_; simp only [Tryz.ntmps96, argE, Nat.reduceAdd])
    
    repeat' (first | (apply RW.q1; exact qt) | (apply RW.qg; exact gvx; refine hgx tst ?_; intro hg hg'; exact qu) | refine xsg cts ?_ | (apply CW_condT; exact rfl; exact ar) | (apply CW_condF; exact rfl; exact ar) | ((first | apply RW.s1 | apply RW.s0); exact gva) | (refine hK _ _ ?_; clear hK; refine xsg xsl ?_) | (apply RW.c1; (first | (apply nw_call (f := 98); exact rfl; exact go98; (intro G hG; exact (sign_spec (n : Int) bo 0 G [] (intW_own (by exact pkx) (by exact pkx) hG _)).mono (fun v M h => h.1))))) | ((first | apply RW.a1 | apply RW.a0 | (apply RW.at; exact gva)); (first | (apply gw_callE (f := 126); exact evx; exact go126; intro G hG; exact hC G) | (apply gw_call (f := 97); exact evx; exact go97; intro G hG; refine SC.mono (hN G) ?_; rintro v M ⟨bo, oa, oc, rfl, rfl⟩; (try dsimp only [jL, jM])) | (apply gw_callc (f := 127) (M := [.box bo _ _]); exact evx; exact go127; exact pcs; intro G hG; refine SC.mono (neg_spec bo 0 _ _ (n : Int) bo 0 G (Nat.lt_succ_self 1) (intW_of (by exact pkx) (sl_own (by exact pkx) hG)) (by omega)) ?_; rintro v M ⟨rfl, na, nc, rfl⟩; (try dsimp only [jL, jM])) | (apply gw_asg; exact rfl) | (fail))) | (apply RW.cg; exact gvx; refine hgx tst ?_; intro hg hg'; first | (apply nw_call (f := 98); exact evx; exact go98; (intro G hG; exact (sign_spec (n : Int) bo 0 G [] (intW_own (by exact pkx) (by exact pkx) hG _)).mono (fun v M h => h.1)))) | (apply CW_region; intro K hK) | (apply CW_condX; exact rfl; exact tst; exact tst; all_goals (intro hq hc; try exact no)))
    all_goals (first | (exact absurd (by simpa using hc) hsg) | skip)
    all_goals (refine CW_ret ?_; refine xsg xsl ?_; refine bR [.tmp 2] [.box bo 88 (intB (-(n : Int)) na nc), intR (-(n : Int)) na nc] ?_)
    all_goals exact ⟨bo, na, nc, rfl, rfl⟩
end Go.Proofs.YtnhbipachchlgaaGreat.HL
