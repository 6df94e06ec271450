/- Limbs: RefA: the document's numbers: limbs of four digits; trim. Condition: the rows' lengths. RefB: the document's product of limbs. Condition: the rows' lengths. RefC: the document's texts of numbers; Times, Power. Condition: the texts' lengths. RefD: the document's Times and Power. Condition: the texts' lengths. -/
import Derived.Test.YtnhbipachchlgaaGreatEngX
import Derived.Test.YtnhbipachchlgaaGreatPartsBX
namespace Go.Proofs.YtnhbipachchlgaaGreat.HL
open Go
attribute [local irreducible] goFn thenS blockS bodyS CW RW DW GW QW NW SC Pick Picks SubL Rd NN ResOk SrcW subE hops hseg AW hgen HC qv bldv
set_option maxHeartbeats 8000000
set_option maxRecDepth 100000
set_option linter.unusedVariables false
set_option linter.unusedSimpArgs false

abbrev B4 : Nat := 10000
theorem b1 : 1 < B4 := by decide
abbrev li (l : List Nat) : List Value := l.map fun (d : Nat) => Value.int .i64 (d : Int)
theorem li_len (l : List Nat) : (li l).length = l.length := List.length_map _
theorem li_take (l : List Nat) (k : Nat) : (li l).take (k * 1) = li (l.take k) := by rw [Nat.mul_one]; exact (List.map_take ..).symm
theorem li_at {l : List Nat} {k d j : Nat} (h : l[k]? = some d) (hj : j = k) : ((li l).drop j).take 1 = [.int .i64 (d : Int)] := at_one (by rw [List.getElem?_map, h]; rfl) hj
theorem subl_normL {L L' M : List Res} {e : TypeId} {a : Option Addr} {n c : Nat} {ds : List Nat} (hp : Pick L (.own e 1 a n c (li ds)) L') (hd : Dg B4 ds) (hn : ds.length = n) (h : SubL M L') : SubL (.own e 1 a (dgs B4 (nv B4 ds)).length c (li (dgs B4 (nv B4 ds))) :: M) L := by
  have hk := norm_take b1 hd
  have hl : (dgs B4 (nv B4 ds)).length ≤ n := by
    have := congrArg List.length hk
    rw [List.length_take] at this; omega
  have := subl_less hp hl h
  rw [li_take, hk] at this
  exact this
theorem trimL_spec (ds : List Nat) (x : Nat) (a : Option Addr) (n c : Nat) (H : Hp) (hx : Rs H 1 a n c (li ds)) (hn : ds.length = n) (hN : n ≤ 1099511627776) (hd : Dg B4 ds) (hv : nv B4 ds = x) :
    SC Tryz.prog 122 [.slice a n c] H [] (fun v M => v = .slice a (dgs B4 x).length c ∧ M = []) := by
  subst hv
  (refine SC_intro Tryz.func122 rfl (by kernel_rfl) (by rw [Tryz.ntmps122]; exact Nat.le_of_ble_eq_true rfl) ?_; simp only [Tryz.ntmps122, argE, Nat.reduceAdd])
  repeat' (first | (apply RW.q1; exact qt) | (apply RW.qg; exact gvx; refine hgx tst ?_; intro hg hg'; exact qu) | refine xsg cts ?_ | (apply CW_condT; exact rfl; exact ar) | (apply CW_condF; exact rfl; exact ar) | ((first | apply RW.s1 | apply RW.s0); exact gva) | (refine hK _ _ ?_; clear hK; refine xsg xsl ?_) | ((first | apply RW.a1 | apply RW.a0 | (apply RW.at; exact gva)); (first | (apply gw_asg; exact rfl) | (fail))) | (apply CW_region; intro K hK) | (apply CW_condX; exact rfl; exact tst; exact tst; all_goals (intro hq hc; try exact no)))
  refine CW_loop (fun m l L => ∃ (k : Nat), m = k + 1 ∧ l = [(0, true, .slice a k c)] ∧ L = [] ∧ k ≤ n ∧ nv B4 (ds.take k) = nv B4 ds)
    ⟨_, _, _, ⟨n, rfl, rfl, rfl, Nat.le_refl _, by rw [List.take_of_length_le (by omega)]⟩, by exact sbe, by exact sbl⟩ ?_
  rintro m l L ⟨k, rfl, rfl, rfl, h1, h2⟩
  have hrk := rs_take hx h1
  have hlast : (0 < k → ∃ d, ds[k - 1]? = some d ∧ nv B4 (ds.take k) = nv B4 (ds.take (k - 1)) + B4 ^ (k - 1) * d) := by
    intro h
    obtain ⟨d, hd⟩ : ∃ d, ds[k - 1]? = some d := ⟨_, List.getElem?_eq_getElem (by omega)⟩
    have := nv_take (B := B4) hd
    rw [show k - 1 + 1 = k by omega] at this
    exact ⟨d, hd, this⟩
  have hrd : ∀ d, ds[k - 1]? = some d → 0 < k → ∀ j : Nat, j = k - 1 → (((li ds).take (k * 1)).drop j).take 1 = [.int .i64 (d : Int)] := by
    intro d hd h0 j hj
    rw [li_take]
    exact li_at (l := ds.take k) (k := k - 1) (by rw [List.getElem?_take_of_lt (by omega)]; exact hd) hj
  by_cases hz : 0 < k ∧ ds[k - 1]? = some 0
  · obtain ⟨hz1, hz2⟩ := hz
    obtain ⟨d, hd1, hd2⟩ := hlast hz1
    obtain rfl : 0 = d := Option.some.inj (hz2.symm.trans hd1)
    
    repeat' (first | (apply RW.q1; (first | (apply q_ldr; exact rfl; exact rfl; exact hrk; exact hrd _ hz2 hz1 _ (by omega)) | exact qt)) | (apply RW.qg; exact gvx; refine hgx tst ?_; intro hg hg'; (first | (apply q_ldr; exact rfl; exact evgx; exact hrk; exact hrd _ hz2 hz1 _ (by omega)) | exact qu)) | refine xsg cts ?_ | (apply CW_condT; exact rfl; exact ar) | (apply CW_condF; exact rfl; exact ar) | ((first | apply RW.s1 | apply RW.s0); exact gva) | (refine hK _ _ ?_; clear hK; refine xsg xsl ?_) | ((first | apply RW.a1 | apply RW.a0 | (apply RW.at; exact gva)); (first | (apply gw_asg; exact rfl) | (fail))) | (apply CW_region; intro K hK) | (apply CW_condX; exact rfl; exact tst; exact tst; all_goals (intro hq hc; try exact no)))
    refine ⟨_, _, _, ⟨k - 1, rfl, rfl, rfl, by omega, by rw [← h2, hd2]; simp⟩, ?_, by exact sbl, by omega⟩
    have e1 : ((k : Int) - 1).toNat = k - 1 := by omega
    rw [e1]
    exact sbe
  · have hend : ds.take k = dgs B4 (nv B4 ds) := by
      have := norm_eq (B := B4) (by decide) (dg_take hd k) (fun j hj => by
        rw [List.length_take, Nat.min_eq_left (by omega)] at hj
        rw [List.getElem?_take_of_lt (by omega)]
        intro e
        exact hz ⟨by omega, by rw [show k - 1 = j by omega]; exact e⟩)
      rw [h2] at this
      exact this
    have hlen : (dgs B4 (nv B4 ds)).length = k := by rw [← hend, List.length_take]; omega
    rw [hlen]
    
    by_cases h0 : 0 < k
    · obtain ⟨d, hd1, hd2⟩ := hlast h0
      have hd0 : d ≠ 0 := fun e => hz ⟨h0, by rw [hd1, e]⟩
      repeat' (first | (apply RW.q1; (first | (apply q_ldr; exact rfl; exact rfl; exact hrk; exact hrd _ hd1 h0 _ (by omega)) | exact qt)) | (apply RW.qg; exact gvx; refine hgx tst ?_; intro hg hg'; (first | (apply q_ldr; exact rfl; exact evgx; exact hrk; exact hrd _ hd1 h0 _ (by omega)) | exact qu)) | refine xsg cts ?_ | (apply CW_condT; exact rfl; exact ar) | (apply CW_condF; exact rfl; exact ar) | ((first | apply RW.s1 | apply RW.s0); exact gva) | (refine hK _ _ ?_; clear hK; refine xsg xsl ?_) | ((first | apply RW.a1 | apply RW.a0 | (apply RW.at; exact gva)); (first | (apply gw_asg; exact rfl) | (fail))) | (apply CW_region; intro K hK) | (apply CW_condX; exact rfl; exact tst; exact tst; all_goals (intro hq hc; try exact no)))
      (refine CW_ret ?_; refine xsg xsl ?_; refine bR [.tmp 2] [] ?_)
      exact ⟨rfl, rfl⟩
    · repeat' (first | (apply RW.q1; exact qt) | (apply RW.qg; exact gvx; refine hgx tst ?_; intro hg hg'; exact qu) | refine xsg cts ?_ | (apply CW_condT; exact rfl; exact ar) | (apply CW_condF; exact rfl; exact ar) | ((first | apply RW.s1 | apply RW.s0); exact gva) | (refine hK _ _ ?_; clear hK; refine xsg xsl ?_) | ((first | apply RW.a1 | apply RW.a0 | (apply RW.at; exact gva)); (first | (apply gw_asg; exact rfl) | (fail))) | (apply CW_region; intro K hK) | (apply CW_condX; exact rfl; exact tst; exact tst; all_goals (intro hq hc; try exact no)))
      (refine CW_ret ?_; refine xsg xsl ?_; refine bR [.tmp 2] [] ?_)
      exact ⟨rfl, rfl⟩
theorem dv_cut {bs : List UInt8} {f e : Nat} (hf : f ≤ e) (he : e ≤ bs.length) : dv (bs.take e) = dv (bs.take f) * 10 ^ (e - f) + dv ((bs.drop f).take (e - f)) := by
  have h : bs.take e = bs.take f ++ (bs.drop f).take (e - f) := by
    have h2 := List.take_add (l := bs) (i := f) (j := e - f)
    rw [show f + (e - f) = e by omega] at h2
    exact h2
  rw [h, dv_app, List.length_take, List.length_drop, Nat.min_eq_left (by omega)]
theorem pow4 (j : Nat) : 10 ^ 4 * B4 ^ j = B4 ^ (j + 1) := by rw [Nat.pow_succ B4 j, Nat.mul_comm (B4 ^ j)]
theorem limb_step {V Ve Vf n S j e f : Nat} (h : V = Ve * B4 ^ j + S) (hc : Ve = Vf * 10 ^ (e - f) + n) (hf : e - f = 4 ∨ Vf = 0) : V = Vf * B4 ^ (j + 1) + (S + B4 ^ j * n) := by
  have e1 : Vf * 10 ^ (e - f) * B4 ^ j = Vf * B4 ^ (j + 1) := by
    rcases hf with h | h
    · rw [h, Nat.mul_assoc, pow4]
    · rw [h, Nat.zero_mul, Nat.zero_mul, Nat.zero_mul]
  rw [h, hc, Nat.add_mul, e1, Nat.mul_comm n]
  omega
theorem limbs_spec (bs : List UInt8) (H : Hp) (hd : isDg bs) (hl : bs.length ≤ 1000000) :
    SC Tryz.prog 118 [.string (bstr bs)] H [] (fun v M => ∃ a c, v = .slice a (dgs B4 (dv bs)).length c ∧ M = [.own 3 1 a (dgs B4 (dv bs)).length c (li (dgs B4 (dv bs)))]) := by
  (refine SC_intro Tryz.func118 rfl (by kernel_rfl) (by rw [Tryz.ntmps118]; exact Nat.le_of_ble_eq_true rfl) ?_; simp only [Tryz.ntmps118, argE, Nat.reduceAdd])
  
  repeat' (first | (apply RW.q1; (first | (apply q_lenb; exact rfl) | exact qt)) | refine xsg cts ?_ | (apply CW_condT; exact rfl; exact ar) | (apply CW_condF; exact rfl; exact ar) | (refine hK _ _ ?_; clear hK; refine xsg xsl ?_) | ((first | apply RW.a1 | apply RW.a0); (first | (apply gw_asg; exact rfl) | (apply gw_lit1; exact rfl; exact rfl; exact rfl; exact rfl; decide; intro b) | (apply gw_lit2; exact rfl; exact rfl; exact rfl; exact rfl; intro b) | (apply gw_lit3; exact rfl; exact rfl; exact rfl; exact rfl; exact rfl; intro b) | (apply gw_ap1; exact rfl; exact rfl; infer_instance; infer_instance; exact rfl; exact rfl; exact rfl; exact rfl; omega; intro a c) | (apply gw_ap1n; exact rfl; exact rfl; infer_instance; exact rfl; exact rfl; exact rfl; exact rfl; omega; intro a c) | (fail))) | (apply CW_region; intro K hK) | (apply CW_condX; exact rfl; exact tst; exact tst; all_goals (intro hq hc; try exact no)))
  refine CW_loop (fun m l L => ∃ (z : Int) (e : Nat) (ds : List Nat) (oa : Option Addr) (on oc : Nat) (cs : List Value), m = z.toNat ∧ l = [(0, true, .string (bstr bs)), (3, true, .slice oa on oc), (4, true, .int .i64 z)] ∧
      L = [.own 3 1 oa on oc cs] ∧ cs = li ds ∧ ds.length = on ∧ on + e ≤ bs.length + (if z ≤ 0 then 4 else 0) ∧ Dg B4 ds ∧ dv bs = dv (bs.take e) * B4 ^ on + nv B4 ds ∧ ((0 < z ∧ z = (e : Int)) ∨ (z ≤ 0 ∧ -4 ≤ z ∧ e = 0)))
    ⟨_, _, _, ⟨(bs.length : Int), bs.length, [], none, 0, 0, [], rfl, rfl, rfl, rfl, rfl, by split <;> omega, (fun d hd => by cases hd), by rw [List.take_length]; simp [nv], by omega⟩, by exact sbe, by exact sbl⟩ ?_
  rintro m l L ⟨z, e, ds, oa, on, oc, cs, rfl, rfl, rfl, h0, h1, h2, h3, h4, h5⟩
  subst h0
  have hon : on ≤ 1000004 := by split at h2 <;> omega
  by_cases hz : 0 < z
  · obtain rfl : z = (e : Int) := by omega
    obtain ⟨f, hf⟩ : ∃ f, f = e - 4 := ⟨_, rfl⟩
    rw [if_neg (by omega)] at h2
    have hcut := dv_cut (bs := bs) (f := f) (e := e) (by omega) (by omega)
    have hff : e - f = 4 ∨ dv (bs.take f) = 0 := by
      by_cases h : 4 ≤ e
      · exact .inl (by omega)
      · refine .inr ?_
        rw [show f = 0 by omega]; rfl
    have hd2 : ∀ k, isDg ((bs.drop f).take k) := fun k c hc => hd c (List.mem_of_mem_drop (List.mem_of_mem_take hc))
    rcases Nat.lt_or_ge e 4 with he4 | he4
    · have he40 : e < 4 := he4
      
      repeat' (first | (apply RW.q1; exact qt) | refine xsg cts ?_ | (apply CW_condT; exact rfl; exact ar) | (apply CW_condF; exact rfl; exact ar) | (refine hK _ _ ?_; clear hK; refine xsg xsl ?_) | ((first | apply RW.a1 | apply RW.a0); (first | (apply gw_asg; exact rfl) | (apply gw_lit1; exact rfl; exact rfl; exact rfl; exact rfl; decide; intro b) | (apply gw_lit2; exact rfl; exact rfl; exact rfl; exact rfl; intro b) | (apply gw_lit3; exact rfl; exact rfl; exact rfl; exact rfl; exact rfl; intro b) | (apply gw_ap1; exact rfl; exact rfl; infer_instance; infer_instance; exact rfl; exact rfl; exact rfl; exact rfl; omega; intro a c) | (apply gw_ap1n; exact rfl; exact rfl; infer_instance; exact rfl; exact rfl; exact rfl; exact rfl; omega; intro a c) | (fail))) | (apply CW_region; intro K hK) | (apply CW_condX; exact rfl; exact tst; exact tst; all_goals (intro hq hc; try exact no)))
      refine CW_loop (fun m l L => ∃ (i n : Nat), m = e - i ∧ l = [(0, true, .string (bstr bs)), (3, true, .slice oa on oc), (4, true, .int .i64 (e : Nat)), (6, true, .int .i64 (n : Nat)), (7, true, .int .i64 (i : Nat))] ∧
          L = [.own 3 1 oa on oc (li ds)] ∧ f ≤ i ∧ i ≤ e ∧ n = dv ((bs.drop f).take (i - f)))
        ⟨_, _, _, ⟨f, 0, rfl, rfl, rfl, Nat.le_refl _, by omega, by rw [Nat.sub_self]; rfl⟩, by exact sbe, by exact sbl⟩ ?_
      rintro m l L ⟨i, n, rfl, rfl, rfl, g1, g2, g3⟩
      have hnl : n < 10 ^ (i - f) := by rw [g3]; exact dv_lt _ _ (by rw [List.length_take, List.length_drop]; omega) (hd2 _)
      by_cases hi : i < e
      · obtain ⟨x, hx⟩ : ∃ c, bs[i]? = some c := ⟨_, List.getElem?_eq_getElem (by omega)⟩
        have hxd := hd x (List.mem_of_getElem? hx)
        have hx2 : (bs.drop f)[i - f]? = some x := by rw [List.getElem?_drop, show f + (i - f) = i by omega]; exact hx
        have hn' : dv ((bs.drop f).take (i + 1 - f)) = n * 10 + (x.toNat - 48) := by rw [show i + 1 - f = (i - f) + 1 by omega, List.take_add_one, hx2, g3]; exact dv_snoc _ _
        have hp3 : 10 ^ (i - f) ≤ 1000 := by
          have : 10 ^ (i - f) ≤ 10 ^ 3 := Nat.pow_le_pow_right (by decide) (by omega)
          simpa using this
        
        repeat' (first | (apply RW.q1; (first | (apply q_ixc x; exact rfl; exact rfl; exact hx; omega) | exact qt)) | refine xsg cts ?_ | (apply CW_condT; exact rfl; exact ar) | (apply CW_condF; exact rfl; exact ar) | (refine hK _ _ ?_; clear hK; refine xsg xsl ?_) | ((first | apply RW.a1 | apply RW.a0); (first | (apply gw_asg; exact rfl) | (apply gw_lit1; exact rfl; exact rfl; exact rfl; exact rfl; decide; intro b) | (apply gw_lit2; exact rfl; exact rfl; exact rfl; exact rfl; intro b) | (apply gw_lit3; exact rfl; exact rfl; exact rfl; exact rfl; exact rfl; intro b) | (apply gw_ap1; exact rfl; exact rfl; infer_instance; infer_instance; exact rfl; exact rfl; exact rfl; exact rfl; omega; intro a c) | (apply gw_ap1n; exact rfl; exact rfl; infer_instance; exact rfl; exact rfl; exact rfl; exact rfl; omega; intro a c) | (fail))) | (apply CW_region; intro K hK) | (apply CW_condX; exact rfl; exact tst; exact tst; all_goals (intro hq hc; try exact no)))
        exact ⟨_, _, _, ⟨i + 1, n * 10 + (x.toNat - 48), rfl, rfl, rfl, by omega, by omega, hn'.symm⟩, by exact sbe, by exact sbl, by omega⟩
      · obtain rfl : i = e := by omega
        have hp4 : 10 ^ (i - f) ≤ 10000 := by
          have : 10 ^ (i - f) ≤ 10 ^ 4 := Nat.pow_le_pow_right (by decide) (by omega)
          simpa using this
        rw [← g3] at hcut
        
        repeat' (first | (apply RW.q1; exact qt) | refine xsg cts ?_ | (apply CW_condT; exact rfl; exact ar) | (apply CW_condF; exact rfl; exact ar) | (refine hK _ _ ?_; clear hK; refine xsg xsl ?_) | ((first | apply RW.a1 | apply RW.a0); (first | (apply gw_asg; exact rfl) | (apply gw_lit1; exact rfl; exact rfl; exact rfl; exact rfl; decide; intro b) | (apply gw_lit2; exact rfl; exact rfl; exact rfl; exact rfl; intro b) | (apply gw_lit3; exact rfl; exact rfl; exact rfl; exact rfl; exact rfl; intro b) | (apply gw_ap1; exact rfl; exact rfl; infer_instance; infer_instance; exact rfl; exact rfl; exact rfl; exact rfl; omega; intro a c) | (apply gw_ap1n; exact rfl; exact rfl; infer_instance; exact rfl; exact rfl; exact rfl; exact rfl; omega; intro a c) | (fail))) | (apply CW_region; intro K hK) | (apply CW_condX; exact rfl; exact tst; exact tst; all_goals (intro hq hc; try exact no)))
        refine ⟨_, _, _, ⟨(i : Int) - 4, f, ds ++ [n], _, on + 1, _, _, rfl, rfl, rfl, ?_, by rw [List.length_append, h1]; rfl, by split <;> omega, dg_append.2 ⟨h3, fun d hd => by rw [List.mem_singleton.1 hd]; exact Nat.lt_of_lt_of_le hnl hp4⟩, ?_, by omega⟩, by exact sbe, by exact sbl, by omega⟩
        · unfold li; rw [List.map_append]; rfl
        · rw [nv_app, h1]
          have := limb_step h4 hcut hff
          simpa [nv] using this
    · have he40 : 4 ≤ e := he4
      
      repeat' (first | (apply RW.q1; exact qt) | refine xsg cts ?_ | (apply CW_condT; exact rfl; exact ar) | (apply CW_condF; exact rfl; exact ar) | (refine hK _ _ ?_; clear hK; refine xsg xsl ?_) | ((first | apply RW.a1 | apply RW.a0); (first | (apply gw_asg; exact rfl) | (apply gw_lit1; exact rfl; exact rfl; exact rfl; exact rfl; decide; intro b) | (apply gw_lit2; exact rfl; exact rfl; exact rfl; exact rfl; intro b) | (apply gw_lit3; exact rfl; exact rfl; exact rfl; exact rfl; exact rfl; intro b) | (apply gw_ap1; exact rfl; exact rfl; infer_instance; infer_instance; exact rfl; exact rfl; exact rfl; exact rfl; omega; intro a c) | (apply gw_ap1n; exact rfl; exact rfl; infer_instance; exact rfl; exact rfl; exact rfl; exact rfl; omega; intro a c) | (fail))) | (apply CW_region; intro K hK) | (apply CW_condX; exact rfl; exact tst; exact tst; all_goals (intro hq hc; try exact no)))
      refine CW_loop (fun m l L => ∃ (i n : Nat), m = e - i ∧ l = [(0, true, .string (bstr bs)), (3, true, .slice oa on oc), (4, true, .int .i64 (e : Nat)), (6, true, .int .i64 (n : Nat)), (7, true, .int .i64 (i : Nat))] ∧
          L = [.own 3 1 oa on oc (li ds)] ∧ f ≤ i ∧ i ≤ e ∧ n = dv ((bs.drop f).take (i - f)))
        ⟨_, _, _, ⟨f, 0, rfl, rfl, rfl, Nat.le_refl _, by omega, by rw [Nat.sub_self]; rfl⟩, by exact sbe, by exact sbl⟩ ?_
      rintro m l L ⟨i, n, rfl, rfl, rfl, g1, g2, g3⟩
      have hnl : n < 10 ^ (i - f) := by rw [g3]; exact dv_lt _ _ (by rw [List.length_take, List.length_drop]; omega) (hd2 _)
      by_cases hi : i < e
      · obtain ⟨x, hx⟩ : ∃ c, bs[i]? = some c := ⟨_, List.getElem?_eq_getElem (by omega)⟩
        have hxd := hd x (List.mem_of_getElem? hx)
        have hx2 : (bs.drop f)[i - f]? = some x := by rw [List.getElem?_drop, show f + (i - f) = i by omega]; exact hx
        have hn' : dv ((bs.drop f).take (i + 1 - f)) = n * 10 + (x.toNat - 48) := by rw [show i + 1 - f = (i - f) + 1 by omega, List.take_add_one, hx2, g3]; exact dv_snoc _ _
        have hp3 : 10 ^ (i - f) ≤ 1000 := by
          have : 10 ^ (i - f) ≤ 10 ^ 3 := Nat.pow_le_pow_right (by decide) (by omega)
          simpa using this
        
        repeat' (first | (apply RW.q1; (first | (apply q_ixc x; exact rfl; exact rfl; exact hx; omega) | exact qt)) | refine xsg cts ?_ | (apply CW_condT; exact rfl; exact ar) | (apply CW_condF; exact rfl; exact ar) | (refine hK _ _ ?_; clear hK; refine xsg xsl ?_) | ((first | apply RW.a1 | apply RW.a0); (first | (apply gw_asg; exact rfl) | (apply gw_lit1; exact rfl; exact rfl; exact rfl; exact rfl; decide; intro b) | (apply gw_lit2; exact rfl; exact rfl; exact rfl; exact rfl; intro b) | (apply gw_lit3; exact rfl; exact rfl; exact rfl; exact rfl; exact rfl; intro b) | (apply gw_ap1; exact rfl; exact rfl; infer_instance; infer_instance; exact rfl; exact rfl; exact rfl; exact rfl; omega; intro a c) | (apply gw_ap1n; exact rfl; exact rfl; infer_instance; exact rfl; exact rfl; exact rfl; exact rfl; omega; intro a c) | (fail))) | (apply CW_region; intro K hK) | (apply CW_condX; exact rfl; exact tst; exact tst; all_goals (intro hq hc; try exact no)))
        exact ⟨_, _, _, ⟨i + 1, n * 10 + (x.toNat - 48), rfl, rfl, rfl, by omega, by omega, hn'.symm⟩, by exact sbe, by exact sbl, by omega⟩
      · obtain rfl : i = e := by omega
        have hp4 : 10 ^ (i - f) ≤ 10000 := by
          have : 10 ^ (i - f) ≤ 10 ^ 4 := Nat.pow_le_pow_right (by decide) (by omega)
          simpa using this
        rw [← g3] at hcut
        
        repeat' (first | (apply RW.q1; exact qt) | refine xsg cts ?_ | (apply CW_condT; exact rfl; exact ar) | (apply CW_condF; exact rfl; exact ar) | (refine hK _ _ ?_; clear hK; refine xsg xsl ?_) | ((first | apply RW.a1 | apply RW.a0); (first | (apply gw_asg; exact rfl) | (apply gw_lit1; exact rfl; exact rfl; exact rfl; exact rfl; decide; intro b) | (apply gw_lit2; exact rfl; exact rfl; exact rfl; exact rfl; intro b) | (apply gw_lit3; exact rfl; exact rfl; exact rfl; exact rfl; exact rfl; intro b) | (apply gw_ap1; exact rfl; exact rfl; infer_instance; infer_instance; exact rfl; exact rfl; exact rfl; exact rfl; omega; intro a c) | (apply gw_ap1n; exact rfl; exact rfl; infer_instance; exact rfl; exact rfl; exact rfl; exact rfl; omega; intro a c) | (fail))) | (apply CW_region; intro K hK) | (apply CW_condX; exact rfl; exact tst; exact tst; all_goals (intro hq hc; try exact no)))
        refine ⟨_, _, _, ⟨(i : Int) - 4, f, ds ++ [n], _, on + 1, _, _, rfl, rfl, rfl, ?_, by rw [List.length_append, h1]; rfl, by split <;> omega, dg_append.2 ⟨h3, fun d hd => by rw [List.mem_singleton.1 hd]; exact Nat.lt_of_lt_of_le hnl hp4⟩, ?_, by omega⟩, by exact sbe, by exact sbl, by omega⟩
        · unfold li; rw [List.map_append]; rfl
        · rw [nv_app, h1]
          have := limb_step h4 hcut hff
          simpa [nv] using this
  · have he : e = 0 := by omega
    have h4' : nv B4 ds = dv bs := by rw [h4, he, List.take_zero]; simp [dv]
    
    repeat' (first | (apply RW.q1; exact qt) | refine xsg cts ?_ | (apply CW_condT; exact rfl; exact ar) | (apply CW_condF; exact rfl; exact ar) | (refine hK _ _ ?_; clear hK; refine xsg xsl ?_) | ((first | apply RW.a1 | apply RW.a0); (first | (apply gw_callE (f := 122); exact rfl; exact go122; intro G hG; exact trimL_spec ds (dv bs) oa on oc G (sl_own (by exact pkx) hG) h1 (by omega) h3 h4') | (apply gw_asg; exact rfl) | (apply gw_lit1; exact rfl; exact rfl; exact rfl; exact rfl; decide; intro b) | (apply gw_lit2; exact rfl; exact rfl; exact rfl; exact rfl; intro b) | (apply gw_lit3; exact rfl; exact rfl; exact rfl; exact rfl; exact rfl; intro b) | (apply gw_ap1; exact rfl; exact rfl; infer_instance; infer_instance; exact rfl; exact rfl; exact rfl; exact rfl; omega; intro a c) | (apply gw_ap1n; exact rfl; exact rfl; infer_instance; exact rfl; exact rfl; exact rfl; exact rfl; omega; intro a c) | (fail))) | (apply CW_region; intro K hK) | (apply CW_condX; exact rfl; exact tst; exact tst; all_goals (intro hq hc; try exact no)))
    refine CW_drop [.own 3 1 oa (dgs B4 (dv bs)).length oc (li (dgs B4 (dv bs)))] ?_ ?_
    · rw [← h4']
      apply subl_normL
      · exact pkx
      · exact h3
      · exact h1
      · exact subl_nil
    · (refine CW_ret ?_; refine xsg xsl ?_; refine bR [.tmp 2] [.own 3 1 oa (dgs B4 (dv bs)).length oc (li (dgs B4 (dv bs)))] ?_)
      exact ⟨oa, oc, rfl, rfl⟩
end Go.Proofs.YtnhbipachchlgaaGreat.HL
namespace Go.Proofs.YtnhbipachchlgaaGreat.HL
open Go
attribute [local irreducible] goFn thenS blockS bodyS CW RW DW GW QW NW SC Pick Picks SubL Rd NN ResOk SrcW subE hops hseg AW hgen HC qv bldv
set_option linter.unusedVariables false
set_option linter.unusedSimpArgs false

theorem li_set (l : List Nat) (k d : Nat) : (li l).set k (.int .i64 (d : Int)) = li (l.set k d) := List.map_set.symm
theorem li_zero (n : Nat) : zrow [Value.int .i64 0] n = li (List.replicate n 0) := by
  rw [zrow_one]; simp
section
variable {P : Program} {l : Ents} {H : Hp} {L L' : List Res} {K : Value → List Res → Prop} {d : Option Tmp} {T : TypeId} {pos : String} {aft : Array Edge} {gd : Option (Nat × Bool)}
theorem gw_sol {t e : TypeId} {m c : Nat} {x y : Operand} {v : Int} {a : Option Addr} {k : Nat} {os : List Nat} (j w : Nat) [hz : Szc P t 1] (hx : evg l true x = some (.pointer (pt a k))) (hy : evg l true y = some (.int .i64 v)) (hp : POwn L a e 1 m c (li os) L')
    (hk : k = j) (hv : v = (w : Int)) (hl : j < os.length) (h : K undef (.own e 1 a m c (li (os.set j w)) :: L')) : GW P l ⟨d, .store t x y, T, pos, aft, gd⟩ H L K := by
  subst hk; subst hv
  exact gw_so1 hx hy hp rfl rfl (by rw [li_len]; exact hl) (by rw [li_set]; exact h)
end
theorem times_spec (xs ys : List Nat) (x y n m : Nat) (xa ya : Option Addr) (xc yc : Nat) (H : Hp) (hn : xs.length = n) (hm : ys.length = m) (dx : Dg B4 xs) (dy : Dg B4 ys) (vx : nv B4 xs = x) (vy : nv B4 ys = y) (x3 : Rs H 1 xa n xc (li xs)) (y3 : Rs H 1 ya m yc (li ys)) (hN : n ≤ 1048576) (hM : m ≤ 1048576) :
    SC Tryz.prog 117 [.slice xa n xc, .slice ya m yc] H [] (fun v M => ∃ a c, v = .slice a (dgs B4 (x * y)).length c ∧ M = [.own 3 1 a (dgs B4 (x * y)).length c (li (dgs B4 (x * y)))]) := by
  (refine SC_intro Tryz.func117 rfl (by kernel_rfl) (by rw [Tryz.ntmps117]; exact Nat.le_of_ble_eq_true rfl) ?_; simp only [Tryz.ntmps117, argE, Nat.reduceAdd])
  
  repeat' (first | ((first | apply RW.q1 | (apply DW.q1; exact rfl)); exact qt) | refine xsg cts ?_ | (apply CW_condT; exact rfl; exact ar) | (apply CW_condF; exact rfl; exact ar) | (refine hK _ _ ?_; clear hK; refine xsg xsl ?_) | (refine xsg ahd ?_; (first | (apply gw_asg; exact rfl) | (apply gw_make; exact rfl; exact rfl; exact rfl; exact rfl; omega; omega; omega; omega; intro b) | (refine gw_stx sto ?_) | (fail))) | (apply CW_region; intro K hK) | (apply CW_condX; exact rfl; exact tst; exact tst; all_goals (intro hq hc; try exact no)) | (refine CW_draw (id := 9) [] [(0, false), (1, false), (2, false), (3, false), (4, false), (5, false), (6, false), (7, false), (8, false), (9, false), (10, false), (11, false), (12, false), (13, false), (14, false), (15, false), (16, false), (17, false), (18, true)] mixed (by kernel_rfl) (fun K hK => ?_)))
  have e0 : zrow [Value.int .i64 0] ((n : Int) + m).toNat = li (List.replicate (n + m) 0) := by rw [li_zero, show ((n : Int) + m).toNat = n + m by omega]
  rw [e0]
  refine CW_loop (fun mm l L => ∃ (i : Nat) (os : List Nat) (oa : Option Addr) (on oc : Nat), mm = n - i ∧ l = [(0, true, .slice xa n xc), (1, true, .slice ya m yc), (5, true, .slice oa on oc), (6, true, .int .i64 (i : Nat))] ∧
      L = [.own 3 1 oa on oc (li os)] ∧ i ≤ n ∧ on = n + m ∧ os.length = n + m ∧ Dg B4 os ∧ nv B4 os = nv B4 (xs.take i) * nv B4 ys ∧ ∀ j, i + m ≤ j → j < n + m → os[j]? = some 0)
    ⟨_, _, _, ⟨0, _, _, ((n : Int) + m).toNat, _, rfl, rfl, rfl, Nat.zero_le _, by omega, List.length_replicate, dg_zeros (by decide) _, by rw [nv_zeros]; simp [nv], fun j _ hj => by rw [List.getElem?_replicate, if_pos hj]⟩, by exact sbe, by exact sbl⟩ ?_
  rintro mm l L ⟨i, os, oa, on, oc, rfl, rfl, rfl, h1, h2, h3, h4, h5, h6⟩
  have hmw : ∀ p q : Nat, p < B4 → q < B4 → p * q ≤ 99980001 := fun p q hp hq => by
    have := Nat.mul_le_mul (show p ≤ 9999 from Nat.le_of_lt_succ hp) (show q ≤ 9999 from Nat.le_of_lt_succ hq)
    omega
  by_cases hlt : i < n
  · obtain ⟨xi, hxi⟩ : ∃ d, xs[i]? = some d := ⟨_, List.getElem?_eq_getElem (by omega)⟩
    have hxw := dg_at dx hxi
    
    repeat' (first | ((first | apply RW.q1 | (apply DW.q1; exact rfl)); exact qt) | refine xsg cts ?_ | (apply CW_condT; exact rfl; exact ar) | (apply CW_condF; exact rfl; exact ar) | (refine hK _ _ ?_; clear hK; refine xsg xsl ?_) | (refine xsg ahd ?_; (first | (apply gw_asg; exact rfl) | (apply gw_make; exact rfl; exact rfl; exact rfl; exact rfl; omega; omega; omega; omega; intro b) | (refine gw_stx sto ?_) | (fail))) | (apply CW_region; intro K hK) | (apply CW_condX; exact rfl; exact tst; exact tst; all_goals (intro hq hc; try exact no)) | (refine CW_draw (id := 9) [] [(0, false), (1, false), (2, false), (3, false), (4, false), (5, false), (6, false), (7, false), (8, false), (9, false), (10, false), (11, false), (12, false), (13, false), (14, false), (15, false), (16, false), (17, false), (18, true)] mixed (by kernel_rfl) (fun K hK => ?_)))
    refine CW_loop (fun mm l L => ∃ (k c : Nat) (os' : List Nat), mm = m - k ∧ l = [(0, true, .slice xa n xc), (1, true, .slice ya m yc), (5, true, .slice oa on oc), (6, true, .int .i64 (i : Nat)), (7, true, .int .i64 (c : Nat)), (8, true, .int .i64 (k : Nat))] ∧
        L = [.own 3 1 oa on oc (li os')] ∧ k ≤ m ∧ os'.length = n + m ∧ Dg B4 os' ∧ c < 10000 ∧ nv B4 os' + B4 ^ (i + k) * c = nv B4 os + B4 ^ i * (xi * nv B4 (ys.take k)) ∧ ∀ j, i + m ≤ j → j < n + m → os'[j]? = some 0)
      ⟨_, _, _, ⟨0, 0, os, rfl, rfl, rfl, Nat.zero_le _, h3, h4, by decide, by simp [nv], h6⟩, by exact sbe, by exact sbl⟩ ?_
    rintro mm l L ⟨k, c, os', rfl, rfl, rfl, g1, g2, g3, g4, g5, g6⟩
    by_cases hkt : k < m
    · obtain ⟨yk, hyk⟩ : ∃ d, ys[k]? = some d := ⟨_, List.getElem?_eq_getElem (by omega)⟩
      obtain ⟨o, ho⟩ : ∃ d, os'[i + k]? = some d := ⟨_, List.getElem?_eq_getElem (by omega)⟩
      have hyw := dg_at dy hyk
      have how := dg_at g3 ho
      have hpb := hmw xi yk hxw hyw
      obtain ⟨p, hp⟩ : ∃ p, p = xi * yk := ⟨_, rfl⟩
      have hpi : ((xi : Nat) : Int) * ((yk : Nat) : Int) = (p : Int) := by rw [hp]; exact (Int.natCast_mul ..).symm
      rw [← hp] at hpb
      have wpi : IntKind.i64.wrap (((xi : Nat) : Int) * ((yk : Nat) : Int)) = (p : Int) := by rw [hpi]; exact w_in (by simp only [inb]; omega)
      have how' : o < 10000 := how
      obtain ⟨t, ht⟩ : ∃ t, t = c + p + o := ⟨_, rfl⟩
      have hstep := mul_step (W := B4) g5 hp
      rw [← nv_take hyk] at hstep
      have hdig := mul_dig (W := B4) (j := i + k) (t := t) (x := c + p) ho ht
      have hti : ((c : Int) + (o : Int)) + (p : Int) = (t : Int) := by omega
      have wad : IntKind.i64.wrap (((c : Int) + (o : Int)) + (p : Int)) = (t : Int) := by rw [hti]; exact w_in (by simp only [inb]; omega)
      have wre : (t : Int).tmod 10000 = ((t % 10000 : Nat) : Int) := by rw [Int.tmod_eq_emod_of_nonneg (by omega)]; omega
      have wqu : IntKind.i64.wrap ((t : Int).tdiv 10000) = ((t / 10000 : Nat) : Int) := by
        rw [Int.tdiv_eq_ediv_of_nonneg (by omega), show (t : Int) / 10000 = ((t / 10000 : Nat) : Int) by omega]
        exact w_in (by simp only [inb]; omega)
      have htl : t / 10000 < 10000 := by omega
      
      repeat' (first | ((first | apply RW.q1 | (apply DW.q1; exact rfl)); (first | (apply q_ldr; exact rfl; exact rfl; exact x3; exact li_at hxi (by omega)) | (apply q_ldr; exact rfl; exact rfl; exact y3; exact li_at hyk (by omega)) | (apply q_ldo; exact rfl; exact rfl; infer_instance; exact li_at ho (by omega)) | (apply q_mul; exact rfl; exact rfl; exact wpi) | (apply q_add; exact rfl; exact rfl; exact wad) | (apply q_rem; exact rfl; exact rfl; decide; exact wre) | (apply q_quo; exact rfl; exact rfl; decide; exact wqu) | exact qt)) | refine xsg cts ?_ | (apply CW_condT; exact rfl; exact ar) | (apply CW_condF; exact rfl; exact ar) | (refine hK _ _ ?_; clear hK; refine xsg xsl ?_) | (refine xsg ahd ?_; (first | (apply gw_sol (i + k) (t % 10000); exact rfl; exact rfl; infer_instance; omega; exact rfl; omega) | (apply gw_asg; exact rfl) | (apply gw_make; exact rfl; exact rfl; exact rfl; exact rfl; omega; omega; omega; omega; intro b) | (refine gw_stx sto ?_) | (fail))) | (apply CW_region; intro K hK) | (apply CW_condX; exact rfl; exact tst; exact tst; all_goals (intro hq hc; try exact no)) | (refine CW_draw (id := 9) [] [(0, false), (1, false), (2, false), (3, false), (4, false), (5, false), (6, false), (7, false), (8, false), (9, false), (10, false), (11, false), (12, false), (13, false), (14, false), (15, false), (16, false), (17, false), (18, true)] mixed (by kernel_rfl) (fun K hK => ?_)))
      refine ⟨_, _, _, ⟨k + 1, t / 10000, os'.set (i + k) (t % 10000), rfl, rfl, rfl, by omega, by rw [List.length_set]; exact g2, dg_set g3 (Nat.mod_lt _ (by decide)), htl, ?_, ?_⟩, by exact sbe, by exact sbl, by omega⟩
      · rw [← hstep, ← hdig]; rfl
      · intro j hj1 hj2
        rw [List.getElem?_set_ne (by omega)]
        exact g6 j hj1 hj2
    · obtain rfl : k = m := by omega
      rw [List.take_of_length_le (by omega)] at g5
      have hz := g6 (i + k) (by omega) (by omega)
      
      repeat' (first | ((first | apply RW.q1 | (apply DW.q1; exact rfl)); exact qt) | refine xsg cts ?_ | (apply CW_condT; exact rfl; exact ar) | (apply CW_condF; exact rfl; exact ar) | (refine hK _ _ ?_; clear hK; refine xsg xsl ?_) | (refine xsg ahd ?_; (first | (apply gw_asg; exact rfl) | (apply gw_make; exact rfl; exact rfl; exact rfl; exact rfl; omega; omega; omega; omega; intro b) | (refine gw_stx sto ?_) | (fail))) | (apply CW_region; intro K hK) | (apply CW_condX; exact rfl; exact tst; exact tst; all_goals (intro hq hc; try exact no)) | (refine CW_draw (id := 9) [] [(0, false), (1, false), (2, false), (3, false), (4, false), (5, false), (6, false), (7, false), (8, false), (9, false), (10, false), (11, false), (12, false), (13, false), (14, false), (15, false), (16, false), (17, false), (18, true)] mixed (by kernel_rfl) (fun K hK => ?_)))
      refine CW_loop (fun mm l L => ∃ (cc kk : Nat) (os2 : List Nat), mm = cc + 1 ∧ l = [(0, true, .slice xa n xc), (1, true, .slice ya k yc), (5, true, .slice oa on oc), (6, true, .int .i64 (i : Nat)), (7, true, .int .i64 (cc : Nat)), (9, true, .int .i64 (kk : Nat))] ∧
          L = [.own 3 1 oa on oc (li os2)] ∧ os2.length = n + k ∧ Dg B4 os2 ∧ cc < 10000 ∧ nv B4 os2 + B4 ^ (i + k) * cc = nv B4 os' + B4 ^ (i + k) * c ∧ (0 < cc → kk = i + k ∧ os2[i + k]? = some 0) ∧ (∀ j, i + k < j → j < n + k → os2[j]? = some 0))
        ⟨_, _, _, ⟨c, i + k, os', rfl, rfl, rfl, g2, g3, g4, rfl, fun _ => ⟨rfl, hz⟩, fun j hj1 hj2 => g6 j (by omega) hj2⟩, by exact sbe, by exact sbl⟩ ?_
      rintro mm l L ⟨cc, kk, os2, rfl, rfl, rfl, r1, r2, r3, r4, r5, r6⟩
      by_cases hcc : 0 < cc
      · obtain ⟨e1, e2⟩ := r5 hcc
        subst e1
        have hset := nv_set (B := B4) cc e2
        have wre : (cc : Int).tmod 10000 = (cc : Int) := by rw [Int.tmod_eq_emod_of_nonneg (by omega)]; omega
        have wqu : IntKind.i64.wrap ((cc : Int).tdiv 10000) = 0 := by
          rw [Int.tdiv_eq_ediv_of_nonneg (by omega), show (cc : Int) / 10000 = 0 by omega]
          exact w_in (by simp only [inb]; omega)
        have wad : IntKind.i64.wrap ((cc : Int) + ((0 : Nat) : Int)) = (cc : Int) := by rw [show (cc : Int) + ((0 : Nat) : Int) = (cc : Int) by omega]; exact w_in (by simp only [inb]; omega)
        
        repeat' (first | ((first | apply RW.q1 | (apply DW.q1; exact rfl)); (first | (apply q_ldo; exact rfl; exact rfl; infer_instance; exact li_at e2 (by omega)) | (apply q_add; exact rfl; exact rfl; exact wad) | (apply q_rem; exact rfl; exact rfl; decide; exact wre) | (apply q_quo; exact rfl; exact rfl; decide; exact wqu) | exact qt)) | refine xsg cts ?_ | (apply CW_condT; exact rfl; exact ar) | (apply CW_condF; exact rfl; exact ar) | (refine hK _ _ ?_; clear hK; refine xsg xsl ?_) | (refine xsg ahd ?_; (first | (apply gw_sol (i + k) cc; exact rfl; exact rfl; infer_instance; omega; exact rfl; omega) | (apply gw_asg; exact rfl) | (apply gw_make; exact rfl; exact rfl; exact rfl; exact rfl; omega; omega; omega; omega; intro b) | (refine gw_stx sto ?_) | (fail))) | (apply CW_region; intro K hK) | (apply CW_condX; exact rfl; exact tst; exact tst; all_goals (intro hq hc; try exact no)) | (refine CW_draw (id := 9) [] [(0, false), (1, false), (2, false), (3, false), (4, false), (5, false), (6, false), (7, false), (8, false), (9, false), (10, false), (11, false), (12, false), (13, false), (14, false), (15, false), (16, false), (17, false), (18, true)] mixed (by kernel_rfl) (fun K hK => ?_)))
        refine ⟨_, _, _, ⟨0, i + k + 1, os2.set (i + k) cc, rfl, rfl, rfl, by rw [List.length_set]; exact r1, dg_set r2 r3, by decide, ?_, fun h => absurd h (by decide), ?_⟩, by exact sbe, by exact sbl, by omega⟩
        · rw [Nat.mul_zero, Nat.add_zero] at hset ⊢
          rw [hset, r4]
        · intro j hj1 hj2
          rw [List.getElem?_set_ne (by omega)]
          exact r6 j hj1 hj2
      · obtain rfl : cc = 0 := by omega
        rw [Nat.mul_zero, Nat.add_zero] at r4
        
        repeat' (first | ((first | apply RW.q1 | (apply DW.q1; exact rfl)); exact qt) | refine xsg cts ?_ | (apply CW_condT; exact rfl; exact ar) | (apply CW_condF; exact rfl; exact ar) | (refine hK _ _ ?_; clear hK; refine xsg xsl ?_) | (refine xsg ahd ?_; (first | (apply gw_asg; exact rfl) | (apply gw_make; exact rfl; exact rfl; exact rfl; exact rfl; omega; omega; omega; omega; intro b) | (refine gw_stx sto ?_) | (fail))) | (apply CW_region; intro K hK) | (apply CW_condX; exact rfl; exact tst; exact tst; all_goals (intro hq hc; try exact no)) | (refine CW_draw (id := 9) [] [(0, false), (1, false), (2, false), (3, false), (4, false), (5, false), (6, false), (7, false), (8, false), (9, false), (10, false), (11, false), (12, false), (13, false), (14, false), (15, false), (16, false), (17, false), (18, true)] mixed (by kernel_rfl) (fun K hK => ?_)))
        refine ⟨_, _, _, ⟨i + 1, os2, _, _, _, rfl, rfl, rfl, by omega, h2, r1, r2, ?_, fun j hj1 hj2 => r6 j (by omega) hj2⟩, by exact sbe, by exact sbl, by omega⟩
        rw [nv_take hxi, Nat.add_mul, ← h5, Nat.mul_assoc, r4]
        omega
  · obtain rfl : i = n := by omega
    rw [List.take_of_length_le (by omega), vx, vy] at h5
    
    repeat' (first | ((first | apply RW.q1 | (apply DW.q1; exact rfl)); exact qt) | refine xsg cts ?_ | (apply CW_condT; exact rfl; exact ar) | (apply CW_condF; exact rfl; exact ar) | (refine hK _ _ ?_; clear hK; refine xsg xsl ?_) | (refine xsg ahd ?_; (first | (apply gw_callE (f := 122); exact rfl; exact go122; intro G hG; exact trimL_spec os (x * y) oa on oc G (sl_own (by exact pkx) hG) (by omega) (by omega) h4 h5) | (apply gw_asg; exact rfl) | (apply gw_make; exact rfl; exact rfl; exact rfl; exact rfl; omega; omega; omega; omega; intro b) | (refine gw_stx sto ?_) | (fail))) | (apply CW_region; intro K hK) | (apply CW_condX; exact rfl; exact tst; exact tst; all_goals (intro hq hc; try exact no)) | (refine CW_draw (id := 9) [] [(0, false), (1, false), (2, false), (3, false), (4, false), (5, false), (6, false), (7, false), (8, false), (9, false), (10, false), (11, false), (12, false), (13, false), (14, false), (15, false), (16, false), (17, false), (18, true)] mixed (by kernel_rfl) (fun K hK => ?_)))
    refine CW_drop [.own 3 1 oa (dgs B4 (x * y)).length oc (li (dgs B4 (x * y)))] ?_ ?_
    · rw [← h5]
      apply subl_normL
      · exact pkx
      · exact h4
      · omega
      · exact subl_nil
    · (refine CW_ret ?_; refine xsg xsl ?_; refine bR [.tmp 4] [.own 3 1 oa (dgs B4 (x * y)).length oc (li (dgs B4 (x * y)))] ?_)
      exact ⟨oa, oc, rfl, rfl⟩
end Go.Proofs.YtnhbipachchlgaaGreat.HL
namespace Go.Proofs.YtnhbipachchlgaaGreat.HL
open Go
attribute [local irreducible] goFn thenS blockS bodyS CW RW DW GW QW NW SC Pick Picks SubL Rd NN ResOk SrcW subE hops hseg AW hgen HC qv bldv
set_option linter.unusedVariables false
set_option linter.unusedSimpArgs false

def dig4 (d : Nat) : List Nat := [d / 1000, d / 100 % 10, d / 10 % 10, d % 10]
def tb : List Nat → List UInt8
  | [] => []
  | d :: r => tb r ++ (dig4 d).map digB
theorem dig4_dg {d : Nat} (h : d < 10000) : Dg 10 (dig4 d) := fun e he => by
  simp only [dig4, List.mem_cons, List.not_mem_nil, or_false] at he
  rcases he with rfl | rfl | rfl | rfl <;> omega
theorem digB_isDg {l : List Nat} (h : Dg 10 l) : isDg (l.map digB) := fun c hc => by
  obtain ⟨x, hx, rfl⟩ := List.mem_map.1 hc
  have := h x hx
  rw [digB_nat this]; omega
theorem dig4_dv {d : Nat} (h : d < 10000) : dv ((dig4 d).map digB) = d := by
  have e : (dig4 d).map digB = (([] ++ [digB (d / 1000)]) ++ [digB (d / 100 % 10)] ++ [digB (d / 10 % 10)]) ++ [digB (d % 10)] := rfl
  rw [e, dv_snoc, dv_snoc, dv_snoc, dv_snoc, digB_nat (by omega), digB_nat (by omega), digB_nat (by omega), digB_nat (by omega)]
  simp [dv]
  omega
theorem dig4_cells {d : Nat} (h : d < 10000) : by8 ((dig4 d).map digB) = [.int .u8 (48 + (d : Int) / 1000), .int .u8 (48 + (d : Int) / 100 % 10), .int .u8 (48 + (d : Int) / 10 % 10), .int .u8 (48 + (d : Int) % 10)] := by
  show [Value.int .u8 ((digB (d / 1000)).toNat : Int), .int .u8 ((digB (d / 100 % 10)).toNat : Int), .int .u8 ((digB (d / 10 % 10)).toNat : Int), .int .u8 ((digB (d % 10)).toNat : Int)] = _
  rw [digB_nat (by omega), digB_nat (by omega), digB_nat (by omega), digB_nat (by omega)]
  simp only [List.cons.injEq, Value.int.injEq, true_and, and_true]
  refine ⟨?_, ?_, ?_, ?_⟩ <;> omega
theorem tb_ok : ∀ {l : List Nat}, Dg B4 l → dv (tb l) = nv B4 l ∧ isDg (tb l) ∧ (tb l).length = 4 * l.length
  | [], _ => ⟨rfl, (fun c hc => by cases hc), rfl⟩
  | d :: r, h => by
    have hd : d < 10000 := (dg_cons.1 h).1
    obtain ⟨h1, h2, h3⟩ := tb_ok (dg_cons.1 h).2
    refine ⟨?_, ?_, ?_⟩
    · show dv (tb r ++ (dig4 d).map digB) = d + B4 * nv B4 r
      rw [dv_app, h1, dig4_dv hd, List.length_map]
      show nv B4 r * 10 ^ 4 + d = d + 10000 * nv B4 r
      omega
    · intro c hc
      rcases List.mem_append.1 (show c ∈ tb r ++ (dig4 d).map digB from hc) with hc | hc
      · exact h2 c hc
      · exact digB_isDg (dig4_dg hd) c hc
    · show (tb r ++ (dig4 d).map digB).length = _
      rw [List.length_append, h3, List.length_map, List.length_cons]
      show _ + 4 = _
      omega
theorem dv_nought (t : List UInt8) : dv (48 :: t) = dv t := rfl
theorem text_spec (N n : Nat) (a : Option Addr) (c : Nat) (H : Hp) (hn : (dgs B4 N).length = n) (hN : n ≤ 4194304) (hx : Rs H 1 a n c (li (dgs B4 N))) :
    SC Tryz.prog 116 [.slice a n c] H [] (fun v M => v = .string (bstr (Lib.decDigits N)) ∧ M = []) := by
  by_cases h0 : N = 0
  · subst h0
    rw [dgs_zero] at hn
    obtain rfl : n = 0 := hn.symm
    (refine SC_intro Tryz.func116 rfl (by kernel_rfl) (by rw [Tryz.ntmps116]; exact Nat.le_of_ble_eq_true rfl) ?_; simp only [Tryz.ntmps116, argE, Nat.reduceAdd])
    
    repeat' (first | ((first | apply RW.q1 | (apply DW.q1; exact rfl)); exact qt) | refine xsg cts ?_ | (apply CW_condT; exact rfl; exact ar) | (apply CW_condF; exact rfl; exact ar) | (refine hK _ _ ?_; clear hK; refine xsg xsl ?_) | (refine xsg ahd ?_; (first | (apply gw_asg; exact rfl) | (apply gw_make; exact rfl; exact rfl; exact rfl; exact rfl; omega; omega; omega; omega; intro b) | (apply gw_lit1; exact rfl; exact rfl; exact rfl; exact rfl; decide; intro b) | (apply gw_lit2; exact rfl; exact rfl; exact rfl; exact rfl; intro b) | (apply gw_lit3; exact rfl; exact rfl; exact rfl; exact rfl; exact rfl; intro b) | (apply gw_ap1; exact rfl; exact rfl; infer_instance; infer_instance; exact rfl; exact rfl; exact rfl; exact rfl; omega; intro a c) | (apply gw_ap1n; exact rfl; exact rfl; infer_instance; exact rfl; exact rfl; exact rfl; exact rfl; omega; intro a c) | (fail))) | (apply CW_region; intro K hK) | (apply CW_condX; exact rfl; exact tst; exact tst; all_goals (intro hq hc; try exact no)) | (refine CW_draw (id := 7) [] [(0, false), (1, false), (2, false), (3, false), (4, false), (5, false), (6, false), (7, false), (8, false), (9, false), (10, false), (11, false), (12, false), (13, false), (14, false), (15, false), (16, false), (17, false), (18, false), (19, false), (20, false), (21, false), (22, false), (23, false), (24, false), (25, false), (26, false), (27, false), (28, false), (29, false), (30, false), (31, true), (32, true), (33, true)] mixed (by kernel_rfl) (fun K hK => ?_)))
    all_goals (refine CW_ret ?_; refine xsg xsl ?_; refine bR [.tmp 2] [] ?_)
    all_goals exact ⟨by rw [dec_small (by decide)]; rfl, rfl⟩
  have hN0 : 0 < N := Nat.pos_of_ne_zero h0
  have hpos : 0 < n := by rw [← hn, dgs_pos b1 hN0]; exact Nat.succ_pos _
  obtain ⟨l, hl⟩ : ∃ l, l = dgs B4 N := ⟨_, rfl⟩
  have hld : Dg B4 l := by rw [hl]; exact dgs_dg b1 N
  have hlv : nv B4 l = N := by rw [hl]; exact nv_dgs b1 N
  rw [← hl] at hn hx
  (refine SC_intro Tryz.func116 rfl (by kernel_rfl) (by rw [Tryz.ntmps116]; exact Nat.le_of_ble_eq_true rfl) ?_; simp only [Tryz.ntmps116, argE, Nat.reduceAdd])
  
  repeat' (first | ((first | apply RW.q1 | (apply DW.q1; exact rfl)); exact qt) | refine xsg cts ?_ | (apply CW_condT; exact rfl; exact ar) | (apply CW_condF; exact rfl; exact ar) | (refine hK _ _ ?_; clear hK; refine xsg xsl ?_) | (refine xsg ahd ?_; (first | (apply gw_asg; exact rfl) | (apply gw_make; exact rfl; exact rfl; exact rfl; exact rfl; omega; omega; omega; omega; intro b) | (apply gw_lit1; exact rfl; exact rfl; exact rfl; exact rfl; decide; intro b) | (apply gw_lit2; exact rfl; exact rfl; exact rfl; exact rfl; intro b) | (apply gw_lit3; exact rfl; exact rfl; exact rfl; exact rfl; exact rfl; intro b) | (apply gw_ap1; exact rfl; exact rfl; infer_instance; infer_instance; exact rfl; exact rfl; exact rfl; exact rfl; omega; intro a c) | (apply gw_ap1n; exact rfl; exact rfl; infer_instance; exact rfl; exact rfl; exact rfl; exact rfl; omega; intro a c) | (fail))) | (apply CW_region; intro K hK) | (apply CW_condX; exact rfl; exact tst; exact tst; all_goals (intro hq hc; try exact no)) | (refine CW_draw (id := 7) [] [(0, false), (1, false), (2, false), (3, false), (4, false), (5, false), (6, false), (7, false), (8, false), (9, false), (10, false), (11, false), (12, false), (13, false), (14, false), (15, false), (16, false), (17, false), (18, false), (19, false), (20, false), (21, false), (22, false), (23, false), (24, false), (25, false), (26, false), (27, false), (28, false), (29, false), (30, false), (31, true), (32, true), (33, true)] mixed (by kernel_rfl) (fun K hK => ?_)))
  refine CW_loop (fun m L' L => ∃ (k : Nat) (ba : Option Addr) (bn bc : Nat) (cs : List Value), m = k + 1 ∧ L' = [(0, true, .slice a n c), (3, true, .slice ba bn bc), (4, true, .int .i64 ((k : Int) - 1))] ∧
      L = [.own 5 1 ba bn bc cs] ∧ cs = by8 (tb (l.drop k)) ∧ k ≤ n ∧ bn = 4 * (n - k))
    ⟨_, _, _, ⟨n, _, _, _, _, rfl, rfl, rfl, by rw [List.drop_eq_nil_of_le (by omega)], Nat.le_refl _, by rw [Nat.sub_self]⟩, by exact sbe, by exact sbl⟩ ?_
  rintro m L' L ⟨k, ba, bn, bc, cs, rfl, rfl, rfl, g1, g2, g3⟩
  subst g1
  by_cases hk : 0 < k
  · obtain ⟨d, hd⟩ : ∃ d, l[k - 1]? = some d := ⟨_, List.getElem?_eq_getElem (by omega)⟩
    have hdw : d < 10000 := dg_at hld hd
    have hdr : l.drop (k - 1) = d :: l.drop k := by
      have hlt : k - 1 < l.length := by omega
      rw [List.getElem?_eq_getElem hlt] at hd
      rw [List.drop_eq_getElem_cons hlt, Option.some.inj hd, show k - 1 + 1 = k by omega]
    
    repeat' (first | ((first | apply RW.q1 | (apply DW.q1; exact rfl)); (first | (apply q_ldr; exact rfl; exact rfl; exact hx; exact li_at hd (by omega)) | exact qt)) | refine xsg cts ?_ | (apply CW_condT; exact rfl; exact ar) | (apply CW_condF; exact rfl; exact ar) | (refine hK _ _ ?_; clear hK; refine xsg xsl ?_) | (refine xsg ahd ?_; (first | (refine gw_litn (cs := [_, _, _, _]) rfl rfl rfl rfl rfl (by decide) (fun lb => ?_)) | (apply gw_asg; exact rfl) | (apply gw_make; exact rfl; exact rfl; exact rfl; exact rfl; omega; omega; omega; omega; intro b) | (apply gw_lit1; exact rfl; exact rfl; exact rfl; exact rfl; decide; intro b) | (apply gw_lit2; exact rfl; exact rfl; exact rfl; exact rfl; intro b) | (apply gw_lit3; exact rfl; exact rfl; exact rfl; exact rfl; exact rfl; intro b) | (apply gw_ap1; exact rfl; exact rfl; infer_instance; infer_instance; exact rfl; exact rfl; exact rfl; exact rfl; omega; intro a c) | (apply gw_ap1n; exact rfl; exact rfl; infer_instance; exact rfl; exact rfl; exact rfl; exact rfl; omega; intro a c) | (fail))) | (apply CW_region; intro K hK) | (apply CW_condX; exact rfl; exact tst; exact tst; all_goals (intro hq hc; try exact no)) | (refine CW_draw (id := 7) [] [(0, false), (1, false), (2, false), (3, false), (4, false), (5, false), (6, false), (7, false), (8, false), (9, false), (10, false), (11, false), (12, false), (13, false), (14, false), (15, false), (16, false), (17, false), (18, false), (19, false), (20, false), (21, false), (22, false), (23, false), (24, false), (25, false), (26, false), (27, false), (28, false), (29, false), (30, false), (31, true), (32, true), (33, true)] mixed (by kernel_rfl) (fun K hK => ?_)))
    refine ⟨_, _, _, ⟨k - 1, _, bn + 4, _, _, rfl, rfl, rfl, ?_, by omega, by omega⟩, by exact sbe, by exact sbl, by omega⟩
    rw [hdr]
    show _ = by8 (tb (l.drop k) ++ (dig4 d).map digB)
    rw [show by8 (tb (l.drop k) ++ (dig4 d).map digB) = by8 (tb (l.drop k)) ++ by8 ((dig4 d).map digB) from List.map_append, dig4_cells hdw]
  · obtain rfl : k = 0 := by omega
    rw [List.drop_zero]
    obtain ⟨t1, t2, t3⟩ := tb_ok hld
    rw [hlv] at t1
    obtain ⟨bs, hbs⟩ : ∃ bs, bs = tb l := ⟨_, rfl⟩
    rw [← hbs] at t1 t2 t3 ⊢
    have hbl : bs.length = bn := by omega
    
    repeat' (first | ((first | apply RW.q1 | (apply DW.q1; exact rfl)); exact qt) | refine xsg cts ?_ | (apply CW_condT; exact rfl; exact ar) | (apply CW_condF; exact rfl; exact ar) | (refine hK _ _ ?_; clear hK; refine xsg xsl ?_) | (refine xsg ahd ?_; (first | (apply gw_asg; exact rfl) | (apply gw_make; exact rfl; exact rfl; exact rfl; exact rfl; omega; omega; omega; omega; intro b) | (apply gw_lit1; exact rfl; exact rfl; exact rfl; exact rfl; decide; intro b) | (apply gw_lit2; exact rfl; exact rfl; exact rfl; exact rfl; intro b) | (apply gw_lit3; exact rfl; exact rfl; exact rfl; exact rfl; exact rfl; intro b) | (apply gw_ap1; exact rfl; exact rfl; infer_instance; infer_instance; exact rfl; exact rfl; exact rfl; exact rfl; omega; intro a c) | (apply gw_ap1n; exact rfl; exact rfl; infer_instance; exact rfl; exact rfl; exact rfl; exact rfl; omega; intro a c) | (fail))) | (apply CW_region; intro K hK) | (apply CW_condX; exact rfl; exact tst; exact tst; all_goals (intro hq hc; try exact no)) | (refine CW_draw (id := 7) [] [(0, false), (1, false), (2, false), (3, false), (4, false), (5, false), (6, false), (7, false), (8, false), (9, false), (10, false), (11, false), (12, false), (13, false), (14, false), (15, false), (16, false), (17, false), (18, false), (19, false), (20, false), (21, false), (22, false), (23, false), (24, false), (25, false), (26, false), (27, false), (28, false), (29, false), (30, false), (31, true), (32, true), (33, true)] mixed (by kernel_rfl) (fun K hK => ?_)))
    refine CW_loop (fun m L' L => ∃ (k : Nat), m = bn - k ∧ L' = [(3, true, .slice ba bn bc), (5, true, .int .i64 (k : Nat))] ∧
        L = [.own 5 1 ba bn bc (by8 bs)] ∧ k ≤ bn ∧ dv (bs.drop k) = N)
      ⟨_, _, _, ⟨0, rfl, rfl, rfl, by omega, by rw [List.drop_zero]; exact t1⟩, by exact sbe, by exact sbl⟩ ?_
    rintro m L' L ⟨k, rfl, rfl, rfl, r1, r2⟩
    have hkb : k < bs.length := by
      rcases Nat.lt_or_ge k bs.length with h | h
      · exact h
      · rw [List.drop_eq_nil_of_le h] at r2
        exact absurd r2 (by simp [dv]; omega)
    obtain ⟨x, hx2⟩ : ∃ c, bs[k]? = some c := ⟨_, List.getElem?_eq_getElem hkb⟩
    have hdr : bs.drop k = x :: bs.drop (k + 1) := by
      rw [List.getElem?_eq_getElem hkb] at hx2
      rw [List.drop_eq_getElem_cons hkb, Option.some.inj hx2]
    by_cases hz : x = 48
    · subst hz
      rw [hdr, dv_nought] at r2
      have h48 : ((48 : UInt8).toNat : Int) = 48 := rfl
      
      repeat' (first | ((first | apply RW.q1 | (apply DW.q1; exact rfl)); (first | (apply q_ldo; exact rfl; exact rfl; infer_instance; exact at8 hx2 (by omega)) | exact qt)) | refine xsg cts ?_ | (apply CW_condT; exact rfl; exact ar) | (apply CW_condF; exact rfl; exact ar) | (refine hK _ _ ?_; clear hK; refine xsg xsl ?_) | (refine xsg ahd ?_; (first | (apply gw_asg; exact rfl) | (apply gw_make; exact rfl; exact rfl; exact rfl; exact rfl; omega; omega; omega; omega; intro b) | (apply gw_lit1; exact rfl; exact rfl; exact rfl; exact rfl; decide; intro b) | (apply gw_lit2; exact rfl; exact rfl; exact rfl; exact rfl; intro b) | (apply gw_lit3; exact rfl; exact rfl; exact rfl; exact rfl; exact rfl; intro b) | (apply gw_ap1; exact rfl; exact rfl; infer_instance; infer_instance; exact rfl; exact rfl; exact rfl; exact rfl; omega; intro a c) | (apply gw_ap1n; exact rfl; exact rfl; infer_instance; exact rfl; exact rfl; exact rfl; exact rfl; omega; intro a c) | (fail))) | (apply CW_region; intro K hK) | (apply CW_condX; exact rfl; exact tst; exact tst; all_goals (intro hq hc; try exact no)) | (refine CW_draw (id := 7) [] [(0, false), (1, false), (2, false), (3, false), (4, false), (5, false), (6, false), (7, false), (8, false), (9, false), (10, false), (11, false), (12, false), (13, false), (14, false), (15, false), (16, false), (17, false), (18, false), (19, false), (20, false), (21, false), (22, false), (23, false), (24, false), (25, false), (26, false), (27, false), (28, false), (29, false), (30, false), (31, true), (32, true), (33, true)] mixed (by kernel_rfl) (fun K hK => ?_)))
      all_goals exact ⟨_, _, _, ⟨k + 1, rfl, rfl, rfl, by omega, r2⟩, by exact sbe, by exact sbl, by omega⟩
    · have h48 : ¬ (x.toNat : Int) = 48 := fun h => hz (by apply UInt8.toNat_inj.1; have : (48 : UInt8).toNat = 48 := rfl; omega)
      have hdec : Lib.decDigits N = bs.drop k := by
        rw [← r2]
        refine dec_of _ (by rw [hdr]; simp) (fun c hc => t2 c (List.mem_of_mem_drop hc)) (fun t ht => ?_)
        rw [hdr] at ht
        exact absurd (List.cons.inj ht).1 hz
      rw [hdec]
      have hb8 : (by8 bs).drop k = by8 (bs.drop k) := List.map_drop.symm
      
      repeat' (first | ((first | apply RW.q1 | (apply DW.q1; exact rfl)); (first | (apply q_ldo; exact rfl; exact rfl; infer_instance; exact at8 hx2 (by omega)) | (apply q_slt k; exact rfl; exact rfl; infer_instance; exact rfl; omega) | exact qt)) | refine xsg cts ?_ | (apply CW_condT; exact rfl; exact ar) | (apply CW_condF; exact rfl; exact ar) | (refine hK _ _ ?_; clear hK; refine xsg xsl ?_) | (refine xsg ahd ?_; (first | ((apply gw_b2s (bs := bs.drop k); exact rfl; intro G hG; have := sl_pt (k := k) (by exact pkx) hG (by omega); rw [hb8] at this; exact this)) | (apply gw_asg; exact rfl) | (apply gw_make; exact rfl; exact rfl; exact rfl; exact rfl; omega; omega; omega; omega; intro b) | (apply gw_lit1; exact rfl; exact rfl; exact rfl; exact rfl; decide; intro b) | (apply gw_lit2; exact rfl; exact rfl; exact rfl; exact rfl; intro b) | (apply gw_lit3; exact rfl; exact rfl; exact rfl; exact rfl; exact rfl; intro b) | (apply gw_ap1; exact rfl; exact rfl; infer_instance; infer_instance; exact rfl; exact rfl; exact rfl; exact rfl; omega; intro a c) | (apply gw_ap1n; exact rfl; exact rfl; infer_instance; exact rfl; exact rfl; exact rfl; exact rfl; omega; intro a c) | (fail))) | (apply CW_region; intro K hK) | (apply CW_condX; exact rfl; exact tst; exact tst; all_goals (intro hq hc; try exact no)) | (refine CW_draw (id := 7) [] [(0, false), (1, false), (2, false), (3, false), (4, false), (5, false), (6, false), (7, false), (8, false), (9, false), (10, false), (11, false), (12, false), (13, false), (14, false), (15, false), (16, false), (17, false), (18, false), (19, false), (20, false), (21, false), (22, false), (23, false), (24, false), (25, false), (26, false), (27, false), (28, false), (29, false), (30, false), (31, true), (32, true), (33, true)] mixed (by kernel_rfl) (fun K hK => ?_)))
      all_goals (refine CW_ret ?_; refine xsg xsl ?_; refine bR [.tmp 2] [] ?_)
      all_goals exact ⟨rfl, rfl⟩
end Go.Proofs.YtnhbipachchlgaaGreat.HL
namespace Go.Proofs.YtnhbipachchlgaaGreat.HL
open Go
attribute [local irreducible] goFn thenS blockS bodyS CW RW DW GW QW NW SC Pick Picks SubL Rd NN ResOk SrcW subE hops hseg AW hgen HC qv bldv
set_option linter.unusedVariables false
set_option linter.unusedSimpArgs false

theorem dec_b4_len (m : Nat) : (dgs B4 m).length ≤ (Lib.decDigits m).length := by
  refine dgs_len_of_lt b1 ?_
  obtain ⟨k, hk⟩ : ∃ k, (Lib.decDigits m).length = k + 1 := ⟨(Lib.decDigits m).length - 1, by have := dec_pos_len m; omega⟩
  have h1 := (dec_len_lt m k).2 (by omega)
  rw [hk]
  exact Nat.lt_of_lt_of_le h1 (Nat.pow_le_pow_left (by decide) _)
theorem dec_len_mono {m n : Nat} (h : m ≤ n) : (Lib.decDigits m).length ≤ (Lib.decDigits n).length := by
  obtain ⟨k, hk⟩ : ∃ k, (Lib.decDigits n).length = k + 1 := ⟨(Lib.decDigits n).length - 1, by have := dec_pos_len n; omega⟩
  have h1 := (dec_len_lt n k).2 (by omega)
  have h2 := (dec_len_lt m k).1 (by omega)
  omega
theorem rTimes_spec (x y : Nat) (H : Hp) (hx : (Lib.decDigits x).length ≤ 1000000) (hy : (Lib.decDigits y).length ≤ 1000000) :
    SC Tryz.prog 86 [.string (bstr (Lib.decDigits x)), .string (bstr (Lib.decDigits y))] H [] (fun v M => v = .string (bstr (Lib.decDigits (x * y))) ∧ M = []) := by
  have h1 := limbs_spec (Lib.decDigits x)
  have h2 := limbs_spec (Lib.decDigits y)
  rw [dec_dv] at h1 h2
  have l1 := dec_b4_len x
  have l2 := dec_b4_len y
  have l3 := dgs_len_mul b1 x y
  (refine SC_intro Tryz.func86 rfl (by kernel_rfl) (by rw [Tryz.ntmps86]; exact Nat.le_of_ble_eq_true rfl) ?_; simp only [Tryz.ntmps86, argE, Nat.reduceAdd])
  repeat' (first | (apply RW.q1; exact qt) | refine xsg cts ?_ | (apply CW_condT; exact rfl; exact ar) | (apply CW_condF; exact rfl; exact ar) | (refine hK _ _ ?_; clear hK; refine xsg xsl ?_) | ((first | apply RW.a1 | apply RW.a0); (first | (apply gw_call (f := 118); exact rfl; exact go118; intro G hG; refine SC.mono (h1 G (dec_isDg x) hx) ?_; rintro v M ⟨xa, xc, rfl, rfl⟩; (try dsimp only [jL, jM])) | (apply gw_call (f := 118); exact rfl; exact go118; intro G hG; refine SC.mono (h2 G (dec_isDg y) hy) ?_; rintro v M ⟨ya, yc, rfl, rfl⟩; (try dsimp only [jL, jM])) | (apply gw_call (f := 117); exact rfl; exact go117; intro G hG; refine SC.mono (times_spec (dgs B4 x) (dgs B4 y) x y _ _ xa ya xc yc G rfl rfl (dgs_dg b1 _) (dgs_dg b1 _) (nv_dgs b1 _) (nv_dgs b1 _) (sl_own (by exact pkx) hG) (sl_own (by exact pkx) hG) (by omega) (by omega)) ?_; rintro v M ⟨ta, tc, rfl, rfl⟩; (try dsimp only [jL, jM])) | (apply gw_callE (f := 116); exact rfl; exact go116; intro G hG; exact text_spec (x * y) _ ta tc G rfl (by omega) (sl_own (by exact pkx) hG)) | (apply gw_asg; exact rfl) | (fail))) | (apply CW_region; intro K hK) | (apply CW_condX; exact rfl; exact tst; exact tst; all_goals (intro hq hc; try exact nx)))
  (refine CW_ret ?_; refine xsg xsl ?_; refine bR [.tmp 4] [] ?_)
  exact ⟨rfl, rfl⟩
theorem pow_half (a k : Nat) : a ^ k = (a * a) ^ (k / 2) * (if k % 2 = 1 then a else 1) := by
  have h := Nat.div_add_mod k 2
  rw [← Nat.pow_two, ← Nat.pow_mul]
  rcases Nat.mod_two_eq_zero_or_one k with h0 | h0
  · rw [if_neg (by omega), Nat.mul_one]; congr 1; omega
  · rw [if_pos h0, ← Nat.pow_succ]; congr 1; omega
theorem le_pow {a k : Nat} (ha : 0 < a) (hk : 0 < k) : a ≤ a ^ k := by
  have := Nat.pow_le_pow_right ha (show 1 ≤ k from hk)
  rwa [Nat.pow_one] at this
theorem rPower_spec (a n : Nat) (H : Hp) (ha : 0 < a) (hn : n ≤ 1048576) (hl : (Lib.decDigits (a ^ n)).length ≤ 1000000) :
    SC Tryz.prog 69 [.string (bstr (Lib.decDigits a)), .int .i64 (n : Nat)] H [] (fun v M => v = .string (bstr (Lib.decDigits (a ^ n))) ∧ M = []) := by
  by_cases h0 : n = 0
  · subst h0
    (refine SC_intro Tryz.func69 rfl (by kernel_rfl) (by rw [Tryz.ntmps69]; exact Nat.le_of_ble_eq_true rfl) ?_; simp only [Tryz.ntmps69, argE, Nat.reduceAdd])
    
    repeat' (first | (apply RW.q1; exact qt) | refine xsg cts ?_ | (apply CW_condT; exact rfl; exact ar) | (apply CW_condF; exact rfl; exact ar) | (refine hK _ _ ?_; clear hK; refine xsg xsl ?_) | ((first | apply RW.a1 | apply RW.a0); (first | (apply gw_asg; exact rfl) | (fail))) | (apply CW_region; intro K hK) | (apply CW_condX; exact rfl; exact tst; exact tst; all_goals (intro hq hc; try exact no)))
    refine CW_loop (fun m l L => m = 0 ∧ l = [(1, true, .int .i64 ((0 : Nat) : Int)), (5, true, .string (bstr (Lib.decDigits 1)))] ∧ L = [])
      ⟨_, _, _, ⟨rfl, rfl, rfl⟩, by rw [dec_small (by decide)]; exact sbe, by exact sbl⟩ ?_
    rintro m l L ⟨rfl, rfl, rfl⟩
    
    repeat' (first | (apply RW.q1; exact qt) | refine xsg cts ?_ | (apply CW_condT; exact rfl; exact ar) | (apply CW_condF; exact rfl; exact ar) | (refine hK _ _ ?_; clear hK; refine xsg xsl ?_) | ((first | apply RW.a1 | apply RW.a0); (first | (apply gw_asg; exact rfl) | (fail))) | (apply CW_region; intro K hK) | (apply CW_condX; exact rfl; exact tst; exact tst; all_goals (intro hq hc; try exact no)))
    (refine CW_ret ?_; refine xsg xsl ?_; refine bR [.tmp 4] [] ?_)
    exact ⟨rfl, rfl⟩
  obtain ⟨T, hT⟩ : ∃ T, T = a ^ n := ⟨_, rfl⟩
  rw [← hT] at hl ⊢
  have e1 : bstr (Lib.decDigits 1) = ⟨#[49]⟩ := by rw [dec_small (by decide)]; rfl
  (refine SC_intro Tryz.func69 rfl (by kernel_rfl) (by rw [Tryz.ntmps69]; exact Nat.le_of_ble_eq_true rfl) ?_; simp only [Tryz.ntmps69, argE, Nat.reduceAdd])
  
  repeat' (first | (apply RW.q1; exact qt) | refine xsg cts ?_ | (apply CW_condT; exact rfl; exact ar) | (apply CW_condF; exact rfl; exact ar) | (refine hK _ _ ?_; clear hK; refine xsg xsl ?_) | ((first | apply RW.a1 | apply RW.a0); (first | (apply gw_asg; exact rfl) | (fail))) | (apply CW_region; intro K hK) | (apply CW_condX; exact rfl; exact tst; exact tst; all_goals (intro hq hc; try exact no)))
  refine CW_loop (fun m l L => ∃ (k A o : Nat), m = k ∧ l = [(0, true, .string (bstr (Lib.decDigits A))), (1, true, .int .i64 (k : Nat)), (5, true, .string (bstr (Lib.decDigits o)))] ∧ L = [] ∧ k ≤ 1048576 ∧ 0 < A ∧ 0 < o ∧ o * A ^ k = T ∧ (0 < k → A ≤ T) ∧ o ≤ T)
    ⟨_, _, _, ⟨n, a, 1, rfl, rfl, rfl, hn, ha, by decide, by rw [hT, Nat.one_mul], fun h => by rw [hT]; exact le_pow ha h, by rw [hT]; exact Nat.pow_pos ha⟩, by rw [e1]; exact sbe, by exact sbl⟩ ?_
  rintro m l L ⟨k, A, o, hm, rfl, rfl, h1, h2, h3, h4, h5, h6⟩
  by_cases hk : 0 < k
  · have hA := h5 hk
    have lA := dec_len_mono hA
    have lo := dec_len_mono h6
    have hp := pow_half A k
    have hrm : (k : Int).tmod 2 = ((k % 2 : Nat) : Int) := by rw [Int.tmod_eq_emod_of_nonneg (by omega)]; omega
    have hqu : IntKind.i64.wrap ((k : Int).tdiv 2) = ((k / 2 : Nat) : Int) := by
      rw [Int.tdiv_eq_ediv_of_nonneg (by omega), show (k : Int) / 2 = ((k / 2 : Nat) : Int) by omega]
      exact w_in (by simp only [inb]; omega)
    obtain ⟨o', ho'⟩ : ∃ o', o' = if k % 2 = 1 then o * A else o := ⟨_, rfl⟩
    have ho0 : 0 < o' := by rw [ho']; split; exact Nat.mul_pos h3 h2; exact h3
    have hoA : o' * (A * A) ^ (k / 2) = T := by
      rw [← h4, hp, ho']
      split
      · rw [Nat.mul_assoc, Nat.mul_comm A]
      · rw [Nat.mul_one]
    have hoT : o' ≤ T := by rw [← hoA]; exact Nat.le_mul_of_pos_right _ (Nat.pow_pos (Nat.mul_pos h2 h2))
    have hAA : 0 < k / 2 → A * A ≤ T := fun h => by
      rw [← hoA]
      exact Nat.le_trans (le_pow (Nat.mul_pos h2 h2) h) (Nat.le_mul_of_pos_left _ ho0)
    by_cases hodd : k % 2 = 1
    all_goals by_cases hk2 : 0 < k / 2
    · rw [if_pos hodd] at ho'
      subst ho'
      
      repeat' (first | (apply RW.q1; (first | (apply q_rem; exact rfl; exact rfl; decide; exact hrm) | (apply q_quo; exact rfl; exact rfl; decide; exact hqu) | exact qt)) | refine xsg cts ?_ | (apply CW_condT; exact rfl; exact ar) | (apply CW_condF; exact rfl; exact ar) | (refine hK _ _ ?_; clear hK; refine xsg xsl ?_) | ((first | apply RW.a1 | apply RW.a0); (first | (apply gw_callE (f := 86); exact rfl; exact go86; intro G hG; exact rTimes_spec o A G (by omega) (by omega)) | (apply gw_callE (f := 86); exact rfl; exact go86; intro G hG; exact rTimes_spec A A G (by omega) (by omega)) | (apply gw_asg; exact rfl) | (fail))) | (apply CW_region; intro K hK) | (apply CW_condX; exact rfl; exact tst; exact tst; all_goals (intro hq hc; try exact no)))
      exact ⟨_, _, _, ⟨k / 2, A * A, o * A, rfl, rfl, rfl, by omega, Nat.mul_pos h2 h2, ho0, hoA, hAA, hoT⟩, by exact sbe, by exact sbl, by omega⟩
    · rw [if_pos hodd] at ho'
      subst ho'
      
      repeat' (first | (apply RW.q1; (first | (apply q_rem; exact rfl; exact rfl; decide; exact hrm) | (apply q_quo; exact rfl; exact rfl; decide; exact hqu) | exact qt)) | refine xsg cts ?_ | (apply CW_condT; exact rfl; exact ar) | (apply CW_condF; exact rfl; exact ar) | (refine hK _ _ ?_; clear hK; refine xsg xsl ?_) | ((first | apply RW.a1 | apply RW.a0); (first | (apply gw_callE (f := 86); exact rfl; exact go86; intro G hG; exact rTimes_spec o A G (by omega) (by omega)) | (apply gw_asg; exact rfl) | (fail))) | (apply CW_region; intro K hK) | (apply CW_condX; exact rfl; exact tst; exact tst; all_goals (intro hq hc; try exact no)))
      exact ⟨_, _, _, ⟨k / 2, A, o * A, rfl, rfl, rfl, by omega, h2, ho0, by rw [show k / 2 = 0 by omega] at hoA ⊢; rw [Nat.pow_zero] at hoA ⊢; exact hoA, fun h => absurd h hk2, hoT⟩, by exact sbe, by exact sbl, by omega⟩
    · rw [if_neg hodd] at ho'
      subst ho'
      
      repeat' (first | (apply RW.q1; (first | (apply q_rem; exact rfl; exact rfl; decide; exact hrm) | (apply q_quo; exact rfl; exact rfl; decide; exact hqu) | exact qt)) | refine xsg cts ?_ | (apply CW_condT; exact rfl; exact ar) | (apply CW_condF; exact rfl; exact ar) | (refine hK _ _ ?_; clear hK; refine xsg xsl ?_) | ((first | apply RW.a1 | apply RW.a0); (first | (apply gw_callE (f := 86); exact rfl; exact go86; intro G hG; exact rTimes_spec A A G (by omega) (by omega)) | (apply gw_asg; exact rfl) | (fail))) | (apply CW_region; intro K hK) | (apply CW_condX; exact rfl; exact tst; exact tst; all_goals (intro hq hc; try exact no)))
      exact ⟨_, _, _, ⟨k / 2, A * A, o', rfl, rfl, rfl, by omega, Nat.mul_pos h2 h2, ho0, hoA, hAA, hoT⟩, by exact sbe, by exact sbl, by omega⟩
    · exfalso; omega
  · obtain rfl : k = 0 := by omega
    rw [Nat.pow_zero, Nat.mul_one] at h4
    subst h4
    
    repeat' (first | (apply RW.q1; exact qt) | refine xsg cts ?_ | (apply CW_condT; exact rfl; exact ar) | (apply CW_condF; exact rfl; exact ar) | (refine hK _ _ ?_; clear hK; refine xsg xsl ?_) | ((first | apply RW.a1 | apply RW.a0); (first | (apply gw_asg; exact rfl) | (fail))) | (apply CW_region; intro K hK) | (apply CW_condX; exact rfl; exact tst; exact tst; all_goals (intro hq hc; try exact no)))
    (refine CW_ret ?_; refine xsg xsl ?_; refine bR [.tmp 4] [] ?_)
    exact ⟨rfl, rfl⟩
end Go.Proofs.YtnhbipachchlgaaGreat.HL
