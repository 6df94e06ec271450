/- RefP: RfA: the document's faults made; all things of a package; one name that is used. Conditions: lengths. RfB: the document's large. Conditions: lengths. RfC: the document's formed. Conditions: lengths. RfD: the document's once. Conditions: lengths. RfE: the document's known, of packages by themselves. Conditions: lengths. RfJ: what is wrong of a package by itself, by the document. Conditions: lengths. -/
import Derived.Test.YtkhmimlgkjenfaaEngX
import Derived.Test.YtkhmimlgkjenfaaWalkBX
import Derived.Test.YtkhmimlgkjenfaaWalkCX
import Derived.Test.YtkhmimlgkjenfaaWalkDX
import Derived.Test.YtkhmimlgkjenfaaWalkGX
namespace Go.Proofs.Ytkhmimlgkjenfaa.HL
open Go
attribute [local irreducible] goFn thenS blockS bodyS CW RW DW GW QW NW SC Pick Picks SubL Rd NN ResOk SrcW subE hops hseg AW hgen HC qv bldv
set_option maxHeartbeats 8000000
set_option maxRecDepth 100000
set_option linter.unusedVariables false
set_option linter.unusedSimpArgs false

abbrev dwRfA0 : List (Nat × Bool) := [(0, false), (1, false), (2, false), (3, false), (4, false), (5, false), (6, false), (7, false), (8, true), (9, false), (10, false), (11, false), (12, false), (13, false), (14, false), (15, false), (16, false), (17, false), (18, false), (19, false), (20, false), (21, true), (22, false), (23, false), (24, false)]
abbrev rfV (e : Int) (a : Option Addr) (n c : Nat) : Value := .agg #[.int .i64 e, .slice a n c]
def rfE : Option (Int × Tx) → Int
  | none => 0
  | some q => q.1
def rfT : Option (Int × Tx) → List Tx
  | none => []
  | some q => [q.2]
theorem wrong_spec (e : Int) (s : Tx) (H : Hp) : SC Try.prog 64 [.int .i64 e, .string (bstr s)] H [] (fun v M => ∃ a c, v = rfV e a 1 c ∧ M = [.own 9 1 a 1 c (txs [s])]) := by
  (refine SC_intro Try.func64 rfl (by kernel_rfl) (by rw [Try.ntmps64]; exact Nat.le_of_ble_eq_true rfl) ?_; simp only [Try.ntmps64, argE, Nat.reduceAdd])
  repeat' (first | (apply RW.q1; (first | (apply q_bld; exact rfl; first | exact bld53_0_1 _ _ _ _) | exact qt)) | refine xsg cts ?_ | (apply CW_condT; exact rfl; exact ar) | (apply CW_condF; exact rfl; exact ar) | (refine hK _ _ ?_; clear hK; refine xsg xsl ?_) | ((first | apply RW.a1 | apply RW.a0); (first | (apply gw_asg; exact rfl) | (apply gw_alloc; exact rfl; intro b) | (apply gw_lit1; exact rfl; exact rfl; exact rfl; exact rfl; decide; intro b) | (apply gw_lit2; exact rfl; exact rfl; exact rfl; exact rfl; intro b) | (apply gw_lit3; exact rfl; exact rfl; exact rfl; exact rfl; exact rfl; intro b) | (refine gw_stx sto ?_) | (fail))) | (apply CW_region; intro K hK) | (apply CW_condX; exact rfl; exact tst; exact tst; all_goals (intro hq hc; try exact nx)))
  (refine CW_ret ?_; refine xsg xsl ?_; refine bodyS_ret (L' := [.own 9 1 _ 1 _ _]) (rs := [.cell 4 53]) (by kernel_rfl) (by (repeat (first | (apply resok_tmp; exact rfl) | (apply resok_cell; exact rfl; exact rfl; (focus ((iterate 16 (try (first | exact pick0 | apply pickS))); done)); (first | exact rfl | assumption | (simp only [List.length_map]; omega)); decide))); exact resok_nil) (by exact sbl) ?_)
  exact ⟨_, _, rfl, rfl⟩
theorem pk_p {l : List Pk} {k j : Nat} {x : Pk} (hx : l[k]? = some x) (hj : j = k * 3) : ((l.flatMap pkC).drop j).take 1 = [.string (bstr x.p)] := by
  subst hj
  exact ix_fld (enc := pkC) (off := 0) (n := 1) (i := (k : Int)) hx (by omega) (by omega)
theorem pk_i {l : List Pk} {k j : Nat} {x : Pk} (hx : l[k]? = some x) (hj : j = k * 3 + 1) : ((l.flatMap pkC).drop j).take 1 = [.slice x.ia x.im.length x.ic] := by
  subst hj
  exact ix_fld (enc := pkC) (off := 1) (n := 1) (i := (k : Int)) hx (by omega) (by omega)
theorem pk_f {l : List Pk} {k j : Nat} {x : Pk} (hx : l[k]? = some x) (hj : j = k * 3 + 2) : ((l.flatMap pkC).drop j).take 1 = [.slice x.la x.fl.length x.lc] := by
  subst hj
  exact ix_fld (enc := pkC) (off := 2) (n := 1) (i := (k : Int)) hx (by omega) (by omega)
theorem fl_n {l : List Fl} {k j : Nat} {x : Fl} (hx : l[k]? = some x) (hj : j = k * 4) : ((l.flatMap flC).drop j).take 1 = [.string (bstr x.n)] := by
  subst hj
  exact ix_fld (enc := flC) (off := 0) (n := 1) (i := (k : Int)) hx (by omega) (by omega)
theorem th_u {l : List Th} {k j : Nat} {x : Th} (hx : l[k]? = some x) (hj : j = k * 3 + 2) : ((l.flatMap thC).drop j).take 1 = [.slice x.a x.u.length x.c] := by
  subst hj
  exact ix_fld (enc := thC) (off := 2) (n := 1) (i := (k : Int)) hx (by omega) (by omega)
theorem th_v' {l : List Th} {k j : Nat} {x : Th} (hx : l[k]? = some x) (hj : j = k * 3 + 1) : ((l.flatMap thC).drop j).take 1 = [.bool x.v] := by
  subst hj
  exact ix_fld (enc := thC) (off := 1) (n := 1) (i := (k : Int)) hx (by omega) (by omega)
theorem rAll_spec (p : Pk) (H : Hp) (hp : pkOk H p) (hn : (allT p.fl).length ≤ 1048576) (hf : p.fl.length ≤ 1048576) :
    SC Try.prog 21 [pkV p] H [] (fun v M => ∃ a c, v = .slice a (allT p.fl).length c ∧ M = [.own 89 3 a (allT p.fl).length c ((allT p.fl).flatMap thC)]) := by
  have hpf : Rs H 4 p.la p.fl.length p.lc (p.fl.flatMap flC) := hp.2.1
  (refine SC_intro Try.func21 rfl (by kernel_rfl) (by rw [Try.ntmps21]; exact Nat.le_of_ble_eq_true rfl) ?_; simp only [Try.ntmps21, argE, Nat.reduceAdd])
  
  repeat' (first | (apply RW.q1; exact qt) | refine xsg cts ?_ | (apply CW_condT; exact rfl; exact ar) | (apply CW_condF; exact rfl; exact ar) | (refine hK _ _ ?_; clear hK; refine xsg xsl ?_) | ((first | apply RW.a1 | apply RW.a0); (first | (apply gw_box (d := some 1); exact rfl; exact rfl; intro b1) | (apply gw_asg; exact rfl) | (apply gw_box; exact rfl; exact rfl; intro b) | (apply gw_ap1; exact rfl; exact rfl; infer_instance; infer_instance; exact rfl; exact rfl; exact rfl; exact rfl; omega; intro a c) | (apply gw_ap1n; exact rfl; exact rfl; infer_instance; exact rfl; exact rfl; exact rfl; exact rfl; omega; intro a c) | (fail))) | (apply CW_region; intro K hK) | (apply CW_condX; exact rfl; exact tst; exact tst; all_goals (intro hq hc; try exact no)))
  refine CW_loop (fun m ll L => ∃ (k n c : Nat) (a : Option Addr) (cs : List Value), m = p.fl.length - k ∧ ll = [(1, true, .pointer (some ⟨b1, 0, none⟩)), (3, true, .slice a n c), (4, true, .int .i64 (k : Nat))] ∧
      L = [.box b1 25 (pkC p), .own 89 3 a n c cs] ∧ k ≤ p.fl.length ∧ n = (allT (p.fl.take k)).length ∧ cs = (allT (p.fl.take k)).flatMap thC)
    ⟨_, _, _, ⟨0, 0, 0, none, [], rfl, rfl, rfl, by omega, rfl, rfl⟩, by exact sbe, by exact sbl⟩ ?_
  rintro m ll L ⟨k, n, c, a, cs, rfl, rfl, rfl, hk, hnk, hcs⟩
  by_cases hlt : k < p.fl.length
  · obtain ⟨f, hfx⟩ : ∃ f, p.fl[k]? = some f := ⟨_, List.getElem?_eq_getElem hlt⟩
    have hfm : f ∈ p.fl := List.mem_of_getElem? hfx
    have hsn := allT_snoc hfx
    have hst1 := allT_take p.fl (k + 1)
    have hsl := congrArg List.length hsn
    rw [List.length_append] at hsl
    have htl := things_len f
    
    repeat' (first | (apply RW.q1; (first | (apply q_lar; exact rfl; exact rfl; exact hpf; exact ix_elem hfx (by omega); exact rfl; decide) | exact qt)) | refine xsg cts ?_ | (apply CW_condT; exact rfl; exact ar) | (apply CW_condF; exact rfl; exact ar) | (refine hK _ _ ?_; clear hK; refine xsg xsl ?_) | ((first | apply RW.a1 | apply RW.a0); (first | (apply gw_call (f := 48); exact rfl; exact go48; intro G hG; refine SC.mono (rThings_spec f G (flOk_ext (hp.2.2 f hfm) hG.ext) (by omega)) ?_; rintro v M ⟨ta, tc, rfl, rfl⟩; (try dsimp only [jL, jM])) | (refine gw_append (e := 89) (z := 3) (n := n) (m := (things f).length) (cs := cs) rfl rfl rfl rfl (by exact pkx) (src_own (by exact pkx)) subl_refl (thC_len _) (th_one _) (by omega) (by omega) (fun a' c' => ?_)) | (apply gw_asg; exact rfl) | (apply gw_box; exact rfl; exact rfl; intro b) | (apply gw_ap1; exact rfl; exact rfl; infer_instance; infer_instance; exact rfl; exact rfl; exact rfl; exact rfl; omega; intro a c) | (apply gw_ap1n; exact rfl; exact rfl; infer_instance; exact rfl; exact rfl; exact rfl; exact rfl; omega; intro a c) | (fail))) | (apply CW_region; intro K hK) | (apply CW_condX; exact rfl; exact tst; exact tst; all_goals (intro hq hc; try exact no)))
    exact ⟨_, _, _, ⟨k + 1, n + (things f).length, _, _, cs ++ (things f).flatMap thC, rfl, rfl, rfl, by omega, by omega, by rw [hsn, List.flatMap_append, hcs]⟩, by exact sbe, by exact sbl, by omega⟩
  obtain rfl : k = p.fl.length := by omega
  rw [List.take_length] at hnk hcs
  subst hnk
  subst hcs
  
  repeat' (first | (apply RW.q1; exact qt) | refine xsg cts ?_ | (apply CW_condT; exact rfl; exact ar) | (apply CW_condF; exact rfl; exact ar) | (refine hK _ _ ?_; clear hK; refine xsg xsl ?_) | ((first | apply RW.a1 | apply RW.a0); (first | (apply gw_asg; exact rfl) | (apply gw_box; exact rfl; exact rfl; intro b) | (apply gw_ap1; exact rfl; exact rfl; infer_instance; infer_instance; exact rfl; exact rfl; exact rfl; exact rfl; omega; intro a c) | (apply gw_ap1n; exact rfl; exact rfl; infer_instance; exact rfl; exact rfl; exact rfl; exact rfl; omega; intro a c) | (fail))) | (apply CW_region; intro K hK) | (apply CW_condX; exact rfl; exact tst; exact tst; all_goals (intro hq hc; try exact no)))
  (refine CW_ret ?_; refine xsg xsl ?_; refine bR [.tmp 2] [.own 89 3 a _ c _] ?_)
  exact ⟨a, c, rfl, rfl⟩
theorem rUsed_spec (l : Value) (p : Pk) (s : Tx) (H : Hp) (hp : pkOk H p) (hn : (allT p.fl).length ≤ 1048576) (hf : p.fl.length ≤ 1048576) (hs : s.length ≤ 1048576) (hi : p.im.length ≤ 1048576) :
    SC Try.prog 67 [l, pkV p, .string (bstr s), .bool false] H [] (fun v M => v = .int .i64 (useE p.im ((allT p.fl).map Th.n) s) ∧ M = []) := by
  have hpi : Rs H 1 p.ia p.im.length p.ic (txs p.im) := hp.1
  cases hpt : lastPt s with
  | none =>
    have e1 : ptV s = -1 := by unfold ptV; rw [hpt]
    by_cases hin : s ∈ (allT p.fl).map Th.n
    · have e2 : useE p.im ((allT p.fl).map Th.n) s = 0 := by unfold useE; rw [hpt]; exact if_pos hin
      rw [e2]
      (refine SC_intro Try.func67 rfl (by kernel_rfl) (by rw [Try.ntmps67]; exact Nat.le_of_ble_eq_true rfl) ?_; simp only [Try.ntmps67, argE, Nat.reduceAdd])
      
      repeat' (first | ((first | apply RW.q1 | (apply DW.q1; exact rfl)); exact qt) | ((first | apply RW.qg | (apply DW.qg; exact rfl)); exact gvx; refine hgx tst ?_; intro hg hg'; exact qu) | refine xsg cts ?_ | (apply CW_condT; exact rfl; exact ar) | (apply CW_condF; exact rfl; exact ar) | ((first | apply RW.s1 | apply RW.s0 | (apply DW.sa; exact rfl)); exact gva) | (refine hK _ _ ?_; clear hK; refine xsg xsl ?_) | (refine xsg ahd ?_; (first | (apply gw_box (d := some 5); exact rfl; exact rfl; intro b5) | (apply gw_callE (f := 47); exact evx; exact go47; intro G hG; exact rPoint_spec s G (by omega); rw [e1]) | (apply gw_call (f := 21); exact evx; exact go21; intro G hG; refine SC.mono (rAll_spec p G (pkOk_ext hp hG.ext) hn hf) ?_; rintro v M ⟨ta, tc, rfl, rfl⟩; (try dsimp only [jL, jM])) | (apply gw_call (f := 46); exact evx; exact go46; intro G hG; refine SC.mono (rAt_spec (allT p.fl) tc ta s G (sl_own (by exact pkx) hG) (by omega)) ?_; rintro v M ⟨i, hat, rfl, rfl⟩; (try dsimp only [jL, jM]); have hat0 := (at_mem hat).2 hin) | (apply gw_asg; exact rfl) | (apply gw_box; exact rfl; exact rfl; intro b) | (fail))) | (apply CW_region; intro K hK) | (apply CW_condX; exact rfl; exact tst; exact tst; all_goals (intro hq hc; try exact no)) | (refine CW_draw (id := 6) [] dwRfA0 mixed (by kernel_rfl) (fun K hK => ?_)))
      (refine CW_ret ?_; refine xsg xsl ?_; refine bR [.tmp 8] [] ?_)
      exact ⟨rfl, rfl⟩
    · have e2 : useE p.im ((allT p.fl).map Th.n) s = 5 := by unfold useE; rw [hpt]; exact if_neg hin
      rw [e2]
      (refine SC_intro Try.func67 rfl (by kernel_rfl) (by rw [Try.ntmps67]; exact Nat.le_of_ble_eq_true rfl) ?_; simp only [Try.ntmps67, argE, Nat.reduceAdd])
      
      repeat' (first | ((first | apply RW.q1 | (apply DW.q1; exact rfl)); exact qt) | ((first | apply RW.qg | (apply DW.qg; exact rfl)); exact gvx; refine hgx tst ?_; intro hg hg'; exact qu) | refine xsg cts ?_ | (apply CW_condT; exact rfl; exact ar) | (apply CW_condF; exact rfl; exact ar) | ((first | apply RW.s1 | apply RW.s0 | (apply DW.sa; exact rfl)); exact gva) | (refine hK _ _ ?_; clear hK; refine xsg xsl ?_) | (refine xsg ahd ?_; (first | (apply gw_box (d := some 5); exact rfl; exact rfl; intro b5) | (apply gw_callE (f := 47); exact evx; exact go47; intro G hG; exact rPoint_spec s G (by omega); rw [e1]) | (apply gw_call (f := 21); exact evx; exact go21; intro G hG; refine SC.mono (rAll_spec p G (pkOk_ext hp hG.ext) hn hf) ?_; rintro v M ⟨ta, tc, rfl, rfl⟩; (try dsimp only [jL, jM])) | (apply gw_call (f := 46); exact evx; exact go46; intro G hG; refine SC.mono (rAt_spec (allT p.fl) tc ta s G (sl_own (by exact pkx) hG) (by omega)) ?_; rintro v M ⟨i, hat, rfl, rfl⟩; (try dsimp only [jL, jM]); have hat0 := mt (at_mem hat).1 hin) | (apply gw_asg; exact rfl) | (apply gw_box; exact rfl; exact rfl; intro b) | (fail))) | (apply CW_region; intro K hK) | (apply CW_condX; exact rfl; exact tst; exact tst; all_goals (intro hq hc; try exact no)) | (refine CW_draw (id := 6) [] dwRfA0 mixed (by kernel_rfl) (fun K hK => ?_)))
      (refine CW_ret ?_; refine xsg xsl ?_; refine bR [.tmp 8] [] ?_)
      exact ⟨rfl, rfl⟩
  | some k =>
    have hk := lastPt_lt hpt
    have e1 : ptV s = (k : Int) := by unfold ptV; rw [hpt]
    by_cases hin : s.take k ∈ p.im
    · have e2 : useE p.im ((allT p.fl).map Th.n) s = 0 := by unfold useE; rw [hpt]; exact if_pos hin
      have hd : decide (s.take k ∈ p.im.take p.im.length) = true := by rw [List.take_length]; exact decide_eq_true hin
      rw [e2]
      (refine SC_intro Try.func67 rfl (by kernel_rfl) (by rw [Try.ntmps67]; exact Nat.le_of_ble_eq_true rfl) ?_; simp only [Try.ntmps67, argE, Nat.reduceAdd])
      
      repeat' (first | ((first | apply RW.q1 | (apply DW.q1; exact rfl) | ((first | apply RW.qg | (apply DW.qg; exact rfl)); exact gvx; refine hgx tst ?_; intro hg hg')); (first | (apply q_sbhi k; exact evgx; exact evgx; exact rfl; omega) | (apply q_sblo (k + 1); exact evgx; exact evgx; omega; omega) | exact qt | exact qu)) | refine xsg cts ?_ | (apply CW_condT; exact rfl; exact ar) | (apply CW_condF; exact rfl; exact ar) | ((first | apply RW.s1 | apply RW.s0 | (apply DW.sa; exact rfl)); exact gva) | (refine hK _ _ ?_; clear hK; refine xsg xsl ?_) | (refine xsg ahd ?_; (first | (apply gw_box (d := some 5); exact rfl; exact rfl; intro b5) | (apply gw_callE (f := 47); exact evx; exact go47; intro G hG; exact rPoint_spec s G (by omega); rw [e1]) | (apply gw_callE (f := 66); exact evx; exact go66; intro G hG; exact rHas_spec p.im p.im.length p.ic p.ia (s.take k) G (hpi.ext hG.ext) (Nat.le_refl _) (by omega); rw [hd]) | (apply gw_asg; exact rfl) | (apply gw_box; exact rfl; exact rfl; intro b) | (fail))) | (apply CW_region; intro K hK) | (apply CW_condX; exact rfl; exact tst; exact tst; all_goals (intro hq hc; try exact no)) | (refine CW_draw (id := 6) [] dwRfA0 mixed (by kernel_rfl) (fun K hK => ?_)))
      all_goals (refine CW_ret ?_; refine xsg xsl ?_; refine bR [.tmp 8] [] ?_)
      all_goals exact ⟨rfl, rfl⟩
    · have e2 : useE p.im ((allT p.fl).map Th.n) s = 151 := by unfold useE; rw [hpt]; exact if_neg hin
      have hd : decide (s.take k ∈ p.im.take p.im.length) = false := by rw [List.take_length]; exact decide_eq_false hin
      rw [e2]
      (refine SC_intro Try.func67 rfl (by kernel_rfl) (by rw [Try.ntmps67]; exact Nat.le_of_ble_eq_true rfl) ?_; simp only [Try.ntmps67, argE, Nat.reduceAdd])
      
      repeat' (first | ((first | apply RW.q1 | (apply DW.q1; exact rfl) | ((first | apply RW.qg | (apply DW.qg; exact rfl)); exact gvx; refine hgx tst ?_; intro hg hg')); (first | (apply q_sbhi k; exact evgx; exact evgx; exact rfl; omega) | (apply q_sblo (k + 1); exact evgx; exact evgx; omega; omega) | exact qt | exact qu)) | refine xsg cts ?_ | (apply CW_condT; exact rfl; exact ar) | (apply CW_condF; exact rfl; exact ar) | ((first | apply RW.s1 | apply RW.s0 | (apply DW.sa; exact rfl)); exact gva) | (refine hK _ _ ?_; clear hK; refine xsg xsl ?_) | (refine xsg ahd ?_; (first | (apply gw_box (d := some 5); exact rfl; exact rfl; intro b5) | (apply gw_callE (f := 47); exact evx; exact go47; intro G hG; exact rPoint_spec s G (by omega); rw [e1]) | (apply gw_callE (f := 66); exact evx; exact go66; intro G hG; exact rHas_spec p.im p.im.length p.ic p.ia (s.take k) G (hpi.ext hG.ext) (Nat.le_refl _) (by omega); rw [hd]) | (apply gw_asg; exact rfl) | (apply gw_box; exact rfl; exact rfl; intro b) | (fail))) | (apply CW_region; intro K hK) | (apply CW_condX; exact rfl; exact tst; exact tst; all_goals (intro hq hc; try exact no)) | (refine CW_draw (id := 6) [] dwRfA0 mixed (by kernel_rfl) (fun K hK => ?_)))
      all_goals (refine CW_ret ?_; refine xsg xsl ?_; refine bR [.tmp 8] [] ?_)
      all_goals exact ⟨rfl, rfl⟩
end Go.Proofs.Ytkhmimlgkjenfaa.HL
namespace Go.Proofs.Ytkhmimlgkjenfaa.HL
open Go
attribute [local irreducible] goFn thenS blockS bodyS CW RW DW GW QW NW SC Pick Picks SubL Rd NN ResOk SrcW subE hops hseg AW hgen HC qv bldv
set_option maxHeartbeats 8000000
set_option maxRecDepth 100000
set_option linter.unusedVariables false
set_option linter.unusedSimpArgs false

abbrev dwRfB0 : List (Nat × Bool) := [(0, false), (1, false), (2, false), (3, false), (4, false), (5, false), (6, false), (7, false), (8, false), (9, false), (10, false), (11, false), (12, false), (13, false), (14, false), (15, true)]
def uN (x : Vr) : Nat := x.u.length
theorem thN_sum : ∀ l : List Vr, (l.map thN).sum = l.length + (l.map uN).sum
  | [] => rfl
  | x :: l => by
    rw [List.map_cons, List.map_cons, List.sum_cons, List.sum_cons, List.length_cons, thN_sum l]
    show 1 + x.u.length + _ = _ + 1 + (x.u.length + _)
    omega
theorem rLarge_spec (l : List Pk) (a : Option Addr) (c : Nat) (H : Hp) (hr : Rs H 3 a l.length c (l.flatMap pkC)) (hp : ∀ p, p ∈ l → pkOk H p) (hS : ∀ p, p ∈ l → Small p) (hl : l.length ≤ 1048576) (hB : allB l ≤ 4611686018427387904) (w : Bool) (hw : w = true ↔ badI l ∨ 1024 < allN l) :
    SC Try.prog 39 [.slice a l.length c] H [] (fun v M => v = .bool w ∧ M = []) := by
  have hBd : l.length + (l.map pkB).sum ≤ 4611686018427387904 := hB
  (refine SC_intro Try.func39 rfl (by kernel_rfl) (by rw [Try.ntmps39]; exact Nat.le_of_ble_eq_true rfl) ?_; simp only [Try.ntmps39, argE, Nat.reduceAdd])
  
  repeat' (first | ((first | apply RW.q1 | (apply DW.q1; exact rfl)); exact qt) | ((first | apply RW.qg | (apply DW.qg; exact rfl)); exact gvx; refine hgx tst ?_; intro hg hg'; exact qu) | refine xsg cts ?_ | (apply CW_condT; exact rfl; exact ar) | (apply CW_condF; exact rfl; exact ar) | ((first | apply RW.s1 | apply RW.s0 | (apply DW.sa; exact rfl)); exact gva) | (refine hK _ _ ?_; clear hK; refine xsg xsl ?_) | (refine xsg ahd ?_; (first | (apply gw_asg; exact rfl) | (apply gw_alloc; exact rfl; intro b) | (refine gw_stx sto ?_) | (fail))) | (apply CW_region; intro K hK) | (apply CW_condX; exact rfl; exact tst; exact tst; all_goals (intro hq hc; try exact no)) | (refine CW_draw (id := 5) [] dwRfB0 mixed (by kernel_rfl) (fun K hK => ?_)))
  refine CW_loop (fun m ll L => ∃ k n : Nat, m = l.length - k ∧ ll = [(0, true, .slice a l.length c), (3, true, .int .i64 (n : Nat)), (4, true, .int .i64 (k : Nat))] ∧
      L = [] ∧ k ≤ l.length ∧ n = l.length + ((l.take k).map pkN).sum ∧ n ≤ l.length + ((l.take k).map pkB).sum ∧ ∀ p, p ∈ l.take k → ∀ f, f ∈ p.fl → ¬ (f.k < 0 ∨ 1024 < f.k))
    ⟨_, _, _, ⟨0, l.length, rfl, rfl, rfl, by omega, rfl, Nat.le_add_right _ _, fun p hp => by simp at hp⟩, by exact sbe, by exact sbl⟩ ?_
  rintro m ll L ⟨k, n, rfl, rfl, rfl, hk, hn, hnB, hgood⟩
  by_cases hlt : k < l.length
  · obtain ⟨p, hx⟩ : ∃ x, l[k]? = some x := ⟨_, List.getElem?_eq_getElem (by omega)⟩
    have hpm := List.mem_of_getElem? hx
    have hpf : Rs H 4 p.la p.fl.length p.lc (p.fl.flatMap flC) := (hp p hpm).2.1
    obtain ⟨hS1, hS2, hS3, _, hS4⟩ := hS p hpm
    have s1 := sum_snoc (f := pkN) hx
    have s2 := sum_snoc (f := pkB) hx
    have s3 := sum_take_le pkB l (k + 1)
    have e1 : pkN p = p.im.length + p.fl.length + (p.fl.map flN).sum := rfl
    have e2 : pkB p = p.im.length + p.fl.length + (p.fl.map flB).sum := rfl
    
    repeat' (first | ((first | apply RW.q1 | (apply DW.q1; exact rfl) | ((first | apply RW.qg | (apply DW.qg; exact rfl)); exact gvx; refine hgx tst ?_; intro hg hg')); (first | (apply q_ldr; exact rfl; exact evgx; exact hr; first | exact pk_i hx (by omega) | exact pk_f hx (by omega)) | exact qt | exact qu)) | refine xsg cts ?_ | (apply CW_condT; exact rfl; exact ar) | (apply CW_condF; exact rfl; exact ar) | ((first | apply RW.s1 | apply RW.s0 | (apply DW.sa; exact rfl)); exact gva) | (refine hK _ _ ?_; clear hK; refine xsg xsl ?_) | (refine xsg ahd ?_; (first | (apply gw_asg; exact rfl) | (apply gw_alloc; exact rfl; intro b) | (refine gw_stx sto ?_) | (fail))) | (apply CW_region; intro K hK) | (apply CW_condX; exact rfl; exact tst; exact tst; all_goals (intro hq hc; try exact no)) | (refine CW_draw (id := 5) [] dwRfB0 mixed (by kernel_rfl) (fun K hK => ?_)))
    refine CW_loop (fun m ll L => ∃ j n' : Nat, m = p.fl.length - j ∧ ll = [(0, true, .slice a l.length c), (3, true, .int .i64 (n' : Nat)), (4, true, .int .i64 (k : Nat)), (5, true, .int .i64 (j : Nat))] ∧
        L = [] ∧ j ≤ p.fl.length ∧ n' = n + p.im.length + p.fl.length + ((p.fl.take j).map flN).sum ∧ n' ≤ n + p.im.length + p.fl.length + ((p.fl.take j).map flB).sum ∧ ∀ f, f ∈ p.fl.take j → ¬ (f.k < 0 ∨ 1024 < f.k))
      ⟨_, _, _, ⟨0, n + p.im.length + p.fl.length, rfl, rfl, rfl, by omega, rfl, Nat.le_add_right _ _, fun p hp => by simp at hp⟩, by exact sbe, by exact sbl⟩ ?_
    rintro m ll L ⟨j, n', rfl, rfl, rfl, hj, hn', hnB', hgood'⟩
    by_cases hjl : j < p.fl.length
    · obtain ⟨f, hfx⟩ : ∃ x, p.fl[j]? = some x := ⟨_, List.getElem?_eq_getElem (by omega)⟩
      have hfm := List.mem_of_getElem? hfx
      have hfl := hS3 f hfm
      have hfo := (hp p hpm).2.2 f hfm
      have hfv : Rs H 2 f.va f.vs.length f.vc (f.vs.flatMap vrC) := hfo.1
      have hff : Rs H 2 f.fa f.fs.length f.fc (f.fs.flatMap vrC) := hfo.2.1
      by_cases hbad : f.k < 0 ∨ 1024 < f.k
      · obtain rfl : w = true := hw.2 (.inl ⟨p, hpm, f, hfm, hbad⟩)
        by_cases hneg : f.k < 0
        · 
          repeat' (first | ((first | apply RW.q1 | (apply DW.q1; exact rfl) | ((first | apply RW.qg | (apply DW.qg; exact rfl)); exact gvx; refine hgx tst ?_; intro hg hg')); (first | (apply q_ldr; exact rfl; exact evgx; exact hr; first | exact pk_i hx (by omega) | exact pk_f hx (by omega)) | (apply q_lar; exact rfl; exact evgx; exact hpf; exact ix_elem hfx (by omega); exact rfl; decide) | exact qt | exact qu)) | refine xsg cts ?_ | (apply CW_condT; exact rfl; exact ar) | (apply CW_condF; exact rfl; exact ar) | ((first | apply RW.s1 | apply RW.s0 | (apply DW.sa; exact rfl)); exact gva) | (refine hK _ _ ?_; clear hK; refine xsg xsl ?_) | (refine xsg ahd ?_; (first | (apply gw_alloc (d := some 6); exact rfl; intro b6) | (apply gw_asg; exact rfl) | (apply gw_alloc; exact rfl; intro b) | (refine gw_stx sto ?_) | (fail))) | (apply CW_region; intro K hK) | (apply CW_condX; exact rfl; exact tst; exact tst; all_goals (intro hq hc; try exact no)) | (refine CW_draw (id := 5) [] dwRfB0 mixed (by kernel_rfl) (fun K hK => ?_)))
          (refine CW_ret ?_; refine xsg xsl ?_; refine bR [.tmp 2] [] ?_)
          exact ⟨rfl, rfl⟩
        · 
          repeat' (first | ((first | apply RW.q1 | (apply DW.q1; exact rfl) | ((first | apply RW.qg | (apply DW.qg; exact rfl)); exact gvx; refine hgx tst ?_; intro hg hg')); (first | (apply q_ldr; exact rfl; exact evgx; exact hr; first | exact pk_i hx (by omega) | exact pk_f hx (by omega)) | (apply q_lar; exact rfl; exact evgx; exact hpf; exact ix_elem hfx (by omega); exact rfl; decide) | exact qt | exact qu)) | refine xsg cts ?_ | (apply CW_condT; exact rfl; exact ar) | (apply CW_condF; exact rfl; exact ar) | ((first | apply RW.s1 | apply RW.s0 | (apply DW.sa; exact rfl)); exact gva) | (refine hK _ _ ?_; clear hK; refine xsg xsl ?_) | (refine xsg ahd ?_; (first | (apply gw_alloc (d := some 6); exact rfl; intro b6) | (apply gw_asg; exact rfl) | (apply gw_alloc; exact rfl; intro b) | (refine gw_stx sto ?_) | (fail))) | (apply CW_region; intro K hK) | (apply CW_condX; exact rfl; exact tst; exact tst; all_goals (intro hq hc; try exact no)) | (refine CW_draw (id := 5) [] dwRfB0 mixed (by kernel_rfl) (fun K hK => ?_)))
          (refine CW_ret ?_; refine xsg xsl ?_; refine bR [.tmp 2] [] ?_)
          exact ⟨rfl, rfl⟩
      · have t1 := sum_snoc (f := flN) hfx
        have t2 := sum_snoc (f := flB) hfx
        have t3 := sum_take_le flB p.fl (j + 1)
        have e3 : flN f = f.k.toNat + (f.vs.map thN).sum + (f.fs.map thN).sum := rfl
        have e4 : flB f = 1024 + ((things f).map tN).sum := rfl
        have e5 := things_sum f
        have e6 := thN_sum f.vs
        have e7 := thN_sum f.fs
        obtain ⟨kn, hkn⟩ : ∃ kn : Nat, f.k = (kn : Int) := ⟨f.k.toNat, by omega⟩
        rw [hkn] at e3
        have hk2 : kn ≤ 1024 := by omega
        have e8 : ((kn : Int)).toNat = kn := rfl
        have hk0 : ¬ (f.k < 0) := by omega
        have hk1 : ¬ (1024 < f.k) := by omega
        
        repeat' (first | ((first | apply RW.q1 | (apply DW.q1; exact rfl) | ((first | apply RW.qg | (apply DW.qg; exact rfl)); exact gvx; refine hgx tst ?_; intro hg hg')); (first | (apply q_ldr; exact rfl; exact evgx; exact hr; first | exact pk_i hx (by omega) | exact pk_f hx (by omega)) | (apply q_lar; exact rfl; exact evgx; exact hpf; exact ix_elem hfx (by omega); exact rfl; decide) | exact qt | exact qu)) | refine xsg cts ?_ | (apply CW_condT; exact rfl; exact ar) | (apply CW_condF; exact rfl; exact ar) | ((first | apply RW.s1 | apply RW.s0 | (apply DW.sa; exact rfl)); exact gva) | (refine hK _ _ ?_; clear hK; refine xsg xsl ?_) | (refine xsg ahd ?_; (first | (apply gw_alloc (d := some 6); exact rfl; intro b6) | (apply gw_asg; exact rfl) | (apply gw_alloc; exact rfl; intro b) | (refine gw_stx sto ?_) | (fail))) | (apply CW_region; intro K hK) | (apply CW_condX; exact rfl; exact tst; exact tst; all_goals (intro hq hc; try exact no)) | (refine CW_draw (id := 5) [] dwRfB0 mixed (by kernel_rfl) (fun K hK => ?_)))
        refine CW_loop (fun m ll L => ∃ i n'' : Nat, m = f.vs.length - i ∧ ll = [(0, true, .slice a l.length c), (3, true, .int .i64 (n'' : Nat)), (4, true, .int .i64 (k : Nat)), (5, true, .int .i64 (j : Nat)), (6, true, .pointer (some ⟨b6, 0, none⟩)), (7, true, .int .i64 (i : Nat))] ∧
            L = [.box b6 38 (flC f)] ∧ i ≤ f.vs.length ∧ n'' = n' + kn + f.vs.length + f.fs.length + ((f.vs.take i).map uN).sum)
          ⟨_, _, _, ⟨0, n' + kn + f.vs.length + f.fs.length, rfl, rfl, rfl, by omega, rfl⟩, by exact sbe, by exact sbl⟩ ?_
        rintro m ll L ⟨i, n'', rfl, rfl, rfl, hi, hn''⟩
        by_cases hil : i < f.vs.length
        · obtain ⟨x, hxx⟩ : ∃ x, f.vs[i]? = some x := ⟨_, List.getElem?_eq_getElem (by omega)⟩
          have u1 := sum_snoc (f := uN) hxx
          have u2 := sum_take_le uN f.vs (i + 1)
          have e9 : uN x = x.u.length := rfl
          
          repeat' (first | ((first | apply RW.q1 | (apply DW.q1; exact rfl) | ((first | apply RW.qg | (apply DW.qg; exact rfl)); exact gvx; refine hgx tst ?_; intro hg hg')); (first | (apply q_ldr; exact rfl; exact evgx; exact hfv; exact vr_u hxx (by omega)) | exact qt | exact qu)) | refine xsg cts ?_ | (apply CW_condT; exact rfl; exact ar) | (apply CW_condF; exact rfl; exact ar) | ((first | apply RW.s1 | apply RW.s0 | (apply DW.sa; exact rfl)); exact gva) | (refine hK _ _ ?_; clear hK; refine xsg xsl ?_) | (refine xsg ahd ?_; (first | (apply gw_asg; exact rfl) | (apply gw_alloc; exact rfl; intro b) | (refine gw_stx sto ?_) | (fail))) | (apply CW_region; intro K hK) | (apply CW_condX; exact rfl; exact tst; exact tst; all_goals (intro hq hc; try exact no)) | (refine CW_draw (id := 5) [] dwRfB0 mixed (by kernel_rfl) (fun K hK => ?_)))
          exact ⟨_, _, _, ⟨i + 1, n'' + x.u.length, rfl, rfl, rfl, by omega, by omega⟩, by exact sbe, by exact sbl, by omega⟩
        obtain rfl : i = f.vs.length := by omega
        rw [List.take_length] at hn''
        
        repeat' (first | ((first | apply RW.q1 | (apply DW.q1; exact rfl)); exact qt) | ((first | apply RW.qg | (apply DW.qg; exact rfl)); exact gvx; refine hgx tst ?_; intro hg hg'; exact qu) | refine xsg cts ?_ | (apply CW_condT; exact rfl; exact ar) | (apply CW_condF; exact rfl; exact ar) | ((first | apply RW.s1 | apply RW.s0 | (apply DW.sa; exact rfl)); exact gva) | (refine hK _ _ ?_; clear hK; refine xsg xsl ?_) | (refine xsg ahd ?_; (first | (apply gw_asg; exact rfl) | (apply gw_alloc; exact rfl; intro b) | (refine gw_stx sto ?_) | (fail))) | (apply CW_region; intro K hK) | (apply CW_condX; exact rfl; exact tst; exact tst; all_goals (intro hq hc; try exact no)) | (refine CW_draw (id := 5) [] dwRfB0 mixed (by kernel_rfl) (fun K hK => ?_)))
        refine CW_loop (fun m ll L => ∃ i n3 : Nat, m = f.fs.length - i ∧ ll = [(0, true, .slice a l.length c), (3, true, .int .i64 (n3 : Nat)), (4, true, .int .i64 (k : Nat)), (5, true, .int .i64 (j : Nat)), (6, true, .pointer (some ⟨b6, 0, none⟩)), (8, true, .int .i64 (i : Nat))] ∧
            L = [.box b6 38 (flC f)] ∧ i ≤ f.fs.length ∧ n3 = n'' + ((f.fs.take i).map uN).sum)
          ⟨_, _, _, ⟨0, n'', rfl, rfl, rfl, by omega, rfl⟩, by exact sbe, by exact sbl⟩ ?_
        rintro m ll L ⟨i, n3, rfl, rfl, rfl, hi2, hn3⟩
        by_cases hil2 : i < f.fs.length
        · obtain ⟨x, hxx⟩ : ∃ x, f.fs[i]? = some x := ⟨_, List.getElem?_eq_getElem (by omega)⟩
          have u1 := sum_snoc (f := uN) hxx
          have u2 := sum_take_le uN f.fs (i + 1)
          have e9 : uN x = x.u.length := rfl
          
          repeat' (first | ((first | apply RW.q1 | (apply DW.q1; exact rfl) | ((first | apply RW.qg | (apply DW.qg; exact rfl)); exact gvx; refine hgx tst ?_; intro hg hg')); (first | (apply q_ldr; exact rfl; exact evgx; exact hff; exact vr_u hxx (by omega)) | exact qt | exact qu)) | refine xsg cts ?_ | (apply CW_condT; exact rfl; exact ar) | (apply CW_condF; exact rfl; exact ar) | ((first | apply RW.s1 | apply RW.s0 | (apply DW.sa; exact rfl)); exact gva) | (refine hK _ _ ?_; clear hK; refine xsg xsl ?_) | (refine xsg ahd ?_; (first | (apply gw_asg; exact rfl) | (apply gw_alloc; exact rfl; intro b) | (refine gw_stx sto ?_) | (fail))) | (apply CW_region; intro K hK) | (apply CW_condX; exact rfl; exact tst; exact tst; all_goals (intro hq hc; try exact no)) | (refine CW_draw (id := 5) [] dwRfB0 mixed (by kernel_rfl) (fun K hK => ?_)))
          exact ⟨_, _, _, ⟨i + 1, n3 + x.u.length, rfl, rfl, rfl, by omega, by omega⟩, by exact sbe, by exact sbl, by omega⟩
        obtain rfl : i = f.fs.length := by omega
        rw [List.take_length] at hn3
        
        repeat' (first | ((first | apply RW.q1 | (apply DW.q1; exact rfl)); exact qt) | ((first | apply RW.qg | (apply DW.qg; exact rfl)); exact gvx; refine hgx tst ?_; intro hg hg'; exact qu) | refine xsg cts ?_ | (apply CW_condT; exact rfl; exact ar) | (apply CW_condF; exact rfl; exact ar) | ((first | apply RW.s1 | apply RW.s0 | (apply DW.sa; exact rfl)); exact gva) | (refine hK _ _ ?_; clear hK; refine xsg xsl ?_) | (refine xsg ahd ?_; (first | (apply gw_asg; exact rfl) | (apply gw_alloc; exact rfl; intro b) | (refine gw_stx sto ?_) | (fail))) | (apply CW_region; intro K hK) | (apply CW_condX; exact rfl; exact tst; exact tst; all_goals (intro hq hc; try exact no)) | (refine CW_draw (id := 5) [] dwRfB0 mixed (by kernel_rfl) (fun K hK => ?_)))
        refine ⟨_, _, _, ⟨j + 1, n3, rfl, rfl, rfl, by omega, by omega, by omega, fun g hg => ?_⟩, by exact sbe, by exact sbl, by omega⟩
        rw [List.take_add_one, hfx] at hg
        rcases List.mem_append.1 hg with h | h
        · exact hgood' g h
        · obtain rfl : g = f := by simpa using h
          exact hbad
    obtain rfl : j = p.fl.length := by omega
    rw [List.take_length] at hn' hnB' hgood'
    
    repeat' (first | ((first | apply RW.q1 | (apply DW.q1; exact rfl) | ((first | apply RW.qg | (apply DW.qg; exact rfl)); exact gvx; refine hgx tst ?_; intro hg hg')); (first | (apply q_ldr; exact rfl; exact evgx; exact hr; first | exact pk_i hx (by omega) | exact pk_f hx (by omega)) | exact qt | exact qu)) | refine xsg cts ?_ | (apply CW_condT; exact rfl; exact ar) | (apply CW_condF; exact rfl; exact ar) | ((first | apply RW.s1 | apply RW.s0 | (apply DW.sa; exact rfl)); exact gva) | (refine hK _ _ ?_; clear hK; refine xsg xsl ?_) | (refine xsg ahd ?_; (first | (apply gw_asg; exact rfl) | (apply gw_alloc; exact rfl; intro b) | (refine gw_stx sto ?_) | (fail))) | (apply CW_region; intro K hK) | (apply CW_condX; exact rfl; exact tst; exact tst; all_goals (intro hq hc; try exact no)) | (refine CW_draw (id := 5) [] dwRfB0 mixed (by kernel_rfl) (fun K hK => ?_)))
    refine ⟨_, _, _, ⟨k + 1, n', rfl, rfl, rfl, by omega, by omega, by omega, fun q hq => ?_⟩, by exact sbe, by exact sbl, by omega⟩
    rw [List.take_add_one, hx] at hq
    rcases List.mem_append.1 hq with h | h
    · exact hgood q h
    · obtain rfl : q = p := by simpa using h
      exact hgood'
  obtain rfl : k = l.length := by omega
  rw [List.take_length] at hn hnB hgood
  have hnb : ¬ badI l := fun ⟨p, hp, f, hf, h⟩ => hgood p hp f hf h
  have hna : n = allN l := hn
  have hwd : w = decide (1024 < (n : Int)) := by
    rw [Bool.eq_iff_iff, hw, jA]
    exact ⟨fun h => by have := h.resolve_left hnb; omega, fun h => .inr (by omega)⟩
  
  repeat' (first | ((first | apply RW.q1 | (apply DW.q1; exact rfl)); exact qt) | ((first | apply RW.qg | (apply DW.qg; exact rfl)); exact gvx; refine hgx tst ?_; intro hg hg'; exact qu) | refine xsg cts ?_ | (apply CW_condT; exact rfl; exact ar) | (apply CW_condF; exact rfl; exact ar) | ((first | apply RW.s1 | apply RW.s0 | (apply DW.sa; exact rfl)); exact gva) | (refine hK _ _ ?_; clear hK; refine xsg xsl ?_) | (refine xsg ahd ?_; (first | (apply gw_asg; exact rfl) | (apply gw_alloc; exact rfl; intro b) | (refine gw_stx sto ?_) | (fail))) | (apply CW_region; intro K hK) | (apply CW_condX; exact rfl; exact tst; exact tst; all_goals (intro hq hc; try exact no)) | (refine CW_draw (id := 5) [] dwRfB0 mixed (by kernel_rfl) (fun K hK => ?_)))
  (refine CW_ret ?_; refine xsg xsl ?_; refine bR [.tmp 2] [] ?_)
  exact ⟨ret_bool hwd.symm, rfl⟩
end Go.Proofs.Ytkhmimlgkjenfaa.HL
namespace Go.Proofs.Ytkhmimlgkjenfaa.HL
open Go
attribute [local irreducible] goFn thenS blockS bodyS CW RW DW GW QW NW SC Pick Picks SubL Rd NN ResOk SrcW subE hops hseg AW hgen HC qv bldv
set_option maxHeartbeats 8000000
set_option maxRecDepth 100000
set_option linter.unusedVariables false
set_option linter.unusedSimpArgs false

theorem rFormed_spec (l : List Pk) (a : Option Addr) (c : Nat) (H : Hp) (hr : Rs H 3 a l.length c (l.flatMap pkC)) (hp : ∀ p, p ∈ l → pkOk H p) (hS : ∀ p, p ∈ l → Small p) (hl : l.length ≤ 1048576) (O : Option (Int × Tx)) (hO : O = (formO l).map fun s => (3, s)) :
    SC Try.prog 40 [.slice a l.length c] H [] (fun v M => ∃ a c, v = rfV (rfE O) a (rfT O).length c ∧ M = [.own 9 1 a (rfT O).length c (txs (rfT O))]) := by
  (refine SC_intro Try.func40 rfl (by kernel_rfl) (by rw [Try.ntmps40]; exact Nat.le_of_ble_eq_true rfl) ?_; simp only [Try.ntmps40, argE, Nat.reduceAdd])
  
  repeat' (first | ((first | apply RW.q1 | (apply RW.qg; exact gvx; refine hgx tst ?_; intro hg hg')); (first | (apply q_bld; exact rfl; first | exact bld53_) | exact qt | exact qu)) | refine xsg cts ?_ | (apply CW_condT; exact rfl; exact ar) | (apply CW_condF; exact rfl; exact ar) | ((first | apply RW.s1 | apply RW.s0); exact gva) | (refine hK _ _ ?_; clear hK; refine xsg xsl ?_) | ((first | apply RW.a1 | apply RW.a0 | (apply RW.at; exact gva)); (first | (apply gw_alloc (d := some 2); exact rfl; intro b2) | (apply gw_asg; exact rfl) | (apply gw_alloc; exact rfl; intro b) | (refine gw_stx sto ?_) | (fail))) | (apply CW_region; intro K hK) | (apply CW_condX; exact rfl; exact tst; exact tst; all_goals (intro hq hc; try exact no)))
  refine CW_loop (fun m ll L => ∃ k : Nat, m = l.length - k ∧ ll = [(0, true, .slice a l.length c), (2, true, .pointer (some ⟨b2, 0, none⟩)), (3, true, .int .i64 (k : Nat))] ∧
      L = [.box b2 53 [.int .i64 0, .slice none 0 0]] ∧ k ≤ l.length ∧ firstO formPk (l.drop k) = formO l)
    ⟨_, _, _, ⟨0, rfl, rfl, rfl, by omega, rfl⟩, by exact sbe, by exact sbl⟩ ?_
  rintro m ll L ⟨k, rfl, rfl, rfl, hk, hA⟩
  by_cases hlt : k < l.length
  · obtain ⟨p, hx⟩ : ∃ x, l[k]? = some x := ⟨_, List.getElem?_eq_getElem (by omega)⟩
    have hpm := List.mem_of_getElem? hx
    have hpf : Rs H 4 p.la p.fl.length p.lc (p.fl.flatMap flC) := (hp p hpm).2.1
    obtain ⟨hS1, hS2, hS3, ⟨hS5, hS6⟩, hS4⟩ := hS p hpm
    rw [firstO_drop hx] at hA
    cases hW : wordO true p.p with
    | some y =>
      obtain ⟨rfl, hnw⟩ := wordO_some hW
      have hq0 : formO l = some p.p := by rw [← hA]; unfold formPk; rw [hW]; rfl
      rw [hq0] at hO
      subst hO
      
      repeat' (first | ((first | apply RW.q1 | (apply RW.qg; exact gvx; refine hgx tst ?_; intro hg hg')); (first | (apply q_ldr; exact rfl; exact evgx; exact hr; first | exact pk_p hx (by omega) | exact pk_f hx (by omega)) | (apply q_bld; exact rfl; first | exact bld53_) | exact qt | exact qu)) | refine xsg cts ?_ | (apply CW_condT; exact rfl; exact ar) | (apply CW_condF; exact rfl; exact ar) | ((first | apply RW.s1 | apply RW.s0); exact gva) | (refine hK _ _ ?_; clear hK; refine xsg xsl ?_) | ((first | apply RW.a1 | apply RW.a0 | (apply RW.at; exact gva)); (first | (apply gw_callE (f := 63); exact evx; exact go63; intro G hG; exact rPath_spec p.p G (by omega) false ⟨fun h => (by cases h), fun h => absurd h hnw⟩) | (apply gw_call (f := 64); exact evx; exact go64; intro G hG; refine SC.mono (wrong_spec 3 p.p G) ?_; rintro v M ⟨wa, wc, rfl, rfl⟩; (try dsimp only [jL, jM])) | (apply gw_asg; exact rfl) | (apply gw_alloc; exact rfl; intro b) | (refine gw_stx sto ?_) | (fail))) | (apply CW_region; intro K hK) | (apply CW_condX; exact rfl; exact tst; exact tst; all_goals (intro hq hc; try exact no)))
      (refine CW_ret ?_; refine xsg xsl ?_; refine bodyS_ret (L' := [.own 9 1 wa 1 wc (txs [p.p])]) (rs := [.cell 2 53]) (by kernel_rfl) (by (repeat (first | (apply resok_tmp; exact rfl) | (apply resok_cell; exact rfl; exact rfl; (focus ((iterate 16 (try (first | exact pick0 | apply pickS))); done)); (first | exact rfl | assumption | (simp only [List.length_map]; omega)); decide))); exact resok_nil) (by exact sbl) ?_)
      exact ⟨wa, wc, rfl, rfl⟩
    | none =>
      have hw := wordO_none.1 hW
      have hA1 : orO (firstO formFl (p.fl.drop 0)) (firstO formPk (l.drop (k + 1))) = formO l := by rw [← hA]; unfold formPk; rw [hW]; rfl
      
      repeat' (first | ((first | apply RW.q1 | (apply RW.qg; exact gvx; refine hgx tst ?_; intro hg hg')); (first | (apply q_ldr; exact rfl; exact evgx; exact hr; first | exact pk_p hx (by omega) | exact pk_f hx (by omega)) | (apply q_bld; exact rfl; first | exact bld53_) | exact qt | exact qu)) | refine xsg cts ?_ | (apply CW_condT; exact rfl; exact ar) | (apply CW_condF; exact rfl; exact ar) | ((first | apply RW.s1 | apply RW.s0); exact gva) | (refine hK _ _ ?_; clear hK; refine xsg xsl ?_) | ((first | apply RW.a1 | apply RW.a0 | (apply RW.at; exact gva)); (first | (apply gw_callE (f := 63); exact evx; exact go63; intro G hG; exact rPath_spec p.p G (by omega) true ⟨fun _ => hw, fun _ => rfl⟩) | (apply gw_asg; exact rfl) | (apply gw_alloc; exact rfl; intro b) | (refine gw_stx sto ?_) | (fail))) | (apply CW_region; intro K hK) | (apply CW_condX; exact rfl; exact tst; exact tst; all_goals (intro hq hc; try exact no)))
      refine CW_loop (fun m ll L => ∃ j : Nat, m = p.fl.length - j ∧ ll = [(0, true, .slice a l.length c), (2, true, .pointer (some ⟨b2, 0, none⟩)), (3, true, .int .i64 (k : Nat)), (4, true, .int .i64 (j : Nat))] ∧
          L = [.box b2 53 [.int .i64 0, .slice none 0 0]] ∧ j ≤ p.fl.length ∧ orO (firstO formFl (p.fl.drop j)) (firstO formPk (l.drop (k + 1))) = formO l)
        ⟨_, _, _, ⟨0, rfl, rfl, rfl, by omega, hA1⟩, by exact sbe, by exact sbl⟩ ?_
      rintro m ll L ⟨j, rfl, rfl, rfl, hj, hB⟩
      by_cases hjl : j < p.fl.length
      · obtain ⟨f, hfx⟩ : ∃ x, p.fl[j]? = some x := ⟨_, List.getElem?_eq_getElem (by omega)⟩
        have hfm := List.mem_of_getElem? hfx
        have hfl := hS3 f hfm
        have hfn := hS6 f hfm
        have htl := things_len f
        rw [firstO_drop hfx] at hB
        cases hL : lenO f.n with
        | some y =>
          obtain ⟨rfl, hnw⟩ := lenO_some hL
          have hq0 : formO l = some f.n := by rw [← hB]; unfold formFl; rw [hL]; rfl
          rw [hq0] at hO
          subst hO
          by_cases hz : f.n.length < 1
          · 
            repeat' (first | ((first | apply RW.q1 | (apply RW.qg; exact gvx; refine hgx tst ?_; intro hg hg')); (first | (apply q_ldr; exact rfl; exact evgx; exact hr; first | exact pk_p hx (by omega) | exact pk_f hx (by omega)) | (apply q_lar; exact rfl; exact evgx; exact hpf; exact ix_elem hfx (by omega); exact rfl; decide) | (apply q_lenb; exact evgx) | (apply q_bld; exact rfl; first | exact bld53_) | exact qt | exact qu)) | refine xsg cts ?_ | (apply CW_condT; exact rfl; exact ar) | (apply CW_condF; exact rfl; exact ar) | ((first | apply RW.s1 | apply RW.s0); exact gva) | (refine hK _ _ ?_; clear hK; refine xsg xsl ?_) | ((first | apply RW.a1 | apply RW.a0 | (apply RW.at; exact gva)); (first | (apply gw_alloc (d := some 5); exact rfl; intro b5) | (apply gw_call (f := 64); exact evx; exact go64; intro G hG; refine SC.mono (wrong_spec 3 f.n G) ?_; rintro v M ⟨wa, wc, rfl, rfl⟩; (try dsimp only [jL, jM])) | (apply gw_asg; exact rfl) | (apply gw_alloc; exact rfl; intro b) | (refine gw_stx sto ?_) | (fail))) | (apply CW_region; intro K hK) | (apply CW_condX; exact rfl; exact tst; exact tst; all_goals (intro hq hc; try exact no)))
            (refine CW_ret ?_; refine xsg xsl ?_; refine bodyS_ret (L' := [.own 9 1 wa 1 wc (txs [f.n])]) (rs := [.cell 2 53]) (by kernel_rfl) (by (repeat (first | (apply resok_tmp; exact rfl) | (apply resok_cell; exact rfl; exact rfl; (focus ((iterate 16 (try (first | exact pick0 | apply pickS))); done)); (first | exact rfl | assumption | (simp only [List.length_map]; omega)); decide))); exact resok_nil) (by exact sbl) ?_)
            exact ⟨wa, wc, rfl, rfl⟩
          · have hz2 : 40 < f.n.length := by omega
            
            repeat' (first | ((first | apply RW.q1 | (apply RW.qg; exact gvx; refine hgx tst ?_; intro hg hg')); (first | (apply q_ldr; exact rfl; exact evgx; exact hr; first | exact pk_p hx (by omega) | exact pk_f hx (by omega)) | (apply q_lar; exact rfl; exact evgx; exact hpf; exact ix_elem hfx (by omega); exact rfl; decide) | (apply q_lenb; exact evgx) | (apply q_bld; exact rfl; first | exact bld53_) | exact qt | exact qu)) | refine xsg cts ?_ | (apply CW_condT; exact rfl; exact ar) | (apply CW_condF; exact rfl; exact ar) | ((first | apply RW.s1 | apply RW.s0); exact gva) | (refine hK _ _ ?_; clear hK; refine xsg xsl ?_) | ((first | apply RW.a1 | apply RW.a0 | (apply RW.at; exact gva)); (first | (apply gw_alloc (d := some 5); exact rfl; intro b5) | (apply gw_call (f := 64); exact evx; exact go64; intro G hG; refine SC.mono (wrong_spec 3 f.n G) ?_; rintro v M ⟨wa, wc, rfl, rfl⟩; (try dsimp only [jL, jM])) | (apply gw_asg; exact rfl) | (apply gw_alloc; exact rfl; intro b) | (refine gw_stx sto ?_) | (fail))) | (apply CW_region; intro K hK) | (apply CW_condX; exact rfl; exact tst; exact tst; all_goals (intro hq hc; try exact no)))
            (refine CW_ret ?_; refine xsg xsl ?_; refine bodyS_ret (L' := [.own 9 1 wa 1 wc (txs [f.n])]) (rs := [.cell 2 53]) (by kernel_rfl) (by (repeat (first | (apply resok_tmp; exact rfl) | (apply resok_cell; exact rfl; exact rfl; (focus ((iterate 16 (try (first | exact pick0 | apply pickS))); done)); (first | exact rfl | assumption | (simp only [List.length_map]; omega)); decide))); exact resok_nil) (by exact sbl) ?_)
            exact ⟨wa, wc, rfl, rfl⟩
        | none =>
          obtain ⟨hz1, hz2⟩ := lenO_none hL
          have hB1 : orO (orO (firstO wN ((things f).drop 0)) (firstO formFl (p.fl.drop (j + 1)))) (firstO formPk (l.drop (k + 1))) = formO l := by rw [← hB]; unfold formFl; rw [hL]; rfl
          
          repeat' (first | ((first | apply RW.q1 | (apply RW.qg; exact gvx; refine hgx tst ?_; intro hg hg')); (first | (apply q_ldr; exact rfl; exact evgx; exact hr; first | exact pk_p hx (by omega) | exact pk_f hx (by omega)) | (apply q_lar; exact rfl; exact evgx; exact hpf; exact ix_elem hfx (by omega); exact rfl; decide) | (apply q_lenb; exact evgx) | (apply q_bld; exact rfl; first | exact bld53_) | exact qt | exact qu)) | refine xsg cts ?_ | (apply CW_condT; exact rfl; exact ar) | (apply CW_condF; exact rfl; exact ar) | ((first | apply RW.s1 | apply RW.s0); exact gva) | (refine hK _ _ ?_; clear hK; refine xsg xsl ?_) | ((first | apply RW.a1 | apply RW.a0 | (apply RW.at; exact gva)); (first | (apply gw_alloc (d := some 5); exact rfl; intro b5) | (apply gw_call (f := 48); exact evx; exact go48; intro G hG; refine SC.mono (rThings_spec f G (flOk_ext ((hp p hpm).2.2 f hfm) hG.ext) (by omega)) ?_; rintro v M ⟨ta, tc, rfl, rfl⟩; (try dsimp only [jL, jM])) | (apply gw_asg; exact rfl) | (apply gw_alloc; exact rfl; intro b) | (refine gw_stx sto ?_) | (fail))) | (apply CW_region; intro K hK) | (apply CW_condX; exact rfl; exact tst; exact tst; all_goals (intro hq hc; try exact no)))
          refine CW_loop (fun m ll L => ∃ i : Nat, m = (things f).length - i ∧ ll = [(0, true, .slice a l.length c), (2, true, .pointer (some ⟨b2, 0, none⟩)), (3, true, .int .i64 (k : Nat)), (4, true, .int .i64 (j : Nat)), (6, true, .slice ta (things f).length tc), (7, true, .int .i64 (i : Nat))] ∧
              L = [.box b2 53 [.int .i64 0, .slice none 0 0], .own 89 3 ta (things f).length tc ((things f).flatMap thC)] ∧ i ≤ (things f).length ∧
              orO (orO (firstO wN ((things f).drop i)) (firstO formFl (p.fl.drop (j + 1)))) (firstO formPk (l.drop (k + 1))) = formO l)
            ⟨_, _, _, ⟨0, rfl, rfl, rfl, by omega, hB1⟩, by exact sbe, by exact sbl⟩ ?_
          rintro m ll L ⟨i, rfl, rfl, rfl, hi, hC⟩
          by_cases hil : i < (things f).length
          · obtain ⟨x, hxx⟩ : ∃ x, (things f)[i]? = some x := ⟨_, List.getElem?_eq_getElem (by omega)⟩
            have hxs := hS4 x (mem_allT hfm (List.mem_of_getElem? hxx))
            rw [firstO_drop hxx] at hC
            cases hV : wordO false x.n with
            | some y =>
              obtain ⟨rfl, hnw⟩ := wordO_some hV
              have hq0 : formO l = some x.n := by rw [← hC]; unfold wN; rw [hV]; rfl
              rw [hq0] at hO
              subst hO
              
              repeat' (first | ((first | apply RW.q1 | (apply RW.qg; exact gvx; refine hgx tst ?_; intro hg hg')); (first | (apply q_ldo; exact rfl; exact evgx; infer_instance; exact th_n hxx (by omega)) | (apply q_bld; exact rfl; first | exact bld53_) | exact qt | exact qu)) | refine xsg cts ?_ | (apply CW_condT; exact rfl; exact ar) | (apply CW_condF; exact rfl; exact ar) | ((first | apply RW.s1 | apply RW.s0); exact gva) | (refine hK _ _ ?_; clear hK; refine xsg xsl ?_) | ((first | apply RW.a1 | apply RW.a0 | (apply RW.at; exact gva)); (first | (apply gw_callE (f := 65); exact evx; exact go65; intro G hG; exact rName_spec x.n G (by omega) false ⟨fun h => (by cases h), fun h => absurd h hnw⟩) | (apply gw_call (f := 64); exact evx; exact go64; intro G hG; refine SC.mono (wrong_spec 3 x.n G) ?_; rintro v M ⟨wa, wc, rfl, rfl⟩; (try dsimp only [jL, jM])) | (apply gw_asg; exact rfl) | (apply gw_alloc; exact rfl; intro b) | (refine gw_stx sto ?_) | (fail))) | (apply CW_region; intro K hK) | (apply CW_condX; exact rfl; exact tst; exact tst; all_goals (intro hq hc; try exact no)))
              (refine CW_ret ?_; refine xsg xsl ?_; refine bodyS_ret (L' := [.own 9 1 wa 1 wc (txs [x.n])]) (rs := [.cell 2 53]) (by kernel_rfl) (by (repeat (first | (apply resok_tmp; exact rfl) | (apply resok_cell; exact rfl; exact rfl; (focus ((iterate 16 (try (first | exact pick0 | apply pickS))); done)); (first | exact rfl | assumption | (simp only [List.length_map]; omega)); decide))); exact resok_nil) (by exact sbl) ?_)
              exact ⟨wa, wc, rfl, rfl⟩
            | none =>
              have hw2 := wordO_none.1 hV
              have hC1 : orO (orO (firstO wN ((things f).drop (i + 1))) (firstO formFl (p.fl.drop (j + 1)))) (firstO formPk (l.drop (k + 1))) = formO l := by
                rw [← hC, show wN x = none from hV]; rfl
              
              repeat' (first | ((first | apply RW.q1 | (apply RW.qg; exact gvx; refine hgx tst ?_; intro hg hg')); (first | (apply q_ldo; exact rfl; exact evgx; infer_instance; exact th_n hxx (by omega)) | (apply q_bld; exact rfl; first | exact bld53_) | exact qt | exact qu)) | refine xsg cts ?_ | (apply CW_condT; exact rfl; exact ar) | (apply CW_condF; exact rfl; exact ar) | ((first | apply RW.s1 | apply RW.s0); exact gva) | (refine hK _ _ ?_; clear hK; refine xsg xsl ?_) | ((first | apply RW.a1 | apply RW.a0 | (apply RW.at; exact gva)); (first | (apply gw_callE (f := 65); exact evx; exact go65; intro G hG; exact rName_spec x.n G (by omega) true ⟨fun _ => hw2, fun _ => rfl⟩) | (apply gw_asg; exact rfl) | (apply gw_alloc; exact rfl; intro b) | (refine gw_stx sto ?_) | (fail))) | (apply CW_region; intro K hK) | (apply CW_condX; exact rfl; exact tst; exact tst; all_goals (intro hq hc; try exact no)))
              exact ⟨_, _, _, ⟨i + 1, rfl, rfl, rfl, by omega, hC1⟩, by exact sbe, by exact sbl, by omega⟩
          obtain rfl : i = (things f).length := by omega
          rw [firstO_end, orO_nil] at hC
          
          repeat' (first | ((first | apply RW.q1 | (apply RW.qg; exact gvx; refine hgx tst ?_; intro hg hg')); (first | (apply q_bld; exact rfl; first | exact bld53_) | exact qt | exact qu)) | refine xsg cts ?_ | (apply CW_condT; exact rfl; exact ar) | (apply CW_condF; exact rfl; exact ar) | ((first | apply RW.s1 | apply RW.s0); exact gva) | (refine hK _ _ ?_; clear hK; refine xsg xsl ?_) | ((first | apply RW.a1 | apply RW.a0 | (apply RW.at; exact gva)); (first | (apply gw_asg; exact rfl) | (apply gw_alloc; exact rfl; intro b) | (refine gw_stx sto ?_) | (fail))) | (apply CW_region; intro K hK) | (apply CW_condX; exact rfl; exact tst; exact tst; all_goals (intro hq hc; try exact no)))
          exact ⟨_, _, _, ⟨j + 1, rfl, rfl, rfl, by omega, hC⟩, by exact sbe, by exact sbl, by omega⟩
      obtain rfl : j = p.fl.length := by omega
      rw [firstO_end, orO_nil] at hB
      
      repeat' (first | ((first | apply RW.q1 | (apply RW.qg; exact gvx; refine hgx tst ?_; intro hg hg')); (first | (apply q_ldr; exact rfl; exact evgx; exact hr; first | exact pk_p hx (by omega) | exact pk_f hx (by omega)) | (apply q_bld; exact rfl; first | exact bld53_) | exact qt | exact qu)) | refine xsg cts ?_ | (apply CW_condT; exact rfl; exact ar) | (apply CW_condF; exact rfl; exact ar) | ((first | apply RW.s1 | apply RW.s0); exact gva) | (refine hK _ _ ?_; clear hK; refine xsg xsl ?_) | ((first | apply RW.a1 | apply RW.a0 | (apply RW.at; exact gva)); (first | (apply gw_asg; exact rfl) | (apply gw_alloc; exact rfl; intro b) | (refine gw_stx sto ?_) | (fail))) | (apply CW_region; intro K hK) | (apply CW_condX; exact rfl; exact tst; exact tst; all_goals (intro hq hc; try exact no)))
      exact ⟨_, _, _, ⟨k + 1, rfl, rfl, rfl, by omega, hB⟩, by exact sbe, by exact sbl, by omega⟩
  obtain rfl : k = l.length := by omega
  rw [firstO_end] at hA
  rw [← hA] at hO
  subst hO
  
  repeat' (first | ((first | apply RW.q1 | (apply RW.qg; exact gvx; refine hgx tst ?_; intro hg hg')); (first | (apply q_bld; exact rfl; first | exact bld53_) | exact qt | exact qu)) | refine xsg cts ?_ | (apply CW_condT; exact rfl; exact ar) | (apply CW_condF; exact rfl; exact ar) | ((first | apply RW.s1 | apply RW.s0); exact gva) | (refine hK _ _ ?_; clear hK; refine xsg xsl ?_) | ((first | apply RW.a1 | apply RW.a0 | (apply RW.at; exact gva)); (first | (apply gw_asg; exact rfl) | (apply gw_alloc; exact rfl; intro b) | (refine gw_stx sto ?_) | (fail))) | (apply CW_region; intro K hK) | (apply CW_condX; exact rfl; exact tst; exact tst; all_goals (intro hq hc; try exact no)))
  (refine CW_ret ?_; refine xsg xsl ?_; refine bodyS_ret (L' := [.own 9 1 none 0 0 []]) (rs := [.cell 2 53]) (by kernel_rfl) (by (repeat (first | (apply resok_tmp; exact rfl) | (apply resok_cell; exact rfl; exact rfl; (focus ((iterate 16 (try (first | exact pick0 | apply pickS))); done)); (first | exact rfl | assumption | (simp only [List.length_map]; omega)); decide))); exact resok_nil) (by exact sbl) ?_)
  exact ⟨none, 0, rfl, rfl⟩
end Go.Proofs.Ytkhmimlgkjenfaa.HL
namespace Go.Proofs.Ytkhmimlgkjenfaa.HL
open Go
attribute [local irreducible] goFn thenS blockS bodyS CW RW DW GW QW NW SC Pick Picks SubL Rd NN ResOk SrcW subE hops hseg AW hgen HC qv bldv
set_option maxHeartbeats 8000000
set_option maxRecDepth 100000
set_option linter.unusedVariables false
set_option linter.unusedSimpArgs false

abbrev dwRfD0 : List (Nat × Bool) := [(0, false), (1, false), (2, false), (3, false), (4, false), (5, false), (6, false), (7, false), (8, true)]
theorem rOnce_spec (l : List Pk) (a0 : Option Addr) (c0 : Nat) (H : Hp) (hr : Rs H 3 a0 l.length c0 (l.flatMap pkC)) (hp : ∀ p, p ∈ l → pkOk H p) (hS : ∀ p, p ∈ l → Small p) (hl : l.length ≤ 1048576) (hT : ∀ p, p ∈ l → (allT p.fl).length ≤ 1048576) (O : Option (Int × Tx)) (hO : O = (dupP [] l).map fun s => (6, s)) :
    SC Try.prog 41 [.slice a0 l.length c0] H [] (fun v M => ∃ a c, v = rfV (rfE O) a (rfT O).length c ∧ M = [.own 9 1 a (rfT O).length c (txs (rfT O))]) := by
  (refine SC_intro Try.func41 rfl (by kernel_rfl) (by rw [Try.ntmps41]; exact Nat.le_of_ble_eq_true rfl) ?_; simp only [Try.ntmps41, argE, Nat.reduceAdd])
  
  repeat' (first | ((first | apply RW.q1 | (apply DW.q1; exact rfl)); (first | (apply q_bld; exact rfl; first | exact bld53_) | exact qt)) | refine xsg cts ?_ | (apply CW_condT; exact rfl; exact ar) | (apply CW_condF; exact rfl; exact ar) | (refine hK _ _ ?_; clear hK; refine xsg xsl ?_) | (refine xsg ahd ?_; (first | (apply gw_alloc (d := some 2); exact rfl; intro b2) | (apply gw_asg; exact rfl) | (apply gw_alloc; exact rfl; intro b) | (apply gw_lit1; exact rfl; exact rfl; exact rfl; exact rfl; decide; intro b) | (apply gw_lit2; exact rfl; exact rfl; exact rfl; exact rfl; intro b) | (apply gw_lit3; exact rfl; exact rfl; exact rfl; exact rfl; exact rfl; intro b) | (apply gw_ap1; exact rfl; exact rfl; infer_instance; infer_instance; exact rfl; exact rfl; exact rfl; exact rfl; omega; intro a c) | (apply gw_ap1n; exact rfl; exact rfl; infer_instance; exact rfl; exact rfl; exact rfl; exact rfl; omega; intro a c) | (refine gw_stx sto ?_) | (fail))) | (apply CW_region; intro K hK) | (apply CW_condX; exact rfl; exact tst; exact tst; all_goals (intro hq hc; try exact no)) | (refine CW_draw (id := 12) [] dwRfD0 mixed (by kernel_rfl) (fun K hK => ?_)))
  refine CW_loop (fun m ll L => ∃ (k n pc : Nat) (pa : Option Addr) (cs : List Value), m = l.length - k ∧ ll = [(0, true, .slice a0 l.length c0), (2, true, .pointer (some ⟨b2, 0, none⟩)), (3, true, .slice pa n pc), (4, true, .int .i64 (k : Nat))] ∧
      L = [.box b2 53 [.int .i64 0, .slice none 0 0], .own 9 1 pa n pc cs] ∧ k ≤ l.length ∧ n = k ∧ cs = txs ((l.take k).map Pk.p) ∧ dupP ((l.take k).map Pk.p) (l.drop k) = dupP [] l)
    ⟨_, _, _, ⟨0, 0, 0, none, [], rfl, rfl, rfl, by omega, rfl, rfl, rfl⟩, by exact sbe, by exact sbl⟩ ?_
  rintro m ll L ⟨k, n, pc, pa, cs, rfl, rfl, rfl, hk, hn, hcs, hA⟩
  by_cases hlt : k < l.length
  · obtain ⟨p, hx⟩ : ∃ x, l[k]? = some x := ⟨_, List.getElem?_eq_getElem (by omega)⟩
    have hpm := List.mem_of_getElem? hx
    have hpi : Rs H 1 p.ia p.im.length p.ic (txs p.im) := (hp p hpm).1
    have hpf : Rs H 4 p.la p.fl.length p.lc (p.fl.flatMap flC) := (hp p hpm).2.1
    obtain ⟨hS1, hS2, hS3, ⟨hS5, hS6⟩, hS4⟩ := hS p hpm
    have hTp := hT p hpm
    rw [drop_at hx] at hA
    have hml : ((l.take k).map Pk.p).length = k := by rw [List.length_map, List.length_take]; omega
    have hnl : n = ((l.take k).map Pk.p).length := by omega
    subst hcs
    by_cases hin : p.p ∈ (l.take k).map Pk.p
    · rw [dupP_hit hin] at hA
      rw [← hA] at hO
      subst hO
      have hd : decide (p.p ∈ ((l.take k).map Pk.p).take k) = true := by rw [List.take_of_length_le (by omega)]; exact decide_eq_true hin
      subst hnl
      
      repeat' (first | ((first | apply RW.q1 | (apply DW.q1; exact rfl)); (first | (apply q_lar; exact rfl; exact rfl; exact hr; exact ix_elem hx (by omega); exact rfl; decide) | (apply q_bld; exact rfl; first | exact bld53_) | exact qt)) | refine xsg cts ?_ | (apply CW_condT; exact rfl; exact ar) | (apply CW_condF; exact rfl; exact ar) | (refine hK _ _ ?_; clear hK; refine xsg xsl ?_) | (refine xsg ahd ?_; (first | (apply gw_alloc (d := some 5); exact rfl; intro b5) | (apply gw_callE (f := 66); exact rfl; exact go66; intro G hG; exact rHas_spec ((l.take k).map Pk.p) k pc pa p.p G (sl_own (by exact pkx) hG) (by omega) (by omega); rw [hd]) | (apply gw_call (f := 64); exact rfl; exact go64; intro G hG; refine SC.mono (wrong_spec 6 p.p G) ?_; rintro v M ⟨wa, wc, rfl, rfl⟩; (try dsimp only [jL, jM])) | (apply gw_asg; exact rfl) | (apply gw_alloc; exact rfl; intro b) | (apply gw_lit1; exact rfl; exact rfl; exact rfl; exact rfl; decide; intro b) | (apply gw_lit2; exact rfl; exact rfl; exact rfl; exact rfl; intro b) | (apply gw_lit3; exact rfl; exact rfl; exact rfl; exact rfl; exact rfl; intro b) | (apply gw_ap1; exact rfl; exact rfl; infer_instance; infer_instance; exact rfl; exact rfl; exact rfl; exact rfl; omega; intro a c) | (apply gw_ap1n; exact rfl; exact rfl; infer_instance; exact rfl; exact rfl; exact rfl; exact rfl; omega; intro a c) | (refine gw_stx sto ?_) | (fail))) | (apply CW_region; intro K hK) | (apply CW_condX; exact rfl; exact tst; exact tst; all_goals (intro hq hc; try exact no)) | (refine CW_draw (id := 12) [] dwRfD0 mixed (by kernel_rfl) (fun K hK => ?_)))
      (refine CW_ret ?_; refine xsg xsl ?_; refine bodyS_ret (L' := [.own 9 1 wa 1 wc (txs [p.p])]) (rs := [.cell 2 53]) (by kernel_rfl) (by (repeat (first | (apply resok_tmp; exact rfl) | (apply resok_cell; exact rfl; exact rfl; (focus ((iterate 16 (try (first | exact pick0 | apply pickS))); done)); (first | exact rfl | assumption | (simp only [List.length_map]; omega)); decide))); exact resok_nil) (by exact sbl) ?_)
      exact ⟨wa, wc, rfl, rfl⟩
    rw [dupP_go hin, ← mtake_snoc hx] at hA
    have hd : decide (p.p ∈ ((l.take k).map Pk.p).take k) = false := by rw [List.take_of_length_le (by omega)]; exact decide_eq_false hin
    have hA1 : orO (dupO (p.im.take 0) (p.im.drop 0)) (orO (dupF [] [] p.fl) (dupP ((l.take (k + 1)).map Pk.p) (l.drop (k + 1)))) = dupP [] l := hA
    have hcs1 : txs ((l.take k).map Pk.p) ++ [.string (bstr p.p)] = txs ((l.take (k + 1)).map Pk.p) := by rw [txs_snoc, mtake_snoc hx]
    subst hnl
    
    repeat' (first | ((first | apply RW.q1 | (apply DW.q1; exact rfl)); (first | (apply q_lar; exact rfl; exact rfl; exact hr; exact ix_elem hx (by omega); exact rfl; decide) | (apply q_bld; exact rfl; first | exact bld53_) | exact qt)) | refine xsg cts ?_ | (apply CW_condT; exact rfl; exact ar) | (apply CW_condF; exact rfl; exact ar) | (refine hK _ _ ?_; clear hK; refine xsg xsl ?_) | (refine xsg ahd ?_; (first | (apply gw_alloc (d := some 5); exact rfl; intro b5) | (apply gw_callE (f := 66); exact rfl; exact go66; intro G hG; exact rHas_spec ((l.take k).map Pk.p) k pc pa p.p G (sl_own (by exact pkx) hG) (by omega) (by omega); rw [hd]) | (apply gw_asg; exact rfl) | (apply gw_alloc; exact rfl; intro b) | (apply gw_lit1; exact rfl; exact rfl; exact rfl; exact rfl; decide; intro b) | (apply gw_lit2; exact rfl; exact rfl; exact rfl; exact rfl; intro b) | (apply gw_lit3; exact rfl; exact rfl; exact rfl; exact rfl; exact rfl; intro b) | (apply gw_ap1; exact rfl; exact rfl; infer_instance; infer_instance; exact rfl; exact rfl; exact rfl; exact rfl; omega; intro a c) | (apply gw_ap1n; exact rfl; exact rfl; infer_instance; exact rfl; exact rfl; exact rfl; exact rfl; omega; intro a c) | (refine gw_stx sto ?_) | (fail))) | (apply CW_region; intro K hK) | (apply CW_condX; exact rfl; exact tst; exact tst; all_goals (intro hq hc; try exact no)) | (refine CW_draw (id := 12) [] dwRfD0 mixed (by kernel_rfl) (fun K hK => ?_)))
    refine CW_loop (fun m ll L => ∃ (j n1 pc1 : Nat) (pa1 : Option Addr) (cs1 : List Value), m = p.im.length - j ∧ ll = [(0, true, .slice a0 l.length c0), (2, true, .pointer (some ⟨b2, 0, none⟩)), (3, true, .slice pa1 n1 pc1), (4, true, .int .i64 (k : Nat)), (5, true, .pointer (some ⟨b5, 0, none⟩)), (6, true, .int .i64 (j : Nat))] ∧
        L = [.box b2 53 [.int .i64 0, .slice none 0 0], .own 9 1 pa1 n1 pc1 cs1, .box b5 25 (pkC p)] ∧ j ≤ p.im.length ∧ n1 = k + 1 ∧ cs1 = txs ((l.take (k + 1)).map Pk.p) ∧ orO (dupO (p.im.take j) (p.im.drop j)) (orO (dupF [] [] p.fl) (dupP ((l.take (k + 1)).map Pk.p) (l.drop (k + 1)))) = dupP [] l)
      ⟨_, _, _, ⟨0, ((l.take k).map Pk.p).length + 1, _, _, _, rfl, rfl, rfl, by omega, by omega, hcs1, hA1⟩, by exact sbe, by exact sbl⟩ ?_
    rintro m ll L ⟨j, n1, pc1, pa1, cs1, rfl, rfl, rfl, hj, hn1, hcs2, hB⟩
    by_cases hjl : j < p.im.length
    · obtain ⟨s, hs⟩ : ∃ x, p.im[j]? = some x := ⟨_, List.getElem?_eq_getElem (by omega)⟩
      rw [drop_at hs] at hB
      by_cases hsn : s ∈ p.im.take j
      · rw [dupO_hit hsn] at hB
        rw [← hB] at hO
        subst hO
        have hd2 : decide (s ∈ p.im.take j) = true := decide_eq_true hsn
        
        repeat' (first | ((first | apply RW.q1 | (apply DW.q1; exact rfl)); (first | (apply q_ldr; exact rfl; exact rfl; exact hpi; exact txs_at hs (by omega)) | (apply q_bld; exact rfl; first | exact bld53_) | exact qt)) | refine xsg cts ?_ | (apply CW_condT; exact rfl; exact ar) | (apply CW_condF; exact rfl; exact ar) | (refine hK _ _ ?_; clear hK; refine xsg xsl ?_) | (refine xsg ahd ?_; (first | (apply gw_callE (f := 66); exact rfl; exact go66; intro G hG; exact rHas_spec p.im j p.ic p.ia s G (hpi.ext hG.ext) (by omega) (by omega); rw [hd2]) | (apply gw_call (f := 64); exact rfl; exact go64; intro G hG; refine SC.mono (wrong_spec 6 s G) ?_; rintro v M ⟨wa, wc, rfl, rfl⟩; (try dsimp only [jL, jM])) | (apply gw_asg; exact rfl) | (apply gw_alloc; exact rfl; intro b) | (apply gw_lit1; exact rfl; exact rfl; exact rfl; exact rfl; decide; intro b) | (apply gw_lit2; exact rfl; exact rfl; exact rfl; exact rfl; intro b) | (apply gw_lit3; exact rfl; exact rfl; exact rfl; exact rfl; exact rfl; intro b) | (apply gw_ap1; exact rfl; exact rfl; infer_instance; infer_instance; exact rfl; exact rfl; exact rfl; exact rfl; omega; intro a c) | (apply gw_ap1n; exact rfl; exact rfl; infer_instance; exact rfl; exact rfl; exact rfl; exact rfl; omega; intro a c) | (refine gw_stx sto ?_) | (fail))) | (apply CW_region; intro K hK) | (apply CW_condX; exact rfl; exact tst; exact tst; all_goals (intro hq hc; try exact no)) | (refine CW_draw (id := 12) [] dwRfD0 mixed (by kernel_rfl) (fun K hK => ?_)))
        (refine CW_ret ?_; refine xsg xsl ?_; refine bodyS_ret (L' := [.own 9 1 wa 1 wc (txs [s])]) (rs := [.cell 2 53]) (by kernel_rfl) (by (repeat (first | (apply resok_tmp; exact rfl) | (apply resok_cell; exact rfl; exact rfl; (focus ((iterate 16 (try (first | exact pick0 | apply pickS))); done)); (first | exact rfl | assumption | (simp only [List.length_map]; omega)); decide))); exact resok_nil) (by exact sbl) ?_)
        exact ⟨wa, wc, rfl, rfl⟩
      rw [dupO_go hsn, ← take_snoc hs] at hB
      have hd2 : decide (s ∈ p.im.take j) = false := decide_eq_false hsn
      
      repeat' (first | ((first | apply RW.q1 | (apply DW.q1; exact rfl)); (first | (apply q_ldr; exact rfl; exact rfl; exact hpi; exact txs_at hs (by omega)) | (apply q_bld; exact rfl; first | exact bld53_) | exact qt)) | refine xsg cts ?_ | (apply CW_condT; exact rfl; exact ar) | (apply CW_condF; exact rfl; exact ar) | (refine hK _ _ ?_; clear hK; refine xsg xsl ?_) | (refine xsg ahd ?_; (first | (apply gw_callE (f := 66); exact rfl; exact go66; intro G hG; exact rHas_spec p.im j p.ic p.ia s G (hpi.ext hG.ext) (by omega) (by omega); rw [hd2]) | (apply gw_asg; exact rfl) | (apply gw_alloc; exact rfl; intro b) | (apply gw_lit1; exact rfl; exact rfl; exact rfl; exact rfl; decide; intro b) | (apply gw_lit2; exact rfl; exact rfl; exact rfl; exact rfl; intro b) | (apply gw_lit3; exact rfl; exact rfl; exact rfl; exact rfl; exact rfl; intro b) | (apply gw_ap1; exact rfl; exact rfl; infer_instance; infer_instance; exact rfl; exact rfl; exact rfl; exact rfl; omega; intro a c) | (apply gw_ap1n; exact rfl; exact rfl; infer_instance; exact rfl; exact rfl; exact rfl; exact rfl; omega; intro a c) | (refine gw_stx sto ?_) | (fail))) | (apply CW_region; intro K hK) | (apply CW_condX; exact rfl; exact tst; exact tst; all_goals (intro hq hc; try exact no)) | (refine CW_draw (id := 12) [] dwRfD0 mixed (by kernel_rfl) (fun K hK => ?_)))
      exact ⟨_, _, _, ⟨j + 1, n1, pc1, pa1, cs1, rfl, rfl, rfl, by omega, hn1, hcs2, hB⟩, by exact sbe, by exact sbl, by omega⟩
    obtain rfl : j = p.im.length := by omega
    rw [List.drop_length] at hB
    have hB1 : orO (dupF ((p.fl.take 0).map Fl.n) ((allT (p.fl.take 0)).map Th.n) (p.fl.drop 0)) (dupP ((l.take (k + 1)).map Pk.p) (l.drop (k + 1))) = dupP [] l := hB
    
    repeat' (first | ((first | apply RW.q1 | (apply DW.q1; exact rfl)); (first | (apply q_bld; exact rfl; first | exact bld53_) | exact qt)) | refine xsg cts ?_ | (apply CW_condT; exact rfl; exact ar) | (apply CW_condF; exact rfl; exact ar) | (refine hK _ _ ?_; clear hK; refine xsg xsl ?_) | (refine xsg ahd ?_; (first | (apply gw_asg; exact rfl) | (apply gw_alloc; exact rfl; intro b) | (apply gw_lit1; exact rfl; exact rfl; exact rfl; exact rfl; decide; intro b) | (apply gw_lit2; exact rfl; exact rfl; exact rfl; exact rfl; intro b) | (apply gw_lit3; exact rfl; exact rfl; exact rfl; exact rfl; exact rfl; intro b) | (apply gw_ap1; exact rfl; exact rfl; infer_instance; infer_instance; exact rfl; exact rfl; exact rfl; exact rfl; omega; intro a c) | (apply gw_ap1n; exact rfl; exact rfl; infer_instance; exact rfl; exact rfl; exact rfl; exact rfl; omega; intro a c) | (refine gw_stx sto ?_) | (fail))) | (apply CW_region; intro K hK) | (apply CW_condX; exact rfl; exact tst; exact tst; all_goals (intro hq hc; try exact no)) | (refine CW_draw (id := 12) [] dwRfD0 mixed (by kernel_rfl) (fun K hK => ?_)))
    refine CW_loop (fun m ll L => ∃ (j fn fc nn nc : Nat) (fa na : Option Addr) (fcs ncs : List Value), m = p.fl.length - j ∧ ll = [(0, true, .slice a0 l.length c0), (2, true, .pointer (some ⟨b2, 0, none⟩)), (3, true, .slice pa1 n1 pc1), (4, true, .int .i64 (k : Nat)), (5, true, .pointer (some ⟨b5, 0, none⟩)), (7, true, .slice fa fn fc), (8, true, .slice na nn nc), (9, true, .int .i64 (j : Nat))] ∧
        L = [.box b2 53 [.int .i64 0, .slice none 0 0], .own 9 1 pa1 n1 pc1 cs1, .box b5 25 (pkC p), .own 9 1 fa fn fc fcs, .own 9 1 na nn nc ncs] ∧ j ≤ p.fl.length ∧ fn = j ∧ fcs = txs ((p.fl.take j).map Fl.n) ∧ nn = ((allT (p.fl.take j)).map Th.n).length ∧ ncs = txs ((allT (p.fl.take j)).map Th.n) ∧
        orO (dupF ((p.fl.take j).map Fl.n) ((allT (p.fl.take j)).map Th.n) (p.fl.drop j)) (dupP ((l.take (k + 1)).map Pk.p) (l.drop (k + 1))) = dupP [] l)
      ⟨_, _, _, ⟨0, 0, 0, 0, 0, none, none, [], [], rfl, rfl, rfl, by omega, rfl, rfl, rfl, rfl, hB1⟩, by exact sbe, by exact sbl⟩ ?_
    rintro m ll L ⟨j, fn, fc, nn, nc, fa, na, fcs, ncs, rfl, rfl, rfl, hj, hfn, hfcs, hnn, hncs, hC⟩
    by_cases hjl2 : j < p.fl.length
    · obtain ⟨f, hfx⟩ : ∃ x, p.fl[j]? = some x := ⟨_, List.getElem?_eq_getElem (by omega)⟩
      have hfm := List.mem_of_getElem? hfx
      have hfl := hS3 f hfm
      have htl := things_len f
      rw [drop_at hfx] at hC
      have hflen : ((p.fl.take j).map Fl.n).length = j := by rw [List.length_map, List.length_take]; omega
      have hfn2 : fn = ((p.fl.take j).map Fl.n).length := by omega
      have hat := allT_take p.fl j
      have hat1 := allT_take p.fl (j + 1)
      have hsn1 := congrArg List.length (allT_snoc hfx)
      rw [List.length_append] at hsn1
      subst hfcs hncs hnn
      rw [List.length_map]
      by_cases hfin : f.n ∈ (p.fl.take j).map Fl.n
      · rw [dupF_hit hfin] at hC
        have hC' : some f.n = dupP [] l := hC
        rw [← hC'] at hO
        subst hO
        have hd2 : decide (f.n ∈ ((p.fl.take j).map Fl.n).take j) = true := by rw [List.take_of_length_le (by omega)]; exact decide_eq_true hfin
        subst hfn2
        
        repeat' (first | ((first | apply RW.q1 | (apply DW.q1; exact rfl)); (first | (apply q_ldr; exact rfl; exact rfl; exact hpf; exact fl_n hfx (by omega)) | (apply q_bld; exact rfl; first | exact bld53_) | exact qt)) | refine xsg cts ?_ | (apply CW_condT; exact rfl; exact ar) | (apply CW_condF; exact rfl; exact ar) | (refine hK _ _ ?_; clear hK; refine xsg xsl ?_) | (refine xsg ahd ?_; (first | (apply gw_callE (f := 66); exact rfl; exact go66; intro G hG; exact rHas_spec ((p.fl.take j).map Fl.n) j fc fa f.n G (sl_own (by exact pkx) hG) (by omega) (by omega); rw [hd2]) | (apply gw_call (f := 64); exact rfl; exact go64; intro G hG; refine SC.mono (wrong_spec 6 f.n G) ?_; rintro v M ⟨wa, wc, rfl, rfl⟩; (try dsimp only [jL, jM])) | (apply gw_asg; exact rfl) | (apply gw_alloc; exact rfl; intro b) | (apply gw_lit1; exact rfl; exact rfl; exact rfl; exact rfl; decide; intro b) | (apply gw_lit2; exact rfl; exact rfl; exact rfl; exact rfl; intro b) | (apply gw_lit3; exact rfl; exact rfl; exact rfl; exact rfl; exact rfl; intro b) | (apply gw_ap1; exact rfl; exact rfl; infer_instance; infer_instance; exact rfl; exact rfl; exact rfl; exact rfl; omega; intro a c) | (apply gw_ap1n; exact rfl; exact rfl; infer_instance; exact rfl; exact rfl; exact rfl; exact rfl; omega; intro a c) | (refine gw_stx sto ?_) | (fail))) | (apply CW_region; intro K hK) | (apply CW_condX; exact rfl; exact tst; exact tst; all_goals (intro hq hc; try exact no)) | (refine CW_draw (id := 12) [] dwRfD0 mixed (by kernel_rfl) (fun K hK => ?_)))
        (refine CW_ret ?_; refine xsg xsl ?_; refine bodyS_ret (L' := [.own 9 1 wa 1 wc (txs [f.n])]) (rs := [.cell 2 53]) (by kernel_rfl) (by (repeat (first | (apply resok_tmp; exact rfl) | (apply resok_cell; exact rfl; exact rfl; (focus ((iterate 16 (try (first | exact pick0 | apply pickS))); done)); (first | exact rfl | assumption | (simp only [List.length_map]; omega)); decide))); exact resok_nil) (by exact sbl) ?_)
        exact ⟨wa, wc, rfl, rfl⟩
      rw [dupF_go hfin, ← mtake_snoc hfx] at hC
      have hd2 : decide (f.n ∈ ((p.fl.take j).map Fl.n).take j) = false := by rw [List.take_of_length_le (by omega)]; exact decide_eq_false hfin
      have hC1 : orO (orO (dupO ((allT (p.fl.take j)).map Th.n ++ ((things f).take 0).map Th.n) (((things f).drop 0).map Th.n)) (dupF ((p.fl.take (j + 1)).map Fl.n) ((allT (p.fl.take j)).map Th.n ++ (things f).map Th.n) (p.fl.drop (j + 1)))) (dupP ((l.take (k + 1)).map Pk.p) (l.drop (k + 1))) = dupP [] l := by
        rw [List.take_zero, List.map_nil, List.append_nil]; exact hC
      have hcs3 : txs ((p.fl.take j).map Fl.n) ++ [.string (bstr f.n)] = txs ((p.fl.take (j + 1)).map Fl.n) := by rw [txs_snoc, mtake_snoc hfx]
      have hns0 : txs ((allT (p.fl.take j)).map Th.n) = txs ((allT (p.fl.take j)).map Th.n ++ ((things f).take 0).map Th.n) := by simp
      subst hfn2
      
      repeat' (first | ((first | apply RW.q1 | (apply DW.q1; exact rfl)); (first | (apply q_ldr; exact rfl; exact rfl; exact hpf; exact fl_n hfx (by omega)) | (apply q_lar; exact rfl; exact rfl; exact hpf; exact ix_elem hfx (by omega); exact rfl; decide) | (apply q_bld; exact rfl; first | exact bld53_) | exact qt)) | refine xsg cts ?_ | (apply CW_condT; exact rfl; exact ar) | (apply CW_condF; exact rfl; exact ar) | (refine hK _ _ ?_; clear hK; refine xsg xsl ?_) | (refine xsg ahd ?_; (first | (apply gw_callE (f := 66); exact rfl; exact go66; intro G hG; exact rHas_spec ((p.fl.take j).map Fl.n) j fc fa f.n G (sl_own (by exact pkx) hG) (by omega) (by omega); rw [hd2]) | (apply gw_call (f := 48); exact rfl; exact go48; intro G hG; refine SC.mono (rThings_spec f G (flOk_ext ((hp p hpm).2.2 f hfm) hG.ext) (by omega)) ?_; rintro v M ⟨ta, tc, rfl, rfl⟩; (try dsimp only [jL, jM])) | (apply gw_asg; exact rfl) | (apply gw_alloc; exact rfl; intro b) | (apply gw_lit1; exact rfl; exact rfl; exact rfl; exact rfl; decide; intro b) | (apply gw_lit2; exact rfl; exact rfl; exact rfl; exact rfl; intro b) | (apply gw_lit3; exact rfl; exact rfl; exact rfl; exact rfl; exact rfl; intro b) | (apply gw_ap1; exact rfl; exact rfl; infer_instance; infer_instance; exact rfl; exact rfl; exact rfl; exact rfl; omega; intro a c) | (apply gw_ap1n; exact rfl; exact rfl; infer_instance; exact rfl; exact rfl; exact rfl; exact rfl; omega; intro a c) | (refine gw_stx sto ?_) | (fail))) | (apply CW_region; intro K hK) | (apply CW_condX; exact rfl; exact tst; exact tst; all_goals (intro hq hc; try exact no)) | (refine CW_draw (id := 12) [] dwRfD0 mixed (by kernel_rfl) (fun K hK => ?_)))
      refine CW_loop (fun m ll L => ∃ (i fn fc nn nc : Nat) (fa na : Option Addr) (fcs ncs : List Value), m = (things f).length - i ∧ ll = [(0, true, .slice a0 l.length c0), (2, true, .pointer (some ⟨b2, 0, none⟩)), (3, true, .slice pa1 n1 pc1), (4, true, .int .i64 (k : Nat)), (5, true, .pointer (some ⟨b5, 0, none⟩)), (7, true, .slice fa fn fc), (8, true, .slice na nn nc), (9, true, .int .i64 (j : Nat)), (10, true, .slice ta (things f).length tc), (11, true, .int .i64 (i : Nat))] ∧
          L = [.box b2 53 [.int .i64 0, .slice none 0 0], .own 9 1 pa1 n1 pc1 cs1, .box b5 25 (pkC p), .own 9 1 fa fn fc fcs, .own 9 1 na nn nc ncs, .own 89 3 ta (things f).length tc ((things f).flatMap thC)] ∧ i ≤ (things f).length ∧ fn = j + 1 ∧ fcs = txs ((p.fl.take (j + 1)).map Fl.n) ∧ nn = (allT (p.fl.take j)).length + i ∧ ncs = txs ((allT (p.fl.take j)).map Th.n ++ ((things f).take i).map Th.n) ∧
          orO (orO (dupO ((allT (p.fl.take j)).map Th.n ++ ((things f).take i).map Th.n) (((things f).drop i).map Th.n)) (dupF ((p.fl.take (j + 1)).map Fl.n) ((allT (p.fl.take j)).map Th.n ++ (things f).map Th.n) (p.fl.drop (j + 1)))) (dupP ((l.take (k + 1)).map Pk.p) (l.drop (k + 1))) = dupP [] l)
        ⟨_, _, _, ⟨0, ((p.fl.take j).map Fl.n).length + 1, _, (allT (p.fl.take j)).length, _, _, _, _, _, rfl, rfl, rfl, by omega, by omega, hcs3, by omega, hns0, hC1⟩, by exact sbe, by exact sbl⟩ ?_
      rintro m ll L ⟨i, fn, fc, nn, nc, fa, na, fcs, ncs, rfl, rfl, rfl, hi, hfn, hfcs, hnn, hncs, hD⟩
      by_cases hil : i < (things f).length
      · obtain ⟨x, hxx⟩ : ∃ x, (things f)[i]? = some x := ⟨_, List.getElem?_eq_getElem (by omega)⟩
        rw [drop_at hxx, List.map_cons] at hD
        have hnl2 : ((allT (p.fl.take j)).map Th.n ++ ((things f).take i).map Th.n).length = nn := by rw [List.length_append, List.length_map, List.length_map, List.length_take]; omega
        have htw : ∀ s : Tx, (s ∈ ((allT (p.fl.take j)).map Th.n ++ ((things f).take i).map Th.n).take nn) ↔ s ∈ (allT (p.fl.take j)).map Th.n ++ ((things f).take i).map Th.n := fun s => by rw [List.take_of_length_le (by omega)]
        subst hncs
        by_cases hxn : x.n ∈ (allT (p.fl.take j)).map Th.n ++ ((things f).take i).map Th.n
        · rw [dupO_hit hxn] at hD
          have hD' : some x.n = dupP [] l := hD
          rw [← hD'] at hO
          subst hO
          have hd3 : decide (x.n ∈ ((allT (p.fl.take j)).map Th.n ++ ((things f).take i).map Th.n).take nn) = true := decide_eq_true ((htw _).2 hxn)
          have hsp := rHas_spec ((allT (p.fl.take j)).map Th.n ++ ((things f).take i).map Th.n) nn nc na x.n
          rw [hnl2] at hsp
          
          repeat' (first | ((first | apply RW.q1 | (apply DW.q1; exact rfl)); (first | (apply q_ldo; exact rfl; exact rfl; infer_instance; exact th_n hxx (by omega)) | (apply q_bld; exact rfl; first | exact bld53_) | exact qt)) | refine xsg cts ?_ | (apply CW_condT; exact rfl; exact ar) | (apply CW_condF; exact rfl; exact ar) | (refine hK _ _ ?_; clear hK; refine xsg xsl ?_) | (refine xsg ahd ?_; (first | (apply gw_callE (f := 66); exact rfl; exact go66; intro G hG; exact hsp G (sl_own (by exact pkx) hG) (Nat.le_refl _) (by omega); rw [hd3]) | (apply gw_call (f := 64); exact rfl; exact go64; intro G hG; refine SC.mono (wrong_spec 6 x.n G) ?_; rintro v M ⟨wa, wc, rfl, rfl⟩; (try dsimp only [jL, jM])) | (apply gw_asg; exact rfl) | (apply gw_alloc; exact rfl; intro b) | (apply gw_lit1; exact rfl; exact rfl; exact rfl; exact rfl; decide; intro b) | (apply gw_lit2; exact rfl; exact rfl; exact rfl; exact rfl; intro b) | (apply gw_lit3; exact rfl; exact rfl; exact rfl; exact rfl; exact rfl; intro b) | (apply gw_ap1; exact rfl; exact rfl; infer_instance; infer_instance; exact rfl; exact rfl; exact rfl; exact rfl; omega; intro a c) | (apply gw_ap1n; exact rfl; exact rfl; infer_instance; exact rfl; exact rfl; exact rfl; exact rfl; omega; intro a c) | (refine gw_stx sto ?_) | (fail))) | (apply CW_region; intro K hK) | (apply CW_condX; exact rfl; exact tst; exact tst; all_goals (intro hq hc; try exact no)) | (refine CW_draw (id := 12) [] dwRfD0 mixed (by kernel_rfl) (fun K hK => ?_)))
          (refine CW_ret ?_; refine xsg xsl ?_; refine bodyS_ret (L' := [.own 9 1 wa 1 wc (txs [x.n])]) (rs := [.cell 2 53]) (by kernel_rfl) (by (repeat (first | (apply resok_tmp; exact rfl) | (apply resok_cell; exact rfl; exact rfl; (focus ((iterate 16 (try (first | exact pick0 | apply pickS))); done)); (first | exact rfl | assumption | (simp only [List.length_map]; omega)); decide))); exact resok_nil) (by exact sbl) ?_)
          exact ⟨wa, wc, rfl, rfl⟩
        rw [dupO_go hxn, List.append_assoc, ← mtake_snoc hxx] at hD
        have hd3 : decide (x.n ∈ ((allT (p.fl.take j)).map Th.n ++ ((things f).take i).map Th.n).take nn) = false := decide_eq_false (mt (htw _).1 hxn)
        have hcs4 : txs ((allT (p.fl.take j)).map Th.n ++ ((things f).take i).map Th.n) ++ [.string (bstr x.n)] = txs ((allT (p.fl.take j)).map Th.n ++ ((things f).take (i + 1)).map Th.n) := by rw [txs_snoc, List.append_assoc, ← mtake_snoc hxx]
        have hsp := rHas_spec ((allT (p.fl.take j)).map Th.n ++ ((things f).take i).map Th.n) nn nc na x.n
        rw [hnl2] at hsp
        
        repeat' (first | ((first | apply RW.q1 | (apply DW.q1; exact rfl)); (first | (apply q_ldo; exact rfl; exact rfl; infer_instance; exact th_n hxx (by omega)) | (apply q_bld; exact rfl; first | exact bld53_) | exact qt)) | refine xsg cts ?_ | (apply CW_condT; exact rfl; exact ar) | (apply CW_condF; exact rfl; exact ar) | (refine hK _ _ ?_; clear hK; refine xsg xsl ?_) | (refine xsg ahd ?_; (first | (apply gw_callE (f := 66); exact rfl; exact go66; intro G hG; exact hsp G (sl_own (by exact pkx) hG) (Nat.le_refl _) (by omega); rw [hd3]) | (apply gw_asg; exact rfl) | (apply gw_alloc; exact rfl; intro b) | (apply gw_lit1; exact rfl; exact rfl; exact rfl; exact rfl; decide; intro b) | (apply gw_lit2; exact rfl; exact rfl; exact rfl; exact rfl; intro b) | (apply gw_lit3; exact rfl; exact rfl; exact rfl; exact rfl; exact rfl; intro b) | (apply gw_ap1; exact rfl; exact rfl; infer_instance; infer_instance; exact rfl; exact rfl; exact rfl; exact rfl; omega; intro a c) | (apply gw_ap1n; exact rfl; exact rfl; infer_instance; exact rfl; exact rfl; exact rfl; exact rfl; omega; intro a c) | (refine gw_stx sto ?_) | (fail))) | (apply CW_region; intro K hK) | (apply CW_condX; exact rfl; exact tst; exact tst; all_goals (intro hq hc; try exact no)) | (refine CW_draw (id := 12) [] dwRfD0 mixed (by kernel_rfl) (fun K hK => ?_)))
        exact ⟨_, _, _, ⟨i + 1, fn, fc, nn + 1, _, fa, _, fcs, _, rfl, rfl, rfl, by omega, hfn, hfcs, by omega, hcs4, hD⟩, by exact sbe, by exact sbl, by omega⟩
      obtain rfl : i = (things f).length := by omega
      rw [List.drop_length, List.take_length] at hD
      have hD1 : orO (dupF ((p.fl.take (j + 1)).map Fl.n) ((allT (p.fl.take (j + 1))).map Th.n) (p.fl.drop (j + 1))) (dupP ((l.take (k + 1)).map Pk.p) (l.drop (k + 1))) = dupP [] l := by
        rw [allT_snoc hfx, List.map_append]; exact hD
      have hnn2 : ncs = txs ((allT (p.fl.take (j + 1))).map Th.n) := by rw [hncs, List.take_length, allT_snoc hfx, List.map_append]
      
      repeat' (first | ((first | apply RW.q1 | (apply DW.q1; exact rfl)); (first | (apply q_bld; exact rfl; first | exact bld53_) | exact qt)) | refine xsg cts ?_ | (apply CW_condT; exact rfl; exact ar) | (apply CW_condF; exact rfl; exact ar) | (refine hK _ _ ?_; clear hK; refine xsg xsl ?_) | (refine xsg ahd ?_; (first | (apply gw_asg; exact rfl) | (apply gw_alloc; exact rfl; intro b) | (apply gw_lit1; exact rfl; exact rfl; exact rfl; exact rfl; decide; intro b) | (apply gw_lit2; exact rfl; exact rfl; exact rfl; exact rfl; intro b) | (apply gw_lit3; exact rfl; exact rfl; exact rfl; exact rfl; exact rfl; intro b) | (apply gw_ap1; exact rfl; exact rfl; infer_instance; infer_instance; exact rfl; exact rfl; exact rfl; exact rfl; omega; intro a c) | (apply gw_ap1n; exact rfl; exact rfl; infer_instance; exact rfl; exact rfl; exact rfl; exact rfl; omega; intro a c) | (refine gw_stx sto ?_) | (fail))) | (apply CW_region; intro K hK) | (apply CW_condX; exact rfl; exact tst; exact tst; all_goals (intro hq hc; try exact no)) | (refine CW_draw (id := 12) [] dwRfD0 mixed (by kernel_rfl) (fun K hK => ?_)))
      exact ⟨_, _, _, ⟨j + 1, fn, fc, nn, nc, fa, na, fcs, ncs, rfl, rfl, rfl, by omega, hfn, hfcs, by rw [List.length_map]; omega, hnn2, hD1⟩, by exact sbe, by exact sbl, by omega⟩
    obtain rfl : j = p.fl.length := by omega
    rw [List.drop_length] at hC
    have hC2 : dupP ((l.take (k + 1)).map Pk.p) (l.drop (k + 1)) = dupP [] l := hC
    
    repeat' (first | ((first | apply RW.q1 | (apply DW.q1; exact rfl)); (first | (apply q_bld; exact rfl; first | exact bld53_) | exact qt)) | refine xsg cts ?_ | (apply CW_condT; exact rfl; exact ar) | (apply CW_condF; exact rfl; exact ar) | (refine hK _ _ ?_; clear hK; refine xsg xsl ?_) | (refine xsg ahd ?_; (first | (apply gw_asg; exact rfl) | (apply gw_alloc; exact rfl; intro b) | (apply gw_lit1; exact rfl; exact rfl; exact rfl; exact rfl; decide; intro b) | (apply gw_lit2; exact rfl; exact rfl; exact rfl; exact rfl; intro b) | (apply gw_lit3; exact rfl; exact rfl; exact rfl; exact rfl; exact rfl; intro b) | (apply gw_ap1; exact rfl; exact rfl; infer_instance; infer_instance; exact rfl; exact rfl; exact rfl; exact rfl; omega; intro a c) | (apply gw_ap1n; exact rfl; exact rfl; infer_instance; exact rfl; exact rfl; exact rfl; exact rfl; omega; intro a c) | (refine gw_stx sto ?_) | (fail))) | (apply CW_region; intro K hK) | (apply CW_condX; exact rfl; exact tst; exact tst; all_goals (intro hq hc; try exact no)) | (refine CW_draw (id := 12) [] dwRfD0 mixed (by kernel_rfl) (fun K hK => ?_)))
    exact ⟨_, _, _, ⟨k + 1, n1, pc1, pa1, cs1, rfl, rfl, rfl, by omega, hn1, hcs2, hC2⟩, by exact sbe, by exact sbl, by omega⟩
  obtain rfl : k = l.length := by omega
  rw [List.drop_length] at hA
  rw [← hA] at hO
  have hO' : O = none := hO
  subst hO'
  
  repeat' (first | ((first | apply RW.q1 | (apply DW.q1; exact rfl)); (first | (apply q_bld; exact rfl; first | exact bld53_) | exact qt)) | refine xsg cts ?_ | (apply CW_condT; exact rfl; exact ar) | (apply CW_condF; exact rfl; exact ar) | (refine hK _ _ ?_; clear hK; refine xsg xsl ?_) | (refine xsg ahd ?_; (first | (apply gw_asg; exact rfl) | (apply gw_alloc; exact rfl; intro b) | (apply gw_lit1; exact rfl; exact rfl; exact rfl; exact rfl; decide; intro b) | (apply gw_lit2; exact rfl; exact rfl; exact rfl; exact rfl; intro b) | (apply gw_lit3; exact rfl; exact rfl; exact rfl; exact rfl; exact rfl; intro b) | (apply gw_ap1; exact rfl; exact rfl; infer_instance; infer_instance; exact rfl; exact rfl; exact rfl; exact rfl; omega; intro a c) | (apply gw_ap1n; exact rfl; exact rfl; infer_instance; exact rfl; exact rfl; exact rfl; exact rfl; omega; intro a c) | (refine gw_stx sto ?_) | (fail))) | (apply CW_region; intro K hK) | (apply CW_condX; exact rfl; exact tst; exact tst; all_goals (intro hq hc; try exact no)) | (refine CW_draw (id := 12) [] dwRfD0 mixed (by kernel_rfl) (fun K hK => ?_)))
  (refine CW_ret ?_; refine xsg xsl ?_; refine bodyS_ret (L' := [.own 9 1 none 0 0 []]) (rs := [.cell 2 53]) (by kernel_rfl) (by (repeat (first | (apply resok_tmp; exact rfl) | (apply resok_cell; exact rfl; exact rfl; (focus ((iterate 16 (try (first | exact pick0 | apply pickS))); done)); (first | exact rfl | assumption | (simp only [List.length_map]; omega)); decide))); exact resok_nil) (by exact sbl) ?_)
  exact ⟨none, 0, rfl, rfl⟩
end Go.Proofs.Ytkhmimlgkjenfaa.HL
namespace Go.Proofs.Ytkhmimlgkjenfaa.HL
open Go
attribute [local irreducible] goFn thenS blockS bodyS CW RW DW GW QW NW SC Pick Picks SubL Rd NN ResOk SrcW subE hops hseg AW hgen HC qv bldv
set_option maxHeartbeats 8000000
set_option maxRecDepth 100000
set_option linter.unusedVariables false
set_option linter.unusedSimpArgs false

abbrev dwRfE0 : List (Nat × Bool) := [(0, false), (1, false), (2, false), (3, false), (4, false), (5, false), (6, false), (7, false), (8, false), (9, false), (10, false), (11, true), (12, false)]
theorem rKnown_spec (l : List Pk) (a0 : Option Addr) (c0 : Nat) (H : Hp) (hr : Rs H 3 a0 l.length c0 (l.flatMap pkC)) (hp : ∀ p, p ∈ l → pkOk H p) (hS : ∀ p, p ∈ l → Small p) (hl : l.length ≤ 1048576) (hT : ∀ p, p ∈ l → (allT p.fl).length ≤ 1048576) (O : Option (Int × Tx)) (hO : O = firstO joinO l) :
    SC Try.prog 42 [.slice a0 l.length c0, .bool false] H [] (fun v M => ∃ a c, v = rfV (rfE O) a (rfT O).length c ∧ M = [.own 9 1 a (rfT O).length c (txs (rfT O))]) := by
  (refine SC_intro Try.func42 rfl (by kernel_rfl) (by rw [Try.ntmps42]; exact Nat.le_of_ble_eq_true rfl) ?_; simp only [Try.ntmps42, argE, Nat.reduceAdd])
  
  repeat' (first | ((first | apply RW.q1 | (apply DW.q1; exact rfl) | ((first | apply RW.qg | (apply DW.qg; exact rfl)); exact gvx; refine hgx tst ?_; intro hg hg')); (first | (apply q_bld; exact rfl; first | exact bld53_) | exact qt | exact qu)) | refine xsg cts ?_ | (apply CW_condT; exact rfl; exact ar) | (apply CW_condF; exact rfl; exact ar) | ((first | apply RW.s1 | apply RW.s0 | (apply DW.sa; exact rfl)); exact gva) | (refine hK _ _ ?_; clear hK; refine xsg xsl ?_) | (refine xsg ahd ?_; (first | (apply gw_alloc (d := some 4); exact rfl; intro b4) | (apply gw_asg; exact rfl) | (apply gw_alloc; exact rfl; intro b) | (apply gw_lit1; exact rfl; exact rfl; exact rfl; exact rfl; decide; intro b) | (apply gw_lit2; exact rfl; exact rfl; exact rfl; exact rfl; intro b) | (apply gw_lit3; exact rfl; exact rfl; exact rfl; exact rfl; exact rfl; intro b) | (apply gw_ap1; exact rfl; exact rfl; infer_instance; infer_instance; exact rfl; exact rfl; exact rfl; exact rfl; omega; intro a c) | (apply gw_ap1n; exact rfl; exact rfl; infer_instance; exact rfl; exact rfl; exact rfl; exact rfl; omega; intro a c) | (refine gw_stx sto ?_) | (fail))) | (apply CW_region; intro K hK) | (apply CW_condX; exact rfl; exact tst; exact tst; all_goals (intro hq hc; try exact no)) | (refine CW_draw (id := 22) [] dwRfE0 mixed (by kernel_rfl) (fun K hK => ?_)))
  refine CW_loop (fun m ll L => ∃ (k n pc : Nat) (pa : Option Addr) (cs : List Value), m = l.length - k ∧ ll = [(0, true, .slice a0 l.length c0), (1, true, .bool false), (4, true, .pointer (some ⟨b4, 0, none⟩)), (5, true, .slice pa n pc), (6, true, .int .i64 (k : Nat))] ∧
      L = [.box b4 53 [.int .i64 0, .slice none 0 0], .own 9 1 pa n pc cs] ∧ k ≤ l.length ∧ n = k ∧ cs.length = k)
    ⟨_, _, _, ⟨0, 0, 0, none, [], rfl, rfl, rfl, by omega, rfl, rfl⟩, by exact sbe, by exact sbl⟩ ?_
  rintro m ll L ⟨k, n, pc, pa, cs, rfl, rfl, rfl, hk, hn, hcs⟩
  by_cases hlt : k < l.length
  · obtain ⟨p, hx⟩ : ∃ x, l[k]? = some x := ⟨_, List.getElem?_eq_getElem (by omega)⟩
    have hcs1 : (cs ++ [Value.string (bstr p.p)]).length = k + 1 := by rw [List.length_append, hcs]; rfl
    
    repeat' (first | ((first | apply RW.q1 | (apply DW.q1; exact rfl) | ((first | apply RW.qg | (apply DW.qg; exact rfl)); exact gvx; refine hgx tst ?_; intro hg hg')); (first | (apply q_ldr; exact rfl; exact evgx; exact hr; exact pk_p hx (by omega)) | (apply q_bld; exact rfl; first | exact bld53_) | exact qt | exact qu)) | refine xsg cts ?_ | (apply CW_condT; exact rfl; exact ar) | (apply CW_condF; exact rfl; exact ar) | ((first | apply RW.s1 | apply RW.s0 | (apply DW.sa; exact rfl)); exact gva) | (refine hK _ _ ?_; clear hK; refine xsg xsl ?_) | (refine xsg ahd ?_; (first | (apply gw_asg; exact rfl) | (apply gw_alloc; exact rfl; intro b) | (apply gw_lit1; exact rfl; exact rfl; exact rfl; exact rfl; decide; intro b) | (apply gw_lit2; exact rfl; exact rfl; exact rfl; exact rfl; intro b) | (apply gw_lit3; exact rfl; exact rfl; exact rfl; exact rfl; exact rfl; intro b) | (apply gw_ap1; exact rfl; exact rfl; infer_instance; infer_instance; exact rfl; exact rfl; exact rfl; exact rfl; omega; intro a c) | (apply gw_ap1n; exact rfl; exact rfl; infer_instance; exact rfl; exact rfl; exact rfl; exact rfl; omega; intro a c) | (refine gw_stx sto ?_) | (fail))) | (apply CW_region; intro K hK) | (apply CW_condX; exact rfl; exact tst; exact tst; all_goals (intro hq hc; try exact no)) | (refine CW_draw (id := 22) [] dwRfE0 mixed (by kernel_rfl) (fun K hK => ?_)))
    exact ⟨_, _, _, ⟨k + 1, n + 1, _, _, _, rfl, rfl, rfl, by omega, by omega, hcs1⟩, by exact sbe, by exact sbl, by omega⟩
  
  repeat' (first | ((first | apply RW.q1 | (apply DW.q1; exact rfl) | ((first | apply RW.qg | (apply DW.qg; exact rfl)); exact gvx; refine hgx tst ?_; intro hg hg')); (first | (apply q_bld; exact rfl; first | exact bld53_) | exact qt | exact qu)) | refine xsg cts ?_ | (apply CW_condT; exact rfl; exact ar) | (apply CW_condF; exact rfl; exact ar) | ((first | apply RW.s1 | apply RW.s0 | (apply DW.sa; exact rfl)); exact gva) | (refine hK _ _ ?_; clear hK; refine xsg xsl ?_) | (refine xsg ahd ?_; (first | (apply gw_asg; exact rfl) | (apply gw_alloc; exact rfl; intro b) | (apply gw_lit1; exact rfl; exact rfl; exact rfl; exact rfl; decide; intro b) | (apply gw_lit2; exact rfl; exact rfl; exact rfl; exact rfl; intro b) | (apply gw_lit3; exact rfl; exact rfl; exact rfl; exact rfl; exact rfl; intro b) | (apply gw_ap1; exact rfl; exact rfl; infer_instance; infer_instance; exact rfl; exact rfl; exact rfl; exact rfl; omega; intro a c) | (apply gw_ap1n; exact rfl; exact rfl; infer_instance; exact rfl; exact rfl; exact rfl; exact rfl; omega; intro a c) | (refine gw_stx sto ?_) | (fail))) | (apply CW_region; intro K hK) | (apply CW_condX; exact rfl; exact tst; exact tst; all_goals (intro hq hc; try exact no)) | (refine CW_draw (id := 22) [] dwRfE0 mixed (by kernel_rfl) (fun K hK => ?_)))
  clear hlt hk hn hcs
  refine CW_loop (fun m ll L => ∃ k : Nat, m = l.length - k ∧ ll = [(0, true, .slice a0 l.length c0), (1, true, .bool false), (4, true, .pointer (some ⟨b4, 0, none⟩)), (7, true, .int .i64 (k : Nat))] ∧
      L = [.box b4 53 [.int .i64 0, .slice none 0 0]] ∧ k ≤ l.length ∧ firstO joinO (l.drop k) = O)
    ⟨_, _, _, ⟨0, rfl, rfl, rfl, by omega, hO.symm⟩, by exact sbe, by exact sbl⟩ ?_
  rintro m ll L ⟨k, rfl, rfl, rfl, hk, hA⟩
  by_cases hlt : k < l.length
  · obtain ⟨p, hx⟩ : ∃ x, l[k]? = some x := ⟨_, List.getElem?_eq_getElem (by omega)⟩
    have hpm := List.mem_of_getElem? hx
    obtain ⟨hS1, hS2, hS3, ⟨hS5, hS6⟩, hS4⟩ := hS p hpm
    have hTp := hT p hpm
    rw [firstO_drop hx, join_flat] at hA
    
    repeat' (first | ((first | apply RW.q1 | (apply DW.q1; exact rfl) | ((first | apply RW.qg | (apply DW.qg; exact rfl)); exact gvx; refine hgx tst ?_; intro hg hg')); (first | (apply q_lar; exact rfl; exact evgx; exact hr; exact ix_elem hx (by omega); exact rfl; decide) | (apply q_bld; exact rfl; first | exact bld53_) | exact qt | exact qu)) | refine xsg cts ?_ | (apply CW_condT; exact rfl; exact ar) | (apply CW_condF; exact rfl; exact ar) | ((first | apply RW.s1 | apply RW.s0 | (apply DW.sa; exact rfl)); exact gva) | (refine hK _ _ ?_; clear hK; refine xsg xsl ?_) | (refine xsg ahd ?_; (first | (apply gw_alloc (d := some 8); exact rfl; intro b8) | (apply gw_asg; exact rfl) | (apply gw_alloc; exact rfl; intro b) | (apply gw_lit1; exact rfl; exact rfl; exact rfl; exact rfl; decide; intro b) | (apply gw_lit2; exact rfl; exact rfl; exact rfl; exact rfl; intro b) | (apply gw_lit3; exact rfl; exact rfl; exact rfl; exact rfl; exact rfl; intro b) | (apply gw_ap1; exact rfl; exact rfl; infer_instance; infer_instance; exact rfl; exact rfl; exact rfl; exact rfl; omega; intro a c) | (apply gw_ap1n; exact rfl; exact rfl; infer_instance; exact rfl; exact rfl; exact rfl; exact rfl; omega; intro a c) | (refine gw_stx sto ?_) | (fail))) | (apply CW_region; intro K hK) | (apply CW_condX; exact rfl; exact tst; exact tst; all_goals (intro hq hc; try exact no)) | (refine CW_draw (id := 22) [] dwRfE0 mixed (by kernel_rfl) (fun K hK => ?_)))
    refine CW_loop (fun m ll L => m = 0 ∧ ll = [(0, true, .slice a0 l.length c0), (1, true, .bool false), (4, true, .pointer (some ⟨b4, 0, none⟩)), (7, true, .int .i64 (k : Nat)), (8, true, .pointer (some ⟨b8, 0, none⟩)), (9, true, .int .i64 0)] ∧
      L = [.box b4 53 [.int .i64 0, .slice none 0 0], .box b8 25 (pkC p)]) ⟨_, _, _, ⟨rfl, rfl, rfl⟩, by exact sbe, by exact sbl⟩ ?_
    rintro m ll L ⟨rfl, rfl, rfl⟩
    
    repeat' (first | ((first | apply RW.q1 | (apply DW.q1; exact rfl) | ((first | apply RW.qg | (apply DW.qg; exact rfl)); exact gvx; refine hgx tst ?_; intro hg hg')); (first | (apply q_bld; exact rfl; first | exact bld53_) | exact qt | exact qu)) | refine xsg cts ?_ | (apply CW_condT; exact rfl; exact ar) | (apply CW_condF; exact rfl; exact ar) | ((first | apply RW.s1 | apply RW.s0 | (apply DW.sa; exact rfl)); exact gva) | (refine hK _ _ ?_; clear hK; refine xsg xsl ?_) | (refine xsg ahd ?_; (first | (apply gw_call (f := 21); exact evx; exact go21; intro G hG; refine SC.mono (rAll_spec p G (pkOk_ext (hp p hpm) hG.ext) hTp hS2) ?_; rintro v M ⟨ta, tc, rfl, rfl⟩; (try dsimp only [jL, jM])) | (apply gw_asg; exact rfl) | (apply gw_alloc; exact rfl; intro b) | (apply gw_lit1; exact rfl; exact rfl; exact rfl; exact rfl; decide; intro b) | (apply gw_lit2; exact rfl; exact rfl; exact rfl; exact rfl; intro b) | (apply gw_lit3; exact rfl; exact rfl; exact rfl; exact rfl; exact rfl; intro b) | (apply gw_ap1; exact rfl; exact rfl; infer_instance; infer_instance; exact rfl; exact rfl; exact rfl; exact rfl; omega; intro a c) | (apply gw_ap1n; exact rfl; exact rfl; infer_instance; exact rfl; exact rfl; exact rfl; exact rfl; omega; intro a c) | (refine gw_stx sto ?_) | (fail))) | (apply CW_region; intro K hK) | (apply CW_condX; exact rfl; exact tst; exact tst; all_goals (intro hq hc; try exact no)) | (refine CW_draw (id := 22) [] dwRfE0 mixed (by kernel_rfl) (fun K hK => ?_)))
    · exact absurd hq (by simp)
    have hA1 : orO (firstO (joinTh p.im ((allT p.fl).map Th.n)) ((allT p.fl).drop 0)) (firstO joinO (l.drop (k + 1))) = O := hA
    refine CW_loop (fun m ll L => ∃ i : Nat, m = (allT p.fl).length - i ∧ ll = [(0, true, .slice a0 l.length c0), (1, true, .bool false), (4, true, .pointer (some ⟨b4, 0, none⟩)), (7, true, .int .i64 (k : Nat)), (8, true, .pointer (some ⟨b8, 0, none⟩)), (10, true, .slice ta (allT p.fl).length tc), (11, true, .int .i64 (i : Nat))] ∧
        L = [.box b4 53 [.int .i64 0, .slice none 0 0], .box b8 25 (pkC p), .own 89 3 ta (allT p.fl).length tc ((allT p.fl).flatMap thC)] ∧ i ≤ (allT p.fl).length ∧ orO (firstO (joinTh p.im ((allT p.fl).map Th.n)) ((allT p.fl).drop i)) (firstO joinO (l.drop (k + 1))) = O)
      ⟨_, _, _, ⟨0, rfl, rfl, rfl, by omega, hA1⟩, by exact sbe, by exact sbl⟩ ?_
    rintro m ll L ⟨i, rfl, rfl, rfl, hi, hB⟩
    by_cases hil : i < (allT p.fl).length
    · obtain ⟨x, hxx⟩ : ∃ x, (allT p.fl)[i]? = some x := ⟨_, List.getElem?_eq_getElem (by omega)⟩
      have hxm := List.mem_of_getElem? hxx
      have hxs := hS4 x hxm
      have hxo : Rs H 1 x.a x.u.length x.c (txs x.u) := by
        obtain ⟨f, hf, hxf⟩ := List.mem_flatMap.1 hxm
        exact things_ok ((hp p hpm).2.2 f hf) x hxf
      rw [firstO_drop hxx] at hB
      have hB1 : orO (orO (firstO (useO p.im ((allT p.fl).map Th.n)) (x.u.drop 0)) (firstO (joinTh p.im ((allT p.fl).map Th.n)) ((allT p.fl).drop (i + 1)))) (firstO joinO (l.drop (k + 1))) = O := hB
      
      repeat' (first | ((first | apply RW.q1 | (apply DW.q1; exact rfl) | ((first | apply RW.qg | (apply DW.qg; exact rfl)); exact gvx; refine hgx tst ?_; intro hg hg')); (first | (apply q_bld; exact rfl; first | exact bld53_) | exact qt | exact qu)) | refine xsg cts ?_ | (apply CW_condT; exact rfl; exact ar) | (apply CW_condF; exact rfl; exact ar) | ((first | apply RW.s1 | apply RW.s0 | (apply DW.sa; exact rfl)); exact gva) | (refine hK _ _ ?_; clear hK; refine xsg xsl ?_) | (refine xsg ahd ?_; (first | (apply gw_asg; exact rfl) | (apply gw_alloc; exact rfl; intro b) | (apply gw_lit1; exact rfl; exact rfl; exact rfl; exact rfl; decide; intro b) | (apply gw_lit2; exact rfl; exact rfl; exact rfl; exact rfl; intro b) | (apply gw_lit3; exact rfl; exact rfl; exact rfl; exact rfl; exact rfl; intro b) | (apply gw_ap1; exact rfl; exact rfl; infer_instance; infer_instance; exact rfl; exact rfl; exact rfl; exact rfl; omega; intro a c) | (apply gw_ap1n; exact rfl; exact rfl; infer_instance; exact rfl; exact rfl; exact rfl; exact rfl; omega; intro a c) | (refine gw_stx sto ?_) | (fail))) | (apply CW_region; intro K hK) | (apply CW_condX; exact rfl; exact tst; exact tst; all_goals (intro hq hc; try exact no)) | (refine CW_draw (id := 22) [] dwRfE0 mixed (by kernel_rfl) (fun K hK => ?_)))
      refine CW_loop (fun m ll L => ∃ q : Nat, m = x.u.length - q ∧ ll = [(0, true, .slice a0 l.length c0), (1, true, .bool false), (4, true, .pointer (some ⟨b4, 0, none⟩)), (7, true, .int .i64 (k : Nat)), (8, true, .pointer (some ⟨b8, 0, none⟩)), (10, true, .slice ta (allT p.fl).length tc), (11, true, .int .i64 (i : Nat)), (12, true, .int .i64 (q : Nat))] ∧
          L = [.box b4 53 [.int .i64 0, .slice none 0 0], .box b8 25 (pkC p), .own 89 3 ta (allT p.fl).length tc ((allT p.fl).flatMap thC)] ∧ q ≤ x.u.length ∧ orO (orO (firstO (useO p.im ((allT p.fl).map Th.n)) (x.u.drop q)) (firstO (joinTh p.im ((allT p.fl).map Th.n)) ((allT p.fl).drop (i + 1)))) (firstO joinO (l.drop (k + 1))) = O)
        ⟨_, _, _, ⟨0, rfl, rfl, rfl, by omega, hB1⟩, by exact sbe, by exact sbl⟩ ?_
      rintro m ll L ⟨q, rfl, rfl, rfl, hq1, hC⟩
      by_cases hql : q < x.u.length
      · obtain ⟨s, hs⟩ : ∃ s, x.u[q]? = some s := ⟨_, List.getElem?_eq_getElem hql⟩
        have hsl := hxs.2.2 s (List.mem_of_getElem? hs)
        rw [firstO_drop hs] at hC
        cases hU : useO p.im ((allT p.fl).map Th.n) s with
        | none =>
          rw [hU, orO_nil] at hC
          have hE := useO_none.1 hU
          
          repeat' (first | ((first | apply RW.q1 | (apply DW.q1; exact rfl) | ((first | apply RW.qg | (apply DW.qg; exact rfl)); exact gvx; refine hgx tst ?_; intro hg hg')); (first | (apply q_ldo; exact rfl; exact evgx; infer_instance; exact th_u hxx (by omega)) | (apply q_ldr; exact rfl; exact evgx; exact hxo; exact txs_at hs (by omega)) | (apply q_bld; exact rfl; first | exact bld53_) | exact qt | exact qu)) | refine xsg cts ?_ | (apply CW_condT; exact rfl; exact ar) | (apply CW_condF; exact rfl; exact ar) | ((first | apply RW.s1 | apply RW.s0 | (apply DW.sa; exact rfl)); exact gva) | (refine hK _ _ ?_; clear hK; refine xsg xsl ?_) | (refine xsg ahd ?_; (first | (apply gw_callE (f := 67); exact evx; exact go67; intro G hG; exact rUsed_spec _ p s G (pkOk_ext (hp p hpm) hG.ext) hTp hS2 hsl hS1; rw [hE]) | (apply gw_asg; exact rfl) | (apply gw_alloc; exact rfl; intro b) | (apply gw_lit1; exact rfl; exact rfl; exact rfl; exact rfl; decide; intro b) | (apply gw_lit2; exact rfl; exact rfl; exact rfl; exact rfl; intro b) | (apply gw_lit3; exact rfl; exact rfl; exact rfl; exact rfl; exact rfl; intro b) | (apply gw_ap1; exact rfl; exact rfl; infer_instance; infer_instance; exact rfl; exact rfl; exact rfl; exact rfl; omega; intro a c) | (apply gw_ap1n; exact rfl; exact rfl; infer_instance; exact rfl; exact rfl; exact rfl; exact rfl; omega; intro a c) | (refine gw_stx sto ?_) | (fail))) | (apply CW_region; intro K hK) | (apply CW_condX; exact rfl; exact tst; exact tst; all_goals (intro hq hc; try exact no)) | (refine CW_draw (id := 22) [] dwRfE0 mixed (by kernel_rfl) (fun K hK => ?_)))
          exact ⟨_, _, _, ⟨q + 1, rfl, rfl, rfl, by omega, hC⟩, by exact sbe, by exact sbl, by omega⟩
        | some r =>
          have hC' : some r = O := by rw [← hC, hU]; rfl
          have hr2 : r = (useE p.im ((allT p.fl).map Th.n) s, s) ∧ useE p.im ((allT p.fl).map Th.n) s ≠ 0 := by
            unfold useO at hU
            split at hU
            · cases hU
            · cases hU; exact ⟨rfl, ‹_›⟩
          obtain ⟨rfl, hE⟩ := hr2
          obtain ⟨e, he⟩ : ∃ e, e = useE p.im ((allT p.fl).map Th.n) s := ⟨_, rfl⟩
          rw [← he] at hE hC'
          rw [← hC']
          
          repeat' (first | ((first | apply RW.q1 | (apply DW.q1; exact rfl) | ((first | apply RW.qg | (apply DW.qg; exact rfl)); exact gvx; refine hgx tst ?_; intro hg hg')); (first | (apply q_ldo; exact rfl; exact evgx; infer_instance; exact th_u hxx (by omega)) | (apply q_ldr; exact rfl; exact evgx; exact hxo; exact txs_at hs (by omega)) | (apply q_bld; exact rfl; first | exact bld53_) | exact qt | exact qu)) | refine xsg cts ?_ | (apply CW_condT; exact rfl; exact ar) | (apply CW_condF; exact rfl; exact ar) | ((first | apply RW.s1 | apply RW.s0 | (apply DW.sa; exact rfl)); exact gva) | (refine hK _ _ ?_; clear hK; refine xsg xsl ?_) | (refine xsg ahd ?_; (first | (apply gw_callE (f := 67); exact evx; exact go67; intro G hG; exact rUsed_spec _ p s G (pkOk_ext (hp p hpm) hG.ext) hTp hS2 hsl hS1; rw [← he]) | (apply gw_call (f := 64); exact evx; exact go64; intro G hG; refine SC.mono (wrong_spec e s G) ?_; rintro v M ⟨wa, wc, rfl, rfl⟩; (try dsimp only [jL, jM])) | (apply gw_asg; exact rfl) | (apply gw_alloc; exact rfl; intro b) | (apply gw_lit1; exact rfl; exact rfl; exact rfl; exact rfl; decide; intro b) | (apply gw_lit2; exact rfl; exact rfl; exact rfl; exact rfl; intro b) | (apply gw_lit3; exact rfl; exact rfl; exact rfl; exact rfl; exact rfl; intro b) | (apply gw_ap1; exact rfl; exact rfl; infer_instance; infer_instance; exact rfl; exact rfl; exact rfl; exact rfl; omega; intro a c) | (apply gw_ap1n; exact rfl; exact rfl; infer_instance; exact rfl; exact rfl; exact rfl; exact rfl; omega; intro a c) | (refine gw_stx sto ?_) | (fail))) | (apply CW_region; intro K hK) | (apply CW_condX; exact rfl; exact tst; exact tst; all_goals (intro hq hc; try exact no)) | (refine CW_draw (id := 22) [] dwRfE0 mixed (by kernel_rfl) (fun K hK => ?_)))
          (refine CW_ret ?_; refine xsg xsl ?_; refine bodyS_ret (L' := [.own 9 1 wa 1 wc (txs [s])]) (rs := [.cell 4 53]) (by kernel_rfl) (by (repeat (first | (apply resok_tmp; exact rfl) | (apply resok_cell; exact rfl; exact rfl; (focus ((iterate 16 (try (first | exact pick0 | apply pickS))); done)); (first | exact rfl | assumption | (simp only [List.length_map]; omega)); decide))); exact resok_nil) (by exact sbl) ?_)
          exact ⟨wa, wc, rfl, rfl⟩
      obtain rfl : q = x.u.length := by omega
      rw [firstO_end, orO_nil] at hC
      
      repeat' (first | ((first | apply RW.q1 | (apply DW.q1; exact rfl) | ((first | apply RW.qg | (apply DW.qg; exact rfl)); exact gvx; refine hgx tst ?_; intro hg hg')); (first | (apply q_ldo; exact rfl; exact evgx; infer_instance; exact th_u hxx (by omega)) | (apply q_bld; exact rfl; first | exact bld53_) | exact qt | exact qu)) | refine xsg cts ?_ | (apply CW_condT; exact rfl; exact ar) | (apply CW_condF; exact rfl; exact ar) | ((first | apply RW.s1 | apply RW.s0 | (apply DW.sa; exact rfl)); exact gva) | (refine hK _ _ ?_; clear hK; refine xsg xsl ?_) | (refine xsg ahd ?_; (first | (apply gw_asg; exact rfl) | (apply gw_alloc; exact rfl; intro b) | (apply gw_lit1; exact rfl; exact rfl; exact rfl; exact rfl; decide; intro b) | (apply gw_lit2; exact rfl; exact rfl; exact rfl; exact rfl; intro b) | (apply gw_lit3; exact rfl; exact rfl; exact rfl; exact rfl; exact rfl; intro b) | (apply gw_ap1; exact rfl; exact rfl; infer_instance; infer_instance; exact rfl; exact rfl; exact rfl; exact rfl; omega; intro a c) | (apply gw_ap1n; exact rfl; exact rfl; infer_instance; exact rfl; exact rfl; exact rfl; exact rfl; omega; intro a c) | (refine gw_stx sto ?_) | (fail))) | (apply CW_region; intro K hK) | (apply CW_condX; exact rfl; exact tst; exact tst; all_goals (intro hq hc; try exact no)) | (refine CW_draw (id := 22) [] dwRfE0 mixed (by kernel_rfl) (fun K hK => ?_)))
      exact ⟨_, _, _, ⟨i + 1, rfl, rfl, rfl, by omega, hC⟩, by exact sbe, by exact sbl, by omega⟩
    obtain rfl : i = (allT p.fl).length := by omega
    rw [firstO_end, orO_nil] at hB
    
    repeat' (first | ((first | apply RW.q1 | (apply DW.q1; exact rfl) | ((first | apply RW.qg | (apply DW.qg; exact rfl)); exact gvx; refine hgx tst ?_; intro hg hg')); (first | (apply q_bld; exact rfl; first | exact bld53_) | exact qt | exact qu)) | refine xsg cts ?_ | (apply CW_condT; exact rfl; exact ar) | (apply CW_condF; exact rfl; exact ar) | ((first | apply RW.s1 | apply RW.s0 | (apply DW.sa; exact rfl)); exact gva) | (refine hK _ _ ?_; clear hK; refine xsg xsl ?_) | (refine xsg ahd ?_; (first | (apply gw_asg; exact rfl) | (apply gw_alloc; exact rfl; intro b) | (apply gw_lit1; exact rfl; exact rfl; exact rfl; exact rfl; decide; intro b) | (apply gw_lit2; exact rfl; exact rfl; exact rfl; exact rfl; intro b) | (apply gw_lit3; exact rfl; exact rfl; exact rfl; exact rfl; exact rfl; intro b) | (apply gw_ap1; exact rfl; exact rfl; infer_instance; infer_instance; exact rfl; exact rfl; exact rfl; exact rfl; omega; intro a c) | (apply gw_ap1n; exact rfl; exact rfl; infer_instance; exact rfl; exact rfl; exact rfl; exact rfl; omega; intro a c) | (refine gw_stx sto ?_) | (fail))) | (apply CW_region; intro K hK) | (apply CW_condX; exact rfl; exact tst; exact tst; all_goals (intro hq hc; try exact no)) | (refine CW_draw (id := 22) [] dwRfE0 mixed (by kernel_rfl) (fun K hK => ?_)))
    exact ⟨_, _, _, ⟨k + 1, rfl, rfl, rfl, by omega, hB⟩, by exact sbe, by exact sbl, by omega⟩
  obtain rfl : k = l.length := by omega
  rw [firstO_end] at hA
  rw [← hA]
  
  repeat' (first | ((first | apply RW.q1 | (apply DW.q1; exact rfl) | ((first | apply RW.qg | (apply DW.qg; exact rfl)); exact gvx; refine hgx tst ?_; intro hg hg')); (first | (apply q_bld; exact rfl; first | exact bld53_) | exact qt | exact qu)) | refine xsg cts ?_ | (apply CW_condT; exact rfl; exact ar) | (apply CW_condF; exact rfl; exact ar) | ((first | apply RW.s1 | apply RW.s0 | (apply DW.sa; exact rfl)); exact gva) | (refine hK _ _ ?_; clear hK; refine xsg xsl ?_) | (refine xsg ahd ?_; (first | (apply gw_asg; exact rfl) | (apply gw_alloc; exact rfl; intro b) | (apply gw_lit1; exact rfl; exact rfl; exact rfl; exact rfl; decide; intro b) | (apply gw_lit2; exact rfl; exact rfl; exact rfl; exact rfl; intro b) | (apply gw_lit3; exact rfl; exact rfl; exact rfl; exact rfl; exact rfl; intro b) | (apply gw_ap1; exact rfl; exact rfl; infer_instance; infer_instance; exact rfl; exact rfl; exact rfl; exact rfl; omega; intro a c) | (apply gw_ap1n; exact rfl; exact rfl; infer_instance; exact rfl; exact rfl; exact rfl; exact rfl; omega; intro a c) | (refine gw_stx sto ?_) | (fail))) | (apply CW_region; intro K hK) | (apply CW_condX; exact rfl; exact tst; exact tst; all_goals (intro hq hc; try exact no)) | (refine CW_draw (id := 22) [] dwRfE0 mixed (by kernel_rfl) (fun K hK => ?_)))
  (refine CW_ret ?_; refine xsg xsl ?_; refine bodyS_ret (L' := [.own 9 1 none 0 0 []]) (rs := [.cell 4 53]) (by kernel_rfl) (by (repeat (first | (apply resok_tmp; exact rfl) | (apply resok_cell; exact rfl; exact rfl; (focus ((iterate 16 (try (first | exact pick0 | apply pickS))); done)); (first | exact rfl | assumption | (simp only [List.length_map]; omega)); decide))); exact resok_nil) (by exact sbl) ?_)
  exact ⟨none, 0, rfl, rfl⟩
end Go.Proofs.Ytkhmimlgkjenfaa.HL
namespace Go.Proofs.Ytkhmimlgkjenfaa.HL
open Go
attribute [local irreducible] goFn thenS blockS bodyS CW RW DW GW QW NW SC Pick Picks SubL Rd NN ResOk SrcW subE hops hseg AW hgen HC qv bldv
set_option maxHeartbeats 8000000
set_option maxRecDepth 100000
set_option linter.unusedVariables false
set_option linter.unusedSimpArgs false

def ftE : Option (Int × List Tx) → Int
  | none => 0
  | some q => q.1
def ftT : Option (Int × List Tx) → List Tx
  | none => []
  | some q => q.2
theorem all_len2 {p : Pk} (hS : Small p) (h : ¬ (badI [p] ∨ 1024 < allN [p])) : (allT p.fl).length ≤ 1048576 := by have := all_len_le h; omega
theorem rRight_spec (p : Pk) (a0 : Option Addr) (c0 : Nat) (H : Hp) (hr : Rs H 3 a0 [p].length c0 ([p].flatMap pkC)) (hp : pkOk H p) (hS : Small p) :
    SC Try.prog 18 [.slice a0 [p].length c0, .bool false] H [] (fun v M => ∃ a c, v = rfV (ftE (fltO p)) a (ftT (fltO p)).length c ∧ M = [.own 9 1 a (ftT (fltO p)).length c (txs (ftT (fltO p)))]) := by
  have hp1 : ∀ q, q ∈ [p] → pkOk H q := fun q hq => by rw [List.mem_singleton.1 hq]; exact hp
  have hS1 : ∀ q, q ∈ [p] → Small q := fun q hq => by rw [List.mem_singleton.1 hq]; exact hS
  have hB := allB_small hS
  have hl1 : [p].length ≤ 1048576 := by show 1 ≤ 1048576; omega
  cases hs : sizeO p with
  | some q =>
    obtain ⟨hy, rfl⟩ := sizeO_some hs
    have hF : fltO p = some (4, []) := by unfold fltO; rw [hs]; rfl
    rw [hF]
    (refine SC_intro Try.func18 rfl (by kernel_rfl) (by rw [Try.ntmps18]; exact Nat.le_of_ble_eq_true rfl) ?_; simp only [Try.ntmps18, argE, Nat.reduceAdd])
    
    repeat' (first | ((first | apply RW.q1 | (apply RW.qg; exact gvx; refine hgx tst ?_; intro hg hg')); (first | (apply q_bld; exact rfl; first | exact bld53_0 _ | exact bld53_0_1 _ _ _ _) | exact qt | exact qu)) | refine xsg cts ?_ | (apply CW_condT; exact rfl; exact ar) | (apply CW_condF; exact rfl; exact ar) | ((first | apply RW.s1 | apply RW.s0); exact gva) | (refine hK _ _ ?_; clear hK; refine xsg xsl ?_) | ((first | apply RW.a1 | apply RW.a0 | (apply RW.at; exact gva)); (first | (apply gw_alloc (d := some 4); exact rfl; intro b4) | (apply gw_alloc (d := some 5); exact rfl; intro b5) | (apply gw_callE (f := 39); exact evx; exact go39; intro G hG; exact rLarge_spec [p] a0 c0 G (hr.ext hG.ext) (fun q hq => pkOk_ext (hp1 q hq) hG.ext) hS1 hl1 hB true ⟨fun _ => hy, fun _ => rfl⟩) | (apply gw_asg; exact rfl) | (apply gw_alloc; exact rfl; intro b) | (refine gw_stx sto ?_) | (fail))) | (apply CW_region; intro K hK) | (apply CW_condX; exact rfl; exact tst; exact tst; all_goals (intro hq hc; try exact no)))
    (refine CW_ret ?_; refine xsg xsl ?_; refine bodyS_ret (L' := [.own 9 1 none 0 0 []]) (rs := [.cell 4 53]) (by kernel_rfl) (by (repeat (first | (apply resok_tmp; exact rfl) | (apply resok_cell; exact rfl; exact rfl; (focus ((iterate 16 (try (first | exact pick0 | apply pickS))); done)); (first | exact rfl | assumption | (simp only [List.length_map]; omega)); decide))); exact resok_nil) (by exact sbl) ?_)
    exact ⟨none, 0, rfl, rfl⟩
  | none =>
    have hno := sizeO_none hs
    have hT1 : ∀ q, q ∈ [p] → (allT q.fl).length ≤ 1048576 := fun q hq => by rw [List.mem_singleton.1 hq]; exact all_len2 hS hno
    cases hf : formO [p] with
    | some s =>
      have hF : fltO p = some (3, [s]) := by unfold fltO; rw [hs, hf]; rfl
      rw [hF]
      (refine SC_intro Try.func18 rfl (by kernel_rfl) (by rw [Try.ntmps18]; exact Nat.le_of_ble_eq_true rfl) ?_; simp only [Try.ntmps18, argE, Nat.reduceAdd])
      
      repeat' (first | ((first | apply RW.q1 | (apply RW.qg; exact gvx; refine hgx tst ?_; intro hg hg')); (first | (apply q_bld; exact rfl; first | exact bld53_0 _ | exact bld53_0_1 _ _ _ _) | exact qt | exact qu)) | refine xsg cts ?_ | (apply CW_condT; exact rfl; exact ar) | (apply CW_condF; exact rfl; exact ar) | ((first | apply RW.s1 | apply RW.s0); exact gva) | (refine hK _ _ ?_; clear hK; refine xsg xsl ?_) | ((first | apply RW.a1 | apply RW.a0 | (apply RW.at; exact gva)); (first | (apply gw_alloc (d := some 4); exact rfl; intro b4) | (apply gw_alloc (d := some 5); exact rfl; intro b5) | (apply gw_callE (f := 39); exact evx; exact go39; intro G hG; exact rLarge_spec [p] a0 c0 G (hr.ext hG.ext) (fun q hq => pkOk_ext (hp1 q hq) hG.ext) hS1 hl1 hB false ⟨fun h => (by cases h), fun h => absurd h hno⟩) | (apply gw_call (f := 40); exact evx; exact go40; intro G hG; refine SC.mono (rFormed_spec [p] a0 c0 G (hr.ext hG.ext) (fun q hq => pkOk_ext (hp1 q hq) hG.ext) hS1 hl1 (some (3, s)) (by rw [hf]; rfl)) ?_; rintro v M ⟨fa, fc, rfl, rfl⟩; (try dsimp only [jL, jM]); dsimp only [rfE, rfT]) | (apply gw_asg; exact rfl) | (apply gw_alloc; exact rfl; intro b) | (refine gw_stx sto ?_) | (fail))) | (apply CW_region; intro K hK) | (apply CW_condX; exact rfl; exact tst; exact tst; all_goals (intro hq hc; try exact no)))
      (refine CW_ret ?_; refine xsg xsl ?_; refine bodyS_ret (L' := [.own 9 1 fa 1 fc (txs [s])]) (rs := [.cell 4 53]) (by kernel_rfl) (by (repeat (first | (apply resok_tmp; exact rfl) | (apply resok_cell; exact rfl; exact rfl; (focus ((iterate 16 (try (first | exact pick0 | apply pickS))); done)); (first | exact rfl | assumption | (simp only [List.length_map]; omega)); decide))); exact resok_nil) (by exact sbl) ?_)
      exact ⟨fa, fc, rfl, rfl⟩
    | none =>
      cases hd : dupP [] [p] with
      | some s =>
        have hF : fltO p = some (6, [s]) := by unfold fltO; rw [hs, hf, hd]; rfl
        rw [hF]
        (refine SC_intro Try.func18 rfl (by kernel_rfl) (by rw [Try.ntmps18]; exact Nat.le_of_ble_eq_true rfl) ?_; simp only [Try.ntmps18, argE, Nat.reduceAdd])
        
        repeat' (first | ((first | apply RW.q1 | (apply RW.qg; exact gvx; refine hgx tst ?_; intro hg hg')); (first | (apply q_bld; exact rfl; first | exact bld53_0 _ | exact bld53_0_1 _ _ _ _) | exact qt | exact qu)) | refine xsg cts ?_ | (apply CW_condT; exact rfl; exact ar) | (apply CW_condF; exact rfl; exact ar) | ((first | apply RW.s1 | apply RW.s0); exact gva) | (refine hK _ _ ?_; clear hK; refine xsg xsl ?_) | ((first | apply RW.a1 | apply RW.a0 | (apply RW.at; exact gva)); (first | (apply gw_alloc (d := some 4); exact rfl; intro b4) | (apply gw_alloc (d := some 5); exact rfl; intro b5) | (apply gw_callE (f := 39); exact evx; exact go39; intro G hG; exact rLarge_spec [p] a0 c0 G (hr.ext hG.ext) (fun q hq => pkOk_ext (hp1 q hq) hG.ext) hS1 hl1 hB false ⟨fun h => (by cases h), fun h => absurd h hno⟩) | (apply gw_call (f := 40); exact evx; exact go40; intro G hG; refine SC.mono (rFormed_spec [p] a0 c0 G (hr.ext hG.ext) (fun q hq => pkOk_ext (hp1 q hq) hG.ext) hS1 hl1 none (by rw [hf]; rfl)) ?_; rintro v M ⟨fa, fc, rfl, rfl⟩; (try dsimp only [jL, jM]); dsimp only [rfE, rfT]) | (apply gw_call (f := 41); exact evx; exact go41; intro G hG; refine SC.mono (rOnce_spec [p] a0 c0 G (hr.ext hG.ext) (fun q hq => pkOk_ext (hp1 q hq) hG.ext) hS1 hl1 hT1 (some (6, s)) (by rw [hd]; rfl)) ?_; rintro v M ⟨oa, oc, rfl, rfl⟩; (try dsimp only [jL, jM]); dsimp only [rfE, rfT]) | (apply gw_asg; exact rfl) | (apply gw_alloc; exact rfl; intro b) | (refine gw_stx sto ?_) | (fail))) | (apply CW_region; intro K hK) | (apply CW_condX; exact rfl; exact tst; exact tst; all_goals (intro hq hc; try exact no)))
        (refine CW_ret ?_; refine xsg xsl ?_; refine bodyS_ret (L' := [.own 9 1 oa 1 oc (txs [s])]) (rs := [.cell 4 53]) (by kernel_rfl) (by (repeat (first | (apply resok_tmp; exact rfl) | (apply resok_cell; exact rfl; exact rfl; (focus ((iterate 16 (try (first | exact pick0 | apply pickS))); done)); (first | exact rfl | assumption | (simp only [List.length_map]; omega)); decide))); exact resok_nil) (by exact sbl) ?_)
        exact ⟨oa, oc, rfl, rfl⟩
      | none =>
        have hjj : joinO p = firstO joinO [p] := by
          show _ = orO (joinO p) none
          cases joinO p <;> rfl
        have hF : fltO p = (joinO p).map fun q => (q.1, [q.2]) := by unfold fltO; rw [hs, hf, hd]; rfl
        have hE : ftE (fltO p) = rfE (joinO p) := by rw [hF]; cases joinO p <;> rfl
        have hT : ftT (fltO p) = rfT (joinO p) := by rw [hF]; cases joinO p <;> rfl
        rw [hE, hT]
        (refine SC_intro Try.func18 rfl (by kernel_rfl) (by rw [Try.ntmps18]; exact Nat.le_of_ble_eq_true rfl) ?_; simp only [Try.ntmps18, argE, Nat.reduceAdd])
        
        repeat' (first | ((first | apply RW.q1 | (apply RW.qg; exact gvx; refine hgx tst ?_; intro hg hg')); (first | (apply q_bld; exact rfl; first | exact bld53_0 _ | exact bld53_0_1 _ _ _ _) | exact qt | exact qu)) | refine xsg cts ?_ | (apply CW_condT; exact rfl; exact ar) | (apply CW_condF; exact rfl; exact ar) | ((first | apply RW.s1 | apply RW.s0); exact gva) | (refine hK _ _ ?_; clear hK; refine xsg xsl ?_) | ((first | apply RW.a1 | apply RW.a0 | (apply RW.at; exact gva)); (first | (apply gw_alloc (d := some 4); exact rfl; intro b4) | (apply gw_alloc (d := some 5); exact rfl; intro b5) | (apply gw_callE (f := 39); exact evx; exact go39; intro G hG; exact rLarge_spec [p] a0 c0 G (hr.ext hG.ext) (fun q hq => pkOk_ext (hp1 q hq) hG.ext) hS1 hl1 hB false ⟨fun h => (by cases h), fun h => absurd h hno⟩) | (apply gw_call (f := 40); exact evx; exact go40; intro G hG; refine SC.mono (rFormed_spec [p] a0 c0 G (hr.ext hG.ext) (fun q hq => pkOk_ext (hp1 q hq) hG.ext) hS1 hl1 none (by rw [hf]; rfl)) ?_; rintro v M ⟨fa, fc, rfl, rfl⟩; (try dsimp only [jL, jM]); dsimp only [rfE, rfT]) | (apply gw_call (f := 41); exact evx; exact go41; intro G hG; refine SC.mono (rOnce_spec [p] a0 c0 G (hr.ext hG.ext) (fun q hq => pkOk_ext (hp1 q hq) hG.ext) hS1 hl1 hT1 none (by rw [hd]; rfl)) ?_; rintro v M ⟨oa, oc, rfl, rfl⟩; (try dsimp only [jL, jM]); dsimp only [rfE, rfT]) | (apply gw_call (f := 42); exact evx; exact go42; intro G hG; refine SC.mono (rKnown_spec [p] a0 c0 G (hr.ext hG.ext) (fun q hq => pkOk_ext (hp1 q hq) hG.ext) hS1 hl1 hT1 (joinO p) hjj) ?_; rintro v M ⟨ka, kc, rfl, rfl⟩; (try dsimp only [jL, jM])) | (apply gw_asg; exact rfl) | (apply gw_alloc; exact rfl; intro b) | (refine gw_stx sto ?_) | (fail))) | (apply CW_region; intro K hK) | (apply CW_condX; exact rfl; exact tst; exact tst; all_goals (intro hq hc; try exact no)))
        · exact absurd hq (by simp)
        (refine CW_ret ?_; refine xsg xsl ?_; refine bodyS_ret (L' := [.own 9 1 ka (rfT (joinO p)).length kc (txs (rfT (joinO p)))]) (rs := [.cell 4 53]) (by kernel_rfl) (by (repeat (first | (apply resok_tmp; exact rfl) | (apply resok_cell; exact rfl; exact rfl; (focus ((iterate 16 (try (first | exact pick0 | apply pickS))); done)); (first | exact rfl | assumption | (simp only [List.length_map]; omega)); decide))); exact resok_nil) (by exact sbl) ?_)
        exact ⟨ka, kc, rfl, rfl⟩
end Go.Proofs.Ytkhmimlgkjenfaa.HL
