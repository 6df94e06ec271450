/- LentA: LwA: texts lent, and whether they were kept. Conditions: lengths. LwB: a program in new memory, with marks behind its lists. Conditions: lengths. LwC: whether a program lent was kept. Conditions: lengths. -/
import Derived.Test.YtkhmimlgkjenfaaEngX
import Derived.Test.YtkhmimlgkjenfaaWalkGX
import Derived.Test.YtkhmimlgkjenfaaRefPX
import Derived.Test.YtkhmimlgkjenfaaWalkUX
import Derived.Test.YtkhmimlgkjenfaaWalkCX
namespace Go.Proofs.Ytkhmimlgkjenfaa.HL
open Go
attribute [local irreducible] goFn thenS blockS bodyS CW RW DW GW QW NW SC Pick Picks SubL Rd NN ResOk SrcW subE hops hseg AW hgen HC qv bldv
set_option maxHeartbeats 8000000
set_option maxRecDepth 100000
set_option linter.unusedVariables false
set_option linter.unusedSimpArgs false

def markT : Tx := [52, 51, 50, 49]
def CT (H : Hp) (u : List Tx) (a : Option Addr) (c : Nat) : Prop := Rs H 1 a (u.length + 1) c (txs (u ++ [markT]))
theorem CT.ext {H G : Hp} {u : List Tx} {a : Option Addr} {c : Nat} (h : CT H u a c) (hx : Ext H G) : CT G u a c := by
  have h' : Rs H 1 a (u.length + 1) c (txs (u ++ [markT])) := h
  exact h'.ext hx
theorem txs_take (u v : List Tx) : (txs (u ++ v)).take (u.length * 1) = txs u := by
  unfold txs
  rw [Nat.mul_one, List.map_append, List.take_left' (List.length_map _)]
theorem CT.ok {H : Hp} {u : List Tx} {a : Option Addr} {c : Nat} (h : CT H u a c) : UOk H a c u := by
  have := rs_take (k := u.length) h (by omega)
  rwa [txs_take] at this
theorem lent_spec (u : List Tx) (a : Option Addr) (c : Nat) (H : Hp) (hx : UOk H a c u) (hN : u.length ≤ 1048576) :
    SC Try.prog 11 [.slice a u.length c] H [] (fun v M => ∃ b d, v = .slice b u.length d ∧ M = [.own 9 1 b (u.length + 1) d (txs (u ++ [markT]))]) := by
  have hx' : Rs H 1 a u.length c (txs u) := hx
  have e1 : txs u ++ [.string (bstr markT)] = txs (u ++ [markT]) := txs_snoc u markT
  (refine SC_intro Try.func11 rfl (by kernel_rfl) (by rw [Try.ntmps11]; exact Nat.le_of_ble_eq_true rfl) ?_; simp only [Try.ntmps11, argE, Nat.reduceAdd])
  
  repeat' (first | (apply RW.q1; exact qt) | refine xsg cts ?_ | (apply CW_condT; exact rfl; exact ar) | (apply CW_condF; exact rfl; exact ar) | (refine hK _ _ ?_; clear hK; refine xsg xsl ?_) | ((first | apply RW.a1 | apply RW.a0); (first | (refine GW.nilown (gw_append (d := some 6) (e := 9) (z := 1) (n := 0) (m := u.length) (cs := []) rfl rfl rfl rfl pick0 (src_rs hx') subl_refl (by rw [txs_len, Nat.mul_one]) (all_txs u) (by omega) (by omega) (fun a' c' => ?_)); rw [jL, Nat.zero_add]) | (apply gw_asg; exact rfl) | (apply gw_lit1; exact rfl; exact rfl; exact rfl; exact rfl; decide; intro b) | (apply gw_lit2; exact rfl; exact rfl; exact rfl; exact rfl; intro b) | (apply gw_lit3; exact rfl; exact rfl; exact rfl; exact rfl; exact rfl; intro b) | (apply gw_ap1; exact rfl; exact rfl; infer_instance; infer_instance; exact rfl; exact rfl; exact rfl; exact rfl; omega; intro a c) | (apply gw_ap1n; exact rfl; exact rfl; infer_instance; exact rfl; exact rfl; exact rfl; exact rfl; omega; intro a c) | (fail))) | (apply CW_region; intro K hK) | (apply CW_condX; exact rfl; exact tst; exact tst; all_goals (intro hq hc; try exact no)))
  rw [show txs u ++ [Value.string { data := #[52, 51, 50, 49] }] = txs (u ++ [markT]) from e1]
  (refine CW_ret ?_; refine xsg xsl ?_; refine bR [.tmp 2] [.own 9 1 a (u.length + 1) c (txs (u ++ [markT]))] ?_)
  exact ⟨a, c, rfl, rfl⟩
theorem keptT_spec (u : List Tx) (a b : Option Addr) (c d : Nat) (H : Hp) (hx : CT H u a c) (hy : UOk H b d u) (hN : u.length ≤ 1048576) :
    SC Try.prog 23 [.slice a u.length c, .slice b u.length d] H [] (fun v M => v = .bool true ∧ M = []) := by
  have hx' : Rs H 1 a (u.length + 1) c (txs (u ++ [markT])) := hx
  have hm : (u ++ [markT])[u.length]? = some markT := by rw [List.getElem?_append_right (Nat.le_refl _), Nat.sub_self]; rfl
  have hs := fun G (hG : Ext H G) => sameTexts_spec u u a b c d G (hx.ok.ext hG) (hy.ext hG) (by omega) (by omega)
  rw [decide_eq_true rfl] at hs
  have hcp : (0 : Int) ≤ (u.length : Int) + 1 ∧ (u.length : Int) + 1 ≤ c := by
    have := rs_cap hx'
    omega
  (refine SC_intro Try.func23 rfl (by kernel_rfl) (by rw [Try.ntmps23]; exact Nat.le_of_ble_eq_true rfl) ?_; simp only [Try.ntmps23, argE, Nat.reduceAdd])
  
  repeat' (first | ((first | apply RW.q1 | (apply RW.qg; exact gvx; refine hgx tst ?_; intro hg hg')); (first | (apply q_slp; exact evgx; exact evgx; exact hcp) | (apply q_ldr; exact rfl; exact evgx; exact hx'; exact txs_at hm (by omega)) | (apply q_sbeqT (a := markT) (b := markT); exact evgx; exact evgx; exact rfl) | exact qt | exact qu)) | refine xsg cts ?_ | (apply CW_condT; exact rfl; exact ar) | (apply CW_condF; exact rfl; exact ar) | ((first | apply RW.s1 | apply RW.s0); exact gva) | (refine hK _ _ ?_; clear hK; refine xsg xsl ?_) | ((first | apply RW.a1 | apply RW.a0 | (apply RW.at; exact gva)); (first | (apply gw_callE (f := 8); exact evx; exact go8; intro G hG; exact hs G hG.ext) | (apply gw_asg; exact rfl) | (fail))) | (apply CW_region; intro K hK) | (apply CW_condX; exact rfl; exact tst; exact tst; all_goals (intro hq hc; try exact no)))
  (refine CW_ret ?_; refine xsg xsl ?_; refine bR [.tmp 4] [] ?_)
  exact ⟨rfl, rfl⟩
end Go.Proofs.Ytkhmimlgkjenfaa.HL
namespace Go.Proofs.Ytkhmimlgkjenfaa.HL
open Go
attribute [local irreducible] goFn thenS blockS bodyS CW RW DW GW QW NW SC Pick Picks SubL Rd NN ResOk SrcW subE hops hseg AW hgen HC qv bldv
set_option maxHeartbeats 8000000
set_option maxRecDepth 100000
set_option linter.unusedVariables false
set_option linter.unusedSimpArgs false

abbrev dwLwB0 : List (Nat × Bool) := [(0, false), (1, false), (2, false), (3, false), (4, false), (5, false), (6, true), (7, false), (8, true), (9, true), (10, false), (11, true)]
theorem fl_v {l : List Fl} {k j : Nat} {x : Fl} (hx : l[k]? = some x) (hj : j = k * 4 + 1) : ((l.flatMap flC).drop j).take 1 = [.slice x.va x.vs.length x.vc] := by
  subst hj
  exact ix_fld (enc := flC) (off := 1) (n := 1) (i := (k : Int)) hx (by omega) (by omega)
theorem fl_f {l : List Fl} {k j : Nat} {x : Fl} (hx : l[k]? = some x) (hj : j = k * 4 + 2) : ((l.flatMap flC).drop j).take 1 = [.slice x.fa x.fs.length x.fc] := by
  subst hj
  exact ix_fld (enc := flC) (off := 2) (n := 1) (i := (k : Int)) hx (by omega) (by omega)
def vrL (H : Hp) (x : Vr) : Prop := CT H x.u x.a x.c
def flL (H : Hp) (f : Fl) : Prop := Rs H 2 f.va f.vs.length f.vc (f.vs.flatMap vrC) ∧ Rs H 2 f.fa f.fs.length f.fc (f.fs.flatMap vrC) ∧ (∀ x, x ∈ f.vs → vrL H x) ∧ ∀ x, x ∈ f.fs → vrL H x
def pkL (H : Hp) (p : Pk) : Prop := CT H p.im p.ia p.ic ∧ Rs H 4 p.la p.fl.length p.lc (p.fl.flatMap flC) ∧ ∀ f, f ∈ p.fl → flL H f
theorem flL.ok {H : Hp} {f : Fl} (h : flL H f) : flOk H f := ⟨h.1, h.2.1, fun x hx => (h.2.2.1 x hx).ok, fun x hx => (h.2.2.2 x hx).ok⟩
theorem pkL.ok {H : Hp} {p : Pk} (h : pkL H p) : pkOk H p := ⟨h.1.ok, h.2.1, fun f hf => (h.2.2 f hf).ok⟩
def Held (L : List Res) (P : Hp → Prop) : Prop := ∀ H G, Hs H L G → P G
theorem Held.tail {L : List Res} {P : Hp → Prop} {r : Res} (h : Held L P) : Held (r :: L) P := fun H G hG => h H G (hG.sub (subl_tail subl_refl))
theorem held_own {L : List Res} {e : TypeId} {z n c : Nat} {a : Option Addr} {cs : List Value} : Held (.own e z a n c cs :: L) (fun G => Rs G z a n c cs) := fun H G hG => sl_own pick0 hG
theorem Held.and {L : List Res} {P Q : Hp → Prop} (h : Held L P) (g : Held L Q) : Held L (fun G => P G ∧ Q G) := fun H G hG => ⟨h H G hG, g H G hG⟩
theorem Held.mono {L : List Res} {P Q : Hp → Prop} (h : Held L P) (g : ∀ G, P G → Q G) : Held L Q := fun H G hG => g G (h H G hG)
theorem held_all {α : Type} {L : List Res} {P : Hp → α → Prop} {l : List α} {x : α} (h : Held L (fun G => ∀ y, y ∈ l → P G y)) (g : Held L (fun G => P G x)) : Held L (fun G => ∀ y, y ∈ l ++ [x] → P G y) := fun H G hG y hy => by
  rcases List.mem_append.1 hy with k | k
  · exact h H G hG y k
  · obtain rfl := List.mem_singleton.1 k
    exact g H G hG
theorem held_no {α : Type} {L : List Res} {P : Hp → α → Prop} : Held L (fun G => ∀ y, y ∈ ([] : List α) → P G y) := fun H G hG y hy => by cases hy
theorem er_snoc {α β : Type} {f : α → β} {l2 l : List α} {k : Nat} {x x2 : α} (hx : l[k]? = some x) (h : l2.map f = (l.take k).map f) (he : f x2 = f x) : (l2 ++ [x2]).map f = (l.take (k + 1)).map f := by
  rw [List.take_add_one, hx]
  simp [h, he]
theorem vrs_snoc (l : List Vr) (n : Tx) (a : Option Addr) (c : Nat) (u : List Tx) : l.flatMap vrC ++ [.string (bstr n), .slice a u.length c] = (l ++ [(⟨n, a, c, u⟩ : Vr)]).flatMap vrC := by
  rw [List.flatMap_append]; rfl
theorem fls_snoc (l : List Fl) (n : Tx) (va : Option Addr) (vc : Nat) (vs : List Vr) (fa : Option Addr) (fc : Nat) (fs : List Vr) (k : Int) : l.flatMap flC ++ [.string (bstr n), .slice va vs.length vc, .slice fa fs.length fc, .int .i64 k] = (l ++ [(⟨n, va, vc, vs, fa, fc, fs, k⟩ : Fl)]).flatMap flC := by
  rw [List.flatMap_append]; rfl
theorem pks_snoc (l : List Pk) (p : Tx) (ia : Option Addr) (ic : Nat) (im : List Tx) (la : Option Addr) (lc : Nat) (fl : List Fl) : l.flatMap pkC ++ [.string (bstr p), .slice ia im.length ic, .slice la fl.length lc] = (l ++ [(⟨p, ia, ic, im, la, lc, fl⟩ : Pk)]).flatMap pkC := by
  rw [List.flatMap_append]; rfl
def markC : List Value := [.string (bstr markT), .slice none 0 0, .slice none 0 0]
theorem copied_spec (l : List Pk) (aa : Option Addr) (ac : Nat) (H : Hp) (hr : Rs H 3 aa l.length ac (l.flatMap pkC)) (hp : ∀ p, p ∈ l → pkOk H p) (hS : ∀ p, p ∈ l → Small p) (hl : l.length ≤ 1048576) :
    SC Try.prog 5 [.slice aa l.length ac] H [] (fun v M => ∃ (l2 : List Pk) (a : Option Addr) (c : Nat) (L' : List Res), v = .slice a l.length c ∧ M = .own 25 3 a (l.length + 1) c (l2.flatMap pkC ++ markC) :: L' ∧ l2.map erP = l.map erP ∧ Held L' (fun G => ∀ p, p ∈ l2 → pkL G p)) := by
  (refine SC_intro Try.func5 rfl (by kernel_rfl) (by rw [Try.ntmps5]; exact Nat.le_of_ble_eq_true rfl) ?_; simp only [Try.ntmps5, argE, Nat.reduceAdd])
  
  repeat' (first | ((first | apply RW.q1 | (apply DW.q1; exact rfl)); (first | (apply q_bld; exact rfl; first | exact bld25_0 _ | exact bld40_0_1 _ _ _ _ | exact bld43_0_1 _ _ _ _) | exact qt)) | refine xsg cts ?_ | (apply CW_condT; exact rfl; exact ar) | (apply CW_condF; exact rfl; exact ar) | (refine hK _ _ ?_; clear hK; refine xsg xsl ?_) | (refine xsg ahd ?_; (first | (apply gw_asg; exact rfl) | ((first | apply gw_alloc | apply gx_alloc); exact rfl; intro b) | (apply gw_lit1; exact rfl; exact rfl; exact rfl; exact rfl; decide; intro b) | (apply gw_lit2; exact rfl; exact rfl; exact rfl; exact rfl; intro b) | (apply gw_lit3; exact rfl; exact rfl; exact rfl; exact rfl; exact rfl; intro b) | (apply gw_ap1; exact rfl; exact rfl; infer_instance; infer_instance; exact rfl; exact rfl; exact rfl; exact rfl; omega; intro a c) | (apply gw_ap1n; exact rfl; exact rfl; infer_instance; exact rfl; exact rfl; exact rfl; exact rfl; omega; intro a c) | (refine gw_stx sto ?_) | (fail))) | (apply CW_region; intro K hK) | (apply CW_condX; exact rfl; exact tst; exact tst; all_goals (intro hq hc; try exact no)) | (refine CW_draw (id := 18) [6, 8] dwLwB0 mixed (by kernel_rfl) (fun K hK => ?_)) | (refine CW_draw (id := 23) [6, 8] dwLwB0 mixed (by kernel_rfl) (fun K hK => ?_)))
  refine CW_loop (fun m ll L => ∃ (i n pc : Nat) (pa : Option Addr) (l2 : List Pk) (cs : List Value) (L' : List Res), m = l.length - i ∧ ll = [(0, true, .slice aa l.length ac), (3, true, .slice pa n pc), (4, true, .int .i64 (i : Nat))] ∧
      L = .own 25 3 pa n pc cs :: L' ∧ i ≤ l.length ∧ n = i ∧ cs = l2.flatMap pkC ∧ l2.map erP = (l.take i).map erP ∧ Held L' (fun G => ∀ p, p ∈ l2 → pkL G p))
    ⟨_, _, _, ⟨0, 0, 0, none, [], [], [], rfl, rfl, rfl, by omega, rfl, rfl, rfl, held_no⟩, by exact sbe, sblt⟩ ?_
  rintro m ll L ⟨i, n, pc, pa, l2, cs, L', rfl, rfl, rfl, hi, hn, hcs, hl2, hL'⟩
  subst hcs
  by_cases hlt : i < l.length
  · obtain ⟨x, hx⟩ : ∃ x, l[i]? = some x := ⟨_, List.getElem?_eq_getElem (by omega)⟩
    have hxm := List.mem_of_getElem? hx
    obtain ⟨hxi, hxf, hxo⟩ := hp x hxm
    have hxS := hS x hxm
    have hxi1 := hxS.im
    have hxf1 := hxS.fl
    have hxi' : Rs H 1 x.ia x.im.length x.ic (txs x.im) := hxi
    
    repeat' (first | ((first | apply RW.q1 | (apply DW.q1; exact rfl)); (first | (apply q_lar; exact rfl; exact rfl; exact hr; exact pk_pk hx; exact rfl; decide) | (apply q_ldr; exact rfl; exact rfl; exact hr; first | exact pk_p hx (by omega) | exact pk_i hx (by omega) | exact pk_f hx (by omega)) | (apply q_bld; exact rfl; first | exact bld25_0 _ | exact bld40_0_1 _ _ _ _ | exact bld43_0_1 _ _ _ _) | exact qt)) | refine xsg cts ?_ | (apply CW_condT; exact rfl; exact ar) | (apply CW_condF; exact rfl; exact ar) | (refine hK _ _ ?_; clear hK; refine xsg xsl ?_) | (refine xsg ahd ?_; (first | ((first | apply gw_alloc (d := some 5) | apply gx_alloc (d := some 5)); exact rfl; intro b5) | (apply gx_alloc (d := some 5); exact rfl; intro b5) | ((first | apply gw_call (f := 11) | apply gx_call (f := 11)); exact rfl; exact go11; intro G hG; refine SC.mono (lent_spec x.im x.ia x.ic G (hxi'.ext hG.ext) hxi1) ?_; rintro v M ⟨ia2, ic2, rfl, rfl⟩; (try dsimp only [jL, jM])) | (apply gw_asg; exact rfl) | ((first | apply gw_alloc | apply gx_alloc); exact rfl; intro b) | (apply gw_lit1; exact rfl; exact rfl; exact rfl; exact rfl; decide; intro b) | (apply gw_lit2; exact rfl; exact rfl; exact rfl; exact rfl; intro b) | (apply gw_lit3; exact rfl; exact rfl; exact rfl; exact rfl; exact rfl; intro b) | (apply gw_ap1; exact rfl; exact rfl; infer_instance; infer_instance; exact rfl; exact rfl; exact rfl; exact rfl; omega; intro a c) | (apply gw_ap1n; exact rfl; exact rfl; infer_instance; exact rfl; exact rfl; exact rfl; exact rfl; omega; intro a c) | (refine gw_stx sto ?_) | (fail))) | (apply CW_region; intro K hK) | (apply CW_condX; exact rfl; exact tst; exact tst; all_goals (intro hq hc; try exact no)) | (refine CW_draw (id := 18) [6, 8] dwLwB0 mixed (by kernel_rfl) (fun K hK => ?_)) | (refine CW_draw (id := 23) [6, 8] dwLwB0 mixed (by kernel_rfl) (fun K hK => ?_)))
    refine CW_loop (fun m ll L => ∃ (k nf fc : Nat) (fa : Option Addr) (fl2 : List Fl) (fcs : List Value) (L2 : List Res), m = x.fl.length - k ∧ ll = [(0, true, .slice aa l.length ac), (3, true, .slice pa n pc), (4, true, .int .i64 (i : Nat)), (5, true, .pointer (some ⟨b5, 0, none⟩)), (6, true, .int .i64 (k : Nat))] ∧
        L = .box b5 25 [.string (bstr x.p), .slice ia2 x.im.length ic2, .slice fa nf fc] :: .own 38 4 fa nf fc fcs :: .own 25 3 pa n pc (l2.flatMap pkC) :: L2 ∧ k ≤ x.fl.length ∧ nf = k ∧ fcs = fl2.flatMap flC ∧ fl2.map erF = (x.fl.take k).map erF ∧
        Held L2 (fun G => ∀ p, p ∈ l2 → pkL G p) ∧ Held L2 (fun G => CT G x.im ia2 ic2) ∧ Held L2 (fun G => ∀ f, f ∈ fl2 → flL G f))
      ⟨_, _, _, ⟨0, 0, 0, none, [], [], .own 9 1 ia2 (x.im.length + 1) ic2 (txs (x.im ++ [markT])) :: L', rfl, rfl, rfl, by omega, rfl, rfl, rfl, hL'.tail, held_own, held_no⟩, by exact sbe, sblt⟩ ?_
    rintro m ll L ⟨k, nf, fc, fa, fl2, fcs, L2, rfl, rfl, rfl, hk, hnf, hfcs, hfl2, hA, hB, hC⟩
    subst hfcs
    by_cases hkl : k < x.fl.length
    · obtain ⟨f, hf⟩ : ∃ f, x.fl[k]? = some f := ⟨_, List.getElem?_eq_getElem (by omega)⟩
      have hfm := List.mem_of_getElem? hf
      obtain ⟨hfv, hff, hfo, hfo'⟩ := hxo f hfm
      have hfS := hxS.vs f hfm
      have hf4 : ((x.fl.flatMap flC).drop (k * 4)).take 4 = [.string (bstr f.n), .slice f.va f.vs.length f.vc, .slice f.fa f.fs.length f.fc, .int .i64 f.k] := ix_elem (enc := flC) (i := (k : Int)) hf (by omega)
      
      repeat' (first | ((first | apply RW.q1 | (apply DW.q1; exact rfl)); (first | (apply q_lar; exact rfl; exact rfl; exact hxf; exact hf4; exact rfl; decide) | (apply q_ldr; exact rfl; exact rfl; exact hr; exact pk_f hx (by omega)) | (apply q_bld; exact rfl; first | exact bld25_0 _ | exact bld40_0_1 _ _ _ _ | exact bld43_0_1 _ _ _ _) | exact qt)) | refine xsg cts ?_ | (apply CW_condT; exact rfl; exact ar) | (apply CW_condF; exact rfl; exact ar) | (refine hK _ _ ?_; clear hK; refine xsg xsl ?_) | (refine xsg ahd ?_; (first | (apply gx_alloc (d := some 7); exact rfl; intro b7) | ((first | apply gw_alloc (d := some 7) | apply gx_alloc (d := some 7)); exact rfl; intro b7) | (apply gw_asg; exact rfl) | ((first | apply gw_alloc | apply gx_alloc); exact rfl; intro b) | (apply gw_lit1; exact rfl; exact rfl; exact rfl; exact rfl; decide; intro b) | (apply gw_lit2; exact rfl; exact rfl; exact rfl; exact rfl; intro b) | (apply gw_lit3; exact rfl; exact rfl; exact rfl; exact rfl; exact rfl; intro b) | (apply gw_ap1; exact rfl; exact rfl; infer_instance; infer_instance; exact rfl; exact rfl; exact rfl; exact rfl; omega; intro a c) | (apply gw_ap1n; exact rfl; exact rfl; infer_instance; exact rfl; exact rfl; exact rfl; exact rfl; omega; intro a c) | (refine gw_stx sto ?_) | (fail))) | (apply CW_region; intro K hK) | (apply CW_condX; exact rfl; exact tst; exact tst; all_goals (intro hq hc; try exact no)) | (refine CW_draw (id := 18) [6, 8] dwLwB0 mixed (by kernel_rfl) (fun K hK => ?_)) | (refine CW_draw (id := 23) [6, 8] dwLwB0 mixed (by kernel_rfl) (fun K hK => ?_)))
      refine CW_loop (fun m ll L => ∃ (j nv vc : Nat) (va : Option Addr) (vs2 : List Vr) (vcs : List Value) (L3 : List Res), m = f.vs.length - j ∧ ll = [(0, true, .slice aa l.length ac), (3, true, .slice pa n pc), (4, true, .int .i64 (i : Nat)), (5, true, .pointer (some ⟨b5, 0, none⟩)), (6, true, .int .i64 (k : Nat)), (7, true, .pointer (some ⟨b7, 0, none⟩)), (8, true, .int .i64 (j : Nat))] ∧
          L = .box b7 38 [.string (bstr f.n), .slice va nv vc, .slice none 0 0, .int .i64 f.k] :: .own 40 2 va nv vc vcs :: .box b5 25 [.string (bstr x.p), .slice ia2 x.im.length ic2, .slice fa nf fc] :: .own 38 4 fa nf fc (fl2.flatMap flC) :: .own 25 3 pa n pc (l2.flatMap pkC) :: L3 ∧ j ≤ f.vs.length ∧ nv = j ∧ vcs = vs2.flatMap vrC ∧ vs2.map erV = (f.vs.take j).map erV ∧
          Held L3 (fun G => ∀ p, p ∈ l2 → pkL G p) ∧ Held L3 (fun G => CT G x.im ia2 ic2) ∧ Held L3 (fun G => ∀ f, f ∈ fl2 → flL G f) ∧ Held L3 (fun G => ∀ v, v ∈ vs2 → vrL G v))
        ⟨_, _, _, ⟨0, 0, 0, none, [], [], L2, rfl, rfl, rfl, by omega, rfl, rfl, rfl, hA, hB, hC, held_no⟩, by exact sbe, sblt⟩ ?_
      clear hA hB hC L2
      rintro m ll L ⟨j, nv, vc, va, vs2, vcs, L3, rfl, rfl, rfl, hj, hnv, hvcs, hvs2, hA, hB, hC, hD⟩
      subst hvcs
      by_cases hjl : j < f.vs.length
      · obtain ⟨y, hy⟩ : ∃ y, f.vs[j]? = some y := ⟨_, List.getElem?_eq_getElem (by omega)⟩
        have hym := List.mem_of_getElem? hy
        have hyo : Rs H 1 y.a y.u.length y.c (txs y.u) := hfo y hym
        have hyl : y.u.length ≤ 1048576 := (hxS.us (thV true y) (mem_allT hfm (List.mem_append_left _ (List.mem_map.2 ⟨y, hym, rfl⟩)))).1
        have hy2 : ((f.vs.flatMap vrC).drop (j * 2)).take 2 = [.string (bstr y.n), .slice y.a y.u.length y.c] := ix_elem (enc := vrC) (i := (j : Int)) hy (by omega)
        
        repeat' (first | ((first | apply RW.q1 | (apply DW.q1; exact rfl)); (first | (apply q_lar; exact rfl; exact rfl; exact hfv; exact hy2; exact rfl; decide) | (apply q_ldr; exact rfl; exact rfl; exact hr; exact pk_f hx (by omega)) | (apply q_ldr; exact rfl; exact rfl; exact hxf; exact fl_v hf (by omega)) | (apply q_bld; exact rfl; first | exact bld25_0 _ | exact bld40_0_1 _ _ _ _ | exact bld43_0_1 _ _ _ _) | exact qt)) | refine xsg cts ?_ | (apply CW_condT; exact rfl; exact ar) | (apply CW_condF; exact rfl; exact ar) | (refine hK _ _ ?_; clear hK; refine xsg xsl ?_) | (refine xsg ahd ?_; (first | (apply gx_alloc (d := some 9); exact rfl; intro b9) | ((first | apply gw_alloc (d := some 9) | apply gx_alloc (d := some 9)); exact rfl; intro b9) | (apply gx_lit1; exact rfl; exact rfl; exact rfl; exact rfl; decide; intro b84) | ((first | apply gw_call (f := 11) | apply gx_call (f := 11)); exact rfl; exact go11; intro G hG; refine SC.mono (lent_spec y.u y.a y.c G (hyo.ext hG.ext) hyl) ?_; rintro v M ⟨ua2, uc2, rfl, rfl⟩; (try dsimp only [jL, jM])) | (apply gw_asg; exact rfl) | ((first | apply gw_alloc | apply gx_alloc); exact rfl; intro b) | (apply gw_lit1; exact rfl; exact rfl; exact rfl; exact rfl; decide; intro b) | (apply gw_lit2; exact rfl; exact rfl; exact rfl; exact rfl; intro b) | (apply gw_lit3; exact rfl; exact rfl; exact rfl; exact rfl; exact rfl; intro b) | (apply gw_ap1; exact rfl; exact rfl; infer_instance; infer_instance; exact rfl; exact rfl; exact rfl; exact rfl; omega; intro a c) | (apply gw_ap1n; exact rfl; exact rfl; infer_instance; exact rfl; exact rfl; exact rfl; exact rfl; omega; intro a c) | (refine gw_stx sto ?_) | (fail))) | (apply CW_region; intro K hK) | (apply CW_condX; exact rfl; exact tst; exact tst; all_goals (intro hq hc; try exact no)) | (refine CW_draw (id := 18) [6, 8] dwLwB0 mixed (by kernel_rfl) (fun K hK => ?_)) | (refine CW_draw (id := 23) [6, 8] dwLwB0 mixed (by kernel_rfl) (fun K hK => ?_)))
        exact ⟨_, _, _, ⟨j + 1, nv + 1, _, _, vs2 ++ [⟨y.n, ua2, uc2, y.u⟩], _, .own 9 1 ua2 (y.u.length + 1) uc2 (txs (y.u ++ [markT])) :: L3, rfl, rfl, rfl, by omega, by omega, vrs_snoc vs2 y.n ua2 uc2 y.u, er_snoc hy hvs2 rfl, hA.tail, hB.tail, hC.tail, held_all hD.tail held_own⟩, by exact sbe, sblt, by omega⟩
      obtain rfl : j = f.vs.length := by omega
      rw [List.take_length] at hvs2
      have hvl : vs2.length = f.vs.length := by simpa using congrArg List.length hvs2
      obtain rfl : nv = vs2.length := by omega
      
      repeat' (first | ((first | apply RW.q1 | (apply DW.q1; exact rfl)); (first | (apply q_ldr; exact rfl; exact rfl; exact hr; exact pk_f hx (by omega)) | (apply q_ldr; exact rfl; exact rfl; exact hxf; exact fl_v hf (by omega)) | (apply q_bld; exact rfl; first | exact bld25_0 _ | exact bld40_0_1 _ _ _ _ | exact bld43_0_1 _ _ _ _) | exact qt)) | refine xsg cts ?_ | (apply CW_condT; exact rfl; exact ar) | (apply CW_condF; exact rfl; exact ar) | (refine hK _ _ ?_; clear hK; refine xsg xsl ?_) | (refine xsg ahd ?_; (first | (apply gw_asg; exact rfl) | ((first | apply gw_alloc | apply gx_alloc); exact rfl; intro b) | (apply gw_lit1; exact rfl; exact rfl; exact rfl; exact rfl; decide; intro b) | (apply gw_lit2; exact rfl; exact rfl; exact rfl; exact rfl; intro b) | (apply gw_lit3; exact rfl; exact rfl; exact rfl; exact rfl; exact rfl; intro b) | (apply gw_ap1; exact rfl; exact rfl; infer_instance; infer_instance; exact rfl; exact rfl; exact rfl; exact rfl; omega; intro a c) | (apply gw_ap1n; exact rfl; exact rfl; infer_instance; exact rfl; exact rfl; exact rfl; exact rfl; omega; intro a c) | (refine gw_stx sto ?_) | (fail))) | (apply CW_region; intro K hK) | (apply CW_condX; exact rfl; exact tst; exact tst; all_goals (intro hq hc; try exact no)) | (refine CW_draw (id := 18) [6, 8] dwLwB0 mixed (by kernel_rfl) (fun K hK => ?_)) | (refine CW_draw (id := 23) [6, 8] dwLwB0 mixed (by kernel_rfl) (fun K hK => ?_)))
      refine CW_loop (fun m ll L => ∃ (j ng gc : Nat) (ga : Option Addr) (fs2 : List Vr) (gcs : List Value) (L4 : List Res), m = f.fs.length - j ∧ ll = [(0, true, .slice aa l.length ac), (3, true, .slice pa n pc), (4, true, .int .i64 (i : Nat)), (5, true, .pointer (some ⟨b5, 0, none⟩)), (6, true, .int .i64 (k : Nat)), (7, true, .pointer (some ⟨b7, 0, none⟩)), (10, true, .int .i64 (j : Nat))] ∧
          L = .box b7 38 [.string (bstr f.n), .slice va vs2.length vc, .slice ga ng gc, .int .i64 f.k] :: .own 43 2 ga ng gc gcs :: .own 40 2 va vs2.length vc (vs2.flatMap vrC) :: .box b5 25 [.string (bstr x.p), .slice ia2 x.im.length ic2, .slice fa nf fc] :: .own 38 4 fa nf fc (fl2.flatMap flC) :: .own 25 3 pa n pc (l2.flatMap pkC) :: L4 ∧ j ≤ f.fs.length ∧ ng = j ∧ gcs = fs2.flatMap vrC ∧ fs2.map erV = (f.fs.take j).map erV ∧
          Held L4 (fun G => ∀ p, p ∈ l2 → pkL G p) ∧ Held L4 (fun G => CT G x.im ia2 ic2) ∧ Held L4 (fun G => ∀ f, f ∈ fl2 → flL G f) ∧ Held L4 (fun G => ∀ v, v ∈ vs2 → vrL G v) ∧ Held L4 (fun G => ∀ v, v ∈ fs2 → vrL G v))
        ⟨_, _, _, ⟨0, 0, 0, none, [], [], L3, rfl, rfl, rfl, by omega, rfl, rfl, rfl, hA, hB, hC, hD, held_no⟩, by exact sbe, sblt⟩ ?_
      clear hA hB hC hD L3
      rintro m ll L ⟨j, ng, gc, ga, fs2, gcs, L4, rfl, rfl, rfl, hj, hng, hgcs, hfs2, hA, hB, hC, hD, hE⟩
      subst hgcs
      by_cases hjl : j < f.fs.length
      · obtain ⟨y, hy⟩ : ∃ y, f.fs[j]? = some y := ⟨_, List.getElem?_eq_getElem (by omega)⟩
        have hym := List.mem_of_getElem? hy
        have hyo : Rs H 1 y.a y.u.length y.c (txs y.u) := hfo' y hym
        have hyl : y.u.length ≤ 1048576 := (hxS.us (thV false y) (mem_allT hfm (List.mem_append_right _ (List.mem_map.2 ⟨y, hym, rfl⟩)))).1
        have hy2 : ((f.fs.flatMap vrC).drop (j * 2)).take 2 = [.string (bstr y.n), .slice y.a y.u.length y.c] := ix_elem (enc := vrC) (i := (j : Int)) hy (by omega)
        
        repeat' (first | ((first | apply RW.q1 | (apply DW.q1; exact rfl)); (first | (apply q_lar; exact rfl; exact rfl; exact hff; exact hy2; exact rfl; decide) | (apply q_ldr; exact rfl; exact rfl; exact hr; exact pk_f hx (by omega)) | (apply q_ldr; exact rfl; exact rfl; exact hxf; exact fl_f hf (by omega)) | (apply q_bld; exact rfl; first | exact bld25_0 _ | exact bld40_0_1 _ _ _ _ | exact bld43_0_1 _ _ _ _) | exact qt)) | refine xsg cts ?_ | (apply CW_condT; exact rfl; exact ar) | (apply CW_condF; exact rfl; exact ar) | (refine hK _ _ ?_; clear hK; refine xsg xsl ?_) | (refine xsg ahd ?_; (first | (apply gx_alloc (d := some 11); exact rfl; intro b11) | ((first | apply gw_alloc (d := some 11) | apply gx_alloc (d := some 11)); exact rfl; intro b11) | (apply gx_lit1; exact rfl; exact rfl; exact rfl; exact rfl; decide; intro b121) | ((first | apply gw_call (f := 11) | apply gx_call (f := 11)); exact rfl; exact go11; intro G hG; refine SC.mono (lent_spec y.u y.a y.c G (hyo.ext hG.ext) hyl) ?_; rintro v M ⟨ua2, uc2, rfl, rfl⟩; (try dsimp only [jL, jM])) | (apply gw_asg; exact rfl) | ((first | apply gw_alloc | apply gx_alloc); exact rfl; intro b) | (apply gw_lit1; exact rfl; exact rfl; exact rfl; exact rfl; decide; intro b) | (apply gw_lit2; exact rfl; exact rfl; exact rfl; exact rfl; intro b) | (apply gw_lit3; exact rfl; exact rfl; exact rfl; exact rfl; exact rfl; intro b) | (apply gw_ap1; exact rfl; exact rfl; infer_instance; infer_instance; exact rfl; exact rfl; exact rfl; exact rfl; omega; intro a c) | (apply gw_ap1n; exact rfl; exact rfl; infer_instance; exact rfl; exact rfl; exact rfl; exact rfl; omega; intro a c) | (refine gw_stx sto ?_) | (fail))) | (apply CW_region; intro K hK) | (apply CW_condX; exact rfl; exact tst; exact tst; all_goals (intro hq hc; try exact no)) | (refine CW_draw (id := 18) [6, 8] dwLwB0 mixed (by kernel_rfl) (fun K hK => ?_)) | (refine CW_draw (id := 23) [6, 8] dwLwB0 mixed (by kernel_rfl) (fun K hK => ?_)))
        exact ⟨_, _, _, ⟨j + 1, ng + 1, _, _, fs2 ++ [⟨y.n, ua2, uc2, y.u⟩], _, .own 9 1 ua2 (y.u.length + 1) uc2 (txs (y.u ++ [markT])) :: L4, rfl, rfl, rfl, by omega, by omega, vrs_snoc fs2 y.n ua2 uc2 y.u, er_snoc hy hfs2 rfl, hA.tail, hB.tail, hC.tail, hD.tail, held_all hE.tail held_own⟩, by exact sbe, sblt, by omega⟩
      obtain rfl : j = f.fs.length := by omega
      rw [List.take_length] at hfs2
      have hgl : fs2.length = f.fs.length := by simpa using congrArg List.length hfs2
      obtain rfl : ng = fs2.length := by omega
      
      repeat' (first | ((first | apply RW.q1 | (apply DW.q1; exact rfl)); (first | (apply q_ldr; exact rfl; exact rfl; exact hr; exact pk_f hx (by omega)) | (apply q_ldr; exact rfl; exact rfl; exact hxf; exact fl_f hf (by omega)) | (apply q_bld; exact rfl; first | exact bld25_0 _ | exact bld40_0_1 _ _ _ _ | exact bld43_0_1 _ _ _ _) | exact qt)) | refine xsg cts ?_ | (apply CW_condT; exact rfl; exact ar) | (apply CW_condF; exact rfl; exact ar) | (refine hK _ _ ?_; clear hK; refine xsg xsl ?_) | (refine xsg ahd ?_; (first | (apply gw_asg; exact rfl) | ((first | apply gw_alloc | apply gx_alloc); exact rfl; intro b) | (apply gw_lit1; exact rfl; exact rfl; exact rfl; exact rfl; decide; intro b) | (apply gw_lit2; exact rfl; exact rfl; exact rfl; exact rfl; intro b) | (apply gw_lit3; exact rfl; exact rfl; exact rfl; exact rfl; exact rfl; intro b) | (apply gw_ap1; exact rfl; exact rfl; infer_instance; infer_instance; exact rfl; exact rfl; exact rfl; exact rfl; omega; intro a c) | (apply gw_ap1n; exact rfl; exact rfl; infer_instance; exact rfl; exact rfl; exact rfl; exact rfl; omega; intro a c) | (refine gw_stx sto ?_) | (fail))) | (apply CW_region; intro K hK) | (apply CW_condX; exact rfl; exact tst; exact tst; all_goals (intro hq hc; try exact no)) | (refine CW_draw (id := 18) [6, 8] dwLwB0 mixed (by kernel_rfl) (fun K hK => ?_)) | (refine CW_draw (id := 23) [6, 8] dwLwB0 mixed (by kernel_rfl) (fun K hK => ?_)))
      exact ⟨_, _, _, ⟨k + 1, nf + 1, _, _, fl2 ++ [⟨f.n, va, vc, vs2, ga, gc, fs2, f.k⟩], _, .own 43 2 ga fs2.length gc (fs2.flatMap vrC) :: .own 40 2 va vs2.length vc (vs2.flatMap vrC) :: L4, rfl, rfl, rfl, by omega, by omega, fls_snoc fl2 f.n va vc vs2 ga gc fs2 f.k, er_snoc hf hfl2 (by show (⟨f.n, none, 0, vs2.map erV, none, 0, fs2.map erV, f.k⟩ : Fl) = _; rw [hvs2, hfs2]; rfl), hA.tail.tail, hB.tail.tail, held_all hC.tail.tail (fun H G hG => ⟨sl_own (pickS pick0) hG, sl_own pick0 hG, hD.tail.tail H G hG, hE.tail.tail H G hG⟩)⟩, by exact sbe, sblt, by omega⟩
    obtain rfl : k = x.fl.length := by omega
    rw [List.take_length] at hfl2
    have hfll : fl2.length = x.fl.length := by simpa using congrArg List.length hfl2
    obtain rfl : nf = fl2.length := by omega
    
    repeat' (first | ((first | apply RW.q1 | (apply DW.q1; exact rfl)); (first | (apply q_ldr; exact rfl; exact rfl; exact hr; exact pk_f hx (by omega)) | (apply q_bld; exact rfl; first | exact bld25_0 _ | exact bld40_0_1 _ _ _ _ | exact bld43_0_1 _ _ _ _) | exact qt)) | refine xsg cts ?_ | (apply CW_condT; exact rfl; exact ar) | (apply CW_condF; exact rfl; exact ar) | (refine hK _ _ ?_; clear hK; refine xsg xsl ?_) | (refine xsg ahd ?_; (first | (apply gw_asg; exact rfl) | ((first | apply gw_alloc | apply gx_alloc); exact rfl; intro b) | (apply gw_lit1; exact rfl; exact rfl; exact rfl; exact rfl; decide; intro b) | (apply gw_lit2; exact rfl; exact rfl; exact rfl; exact rfl; intro b) | (apply gw_lit3; exact rfl; exact rfl; exact rfl; exact rfl; exact rfl; intro b) | (apply gw_ap1; exact rfl; exact rfl; infer_instance; infer_instance; exact rfl; exact rfl; exact rfl; exact rfl; omega; intro a c) | (apply gw_ap1n; exact rfl; exact rfl; infer_instance; exact rfl; exact rfl; exact rfl; exact rfl; omega; intro a c) | (refine gw_stx sto ?_) | (fail))) | (apply CW_region; intro K hK) | (apply CW_condX; exact rfl; exact tst; exact tst; all_goals (intro hq hc; try exact no)) | (refine CW_draw (id := 18) [6, 8] dwLwB0 mixed (by kernel_rfl) (fun K hK => ?_)) | (refine CW_draw (id := 23) [6, 8] dwLwB0 mixed (by kernel_rfl) (fun K hK => ?_)))
    exact ⟨_, _, _, ⟨i + 1, n + 1, _, _, l2 ++ [⟨x.p, ia2, ic2, x.im, fa, fc, fl2⟩], _, .own 38 4 fa fl2.length fc (fl2.flatMap flC) :: L2, rfl, rfl, rfl, by omega, by omega, pks_snoc l2 x.p ia2 ic2 x.im fa fc fl2, er_snoc hx hl2 (by exact congrArg (fun q => (⟨x.p, none, 0, x.im, none, 0, q⟩ : Pk)) hfl2), held_all hA.tail (fun H G hG => ⟨hB.tail H G hG, sl_own pick0 hG, hC.tail H G hG⟩)⟩, by exact sbe, sblt, by omega⟩
  obtain rfl : i = l.length := by omega
  rw [List.take_length] at hl2
  subst hn
  
  repeat' (first | ((first | apply RW.q1 | (apply DW.q1; exact rfl)); (first | (apply q_bld; exact rfl; first | exact bld25_0 _ | exact bld40_0_1 _ _ _ _ | exact bld43_0_1 _ _ _ _) | exact qt)) | refine xsg cts ?_ | (apply CW_condT; exact rfl; exact ar) | (apply CW_condF; exact rfl; exact ar) | (refine hK _ _ ?_; clear hK; refine xsg xsl ?_) | (refine xsg ahd ?_; (first | (apply gw_asg; exact rfl) | ((first | apply gw_alloc | apply gx_alloc); exact rfl; intro b) | (apply gw_lit1; exact rfl; exact rfl; exact rfl; exact rfl; decide; intro b) | (apply gw_lit2; exact rfl; exact rfl; exact rfl; exact rfl; intro b) | (apply gw_lit3; exact rfl; exact rfl; exact rfl; exact rfl; exact rfl; intro b) | (apply gw_ap1; exact rfl; exact rfl; infer_instance; infer_instance; exact rfl; exact rfl; exact rfl; exact rfl; omega; intro a c) | (apply gw_ap1n; exact rfl; exact rfl; infer_instance; exact rfl; exact rfl; exact rfl; exact rfl; omega; intro a c) | (refine gw_stx sto ?_) | (fail))) | (apply CW_region; intro K hK) | (apply CW_condX; exact rfl; exact tst; exact tst; all_goals (intro hq hc; try exact no)) | (refine CW_draw (id := 18) [6, 8] dwLwB0 mixed (by kernel_rfl) (fun K hK => ?_)) | (refine CW_draw (id := 23) [6, 8] dwLwB0 mixed (by kernel_rfl) (fun K hK => ?_)))
  (refine CW_ret ?_; refine xsg xsl ?_; refine bR [.tmp 2] (.own 25 3 a (l.length + 1) c (l2.flatMap pkC ++ markC) :: L') ?_)
  exact ⟨l2, a, c, L', rfl, rfl, hl2, hL'⟩
end Go.Proofs.Ytkhmimlgkjenfaa.HL
namespace Go.Proofs.Ytkhmimlgkjenfaa.HL
open Go
attribute [local irreducible] goFn thenS blockS bodyS CW RW DW GW QW NW SC Pick Picks SubL Rd NN ResOk SrcW subE hops hseg AW hgen HC qv bldv
set_option maxHeartbeats 8000000
set_option maxRecDepth 100000
set_option linter.unusedVariables false
set_option linter.unusedSimpArgs false

abbrev dwLwC0 : List (Nat × Bool) := [(0, false), (1, false), (2, false), (3, false), (4, false), (5, false), (6, false), (7, false), (8, false), (9, false), (10, false), (11, false), (12, false), (13, false), (14, false), (15, false), (16, false), (17, false), (18, false), (19, false), (20, false), (21, false), (22, false), (23, false), (24, false), (25, false), (26, true), (27, false), (28, false)]
abbrev dwLwC1 : List (Nat × Bool) := [(0, false), (1, false), (2, false), (3, false), (4, false), (5, false), (6, false), (7, false), (8, false), (9, false), (10, false), (11, false), (12, false), (13, false), (14, false), (15, false), (16, false), (17, false), (18, false), (19, false), (20, false), (21, false), (22, true), (23, false), (24, false), (25, false), (26, false), (27, false), (28, false), (29, false), (30, false), (31, false), (32, false), (33, false), (34, false), (35, false), (36, false), (37, false), (38, false), (39, false)]
abbrev dwLwC2 : List (Nat × Bool) := [(0, false), (1, false), (2, false), (3, false), (4, false), (5, false), (6, false), (7, false), (8, false), (9, false), (10, false), (11, false), (12, false), (13, false), (14, false), (15, false), (16, true), (17, false)]
theorem flL_ext {H G : Hp} {f : Fl} (h : flL H f) (hx : Ext H G) : flL G f := ⟨h.1.ext hx, h.2.1.ext hx, fun x hm => (h.2.2.1 x hm).ext hx, fun x hm => (h.2.2.2 x hm).ext hx⟩
theorem cmp_neF {a b : Int} (h : a = b) : cmpI .neq a b = some false := by
  subst h
  simp [cmpI]
theorem cmp_eqT {a b : Int} (h : a = b) : cmpI .eql a b = some true := by
  subst h
  simp [cmpI]
theorem vr_u' {l : List Vr} {k j : Nat} {x : Vr} {u : List Tx} (hx : l[k]? = some x) (hu : x.u = u) (hj : j = k * 2 + 1) : ((l.flatMap vrC).drop j).take 1 = [.slice x.a u.length x.c] := by
  subst hu
  exact vr_u hx hj
theorem map_at {α β : Type} {f : α → β} {l l2 : List α} {i : Nat} {x : α} (h : l2.map f = l.map f) (hx : l[i]? = some x) : ∃ y, l2[i]? = some y ∧ f y = f x := by
  have := congrArg (·[i]?) h
  simp only [List.getElem?_map, hx, Option.map_some] at this
  obtain ⟨y, h1, h2⟩ := Option.map_eq_some_iff.1 this
  exact ⟨y, h1, h2⟩
theorem file_spec (f g : Fl) (H : Hp) (hf : flL H f) (hg : flOk H g) (he : erF f = erF g) (hv : g.vs.length ≤ 1048576) (hw : g.fs.length ≤ 1048576) (hu : ∀ x, x ∈ things g → x.u.length ≤ 1048576) :
    SC Try.prog 24 [flV f, flV g] H [] (fun v M => v = .bool true ∧ M = []) := by
  obtain ⟨n, va, vc, vs, fa, fc, fs, kk⟩ := f
  obtain ⟨n', va', vc', vs', fa', fc', fs', kk'⟩ := g
  unfold erF at he
  injection he with e1 _ _ e2 _ _ e3 e4
  dsimp only at e1 e2 e3 e4 hv hw
  subst e1
  subst e4
  obtain ⟨h1, h2, h3, h4⟩ := hf
  obtain ⟨g1, g2, g3, g4⟩ := hg
  dsimp only at h1 h2 h3 h4 g1 g2 g3 g4
  have l1 : vs.length = vs'.length := by simpa using congrArg List.length e2
  have l2 : fs.length = fs'.length := by simpa using congrArg List.length e3
  show SC Try.prog 24 [.agg #[.string (bstr n), .slice va vs.length vc, .slice fa fs.length fc, .int .i64 kk], .agg #[.string (bstr n), .slice va' vs'.length vc', .slice fa' fs'.length fc', .int .i64 kk]] H [] _
  (refine SC_intro Try.func24 rfl (by kernel_rfl) (by rw [Try.ntmps24]; exact Nat.le_of_ble_eq_true rfl) ?_; simp only [Try.ntmps24, argE, Nat.reduceAdd])
  
  repeat' (first | ((first | apply RW.q1 | (apply DW.q1; exact rfl) | ((first | apply RW.qg | (apply DW.qg; exact rfl)); exact gvx; refine hgx tst ?_; intro hg hg')); (first | (apply q_sbneF; exact evgx; exact evgx; exact rfl) | (apply q_cmp (op := .neq) (c := false); exact evgx; exact evgx; exact cmp_neF (by omega)) | exact qt | exact qu)) | refine xsg cts ?_ | (apply CW_condT; exact rfl; exact ar) | (apply CW_condF; exact rfl; exact ar) | ((first | apply RW.s1 | apply RW.s0 | (apply DW.sa; exact rfl)); exact gva) | (refine hK _ _ ?_; clear hK; refine xsg xsl ?_) | (refine xsg ahd ?_; (first | (apply gw_box (d := some 2); exact rfl; exact rfl; intro b2) | (apply gw_box (d := some 3); exact rfl; exact rfl; intro b3) | (apply gw_asg; exact rfl) | (apply gw_box; exact rfl; exact rfl; intro b) | (fail))) | (apply CW_region; intro K hK) | (apply CW_condX; exact rfl; exact tst; exact tst; all_goals (intro hq hc; try exact no)) | (refine CW_draw (id := 6) [] dwLwC0 mixed (by kernel_rfl) (fun K hK => ?_)) | (refine CW_draw (id := 11) [] dwLwC0 mixed (by kernel_rfl) (fun K hK => ?_)))
  refine CW_loop (fun m ll L => ∃ j : Nat, m = vs'.length - j ∧ ll = [(2, true, .pointer (some ⟨b2, 0, none⟩)), (3, true, .pointer (some ⟨b3, 0, none⟩)), (5, true, .int .i64 (j : Nat))] ∧
      L = [.box b2 38 [.string (bstr n), .slice va vs.length vc, .slice fa fs.length fc, .int .i64 kk], .box b3 38 [.string (bstr n), .slice va' vs'.length vc', .slice fa' fs'.length fc', .int .i64 kk]] ∧ j ≤ vs'.length)
    ⟨_, _, _, ⟨0, rfl, rfl, rfl, by omega⟩, by exact sbe, by exact sbl⟩ ?_
  rintro m ll L ⟨j, rfl, rfl, rfl, hj⟩
  by_cases hlt : j < vs'.length
  · obtain ⟨y, hy⟩ : ∃ y, vs'[j]? = some y := ⟨_, List.getElem?_eq_getElem (by omega)⟩
    obtain ⟨x, hx, hxy⟩ := map_at e2 hy
    unfold erV at hxy
    injection hxy with q1 _ _ q2
    have hxL : CT H y.u x.a x.c := q2 ▸ h3 x (List.mem_of_getElem? hx)
    have hyo : UOk H y.a y.c y.u := g3 y (List.mem_of_getElem? hy)
    have hyl : y.u.length ≤ 1048576 := hu (thV true y) (List.mem_append_left _ (List.mem_map.2 ⟨y, List.mem_of_getElem? hy, rfl⟩))
    
    repeat' (first | ((first | apply RW.q1 | (apply DW.q1; exact rfl) | ((first | apply RW.qg | (apply DW.qg; exact rfl)); exact gvx; refine hgx tst ?_; intro hg hg')); (first | (apply q_ldr; exact rfl; exact evgx; exact h1; first | exact vr_n hx (by omega) | exact vr_u' hx q2 (by omega)) | (apply q_ldr; exact rfl; exact evgx; exact g1; first | exact vr_n hy (by omega) | exact vr_u hy (by omega)) | (apply q_sbneF; exact evgx; exact evgx; exact q1) | exact qt | exact qu)) | refine xsg cts ?_ | (apply CW_condT; exact rfl; exact ar) | (apply CW_condF; exact rfl; exact ar) | ((first | apply RW.s1 | apply RW.s0 | (apply DW.sa; exact rfl)); exact gva) | (refine hK _ _ ?_; clear hK; refine xsg xsl ?_) | (refine xsg ahd ?_; (first | (apply gw_callE (f := 23); exact evx; exact go23; intro G hG; exact keptT_spec y.u x.a y.a x.c y.c G (hxL.ext hG.ext) (hyo.ext hG.ext) hyl) | (apply gw_asg; exact rfl) | (apply gw_box; exact rfl; exact rfl; intro b) | (fail))) | (apply CW_region; intro K hK) | (apply CW_condX; exact rfl; exact tst; exact tst; all_goals (intro hq hc; try exact no)) | (refine CW_draw (id := 6) [] dwLwC0 mixed (by kernel_rfl) (fun K hK => ?_)) | (refine CW_draw (id := 11) [] dwLwC0 mixed (by kernel_rfl) (fun K hK => ?_)))
    exact ⟨_, _, _, ⟨j + 1, rfl, rfl, rfl, by omega⟩, by exact sbe, by exact sbl, by omega⟩
  obtain rfl : j = vs'.length := by omega
  
  repeat' (first | ((first | apply RW.q1 | (apply DW.q1; exact rfl)); exact qt) | ((first | apply RW.qg | (apply DW.qg; exact rfl)); exact gvx; refine hgx tst ?_; intro hg hg'; exact qu) | refine xsg cts ?_ | (apply CW_condT; exact rfl; exact ar) | (apply CW_condF; exact rfl; exact ar) | ((first | apply RW.s1 | apply RW.s0 | (apply DW.sa; exact rfl)); exact gva) | (refine hK _ _ ?_; clear hK; refine xsg xsl ?_) | (refine xsg ahd ?_; (first | (apply gw_asg; exact rfl) | (apply gw_box; exact rfl; exact rfl; intro b) | (fail))) | (apply CW_region; intro K hK) | (apply CW_condX; exact rfl; exact tst; exact tst; all_goals (intro hq hc; try exact no)) | (refine CW_draw (id := 6) [] dwLwC0 mixed (by kernel_rfl) (fun K hK => ?_)) | (refine CW_draw (id := 11) [] dwLwC0 mixed (by kernel_rfl) (fun K hK => ?_)))
  refine CW_loop (fun m ll L => ∃ j : Nat, m = fs'.length - j ∧ ll = [(2, true, .pointer (some ⟨b2, 0, none⟩)), (3, true, .pointer (some ⟨b3, 0, none⟩)), (6, true, .int .i64 (j : Nat))] ∧
      L = [.box b2 38 [.string (bstr n), .slice va vs.length vc, .slice fa fs.length fc, .int .i64 kk], .box b3 38 [.string (bstr n), .slice va' vs'.length vc', .slice fa' fs'.length fc', .int .i64 kk]] ∧ j ≤ fs'.length)
    ⟨_, _, _, ⟨0, rfl, rfl, rfl, by omega⟩, by exact sbe, by exact sbl⟩ ?_
  rintro m ll L ⟨j, rfl, rfl, rfl, hj⟩
  by_cases hlt : j < fs'.length
  · obtain ⟨y, hy⟩ : ∃ y, fs'[j]? = some y := ⟨_, List.getElem?_eq_getElem (by omega)⟩
    obtain ⟨x, hx, hxy⟩ := map_at e3 hy
    unfold erV at hxy
    injection hxy with q1 _ _ q2
    have hxL : CT H y.u x.a x.c := q2 ▸ h4 x (List.mem_of_getElem? hx)
    have hyo : UOk H y.a y.c y.u := g4 y (List.mem_of_getElem? hy)
    have hyl : y.u.length ≤ 1048576 := hu (thV false y) (List.mem_append_right _ (List.mem_map.2 ⟨y, List.mem_of_getElem? hy, rfl⟩))
    
    repeat' (first | ((first | apply RW.q1 | (apply DW.q1; exact rfl) | ((first | apply RW.qg | (apply DW.qg; exact rfl)); exact gvx; refine hgx tst ?_; intro hg hg')); (first | (apply q_ldr; exact rfl; exact evgx; exact h2; first | exact vr_n hx (by omega) | exact vr_u' hx q2 (by omega)) | (apply q_ldr; exact rfl; exact evgx; exact g2; first | exact vr_n hy (by omega) | exact vr_u hy (by omega)) | (apply q_sbneF; exact evgx; exact evgx; exact q1) | exact qt | exact qu)) | refine xsg cts ?_ | (apply CW_condT; exact rfl; exact ar) | (apply CW_condF; exact rfl; exact ar) | ((first | apply RW.s1 | apply RW.s0 | (apply DW.sa; exact rfl)); exact gva) | (refine hK _ _ ?_; clear hK; refine xsg xsl ?_) | (refine xsg ahd ?_; (first | (apply gw_callE (f := 23); exact evx; exact go23; intro G hG; exact keptT_spec y.u x.a y.a x.c y.c G (hxL.ext hG.ext) (hyo.ext hG.ext) hyl) | (apply gw_asg; exact rfl) | (apply gw_box; exact rfl; exact rfl; intro b) | (fail))) | (apply CW_region; intro K hK) | (apply CW_condX; exact rfl; exact tst; exact tst; all_goals (intro hq hc; try exact no)) | (refine CW_draw (id := 6) [] dwLwC0 mixed (by kernel_rfl) (fun K hK => ?_)) | (refine CW_draw (id := 11) [] dwLwC0 mixed (by kernel_rfl) (fun K hK => ?_)))
    exact ⟨_, _, _, ⟨j + 1, rfl, rfl, rfl, by omega⟩, by exact sbe, by exact sbl, by omega⟩
  obtain rfl : j = fs'.length := by omega
  
  repeat' (first | ((first | apply RW.q1 | (apply DW.q1; exact rfl)); exact qt) | ((first | apply RW.qg | (apply DW.qg; exact rfl)); exact gvx; refine hgx tst ?_; intro hg hg'; exact qu) | refine xsg cts ?_ | (apply CW_condT; exact rfl; exact ar) | (apply CW_condF; exact rfl; exact ar) | ((first | apply RW.s1 | apply RW.s0 | (apply DW.sa; exact rfl)); exact gva) | (refine hK _ _ ?_; clear hK; refine xsg xsl ?_) | (refine xsg ahd ?_; (first | (apply gw_asg; exact rfl) | (apply gw_box; exact rfl; exact rfl; intro b) | (fail))) | (apply CW_region; intro K hK) | (apply CW_condX; exact rfl; exact tst; exact tst; all_goals (intro hq hc; try exact no)) | (refine CW_draw (id := 6) [] dwLwC0 mixed (by kernel_rfl) (fun K hK => ?_)) | (refine CW_draw (id := 11) [] dwLwC0 mixed (by kernel_rfl) (fun K hK => ?_)))
  (refine CW_ret ?_; refine xsg xsl ?_; refine bR [.tmp 4] [] ?_)
  exact ⟨rfl, rfl⟩
def markP : Pk := ⟨markT, none, 0, [], none, 0, []⟩
theorem mark_cells (l : List Pk) : l.flatMap pkC ++ markC = (l ++ [markP]).flatMap pkC := by
  rw [List.flatMap_append]; rfl
theorem pk_i' {l : List Pk} {k j : Nat} {x : Pk} {u : List Tx} (hx : l[k]? = some x) (hu : x.im = u) (hj : j = k * 3 + 1) : ((l.flatMap pkC).drop j).take 1 = [.slice x.ia u.length x.ic] := by
  subst hu
  exact pk_i hx hj
theorem fl_fl {l : List Fl} {k j : Nat} {x : Fl} (hx : l[k]? = some x) (hj : j = k * 4) : ((l.flatMap flC).drop j).take 4 = [.string (bstr x.n), .slice x.va x.vs.length x.vc, .slice x.fa x.fs.length x.fc, .int .i64 x.k] := by
  subst hj
  exact ix_elem (enc := flC) (i := (k : Int)) hx (by omega)
theorem kept_spec (l l2 : List Pk) (a aa : Option Addr) (c ac : Nat) (H : Hp) (h2 : Rs H 3 a (l.length + 1) c (l2.flatMap pkC ++ markC)) (hL : ∀ p, p ∈ l2 → pkL H p) (hr : Rs H 3 aa l.length ac (l.flatMap pkC)) (hp : ∀ p, p ∈ l → pkOk H p) (hS : ∀ p, p ∈ l → Small p) (he : l2.map erP = l.map erP) (hl : l.length ≤ 1048576) :
    SC Try.prog 9 [.slice a l.length c, .slice aa l.length ac] H [] (fun v M => v = .bool true ∧ M = []) := by
  rw [mark_cells] at h2
  have hll : l2.length = l.length := by simpa using congrArg List.length he
  have hm : (l2 ++ [markP])[l.length]? = some markP := by rw [← hll, List.getElem?_append_right (Nat.le_refl _), Nat.sub_self]; rfl
  have hcp : (0 : Int) ≤ (l.length : Int) + 1 ∧ (l.length : Int) + 1 ≤ c := by
    have := rs_cap h2
    omega
  have h2' := rs_take (k := l.length) h2 (by omega)
  have h2'' : Rs H 3 a (((l.length : Nat) : Int) + 1).toNat c ((l2 ++ [markP]).flatMap pkC) := h2
  (refine SC_intro Try.func9 rfl (by kernel_rfl) (by rw [Try.ntmps9]; exact Nat.le_of_ble_eq_true rfl) ?_; simp only [Try.ntmps9, argE, Nat.reduceAdd])
  
  repeat' (first | ((first | apply RW.q1 | (apply DW.q1; exact rfl)); exact qt) | ((first | apply RW.qg | (apply DW.qg; exact rfl)); exact gvx; refine hgx tst ?_; intro hg hg'; exact qu) | refine xsg cts ?_ | (apply CW_condT; exact rfl; exact ar) | (apply CW_condF; exact rfl; exact ar) | ((first | apply RW.s1 | apply RW.s0 | (apply DW.sa; exact rfl)); exact gva) | (refine hK _ _ ?_; clear hK; refine xsg xsl ?_) | (refine xsg ahd ?_; (first | (apply gw_asg; exact rfl) | (fail))) | (apply CW_region; intro K hK) | (apply CW_condX; exact rfl; exact tst; exact tst; all_goals (intro hq hc; try exact no)) | (refine CW_draw (id := 4) [] dwLwC1 mixed (by kernel_rfl) (fun K hK => ?_)) | (refine CW_draw (id := 9) [] dwLwC2 mixed (by kernel_rfl) (fun K hK => ?_)))
  refine CW_loop (fun m ll L => ∃ i : Nat, m = l.length - i ∧ ll = [(0, true, .slice a l.length c), (1, true, .slice aa l.length ac), (5, true, .int .i64 (i : Nat))] ∧ L = [] ∧ i ≤ l.length)
    ⟨_, _, _, ⟨0, rfl, rfl, rfl, by omega⟩, by exact sbe, by exact sbl⟩ ?_
  rintro m ll L ⟨i, rfl, rfl, rfl, hi⟩
  by_cases hlt : i < l.length
  · obtain ⟨y, hy⟩ : ∃ y, l[i]? = some y := ⟨_, List.getElem?_eq_getElem (by omega)⟩
    obtain ⟨x, hx0, hxy⟩ := map_at he hy
    have hx : (l2 ++ [markP])[i]? = some x := by rw [List.getElem?_append_left (by omega)]; exact hx0
    unfold erP at hxy
    injection hxy with q1 _ _ q2 _ _ q3
    obtain ⟨hxi, hxf, hxo⟩ := hL x (List.mem_of_getElem? hx0)
    obtain ⟨hyi, hyf, hyo⟩ := hp y (List.mem_of_getElem? hy)
    have hyS := hS y (List.mem_of_getElem? hy)
    have hyl := hyS.im
    have hyl2 := hyS.fl
    have hxi' : CT H y.im x.ia x.ic := q2 ▸ hxi
    have hfl : x.fl.length = y.fl.length := by simpa using congrArg List.length q3
    
    repeat' (first | ((first | apply RW.q1 | (apply DW.q1; exact rfl) | ((first | apply RW.qg | (apply DW.qg; exact rfl)); exact gvx; refine hgx tst ?_; intro hg hg')); (first | (apply q_ldr; exact rfl; exact evgx; exact h2; first | exact pk_p hx (by omega) | exact pk_i' hx q2 (by omega) | exact pk_f hx (by omega)) | (apply q_ldr; exact rfl; exact evgx; exact hr; first | exact pk_p hy (by omega) | exact pk_i hy (by omega) | exact pk_f hy (by omega)) | (apply q_sbneF; exact evgx; exact evgx; exact q1) | (apply q_cmp (op := .neq) (c := false); exact evgx; exact evgx; exact cmp_neF (by omega)) | exact qt | exact qu)) | refine xsg cts ?_ | (apply CW_condT; exact rfl; exact ar) | (apply CW_condF; exact rfl; exact ar) | ((first | apply RW.s1 | apply RW.s0 | (apply DW.sa; exact rfl)); exact gva) | (refine hK _ _ ?_; clear hK; refine xsg xsl ?_) | (refine xsg ahd ?_; (first | (apply gw_callE (f := 23); exact evx; exact go23; intro G hG; exact keptT_spec y.im x.ia y.ia x.ic y.ic G (hxi'.ext hG.ext) (hyi.ext hG.ext) hyl) | (apply gw_asg; exact rfl) | (fail))) | (apply CW_region; intro K hK) | (apply CW_condX; exact rfl; exact tst; exact tst; all_goals (intro hq hc; try exact no)) | (refine CW_draw (id := 4) [] dwLwC1 mixed (by kernel_rfl) (fun K hK => ?_)) | (refine CW_draw (id := 9) [] dwLwC2 mixed (by kernel_rfl) (fun K hK => ?_)))
    refine CW_loop (fun m ll L => ∃ k : Nat, m = y.fl.length - k ∧ ll = [(0, true, .slice a l.length c), (1, true, .slice aa l.length ac), (5, true, .int .i64 (i : Nat)), (6, true, .int .i64 (k : Nat))] ∧ L = [] ∧ k ≤ y.fl.length)
      ⟨_, _, _, ⟨0, rfl, rfl, rfl, by omega⟩, by exact sbe, by exact sbl⟩ ?_
    rintro m ll L ⟨k, rfl, rfl, rfl, hk⟩
    by_cases hkl : k < y.fl.length
    · obtain ⟨g, hgg⟩ : ∃ g, y.fl[k]? = some g := ⟨_, List.getElem?_eq_getElem (by omega)⟩
      obtain ⟨f, hff, hfg⟩ := map_at q3 hgg
      have hgm := List.mem_of_getElem? hgg
      have hfL := hxo f (List.mem_of_getElem? hff)
      have hgo := hyo g hgm
      have hgS := hyS.vs g hgm
      
      repeat' (first | ((first | apply RW.q1 | (apply DW.q1; exact rfl) | ((first | apply RW.qg | (apply DW.qg; exact rfl)); exact gvx; refine hgx tst ?_; intro hg hg')); (first | (apply q_ldr; exact rfl; exact evgx; exact h2; exact pk_f hx (by omega)) | (apply q_ldr; exact rfl; exact evgx; exact hr; exact pk_f hy (by omega)) | (apply q_lar; exact rfl; exact evgx; exact hxf; exact fl_fl hff (by omega); exact rfl; decide) | (apply q_lar; exact rfl; exact evgx; exact hyf; exact fl_fl hgg (by omega); exact rfl; decide) | exact qt | exact qu)) | refine xsg cts ?_ | (apply CW_condT; exact rfl; exact ar) | (apply CW_condF; exact rfl; exact ar) | ((first | apply RW.s1 | apply RW.s0 | (apply DW.sa; exact rfl)); exact gva) | (refine hK _ _ ?_; clear hK; refine xsg xsl ?_) | (refine xsg ahd ?_; (first | (apply gw_callE (f := 24); exact evx; exact go24; intro G hG; exact file_spec f g G (flL_ext hfL hG.ext) (flOk_ext hgo hG.ext) hfg hgS.1 hgS.2 (fun z hz => (hyS.us z (mem_allT hgm hz)).1)) | (apply gw_asg; exact rfl) | (fail))) | (apply CW_region; intro K hK) | (apply CW_condX; exact rfl; exact tst; exact tst; all_goals (intro hq hc; try exact no)) | (refine CW_draw (id := 4) [] dwLwC1 mixed (by kernel_rfl) (fun K hK => ?_)) | (refine CW_draw (id := 9) [] dwLwC2 mixed (by kernel_rfl) (fun K hK => ?_)))
      exact ⟨_, _, _, ⟨k + 1, rfl, rfl, rfl, by omega⟩, by exact sbe, by exact sbl, by omega⟩
    obtain rfl : k = y.fl.length := by omega
    
    repeat' (first | ((first | apply RW.q1 | (apply DW.q1; exact rfl) | ((first | apply RW.qg | (apply DW.qg; exact rfl)); exact gvx; refine hgx tst ?_; intro hg hg')); (first | (apply q_ldr; exact rfl; exact evgx; exact hr; exact pk_f hy (by omega)) | exact qt | exact qu)) | refine xsg cts ?_ | (apply CW_condT; exact rfl; exact ar) | (apply CW_condF; exact rfl; exact ar) | ((first | apply RW.s1 | apply RW.s0 | (apply DW.sa; exact rfl)); exact gva) | (refine hK _ _ ?_; clear hK; refine xsg xsl ?_) | (refine xsg ahd ?_; (first | (apply gw_asg; exact rfl) | (fail))) | (apply CW_region; intro K hK) | (apply CW_condX; exact rfl; exact tst; exact tst; all_goals (intro hq hc; try exact no)) | (refine CW_draw (id := 4) [] dwLwC1 mixed (by kernel_rfl) (fun K hK => ?_)) | (refine CW_draw (id := 9) [] dwLwC2 mixed (by kernel_rfl) (fun K hK => ?_)))
    exact ⟨_, _, _, ⟨i + 1, rfl, rfl, rfl, by omega⟩, by exact sbe, by exact sbl, by omega⟩
  obtain rfl : i = l.length := by omega
  
  repeat' (first | ((first | apply RW.q1 | (apply DW.q1; exact rfl) | ((first | apply RW.qg | (apply DW.qg; exact rfl)); exact gvx; refine hgx tst ?_; intro hg hg')); (first | (apply q_cmp (op := .eql) (c := true); exact evgx; exact evgx; exact cmp_eqT rfl) | (apply q_slp; exact evgx; exact evgx; exact hcp) | (apply q_ldr; exact rfl; exact evgx; exact h2; exact pk_p hm (by omega)) | (apply q_sbeqT (a := markT) (b := markT); exact evgx; exact evgx; exact rfl) | exact qt | exact qu)) | refine xsg cts ?_ | (apply CW_condT; exact rfl; exact ar) | (apply CW_condF; exact rfl; exact ar) | ((first | apply RW.s1 | apply RW.s0 | (apply DW.sa; exact rfl)); exact gva) | (refine hK _ _ ?_; clear hK; refine xsg xsl ?_) | (refine xsg ahd ?_; (first | (apply gw_asg; exact rfl) | (fail))) | (apply CW_region; intro K hK) | (apply CW_condX; exact rfl; exact tst; exact tst; all_goals (intro hq hc; try exact no)) | (refine CW_draw (id := 4) [] dwLwC1 mixed (by kernel_rfl) (fun K hK => ?_)) | (refine CW_draw (id := 9) [] dwLwC2 mixed (by kernel_rfl) (fun K hK => ?_)))
  (refine CW_ret ?_; refine xsg xsl ?_; refine bR [.tmp 4] [] ?_)
  exact ⟨rfl, rfl⟩
end Go.Proofs.Ytkhmimlgkjenfaa.HL
