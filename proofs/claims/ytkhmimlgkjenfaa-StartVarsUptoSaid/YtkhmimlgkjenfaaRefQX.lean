/- RefQ: RfF: the document's net of a package's things. Conditions: lengths; single names, none with a point. RfG: the document's steps: the distances to one of them. Conditions: lengths. RfH: the document's round: the first telling of the shortest cycle from a place on. Conditions: lengths; single names. RfI: the document's first and cycle. Conditions: lengths; single names. -/
import Derived.Test.YtkhmimlgkjenfaaEngX
import Derived.Test.YtkhmimlgkjenfaaRefPX
import Derived.Test.YtkhmimlgkjenfaaWalkDX
import Derived.Test.YtkhmimlgkjenfaaWalkEX
namespace Go.Proofs.Ytkhmimlgkjenfaa.HL
open Go
attribute [local irreducible] goFn thenS blockS bodyS CW RW DW GW QW NW SC Pick Picks SubL Rd NN ResOk SrcW subE hops hseg AW hgen HC qv bldv
set_option maxHeartbeats 8000000
set_option maxRecDepth 100000
set_option linter.unusedVariables false
set_option linter.unusedSimpArgs false

abbrev dwRfF0 : List (Nat × Bool) := [(0, false), (1, false), (2, false), (3, false), (4, false), (5, false), (6, false), (7, false), (8, false), (9, false), (10, false), (11, true), (12, true)]
structure Nd where
  n : Tx
  v : Bool
  r : Rw
def ndC (x : Nd) : List Value := [.string (bstr x.n), .bool x.v, .slice x.r.a x.r.l.length x.r.c]
instance : Enc ndC 3 := ⟨fun _ => rfl⟩
theorem nd_n {l : List Nd} {k j : Nat} {x : Nd} (hx : l[k]? = some x) (hj : j = k * 3) : ((l.flatMap ndC).drop j).take 1 = [.string (bstr x.n)] := by
  subst hj
  exact ix_fld (enc := ndC) (off := 0) (n := 1) (i := (k : Int)) hx (by omega) (by omega)
theorem nd_v {l : List Nd} {k j : Nat} {x : Nd} (hx : l[k]? = some x) (hj : j = k * 3 + 1) : ((l.flatMap ndC).drop j).take 1 = [.bool x.v] := by
  subst hj
  exact ix_fld (enc := ndC) (off := 1) (n := 1) (i := (k : Int)) hx (by omega) (by omega)
theorem nd_r {l : List Nd} {k j : Nat} {x : Nd} (hx : l[k]? = some x) (hj : j = k * 3 + 2) : ((l.flatMap ndC).drop j).take 1 = [.slice x.r.a x.r.l.length x.r.c] := by
  subst hj
  exact ix_fld (enc := ndC) (off := 2) (n := 1) (i := (k : Int)) hx (by omega) (by omega)
def NdsAt (t : List Th) (nds : List Nd) : Prop := ∀ (i : Nat) (d : Nd) (x : Th), nds[i]? = some d → t[i]? = some x → d.n = x.n ∧ d.v = x.v ∧ RowOk t x.u d.r.l ∧ d.r.l.length ≤ x.u.length
structure NdIn (H : Hp) (t : List Th) (nds : List Nd) (a : Option Addr) (c : Nat) : Prop where
  hn : Rs H 3 a t.length c (nds.flatMap ndC)
  ho : ∀ d, d ∈ nds → rwOk H d.r
  hl : nds.length = t.length
  hk : NdsAt t nds
theorem NdIn.ext {H G : Hp} {t : List Th} {nds : List Nd} {a : Option Addr} {c : Nat} (h : NdIn H t nds a c) (hx : Ext H G) : NdIn G t nds a c := ⟨h.hn.ext hx, fun d hd => (h.ho d hd).ext hx, h.hl, h.hk⟩
theorem nds_rows {t : List Th} {nds : List Nd} (hl : nds.length = t.length) (hk : NdsAt t nds) : NetRows t (nds.map Nd.r) := by
  refine ⟨by rw [List.length_map, hl], fun i r x hr hx => ?_⟩
  rw [List.getElem?_map] at hr
  obtain ⟨d, hd, rfl⟩ := Option.map_eq_some_iff.1 hr
  exact (hk i d x hd hx).2.2
theorem at_hit (t : List Th) (c : Nat) (a : Option Addr) (s : Tx) (k : Nat) (y : Th) (H : Hp) (hr : Rs H 3 a t.length c (t.flatMap thC)) (hl : t.length ≤ 1099511627776) (hd : (t.map Th.n).Nodup) (hk : t[k]? = some y) (hn : y.n = s) :
    SC Try.prog 46 [.slice a t.length c, .string (bstr s)] H [] (fun v M => v = .int .i64 ((k : Nat) : Int) ∧ M = []) :=
  SC.mono (rAt_spec t c a s H hr hl) fun v M ⟨i, h1, h2, h3⟩ => by
    rcases h1 with ⟨_, h4⟩ | ⟨j, x, h4, h5, h6, _⟩
    · exact absurd hn (h4 k y hk)
    · obtain ⟨rfl, _⟩ := get_one hd h5 hk (h6.trans hn.symm)
      exact ⟨by rw [h2, h4], h3⟩
theorem at_miss (t : List Th) (c : Nat) (a : Option Addr) (s : Tx) (H : Hp) (hr : Rs H 3 a t.length c (t.flatMap thC)) (hl : t.length ≤ 1099511627776) (hn : s ∉ t.map Th.n) :
    SC Try.prog 46 [.slice a t.length c, .string (bstr s)] H [] (fun v M => v = .int .i64 (-1) ∧ M = []) :=
  SC.mono (rAt_spec t c a s H hr hl) fun v M ⟨i, h1, h2, h3⟩ => by
    rcases h1 with ⟨h4, _⟩ | ⟨j, x, h4, h5, h6, _⟩
    · exact ⟨by rw [h2, h4], h3⟩
    · exact absurd (List.mem_map.2 ⟨x, List.mem_of_getElem? h5, h6⟩) hn
theorem nds_snoc (nds : List Nd) (x : Tx) (v : Bool) (a : Option Addr) (c : Nat) (l : List Nat) : nds.flatMap ndC ++ [.string (bstr x), .bool v, .slice a l.length c] = (nds ++ [(⟨x, v, ⟨a, c, l⟩⟩ : Nd)]).flatMap ndC := by
  rw [List.flatMap_append]; rfl
theorem rLeads_spec (t : List Th) (ta : Option Addr) (tc : Nat) (H : Hp) (hr : Rs H 3 ta t.length tc (t.flatMap thC)) (hok : ∀ x, x ∈ t → thOk H x) (hd : (t.map Th.n).Nodup) (hw : ∀ x, x ∈ t → lastPt x.n = none) (hl : t.length ≤ 1048576) (hu : ∀ x, x ∈ t → x.u.length ≤ 1048576 ∧ ∀ s, s ∈ x.u → s.length ≤ 1048576) :
    SC Try.prog 20 [.slice ta t.length tc] H [] (fun v M => ∃ nds a c L', v = .slice a t.length c ∧ M = .own 86 3 a t.length c (nds.flatMap ndC) :: L' ∧ RowsIn L' (nds.map Nd.r) ∧ nds.length = t.length ∧ NdsAt t nds) := by
  (refine SC_intro Try.func20 rfl (by kernel_rfl) (by rw [Try.ntmps20]; exact Nat.le_of_ble_eq_true rfl) ?_; simp only [Try.ntmps20, argE, Nat.reduceAdd])
  
  repeat' (first | ((first | apply RW.q1 | (apply DW.q1; exact rfl) | ((first | apply RW.qg | (apply DW.qg; exact rfl)); exact gvx; refine hgx tst ?_; intro hg hg')); (first | (apply q_bld; exact rfl; first | exact bld86_0_1 _ _) | exact qt | exact qu)) | refine xsg cts ?_ | (apply CW_condT; exact rfl; exact ar) | (apply CW_condF; exact rfl; exact ar) | ((first | apply RW.s1 | apply RW.s0 | (apply DW.sa; exact rfl)); exact gva) | (refine hK _ _ ?_; clear hK; refine xsg xsl ?_) | (refine xsg ahd ?_; (first | (apply gw_asg; exact rfl) | ((first | apply gw_alloc | apply gx_alloc); exact rfl; intro b) | (apply gw_lit1; exact rfl; exact rfl; exact rfl; exact rfl; decide; intro b) | (apply gw_lit2; exact rfl; exact rfl; exact rfl; exact rfl; intro b) | (apply gw_lit3; exact rfl; exact rfl; exact rfl; exact rfl; exact rfl; intro b) | (apply gw_ap1; exact rfl; exact rfl; infer_instance; infer_instance; exact rfl; exact rfl; exact rfl; exact rfl; omega; intro a c) | (apply gw_ap1n; exact rfl; exact rfl; infer_instance; exact rfl; exact rfl; exact rfl; exact rfl; omega; intro a c) | (refine gw_stx sto ?_) | (fail))) | (apply CW_region; intro K hK) | (apply CW_condX; exact rfl; exact tst; exact tst; all_goals (intro hq hc; try exact no)) | (refine CW_draw (id := 5) [11] dwRfF0 mixed (by kernel_rfl) (fun K hK => ?_)))
  refine CW_loop (fun m ll L => ∃ (i n c : Nat) (a : Option Addr) (nds : List Nd) (cs : List Value) (L' : List Res), m = t.length - i ∧ ll = [(0, true, .slice ta t.length tc), (3, true, .slice a n c), (4, true, .int .i64 (i : Nat))] ∧
      L = .own 86 3 a n c cs :: L' ∧ i ≤ t.length ∧ n = i ∧ cs = nds.flatMap ndC ∧ nds.length = i ∧ RowsIn L' (nds.map Nd.r) ∧ NdsAt t nds)
    ⟨_, _, _, ⟨0, 0, 0, none, [], [], [], rfl, rfl, rfl, by omega, rfl, rfl, rfl, rows_nil, fun i d x h => by simp at h⟩, by exact sbe, sblt⟩ ?_
  rintro m ll L ⟨i, n, c, a, nds, cs, L', rfl, rfl, rfl, hi, hn, hcs, hnl, hL', hat⟩
  by_cases hlt : i < t.length
  · obtain ⟨x, hx⟩ : ∃ x, t[i]? = some x := ⟨_, List.getElem?_eq_getElem (by omega)⟩
    have hxm := List.mem_of_getElem? hx
    have hxo : Rs H 1 x.a x.u.length x.c (txs x.u) := hok x hxm
    have hxu := hu x hxm
    
    repeat' (first | ((first | apply RW.q1 | (apply DW.q1; exact rfl) | ((first | apply RW.qg | (apply DW.qg; exact rfl)); exact gvx; refine hgx tst ?_; intro hg hg')); (first | (apply q_ldr; exact rfl; exact evgx; exact hr; first | exact th_n hx (by omega) | exact th_v' hx (by omega) | exact th_u hx (by omega)) | (apply q_bld; exact rfl; first | exact bld86_0_1 _ _) | exact qt | exact qu)) | refine xsg cts ?_ | (apply CW_condT; exact rfl; exact ar) | (apply CW_condF; exact rfl; exact ar) | ((first | apply RW.s1 | apply RW.s0 | (apply DW.sa; exact rfl)); exact gva) | (refine hK _ _ ?_; clear hK; refine xsg xsl ?_) | (refine xsg ahd ?_; (first | ((first | apply gw_alloc (d := some 5) | apply gx_alloc (d := some 5)); exact rfl; intro b5) | (apply gx_alloc (d := some 5); exact rfl; intro b5) | (apply gw_asg; exact rfl) | ((first | apply gw_alloc | apply gx_alloc); exact rfl; intro b) | (apply gw_lit1; exact rfl; exact rfl; exact rfl; exact rfl; decide; intro b) | (apply gw_lit2; exact rfl; exact rfl; exact rfl; exact rfl; intro b) | (apply gw_lit3; exact rfl; exact rfl; exact rfl; exact rfl; exact rfl; intro b) | (apply gw_ap1; exact rfl; exact rfl; infer_instance; infer_instance; exact rfl; exact rfl; exact rfl; exact rfl; omega; intro a c) | (apply gw_ap1n; exact rfl; exact rfl; infer_instance; exact rfl; exact rfl; exact rfl; exact rfl; omega; intro a c) | (refine gw_stx sto ?_) | (fail))) | (apply CW_region; intro K hK) | (apply CW_condX; exact rfl; exact tst; exact tst; all_goals (intro hq hc; try exact no)) | (refine CW_draw (id := 5) [11] dwRfF0 mixed (by kernel_rfl) (fun K hK => ?_)))
    refine CW_loop (fun m ll L => ∃ (q nr rc : Nat) (ra : Option Addr) (r : List Nat) (rs : List Value), m = x.u.length - q ∧ ll = [(0, true, .slice ta t.length tc), (3, true, .slice a n c), (4, true, .int .i64 (i : Nat)), (5, true, .pointer (some ⟨b5, 0, none⟩)), (6, true, .int .i64 (q : Nat))] ∧
        L = .box b5 86 [.string (bstr x.n), .bool x.v, .slice ra nr rc] :: .own 3 1 ra nr rc rs :: .own 86 3 a n c cs :: L' ∧ q ≤ x.u.length ∧ nr = r.length ∧ nr ≤ q ∧ rs = nums r ∧ RowOk t (x.u.take q) r)
      ⟨_, _, _, ⟨0, 0, 0, none, [], [], rfl, rfl, rfl, by omega, rfl, by omega, rfl, row_nil t⟩, by exact sbe, sblt⟩ ?_
    rintro m ll L ⟨q, nr, rc, ra, r, rs, rfl, rfl, rfl, hq1, hnr, hnq, hrs, hrow⟩
    subst hrs
    by_cases hql : q < x.u.length
    · obtain ⟨s, hs⟩ : ∃ s, x.u[q]? = some s := ⟨_, List.getElem?_eq_getElem hql⟩
      have hsl := hxu.2 s (List.mem_of_getElem? hs)
      have ht1 := take_snoc' hs
      by_cases hin : s ∈ t.map Th.n
      · obtain ⟨y, hym, hyn⟩ := List.mem_map.1 hin
        obtain ⟨j, hj⟩ := List.mem_iff_getElem?.1 hym
        have hjl := (List.getElem?_eq_some_iff.1 hj).1
        have hpt : ptV s = -1 := by unfold ptV; rw [← hyn, hw y hym]
        
        repeat' (first | ((first | apply RW.q1 | (apply DW.q1; exact rfl) | ((first | apply RW.qg | (apply DW.qg; exact rfl)); exact gvx; refine hgx tst ?_; intro hg hg')); (first | (apply q_ldr; exact rfl; exact evgx; exact hr; exact th_u hx (by omega)) | (apply q_ldr; exact rfl; exact evgx; exact hxo; exact txs_at hs (by omega)) | (apply q_bld; exact rfl; first | exact bld86_0_1 _ _) | exact qt | exact qu)) | refine xsg cts ?_ | (apply CW_condT; exact rfl; exact ar) | (apply CW_condF; exact rfl; exact ar) | ((first | apply RW.s1 | apply RW.s0 | (apply DW.sa; exact rfl)); exact gva) | (refine hK _ _ ?_; clear hK; refine xsg xsl ?_) | (refine xsg ahd ?_; (first | ((first | apply gw_callE (f := 46) | apply gx_callE (f := 46)); exact evx; exact go46; intro G hG; exact at_hit t tc ta s j y G (hr.ext hG.ext) (by omega) hd hj hyn) | ((first | apply gw_callE (f := 47) | apply gx_callE (f := 47)); exact evx; exact go47; intro G hG; exact rPoint_spec s G (by omega); rw [hpt]) | (apply gw_asg; exact rfl) | ((first | apply gw_alloc | apply gx_alloc); exact rfl; intro b) | (apply gw_lit1; exact rfl; exact rfl; exact rfl; exact rfl; decide; intro b) | (apply gw_lit2; exact rfl; exact rfl; exact rfl; exact rfl; intro b) | (apply gw_lit3; exact rfl; exact rfl; exact rfl; exact rfl; exact rfl; intro b) | (apply gw_ap1; exact rfl; exact rfl; infer_instance; infer_instance; exact rfl; exact rfl; exact rfl; exact rfl; omega; intro a c) | (apply gw_ap1n; exact rfl; exact rfl; infer_instance; exact rfl; exact rfl; exact rfl; exact rfl; omega; intro a c) | (refine gw_stx sto ?_) | (fail))) | (apply CW_region; intro K hK) | (apply CW_condX; exact rfl; exact tst; exact tst; all_goals (intro hq hc; try exact no)) | (refine CW_draw (id := 5) [11] dwRfF0 mixed (by kernel_rfl) (fun K hK => ?_)))
        exact ⟨_, _, _, ⟨q + 1, nr + 1, _, _, r ++ [j], nums r ++ [.int .i64 ((j : Nat) : Int)], rfl, rfl, rfl, by omega, by rw [List.length_append]; exact congrArg (· + 1) hnr, by omega, nums_snoc r j, by rw [ht1]; exact row_hit hrow hd hj hyn⟩, by exact sbe, sblt, by omega⟩
      · by_cases hpt : ptV s < 0
        · 
          repeat' (first | ((first | apply RW.q1 | (apply DW.q1; exact rfl) | ((first | apply RW.qg | (apply DW.qg; exact rfl)); exact gvx; refine hgx tst ?_; intro hg hg')); (first | (apply q_ldr; exact rfl; exact evgx; exact hr; exact th_u hx (by omega)) | (apply q_ldr; exact rfl; exact evgx; exact hxo; exact txs_at hs (by omega)) | (apply q_bld; exact rfl; first | exact bld86_0_1 _ _) | exact qt | exact qu)) | refine xsg cts ?_ | (apply CW_condT; exact rfl; exact ar) | (apply CW_condF; exact rfl; exact ar) | ((first | apply RW.s1 | apply RW.s0 | (apply DW.sa; exact rfl)); exact gva) | (refine hK _ _ ?_; clear hK; refine xsg xsl ?_) | (refine xsg ahd ?_; (first | ((first | apply gw_callE (f := 46) | apply gx_callE (f := 46)); exact evx; exact go46; intro G hG; exact at_miss t tc ta s G (hr.ext hG.ext) (by omega) hin) | ((first | apply gw_callE (f := 47) | apply gx_callE (f := 47)); exact evx; exact go47; intro G hG; exact rPoint_spec s G (by omega)) | (apply gw_asg; exact rfl) | ((first | apply gw_alloc | apply gx_alloc); exact rfl; intro b) | (apply gw_lit1; exact rfl; exact rfl; exact rfl; exact rfl; decide; intro b) | (apply gw_lit2; exact rfl; exact rfl; exact rfl; exact rfl; intro b) | (apply gw_lit3; exact rfl; exact rfl; exact rfl; exact rfl; exact rfl; intro b) | (apply gw_ap1; exact rfl; exact rfl; infer_instance; infer_instance; exact rfl; exact rfl; exact rfl; exact rfl; omega; intro a c) | (apply gw_ap1n; exact rfl; exact rfl; infer_instance; exact rfl; exact rfl; exact rfl; exact rfl; omega; intro a c) | (refine gw_stx sto ?_) | (fail))) | (apply CW_region; intro K hK) | (apply CW_condX; exact rfl; exact tst; exact tst; all_goals (intro hq hc; try exact no)) | (refine CW_draw (id := 5) [11] dwRfF0 mixed (by kernel_rfl) (fun K hK => ?_)))
          exact ⟨_, _, _, ⟨q + 1, nr, rc, ra, r, _, rfl, rfl, rfl, by omega, hnr, by omega, rfl, by rw [ht1]; exact row_miss hrow hin⟩, by exact sbe, sblt, by omega⟩
        · 
          repeat' (first | ((first | apply RW.q1 | (apply DW.q1; exact rfl) | ((first | apply RW.qg | (apply DW.qg; exact rfl)); exact gvx; refine hgx tst ?_; intro hg hg')); (first | (apply q_ldr; exact rfl; exact evgx; exact hr; exact th_u hx (by omega)) | (apply q_ldr; exact rfl; exact evgx; exact hxo; exact txs_at hs (by omega)) | (apply q_bld; exact rfl; first | exact bld86_0_1 _ _) | exact qt | exact qu)) | refine xsg cts ?_ | (apply CW_condT; exact rfl; exact ar) | (apply CW_condF; exact rfl; exact ar) | ((first | apply RW.s1 | apply RW.s0 | (apply DW.sa; exact rfl)); exact gva) | (refine hK _ _ ?_; clear hK; refine xsg xsl ?_) | (refine xsg ahd ?_; (first | ((first | apply gw_callE (f := 46) | apply gx_callE (f := 46)); exact evx; exact go46; intro G hG; exact at_miss t tc ta s G (hr.ext hG.ext) (by omega) hin) | ((first | apply gw_callE (f := 47) | apply gx_callE (f := 47)); exact evx; exact go47; intro G hG; exact rPoint_spec s G (by omega)) | (apply gw_asg; exact rfl) | ((first | apply gw_alloc | apply gx_alloc); exact rfl; intro b) | (apply gw_lit1; exact rfl; exact rfl; exact rfl; exact rfl; decide; intro b) | (apply gw_lit2; exact rfl; exact rfl; exact rfl; exact rfl; intro b) | (apply gw_lit3; exact rfl; exact rfl; exact rfl; exact rfl; exact rfl; intro b) | (apply gw_ap1; exact rfl; exact rfl; infer_instance; infer_instance; exact rfl; exact rfl; exact rfl; exact rfl; omega; intro a c) | (apply gw_ap1n; exact rfl; exact rfl; infer_instance; exact rfl; exact rfl; exact rfl; exact rfl; omega; intro a c) | (refine gw_stx sto ?_) | (fail))) | (apply CW_region; intro K hK) | (apply CW_condX; exact rfl; exact tst; exact tst; all_goals (intro hq hc; try exact no)) | (refine CW_draw (id := 5) [11] dwRfF0 mixed (by kernel_rfl) (fun K hK => ?_)))
          exact ⟨_, _, _, ⟨q + 1, nr, rc, ra, r, _, rfl, rfl, rfl, by omega, hnr, by omega, rfl, by rw [ht1]; exact row_miss hrow hin⟩, by exact sbe, sblt, by omega⟩
    obtain rfl : q = x.u.length := by omega
    rw [List.take_length] at hrow
    subst hnr
    have e2 := nds_snoc nds x.n x.v ra rc r
    rw [← hcs] at e2
    
    repeat' (first | ((first | apply RW.q1 | (apply DW.q1; exact rfl) | ((first | apply RW.qg | (apply DW.qg; exact rfl)); exact gvx; refine hgx tst ?_; intro hg hg')); (first | (apply q_ldr; exact rfl; exact evgx; exact hr; exact th_u hx (by omega)) | (apply q_bld; exact rfl; first | exact bld86_0_1 _ _) | exact qt | exact qu)) | refine xsg cts ?_ | (apply CW_condT; exact rfl; exact ar) | (apply CW_condF; exact rfl; exact ar) | ((first | apply RW.s1 | apply RW.s0 | (apply DW.sa; exact rfl)); exact gva) | (refine hK _ _ ?_; clear hK; refine xsg xsl ?_) | (refine xsg ahd ?_; (first | (apply gw_asg; exact rfl) | ((first | apply gw_alloc | apply gx_alloc); exact rfl; intro b) | (apply gw_lit1; exact rfl; exact rfl; exact rfl; exact rfl; decide; intro b) | (apply gw_lit2; exact rfl; exact rfl; exact rfl; exact rfl; intro b) | (apply gw_lit3; exact rfl; exact rfl; exact rfl; exact rfl; exact rfl; intro b) | (apply gw_ap1; exact rfl; exact rfl; infer_instance; infer_instance; exact rfl; exact rfl; exact rfl; exact rfl; omega; intro a c) | (apply gw_ap1n; exact rfl; exact rfl; infer_instance; exact rfl; exact rfl; exact rfl; exact rfl; omega; intro a c) | (refine gw_stx sto ?_) | (fail))) | (apply CW_region; intro K hK) | (apply CW_condX; exact rfl; exact tst; exact tst; all_goals (intro hq hc; try exact no)) | (refine CW_draw (id := 5) [11] dwRfF0 mixed (by kernel_rfl) (fun K hK => ?_)))
    refine ⟨_, _, _, ⟨i + 1, n + 1, _, _, nds ++ [⟨x.n, x.v, ⟨ra, rc, r⟩⟩], _, .own 3 1 ra r.length rc (nums r) :: L', rfl, rfl, rfl, by omega, by omega, e2, by rw [List.length_append]; exact congrArg (· + 1) hnl, by rw [List.map_append]; exact rows_snoc ⟨ra, rc, r⟩ hL', fun j d' x' hj hx' => ?_⟩, by exact sbe, sblt, by omega⟩
    rcases Nat.lt_or_ge j nds.length with h | h
    · rw [List.getElem?_append_left h] at hj
      exact hat j d' x' hj hx'
    · rw [List.getElem?_append_right h] at hj
      have hj0 : j - nds.length = 0 := by
        have := (List.getElem?_eq_some_iff.1 hj).1
        simpa using this
      rw [hj0] at hj
      cases hj
      obtain rfl : j = i := by omega
      rw [hx] at hx'
      cases hx'
      exact ⟨rfl, rfl, hrow, hnq⟩
  obtain rfl : i = t.length := by omega
  subst hn
  subst hcs
  
  repeat' (first | ((first | apply RW.q1 | (apply DW.q1; exact rfl) | ((first | apply RW.qg | (apply DW.qg; exact rfl)); exact gvx; refine hgx tst ?_; intro hg hg')); (first | (apply q_bld; exact rfl; first | exact bld86_0_1 _ _) | exact qt | exact qu)) | refine xsg cts ?_ | (apply CW_condT; exact rfl; exact ar) | (apply CW_condF; exact rfl; exact ar) | ((first | apply RW.s1 | apply RW.s0 | (apply DW.sa; exact rfl)); exact gva) | (refine hK _ _ ?_; clear hK; refine xsg xsl ?_) | (refine xsg ahd ?_; (first | (apply gw_asg; exact rfl) | ((first | apply gw_alloc | apply gx_alloc); exact rfl; intro b) | (apply gw_lit1; exact rfl; exact rfl; exact rfl; exact rfl; decide; intro b) | (apply gw_lit2; exact rfl; exact rfl; exact rfl; exact rfl; intro b) | (apply gw_lit3; exact rfl; exact rfl; exact rfl; exact rfl; exact rfl; intro b) | (apply gw_ap1; exact rfl; exact rfl; infer_instance; infer_instance; exact rfl; exact rfl; exact rfl; exact rfl; omega; intro a c) | (apply gw_ap1n; exact rfl; exact rfl; infer_instance; exact rfl; exact rfl; exact rfl; exact rfl; omega; intro a c) | (refine gw_stx sto ?_) | (fail))) | (apply CW_region; intro K hK) | (apply CW_condX; exact rfl; exact tst; exact tst; all_goals (intro hq hc; try exact no)) | (refine CW_draw (id := 5) [11] dwRfF0 mixed (by kernel_rfl) (fun K hK => ?_)))
  (refine CW_ret ?_; refine xsg xsl ?_; refine bR [.tmp 2] (.own 86 3 a t.length c (nds.flatMap ndC) :: L') ?_)
  exact ⟨nds, a, c, L', rfl, rfl, hL', hnl, hat⟩
end Go.Proofs.Ytkhmimlgkjenfaa.HL
namespace Go.Proofs.Ytkhmimlgkjenfaa.HL
open Go
attribute [local irreducible] goFn thenS blockS bodyS CW RW DW GW QW NW SC Pick Picks SubL Rd NN ResOk SrcW subE hops hseg AW hgen HC qv bldv
set_option maxHeartbeats 8000000
set_option maxRecDepth 100000
set_option linter.unusedVariables false
set_option linter.unusedSimpArgs false

def StP (next : List (List Nat)) (goal n i : Nat) (d : List Int) : Prop := d.length = next.length ∧ ∀ (x : Nat) (v : Int), d[x]? = some v →
  (∃ m : Nat, v = (m : Int) + 1 ∧ Dist (Nx next) (m + 1) x goal ∧ (m + 1 < n ∨ (m + 1 = n ∧ x < i))) ∨ (v = -1 ∧ ∀ m, Dist (Nx next) m x goal → n ≤ m ∧ (x < i → n < m))
def CondN (next : List (List Nat)) (goal n k : Nat) : Prop := (n = 1 ∧ k = goal) ∨ (1 < n ∧ Dist (Nx next) (n - 1) k goal)
section
variable {next : List (List Nat)} {goal n i k : Nat} {d : List Int}
theorem cond_dist (hno : ∀ m, Dist (Nx next) m i goal → n ≤ m) (he : Nx next i k) (hc : CondN next goal n k) : Dist (Nx next) n i goal := by
  have hw : Walk (Nx next) n i goal := by
    rcases hc with ⟨rfl, rfl⟩ | ⟨h1, h2⟩
    · exact .one he
    · have := Walk.step he h2.1
      rwa [show n - 1 + 1 = n by omega] at this
  refine ⟨hw, fun m hm => ?_⟩
  obtain ⟨m', h1, h2⟩ := hm.dist
  have := hno m' h2
  omega
theorem dist_cond (h : Dist (Nx next) n i goal) : ∃ k, Nx next i k ∧ CondN next goal n k := by
  have hp := h.1.pos
  obtain ⟨q, rfl⟩ : ∃ q, n = q + 1 := ⟨n - 1, by omega⟩
  cases q with
  | zero =>
    rcases h.1.cut with ⟨_, e⟩ | ⟨j, b, h1, _, h3⟩
    · exact ⟨goal, e, .inl ⟨rfl, rfl⟩⟩
    · have := h3.pos; omega
  | succ q =>
    obtain ⟨b, h1, h2⟩ := dist_near h
    exact ⟨b, h1, .inr ⟨by omega, h2⟩⟩
theorem st_init : StP next goal 1 0 (List.replicate next.length (-1)) := ⟨List.length_replicate, fun x v h => by
  rw [List.getElem?_replicate] at h
  split at h
  · cases h
    exact .inr ⟨rfl, fun m hm => ⟨hm.1.pos, fun hx => absurd hx (by omega)⟩⟩
  · cases h⟩
theorem st_round (h : StP next goal n next.length d) : StP next goal (n + 1) 0 d := ⟨h.1, fun x v hv => by
  have hx : x < next.length := by rw [← h.1]; exact (List.getElem?_eq_some_iff.1 hv).1
  rcases h.2 x v hv with ⟨m, h1, h2, h3⟩ | ⟨h1, h2⟩
  · exact .inl ⟨m, h1, h2, .inl (by omega)⟩
  · exact .inr ⟨h1, fun m hm => ⟨by have := (h2 m hm).2 hx; omega, fun hx => absurd hx (by omega)⟩⟩⟩
theorem st_end (h : StP next goal (next.length + 1) 0 d) : FarD next goal d := ⟨h.1, fun x v hv => by
  rcases h.2 x v hv with ⟨m, h1, h2, _⟩ | ⟨h1, h2⟩
  · exact .inr ⟨m + 1, by rw [h1]; rfl, h2⟩
  · refine .inl ⟨h1, fun m hm => ?_⟩
    obtain ⟨m', _, h3⟩ := hm.dist
    have h4 := (h2 m' h3).1
    have h5 := h3.1.pos
    obtain ⟨q, rfl⟩ : ∃ q, m' = q + 1 := ⟨m' - 1, by omega⟩
    have := dist_le h3
    omega⟩
theorem st_had (h : StP next goal n i d) {v : Int} (hv : d[i]? = some v) (h0 : ¬ v < 0) : StP next goal n (i + 1) d := ⟨h.1, fun x w hw => by
  rcases h.2 x w hw with ⟨m, h1, h2, h3⟩ | ⟨h1, h2⟩
  · exact .inl ⟨m, h1, h2, by omega⟩
  · refine .inr ⟨h1, fun m hm => ⟨(h2 m hm).1, fun hx => ?_⟩⟩
    by_cases hxi : x = i
    · subst hxi
      rw [hw] at hv; cases hv
      omega
    · exact (h2 m hm).2 (by omega)⟩
theorem st_none (h : StP next goal n i d) {v : Int} (hv : d[i]? = some v) (h0 : v < 0) (hn : ∀ k, Nx next i k → ¬ CondN next goal n k) : StP next goal n (i + 1) d := ⟨h.1, fun x w hw => by
  rcases h.2 x w hw with ⟨m, h1, h2, h3⟩ | ⟨h1, h2⟩
  · exact .inl ⟨m, h1, h2, by omega⟩
  · refine .inr ⟨h1, fun m hm => ⟨(h2 m hm).1, fun hx => ?_⟩⟩
    by_cases hxi : x = i
    · subst hxi
      have h3 := (h2 m hm).1
      by_cases hmn : m = n
      · subst hmn
        obtain ⟨k, h4, h5⟩ := dist_cond hm
        exact absurd h5 (hn k h4)
      · omega
    · exact (h2 m hm).2 (by omega)⟩
theorem st_set (h : StP next goal n i d) {v : Int} (hv : d[i]? = some v) (hD : Dist (Nx next) n i goal) : StP next goal n (i + 1) (d.set i (n : Int)) := ⟨by rw [List.length_set]; exact h.1, fun x w hw => by
  have hil := (List.getElem?_eq_some_iff.1 hv).1
  have hp := hD.1.pos
  by_cases hxi : x = i
  · subst hxi
    rw [List.getElem?_set_self hil] at hw
    cases hw
    obtain ⟨q, rfl⟩ : ∃ q, n = q + 1 := ⟨n - 1, by omega⟩
    exact .inl ⟨q, rfl, hD, .inr ⟨rfl, by omega⟩⟩
  · rw [List.getElem?_set_ne (fun e => hxi e.symm)] at hw
    rcases h.2 x w hw with ⟨m, h1, h2, h3⟩ | ⟨h1, h2⟩
    · exact .inl ⟨m, h1, h2, by omega⟩
    · exact .inr ⟨h1, fun m hm => ⟨(h2 m hm).1, fun hx => (h2 m hm).2 (by omega)⟩⟩⟩
theorem st_val (h : StP next goal n i d) {w : Int} (hw : d[k]? = some w) (hn : 1 < n) (hk : k ≠ i ∨ w < 0) : CondN next goal n k ↔ w = (n : Int) - 1 := by
  constructor
  · rintro (⟨h1, _⟩ | ⟨_, h2⟩)
    · omega
    · rcases h.2 k w hw with ⟨m, h3, h4, _⟩ | ⟨_, h4⟩
      · have := h2.same h4
        omega
      · have := (h4 _ h2).1
        omega
  · intro e
    rcases h.2 k w hw with ⟨m, h3, h4, _⟩ | ⟨h3, _⟩
    · refine .inr ⟨hn, ?_⟩
      rwa [show m + 1 = n - 1 by omega] at h4
    · omega
theorem st_no (h : StP next goal n i d) {v : Int} (hv : d[i]? = some v) (h0 : v < 0) : ∀ m, Dist (Nx next) m i goal → n ≤ m := fun m hm => by
  rcases h.2 i v hv with ⟨m', h1, _⟩ | ⟨_, h2⟩
  · omega
  · exact (h2 m hm).1
theorem st_le (h : StP next goal n i d) {v : Int} (hv : d[k]? = some v) : -1 ≤ v ∧ v ≤ next.length := by
  rcases h.2 k v hv with ⟨m, h1, h2, _⟩ | ⟨h1, _⟩
  · have := dist_le h2
    omega
  · omega
end
theorem rSteps_spec (t : List Th) (nds : List Nd) (a0 : Option Addr) (c0 goal : Nat) (H : Hp) (hN : NdIn H t nds a0 c0) (hl : t.length ≤ 1048576) (hu : ∀ x, x ∈ t → x.u.length ≤ 1048576) (hg0 : goal < t.length) :
    SC Try.prog 68 [.slice a0 t.length c0, .int .i64 (goal : Nat)] H [] (fun v M => ∃ d a c, FarD ((nds.map Nd.r).map Rw.l) goal d ∧ v = .slice a t.length c ∧ M = [.own 3 1 a t.length c (ints d)]) := by
  obtain ⟨hn, ho, hnl, hk⟩ := hN
  have hNR := nds_rows hnl hk
  have hNet := hNR.net
  have hxl : ((nds.map Nd.r).map Rw.l).length = t.length := by rw [List.length_map, List.length_map]; exact hnl
  obtain ⟨next, hnext⟩ : ∃ next, next = (nds.map Nd.r).map Rw.l := ⟨_, rfl⟩
  rw [← hnext] at hNet hxl ⊢
  (refine SC_intro Try.func68 rfl (by kernel_rfl) (by rw [Try.ntmps68]; exact Nat.le_of_ble_eq_true rfl) ?_; simp only [Try.ntmps68, argE, Nat.reduceAdd])
  
  repeat' (first | (apply RW.q1; exact qt) | (apply RW.qg; exact gvx; refine hgx tst ?_; intro hg hg'; exact qu) | refine xsg cts ?_ | (apply CW_condT; exact rfl; exact ar) | (apply CW_condF; exact rfl; exact ar) | ((first | apply RW.s1 | apply RW.s0); exact gva) | (refine hK _ _ ?_; clear hK; refine xsg xsl ?_) | ((first | apply RW.a1 | apply RW.a0 | (apply RW.at; exact gva)); (first | (apply gw_asg; exact rfl) | (apply gw_make; exact rfl; exact rfl; exact rfl; exact rfl; omega; omega; omega; omega; intro b) | (refine gw_stx sto ?_) | (fail))) | (apply CW_region; intro K hK) | (apply CW_condX; exact rfl; exact tst; exact tst; all_goals (intro hq hc; try exact no)))
  refine CW_loop (fun m ll L => ∃ (k : Nat) (d : List Int) (a : Option Addr) (c : Nat) (cs : List Value), m = t.length - k ∧ ll = [(0, true, .slice a0 t.length c0), (1, true, .int .i64 (goal : Nat)), (5, true, .slice a t.length c), (6, true, .int .i64 (k : Nat))] ∧
      L = [.own 3 1 a t.length c cs] ∧ k ≤ t.length ∧ cs = ints d ∧ d.length = t.length ∧ ∀ i : Nat, i < k → d[i]? = some (-1))
    ⟨_, _, _, ⟨0, List.replicate t.length 0, _, _, _, rfl, rfl, rfl, by omega, zrow_ints _, List.length_replicate, fun i hi => absurd hi (by omega)⟩, by exact sbe, sblt⟩ ?_
  rintro m ll L ⟨k, d, a, c, cs, rfl, rfl, rfl, hk1, hcs, hdl, hd⟩
  subst hcs
  by_cases hlt : k < t.length
  · 
    repeat' (first | (apply RW.q1; exact qt) | (apply RW.qg; exact gvx; refine hgx tst ?_; intro hg hg'; exact qu) | refine xsg cts ?_ | (apply CW_condT; exact rfl; exact ar) | (apply CW_condF; exact rfl; exact ar) | ((first | apply RW.s1 | apply RW.s0); exact gva) | (refine hK _ _ ?_; clear hK; refine xsg xsl ?_) | ((first | apply RW.a1 | apply RW.a0 | (apply RW.at; exact gva)); (first | (apply gw_soI k; exact rfl; exact rfl; infer_instance; omega; omega) | (apply gw_asg; exact rfl) | (apply gw_make; exact rfl; exact rfl; exact rfl; exact rfl; omega; omega; omega; omega; intro b) | (refine gw_stx sto ?_) | (fail))) | (apply CW_region; intro K hK) | (apply CW_condX; exact rfl; exact tst; exact tst; all_goals (intro hq hc; try exact no)))
    refine ⟨_, _, _, ⟨k + 1, d.set k (-1), a, c, _, rfl, rfl, rfl, by omega, rfl, by rw [List.length_set]; exact hdl, fun i hi => ?_⟩, by exact sbe, sblt, by omega⟩
    by_cases hik : i = k
    · subst hik; rw [List.getElem?_set_self (by omega)]
    · rw [List.getElem?_set_ne (fun h => hik h.symm)]; exact hd i (by omega)
  obtain rfl : k = t.length := by omega
  have hd0 : d = List.replicate next.length (-1) := by
    apply List.ext_getElem?
    intro i
    rw [hxl, List.getElem?_replicate]
    split
    · exact hd i ‹_›
    · exact List.getElem?_eq_none (by omega)
  have hI0 : StP next goal 1 0 d := by rw [hd0]; exact st_init
  clear hd0 hd hlt hk1 hdl
  
  repeat' (first | (apply RW.q1; exact qt) | (apply RW.qg; exact gvx; refine hgx tst ?_; intro hg hg'; exact qu) | refine xsg cts ?_ | (apply CW_condT; exact rfl; exact ar) | (apply CW_condF; exact rfl; exact ar) | ((first | apply RW.s1 | apply RW.s0); exact gva) | (refine hK _ _ ?_; clear hK; refine xsg xsl ?_) | ((first | apply RW.a1 | apply RW.a0 | (apply RW.at; exact gva)); (first | (apply gw_asg; exact rfl) | (apply gw_make; exact rfl; exact rfl; exact rfl; exact rfl; omega; omega; omega; omega; intro b) | (refine gw_stx sto ?_) | (fail))) | (apply CW_region; intro K hK) | (apply CW_condX; exact rfl; exact tst; exact tst; all_goals (intro hq hc; try exact no)))
  refine CW_loop (fun m ll L => ∃ (n : Nat) (d : List Int), m = t.length + 1 - n ∧ ll = [(0, true, .slice a0 t.length c0), (1, true, .int .i64 (goal : Nat)), (5, true, .slice a t.length c), (7, true, .int .i64 (n : Nat))] ∧
      L = [.own 3 1 a t.length c (ints d)] ∧ 1 ≤ n ∧ n ≤ t.length + 1 ∧ StP next goal n 0 d)
    ⟨_, _, _, ⟨1, d, rfl, rfl, rfl, by omega, by omega, hI0⟩, by exact sbe, sblt⟩ ?_
  clear hI0
  rintro m ll L ⟨n, d, rfl, rfl, rfl, hn1, hn2, hI⟩
  by_cases hlt : n ≤ t.length
  · 
    repeat' (first | (apply RW.q1; exact qt) | (apply RW.qg; exact gvx; refine hgx tst ?_; intro hg hg'; exact qu) | refine xsg cts ?_ | (apply CW_condT; exact rfl; exact ar) | (apply CW_condF; exact rfl; exact ar) | ((first | apply RW.s1 | apply RW.s0); exact gva) | (refine hK _ _ ?_; clear hK; refine xsg xsl ?_) | ((first | apply RW.a1 | apply RW.a0 | (apply RW.at; exact gva)); (first | (apply gw_asg; exact rfl) | (apply gw_make; exact rfl; exact rfl; exact rfl; exact rfl; omega; omega; omega; omega; intro b) | (refine gw_stx sto ?_) | (fail))) | (apply CW_region; intro K hK) | (apply CW_condX; exact rfl; exact tst; exact tst; all_goals (intro hq hc; try exact no)))
    refine CW_loop (fun m ll L => ∃ (i : Nat) (d : List Int), m = t.length - i ∧ ll = [(0, true, .slice a0 t.length c0), (1, true, .int .i64 (goal : Nat)), (5, true, .slice a t.length c), (7, true, .int .i64 (n : Nat)), (8, true, .int .i64 (i : Nat))] ∧
        L = [.own 3 1 a t.length c (ints d)] ∧ i ≤ t.length ∧ StP next goal n i d)
      ⟨_, _, _, ⟨0, d, rfl, rfl, rfl, by omega, hI⟩, by exact sbe, sblt⟩ ?_
    clear hI
    rintro m ll L ⟨i, d, rfl, rfl, rfl, hi, hI⟩
    by_cases hil : i < t.length
    · obtain ⟨x, hxi⟩ : ∃ x, t[i]? = some x := ⟨_, List.getElem?_eq_getElem (by omega)⟩
      obtain ⟨nd, hdi⟩ : ∃ r, nds[i]? = some r := ⟨_, List.getElem?_eq_getElem (by omega)⟩
      have hro : Rs H 1 nd.r.a nd.r.l.length nd.r.c (nums nd.r.l) := ho nd (List.mem_of_getElem? hdi)
      have hrx := (hk i nd x hdi hxi).2.2.2
      have hxu := hu x (List.mem_of_getElem? hxi)
      have hdl := hI.1
      obtain ⟨v, hv⟩ : ∃ v, d[i]? = some v := ⟨_, List.getElem?_eq_getElem (by omega)⟩
      have hvb := st_le hI hv
      have hri : (nds.map Nd.r)[i]? = some nd.r := by rw [List.getElem?_map, hdi]; rfl
      have hnx : ∀ k, Nx next i k ↔ k ∈ nd.r.l := fun k => by rw [hnext]; exact nx_at hri
      by_cases hv0 : v < 0
      · have hno := st_no hI hv hv0
        
        repeat' (first | (apply RW.q1; exact qt) | (apply RW.qg; exact gvx; refine hgx tst ?_; intro hg hg'; exact qu) | refine xsg cts ?_ | (apply CW_condT; exact rfl; exact ar) | (apply CW_condF; exact rfl; exact ar) | ((first | apply RW.s1 | apply RW.s0); exact gva) | (refine hK _ _ ?_; clear hK; refine xsg xsl ?_) | ((first | apply RW.a1 | apply RW.a0 | (apply RW.at; exact gva)); (first | (apply gw_asg; exact rfl) | (apply gw_make; exact rfl; exact rfl; exact rfl; exact rfl; omega; omega; omega; omega; intro b) | (refine gw_stx sto ?_) | (fail))) | (apply CW_region; intro K hK) | (apply CW_condX; exact rfl; exact tst; exact tst; all_goals (intro hq hc; try exact no)))
        refine CW_loop (fun m ll L => ∃ (q : Nat) (e : List Int), m = nd.r.l.length - q ∧ ll = [(0, true, .slice a0 t.length c0), (1, true, .int .i64 (goal : Nat)), (5, true, .slice a t.length c), (7, true, .int .i64 (n : Nat)), (8, true, .int .i64 (i : Nat)), (9, true, .int .i64 (q : Nat))] ∧
            L = [.own 3 1 a t.length c (ints e)] ∧ q ≤ nd.r.l.length ∧ ((e = d ∧ ∀ k, k ∈ nd.r.l.take q → ¬ CondN next goal n k) ∨ (e = d.set i (n : Int) ∧ Dist (Nx next) n i goal)))
          ⟨_, _, _, ⟨0, d, rfl, rfl, rfl, by omega, .inl ⟨rfl, fun k hk => by simp at hk⟩⟩, by exact sbe, sblt⟩ ?_
        rintro m ll L ⟨q, e, rfl, rfl, rfl, hq1, hE⟩
        rcases hE with ⟨rfl, hnone⟩ | ⟨rfl, hD⟩
        · by_cases hql : q < nd.r.l.length
          · obtain ⟨k, hkq⟩ : ∃ k, nd.r.l[q]? = some k := ⟨_, List.getElem?_eq_getElem hql⟩
            have hnk := (hnx k).2 (List.mem_of_getElem? hkq)
            have hkl := hNet.lt i k hnk
            obtain ⟨w, hw⟩ : ∃ w, e[k]? = some w := ⟨_, List.getElem?_eq_getElem (by omega)⟩
            have hwb := st_le hI hw
            have hki : k ≠ i ∨ w < 0 := by
              by_cases h : k = i
              · subst h
                rw [hv] at hw; cases hw
                exact .inr hv0
              · exact .inl h
            have hstep : ∀ (h : ¬ CondN next goal n k) (z : Nat), z ∈ nd.r.l.take (q + 1) → ¬ CondN next goal n z := fun h z hz => by
              rw [take_snoc' hkq] at hz
              rcases List.mem_append.1 hz with g | g
              · exact hnone z g
              · rw [List.mem_singleton.1 g]; exact h
            by_cases h1 : n = 1
            · subst h1
              by_cases hkg : k = goal
              · have hD := cond_dist hno hnk (.inl ⟨rfl, hkg⟩)
                have hkgi : (k : Int) = (goal : Int) := by omega
                clear hno hnone hstep
                
                repeat' (first | ((first | apply RW.q1 | (apply RW.qg; exact gvx; refine hgx tst ?_; intro hg hg')); (first | (apply q_ldr; exact rfl; exact evgx; exact hn; exact nd_r hdi (by omega)) | (apply q_ldr; exact rfl; exact evgx; exact hro; exact nums_at hkq (by omega)) | (apply q_ldo; exact rfl; exact evgx; infer_instance; first | exact ints_at hv (by omega) | exact ints_at hw (by omega)) | exact qt | exact qu)) | refine xsg cts ?_ | (apply CW_condT; exact rfl; exact ar) | (apply CW_condF; exact rfl; exact ar) | ((first | apply RW.s1 | apply RW.s0); exact gva) | (refine hK _ _ ?_; clear hK; refine xsg xsl ?_) | ((first | apply RW.a1 | apply RW.a0 | (apply RW.at; exact gva)); (first | (apply gw_soI i; exact rfl; exact rfl; infer_instance; omega; omega) | (apply gw_asg; exact rfl) | (apply gw_make; exact rfl; exact rfl; exact rfl; exact rfl; omega; omega; omega; omega; intro b) | (refine gw_stx sto ?_) | (fail))) | (apply CW_region; intro K hK) | (apply CW_condX; exact rfl; exact tst; exact tst; all_goals (intro hq hc; try exact no)))
                exact ⟨_, _, _, ⟨q + 1, _, rfl, rfl, rfl, by omega, .inr ⟨rfl, hD⟩⟩, by exact sbe, sblt, by omega⟩
              · have hkgi : ¬ (k : Int) = (goal : Int) := by omega
                have hnew := hstep fun h => by
                  rcases h with ⟨_, h⟩ | ⟨h, _⟩
                  · exact hkg h
                  · omega
                clear hno hnone hstep
                
                repeat' (first | ((first | apply RW.q1 | (apply RW.qg; exact gvx; refine hgx tst ?_; intro hg hg')); (first | (apply q_ldr; exact rfl; exact evgx; exact hn; exact nd_r hdi (by omega)) | (apply q_ldr; exact rfl; exact evgx; exact hro; exact nums_at hkq (by omega)) | (apply q_ldo; exact rfl; exact evgx; infer_instance; first | exact ints_at hv (by omega) | exact ints_at hw (by omega)) | exact qt | exact qu)) | refine xsg cts ?_ | (apply CW_condT; exact rfl; exact ar) | (apply CW_condF; exact rfl; exact ar) | ((first | apply RW.s1 | apply RW.s0); exact gva) | (refine hK _ _ ?_; clear hK; refine xsg xsl ?_) | ((first | apply RW.a1 | apply RW.a0 | (apply RW.at; exact gva)); (first | (apply gw_asg; exact rfl) | (apply gw_make; exact rfl; exact rfl; exact rfl; exact rfl; omega; omega; omega; omega; intro b) | (refine gw_stx sto ?_) | (fail))) | (apply CW_region; intro K hK) | (apply CW_condX; exact rfl; exact tst; exact tst; all_goals (intro hq hc; try exact no)))
                exact ⟨_, _, _, ⟨q + 1, e, rfl, rfl, rfl, by omega, .inl ⟨rfl, hnew⟩⟩, by exact sbe, sblt, by omega⟩
            · have hval := st_val hI hw (by omega) hki
              by_cases hwn : w = (n : Int) - 1
              · have hD := cond_dist hno hnk (hval.2 hwn)
                clear hno hnone hstep hval
                
                repeat' (first | ((first | apply RW.q1 | (apply RW.qg; exact gvx; refine hgx tst ?_; intro hg hg')); (first | (apply q_ldr; exact rfl; exact evgx; exact hn; exact nd_r hdi (by omega)) | (apply q_ldr; exact rfl; exact evgx; exact hro; exact nums_at hkq (by omega)) | (apply q_ldo; exact rfl; exact evgx; infer_instance; first | exact ints_at hv (by omega) | exact ints_at hw (by omega)) | exact qt | exact qu)) | refine xsg cts ?_ | (apply CW_condT; exact rfl; exact ar) | (apply CW_condF; exact rfl; exact ar) | ((first | apply RW.s1 | apply RW.s0); exact gva) | (refine hK _ _ ?_; clear hK; refine xsg xsl ?_) | ((first | apply RW.a1 | apply RW.a0 | (apply RW.at; exact gva)); (first | (apply gw_soI i; exact rfl; exact rfl; infer_instance; omega; omega) | (apply gw_asg; exact rfl) | (apply gw_make; exact rfl; exact rfl; exact rfl; exact rfl; omega; omega; omega; omega; intro b) | (refine gw_stx sto ?_) | (fail))) | (apply CW_region; intro K hK) | (apply CW_condX; exact rfl; exact tst; exact tst; all_goals (intro hq hc; try exact no)))
                exact ⟨_, _, _, ⟨q + 1, _, rfl, rfl, rfl, by omega, .inr ⟨rfl, hD⟩⟩, by exact sbe, sblt, by omega⟩
              · have hnew := hstep (mt hval.1 hwn)
                clear hno hnone hstep hval
                
                repeat' (first | ((first | apply RW.q1 | (apply RW.qg; exact gvx; refine hgx tst ?_; intro hg hg')); (first | (apply q_ldr; exact rfl; exact evgx; exact hn; exact nd_r hdi (by omega)) | (apply q_ldr; exact rfl; exact evgx; exact hro; exact nums_at hkq (by omega)) | (apply q_ldo; exact rfl; exact evgx; infer_instance; first | exact ints_at hv (by omega) | exact ints_at hw (by omega)) | exact qt | exact qu)) | refine xsg cts ?_ | (apply CW_condT; exact rfl; exact ar) | (apply CW_condF; exact rfl; exact ar) | ((first | apply RW.s1 | apply RW.s0); exact gva) | (refine hK _ _ ?_; clear hK; refine xsg xsl ?_) | ((first | apply RW.a1 | apply RW.a0 | (apply RW.at; exact gva)); (first | (apply gw_asg; exact rfl) | (apply gw_make; exact rfl; exact rfl; exact rfl; exact rfl; omega; omega; omega; omega; intro b) | (refine gw_stx sto ?_) | (fail))) | (apply CW_region; intro K hK) | (apply CW_condX; exact rfl; exact tst; exact tst; all_goals (intro hq hc; try exact no)))
                exact ⟨_, _, _, ⟨q + 1, e, rfl, rfl, rfl, by omega, .inl ⟨rfl, hnew⟩⟩, by exact sbe, sblt, by omega⟩
          obtain rfl : q = nd.r.l.length := by omega
          rw [List.take_length] at hnone
          have hI2 := st_none hI hv hv0 fun k hk => hnone k ((hnx k).1 hk)
          clear hno hnone
          
          repeat' (first | ((first | apply RW.q1 | (apply RW.qg; exact gvx; refine hgx tst ?_; intro hg hg')); (first | (apply q_ldr; exact rfl; exact evgx; exact hn; exact nd_r hdi (by omega)) | (exact (no : QW _ _ _ _ ⟨_, .load 3 _, _, _, _, _⟩ (.int .i64 0))) | exact qt | exact qu)) | refine xsg cts ?_ | (apply CW_condT; exact rfl; exact ar) | (apply CW_condF; exact rfl; exact ar) | ((first | apply RW.s1 | apply RW.s0); exact gva) | (refine hK _ _ ?_; clear hK; refine xsg xsl ?_) | ((first | apply RW.a1 | apply RW.a0 | (apply RW.at; exact gva)); (first | (apply gw_asg; exact rfl) | (apply gw_make; exact rfl; exact rfl; exact rfl; exact rfl; omega; omega; omega; omega; intro b) | (refine gw_stx sto ?_) | (fail))) | (apply CW_region; intro K hK) | (apply CW_condX; exact rfl; exact tst; exact tst; all_goals (intro hq hc; try exact no)))
          exact ⟨_, _, _, ⟨i + 1, _, rfl, rfl, rfl, by omega, hI2⟩, by exact sbe, sblt, by omega⟩
        · have hI2 := st_set hI hv hD
          have hv2 : (d.set i (n : Int))[i]? = some (n : Int) := List.getElem?_set_self (by omega)
          clear hno
          by_cases hql : q < nd.r.l.length
          · 
            repeat' (first | ((first | apply RW.q1 | (apply RW.qg; exact gvx; refine hgx tst ?_; intro hg hg')); (first | (apply q_ldr; exact rfl; exact evgx; exact hn; exact nd_r hdi (by omega)) | (apply q_ldo; exact rfl; exact evgx; infer_instance; exact ints_at hv2 (by omega)) | exact qt | exact qu)) | refine xsg cts ?_ | (apply CW_condT; exact rfl; exact ar) | (apply CW_condF; exact rfl; exact ar) | ((first | apply RW.s1 | apply RW.s0); exact gva) | (refine hK _ _ ?_; clear hK; refine xsg xsl ?_) | ((first | apply RW.a1 | apply RW.a0 | (apply RW.at; exact gva)); (first | (apply gw_asg; exact rfl) | (apply gw_make; exact rfl; exact rfl; exact rfl; exact rfl; omega; omega; omega; omega; intro b) | (refine gw_stx sto ?_) | (fail))) | (apply CW_region; intro K hK) | (apply CW_condX; exact rfl; exact tst; exact tst; all_goals (intro hq hc; try exact no)))
            exact ⟨_, _, _, ⟨i + 1, _, rfl, rfl, rfl, by omega, hI2⟩, by exact sbe, sblt, by omega⟩
          · 
            repeat' (first | ((first | apply RW.q1 | (apply RW.qg; exact gvx; refine hgx tst ?_; intro hg hg')); (first | (apply q_ldr; exact rfl; exact evgx; exact hn; exact nd_r hdi (by omega)) | (apply q_ldo; exact rfl; exact evgx; infer_instance; exact ints_at hv2 (by omega)) | exact qt | exact qu)) | refine xsg cts ?_ | (apply CW_condT; exact rfl; exact ar) | (apply CW_condF; exact rfl; exact ar) | ((first | apply RW.s1 | apply RW.s0); exact gva) | (refine hK _ _ ?_; clear hK; refine xsg xsl ?_) | ((first | apply RW.a1 | apply RW.a0 | (apply RW.at; exact gva)); (first | (apply gw_asg; exact rfl) | (apply gw_make; exact rfl; exact rfl; exact rfl; exact rfl; omega; omega; omega; omega; intro b) | (refine gw_stx sto ?_) | (fail))) | (apply CW_region; intro K hK) | (apply CW_condX; exact rfl; exact tst; exact tst; all_goals (intro hq hc; try exact no)))
            exact ⟨_, _, _, ⟨i + 1, _, rfl, rfl, rfl, by omega, hI2⟩, by exact sbe, sblt, by omega⟩
      · have hI2 := st_had hI hv hv0
        
        repeat' (first | (apply RW.q1; exact qt) | (apply RW.qg; exact gvx; refine hgx tst ?_; intro hg hg'; exact qu) | refine xsg cts ?_ | (apply CW_condT; exact rfl; exact ar) | (apply CW_condF; exact rfl; exact ar) | ((first | apply RW.s1 | apply RW.s0); exact gva) | (refine hK _ _ ?_; clear hK; refine xsg xsl ?_) | ((first | apply RW.a1 | apply RW.a0 | (apply RW.at; exact gva)); (first | (apply gw_asg; exact rfl) | (apply gw_make; exact rfl; exact rfl; exact rfl; exact rfl; omega; omega; omega; omega; intro b) | (refine gw_stx sto ?_) | (fail))) | (apply CW_region; intro K hK) | (apply CW_condX; exact rfl; exact tst; exact tst; all_goals (intro hq hc; try exact no)))
        refine CW_loop (fun m ll L => m = 0 ∧ ll = [(0, true, .slice a0 t.length c0), (1, true, .int .i64 (goal : Nat)), (5, true, .slice a t.length c), (7, true, .int .i64 (n : Nat)), (8, true, .int .i64 (i : Nat)), (9, true, .int .i64 0)] ∧ L = [.own 3 1 a t.length c (ints d)]) ⟨_, _, _, ⟨rfl, rfl, rfl⟩, by exact sbe, sblt⟩ ?_
        rintro m ll L ⟨rfl, rfl, rfl⟩
        by_cases hql : 0 < nd.r.l.length
        · 
          repeat' (first | ((first | apply RW.q1 | (apply RW.qg; exact gvx; refine hgx tst ?_; intro hg hg')); (first | (apply q_ldr; exact rfl; exact evgx; exact hn; exact nd_r hdi (by omega)) | (apply q_ldo; exact rfl; exact evgx; infer_instance; exact ints_at hv (by omega)) | exact qt | exact qu)) | refine xsg cts ?_ | (apply CW_condT; exact rfl; exact ar) | (apply CW_condF; exact rfl; exact ar) | ((first | apply RW.s1 | apply RW.s0); exact gva) | (refine hK _ _ ?_; clear hK; refine xsg xsl ?_) | ((first | apply RW.a1 | apply RW.a0 | (apply RW.at; exact gva)); (first | (apply gw_asg; exact rfl) | (apply gw_make; exact rfl; exact rfl; exact rfl; exact rfl; omega; omega; omega; omega; intro b) | (refine gw_stx sto ?_) | (fail))) | (apply CW_region; intro K hK) | (apply CW_condX; exact rfl; exact tst; exact tst; all_goals (intro hq hc; try exact no)))
          exact ⟨_, _, _, ⟨i + 1, _, rfl, rfl, rfl, by omega, hI2⟩, by exact sbe, sblt, by omega⟩
        · 
          repeat' (first | ((first | apply RW.q1 | (apply RW.qg; exact gvx; refine hgx tst ?_; intro hg hg')); (first | (apply q_ldr; exact rfl; exact evgx; exact hn; exact nd_r hdi (by omega)) | (apply q_ldo; exact rfl; exact evgx; infer_instance; exact ints_at hv (by omega)) | exact qt | exact qu)) | refine xsg cts ?_ | (apply CW_condT; exact rfl; exact ar) | (apply CW_condF; exact rfl; exact ar) | ((first | apply RW.s1 | apply RW.s0); exact gva) | (refine hK _ _ ?_; clear hK; refine xsg xsl ?_) | ((first | apply RW.a1 | apply RW.a0 | (apply RW.at; exact gva)); (first | (apply gw_asg; exact rfl) | (apply gw_make; exact rfl; exact rfl; exact rfl; exact rfl; omega; omega; omega; omega; intro b) | (refine gw_stx sto ?_) | (fail))) | (apply CW_region; intro K hK) | (apply CW_condX; exact rfl; exact tst; exact tst; all_goals (intro hq hc; try exact no)))
          exact ⟨_, _, _, ⟨i + 1, _, rfl, rfl, rfl, by omega, hI2⟩, by exact sbe, sblt, by omega⟩
    obtain rfl : i = t.length := by omega
    rw [← hxl] at hI
    have hI2 := st_round hI
    
    repeat' (first | (apply RW.q1; exact qt) | (apply RW.qg; exact gvx; refine hgx tst ?_; intro hg hg'; exact qu) | refine xsg cts ?_ | (apply CW_condT; exact rfl; exact ar) | (apply CW_condF; exact rfl; exact ar) | ((first | apply RW.s1 | apply RW.s0); exact gva) | (refine hK _ _ ?_; clear hK; refine xsg xsl ?_) | ((first | apply RW.a1 | apply RW.a0 | (apply RW.at; exact gva)); (first | (apply gw_asg; exact rfl) | (apply gw_make; exact rfl; exact rfl; exact rfl; exact rfl; omega; omega; omega; omega; intro b) | (refine gw_stx sto ?_) | (fail))) | (apply CW_region; intro K hK) | (apply CW_condX; exact rfl; exact tst; exact tst; all_goals (intro hq hc; try exact no)))
    exact ⟨_, _, _, ⟨n + 1, d, rfl, rfl, rfl, by omega, by omega, hI2⟩, by exact sbe, sblt, by omega⟩
  obtain rfl : n = t.length + 1 := by omega
  rw [← hxl] at hI
  have hF := st_end hI
  
  repeat' (first | (apply RW.q1; exact qt) | (apply RW.qg; exact gvx; refine hgx tst ?_; intro hg hg'; exact qu) | refine xsg cts ?_ | (apply CW_condT; exact rfl; exact ar) | (apply CW_condF; exact rfl; exact ar) | ((first | apply RW.s1 | apply RW.s0); exact gva) | (refine hK _ _ ?_; clear hK; refine xsg xsl ?_) | ((first | apply RW.a1 | apply RW.a0 | (apply RW.at; exact gva)); (first | (apply gw_asg; exact rfl) | (apply gw_make; exact rfl; exact rfl; exact rfl; exact rfl; omega; omega; omega; omega; intro b) | (refine gw_stx sto ?_) | (fail))) | (apply CW_region; intro K hK) | (apply CW_condX; exact rfl; exact tst; exact tst; all_goals (intro hq hc; try exact no)))
  (refine CW_ret ?_; refine xsg xsl ?_; refine bR [.tmp 4] [.own 3 1 a t.length c (ints d)] ?_)
  exact ⟨d, a, c, hF, rfl, rfl⟩
end Go.Proofs.Ytkhmimlgkjenfaa.HL
namespace Go.Proofs.Ytkhmimlgkjenfaa.HL
open Go
attribute [local irreducible] goFn thenS blockS bodyS CW RW DW GW QW NW SC Pick Picks SubL Rd NN ResOk SrcW subE hops hseg AW hgen HC qv bldv
set_option maxHeartbeats 8000000
set_option maxRecDepth 100000
set_option linter.unusedVariables false
set_option linter.unusedSimpArgs false

abbrev dwRfH0 : List (Nat × Bool) := [(0, false), (1, false), (2, false), (3, false), (4, false), (5, false), (6, false), (7, false), (8, false), (9, false), (10, false), (11, false), (12, false), (13, false), (14, false), (15, false), (16, false), (17, false), (18, false), (19, false), (20, false), (21, false), (22, false)]
theorem nd_ns {l : List Nd} {k j : Nat} {x : Nd} {s : Tx} (hx : l[k]? = some x) (hs : x.n = s) (hj : j = k * 3) : ((l.flatMap ndC).drop j).take 1 = [.string (bstr s)] := hs ▸ nd_n hx hj
def RoundR (t : List Th) (next : List (List Nat)) (g : Nat) (x : Th) (c : List Tx) : Prop := (c = [] ∧ ∀ m, ¬ Walk (Nx next) m g g) ∨ ∃ k l, c = x.n :: l ∧ Dist (Nx next) (k + 1) g g ∧ Told (NT t) ltT x.n k x.n l
theorem rRound_spec (t : List Th) (nds : List Nd) (a0 : Option Addr) (c0 goal : Nat) (xg : Th) (H : Hp) (hN : NdIn H t nds a0 c0) (hd : (t.map Th.n).Nodup) (hl : t.length ≤ 1048576) (hu : ∀ x, x ∈ t → x.u.length ≤ 1048576) (hxg : t[goal]? = some xg) :
    SC Try.prog 44 [.slice a0 t.length c0, .int .i64 (goal : Nat)] H [] (fun v M => ∃ c a cc, RoundR t ((nds.map Nd.r).map Rw.l) goal xg c ∧ v = .slice a c.length cc ∧ M = [.own 9 1 a c.length cc (txs c)] ∧ (c = [] → a = none ∧ cc = 0) ∧ (c ≠ [] → ∃ ad, a = some ad)) := by
  have hN0 := hN
  obtain ⟨hn, ho, hnl, hk⟩ := hN
  have hNR := nds_rows hnl hk
  have hNet := hNR.net
  have hxl : ((nds.map Nd.r).map Rw.l).length = t.length := by rw [List.length_map, List.length_map]; exact hnl
  have hgl := (List.getElem?_eq_some_iff.1 hxg).1
  obtain ⟨ng, hng⟩ : ∃ r, nds[goal]? = some r := ⟨_, List.getElem?_eq_getElem (by omega)⟩
  have hngn := (hk goal ng xg hng hxg).1
  have hsp := fun G hG => rSteps_spec t nds a0 c0 goal G (hN0.ext (H := H) (G := G) hG) hl hu hgl
  have hnxE : ∀ (i : Nat) (nd : Nd) (k : Nat), nds[i]? = some nd → (Nx ((nds.map Nd.r).map Rw.l) i k ↔ k ∈ nd.r.l) := fun i nd k h => nx_at (by rw [List.getElem?_map, h]; rfl)
  obtain ⟨next, hnext⟩ : ∃ next, next = (nds.map Nd.r).map Rw.l := ⟨_, rfl⟩
  rw [← hnext] at hNet hxl hnxE hsp ⊢
  by_cases hwk : ∃ m, Walk (Nx next) m goal goal
  · obtain ⟨m0, hm0⟩ := hwk
    obtain ⟨m1, _, hDb⟩ := hm0.dist
    have hm1 := hDb.1.pos
    obtain ⟨k, rfl⟩ : ∃ q, m1 = q + 1 := ⟨m1 - 1, by omega⟩
    have hkb := dist_le hDb
    rw [hxl] at hkb
    clear hm0 hm1
    (refine SC_intro Try.func44 rfl (by kernel_rfl) (by rw [Try.ntmps44]; exact Nat.le_of_ble_eq_true rfl) ?_; simp only [Try.ntmps44, argE, Nat.reduceAdd])
    
    repeat' (first | ((first | apply RW.q1 | (apply DW.q1; exact rfl) | ((first | apply RW.qg | (apply DW.qg; exact rfl)); exact gvx; refine hgx tst ?_; intro hg hg')); (first | (apply q_ldo; exact rfl; exact evgx; infer_instance; exact ints_at hdv (by omega)) | (apply q_ldr; exact rfl; exact evgx; exact hn; exact nd_ns hng hngn (by omega)) | exact qt | exact qu)) | refine xsg cts ?_ | (apply CW_condT; exact rfl; exact ar) | (apply CW_condF; exact rfl; exact ar) | ((first | apply RW.s1 | apply RW.s0 | (apply DW.sa; exact rfl)); exact gva) | (refine hK _ _ ?_; clear hK; refine xsg xsl ?_) | (refine xsg ahd ?_; (first | (apply gw_call (f := 68); exact evx; exact go68; intro G hG; refine SC.mono (hsp G hG.ext) ?_; rintro v M ⟨d, da, dc, hF, rfl, rfl⟩; (try dsimp only [jL, jM]); have hdv := farD_get hF (by omega) hDb) | (apply gw_asg; exact rfl) | (apply gw_lit1; exact rfl; exact rfl; exact rfl; exact rfl; decide; intro b) | (apply gw_lit2; exact rfl; exact rfl; exact rfl; exact rfl; intro b) | (apply gw_lit3; exact rfl; exact rfl; exact rfl; exact rfl; exact rfl; intro b) | (apply gw_ap1; exact rfl; exact rfl; infer_instance; infer_instance; exact rfl; exact rfl; exact rfl; exact rfl; omega; intro a c) | (apply gw_ap1n; exact rfl; exact rfl; infer_instance; exact rfl; exact rfl; exact rfl; exact rfl; omega; intro a c) | (fail))) | (apply CW_region; intro K hK) | (apply CW_condX; exact rfl; exact tst; exact tst; all_goals (intro hq hc; try exact no)) | (refine CW_draw (id := 14) [] dwRfH0 mixed (by kernel_rfl) (fun K hK => ?_)))
    refine CW_loop (fun m ll L => ∃ (at0 left on oc : Nat) (oa : Option Addr) (out : List Tx) (cs : List Value) (y : Th), m = left + 1 ∧ ll = [(0, true, .slice a0 t.length c0), (1, true, .int .i64 (goal : Nat)), (5, true, .slice da t.length dc), (6, true, .slice oa on oc), (7, true, .int .i64 (at0 : Nat)), (8, true, .int .i64 (left : Nat))] ∧
        L = [.own 3 1 da t.length dc (ints d), .own 9 1 oa on oc cs] ∧ on = out.length ∧ cs = txs out ∧ 0 < on ∧ on + left ≤ k + 1 ∧ t[at0]? = some y ∧ Dist (Nx next) (left + 1) at0 goal ∧ ∀ l, Told (NT t) ltT xg.n left y.n l → ∃ l', out ++ l = xg.n :: l' ∧ Told (NT t) ltT xg.n k xg.n l')
      ⟨_, _, _, ⟨goal, k, 1, _, _, [xg.n], _, xg, rfl, rfl, rfl, rfl, rfl, by omega, by omega, hxg, hDb, fun l hl => ⟨l, rfl, hl⟩⟩, by exact sbe, sblt⟩ ?_
    rintro m ll L ⟨at0, left, on, oc, oa, out, cs, y, rfl, rfl, rfl, hon, hcs, hon0, hlk, hy, hDy, hT⟩
    subst hon
    subst hcs
    by_cases hl0 : left = 0
    · subst hl0
      obtain ⟨l', hl1, hl2⟩ := hT [] .nil
      rw [List.append_nil] at hl1
      refine CW_own (a := oa) (by exact pkx) hon0 (fun ob hob _ => ?_)
      
      repeat' (first | ((first | apply RW.q1 | (apply DW.q1; exact rfl)); exact qt) | ((first | apply RW.qg | (apply DW.qg; exact rfl)); exact gvx; refine hgx tst ?_; intro hg hg'; exact qu) | refine xsg cts ?_ | (apply CW_condT; exact rfl; exact ar) | (apply CW_condF; exact rfl; exact ar) | ((first | apply RW.s1 | apply RW.s0 | (apply DW.sa; exact rfl)); exact gva) | (refine hK _ _ ?_; clear hK; refine xsg xsl ?_) | (refine xsg ahd ?_; (first | (apply gw_asg; exact rfl) | (apply gw_lit1; exact rfl; exact rfl; exact rfl; exact rfl; decide; intro b) | (apply gw_lit2; exact rfl; exact rfl; exact rfl; exact rfl; intro b) | (apply gw_lit3; exact rfl; exact rfl; exact rfl; exact rfl; exact rfl; intro b) | (apply gw_ap1; exact rfl; exact rfl; infer_instance; infer_instance; exact rfl; exact rfl; exact rfl; exact rfl; omega; intro a c) | (apply gw_ap1n; exact rfl; exact rfl; infer_instance; exact rfl; exact rfl; exact rfl; exact rfl; omega; intro a c) | (fail))) | (apply CW_region; intro K hK) | (apply CW_condX; exact rfl; exact tst; exact tst; all_goals (intro hq hc; try exact no)) | (refine CW_draw (id := 14) [] dwRfH0 mixed (by kernel_rfl) (fun K hK => ?_)))
      (refine CW_ret ?_; refine xsg xsl ?_; refine bR [.tmp 4] [.own 9 1 oa out.length oc (txs out)] ?_)
      exact ⟨out, oa, oc, .inr ⟨k, l', hl1, hDb, hl2⟩, rfl, rfl, fun h => absurd hon0 (by rw [h]; simp), fun _ => ⟨_, hob⟩⟩
    obtain ⟨q, rfl⟩ : ∃ q, left = q + 1 := ⟨left - 1, by omega⟩
    have hal := (List.getElem?_eq_some_iff.1 hy).1
    obtain ⟨nd, hdi⟩ : ∃ r, nds[at0]? = some r := ⟨_, List.getElem?_eq_getElem (by omega)⟩
    have hro : Rs H 1 nd.r.a nd.r.l.length nd.r.c (nums nd.r.l) := ho nd (List.mem_of_getElem? hdi)
    have hrx := (hk at0 nd y hdi hy).2.2.2
    have hyu := hu y (List.mem_of_getElem? hy)
    have hnx := fun k => hnxE at0 nd k hdi
    
    repeat' (first | ((first | apply RW.q1 | (apply DW.q1; exact rfl)); exact qt) | ((first | apply RW.qg | (apply DW.qg; exact rfl)); exact gvx; refine hgx tst ?_; intro hg hg'; exact qu) | refine xsg cts ?_ | (apply CW_condT; exact rfl; exact ar) | (apply CW_condF; exact rfl; exact ar) | ((first | apply RW.s1 | apply RW.s0 | (apply DW.sa; exact rfl)); exact gva) | (refine hK _ _ ?_; clear hK; refine xsg xsl ?_) | (refine xsg ahd ?_; (first | (apply gw_asg; exact rfl) | (apply gw_lit1; exact rfl; exact rfl; exact rfl; exact rfl; decide; intro b) | (apply gw_lit2; exact rfl; exact rfl; exact rfl; exact rfl; intro b) | (apply gw_lit3; exact rfl; exact rfl; exact rfl; exact rfl; exact rfl; intro b) | (apply gw_ap1; exact rfl; exact rfl; infer_instance; infer_instance; exact rfl; exact rfl; exact rfl; exact rfl; omega; intro a c) | (apply gw_ap1n; exact rfl; exact rfl; infer_instance; exact rfl; exact rfl; exact rfl; exact rfl; omega; intro a c) | (fail))) | (apply CW_region; intro K hK) | (apply CW_condX; exact rfl; exact tst; exact tst; all_goals (intro hq hc; try exact no)) | (refine CW_draw (id := 14) [] dwRfH0 mixed (by kernel_rfl) (fun K hK => ?_)))
    refine CW_loop (fun m ll L => ∃ (j : Nat) (to : Int), m = nd.r.l.length - j ∧ ll = [(0, true, .slice a0 t.length c0), (1, true, .int .i64 (goal : Nat)), (5, true, .slice da t.length dc), (6, true, .slice oa out.length oc), (7, true, .int .i64 (at0 : Nat)), (8, true, .int .i64 ((q : Int) + 1)), (9, true, .int .i64 to), (10, true, .int .i64 (j : Nat))] ∧
        L = [.own 3 1 da t.length dc (ints d), .own 9 1 oa out.length oc (txs out)] ∧ j ≤ nd.r.l.length ∧ Cand t next goal (q + 1) (nd.r.l.take j) to)
      ⟨_, _, _, ⟨0, -1, rfl, rfl, rfl, by omega, cand_nil⟩, by exact sbe, sblt⟩ ?_
    rintro m ll L ⟨j, to, rfl, rfl, rfl, hj, hCd⟩
    by_cases hjl : j < nd.r.l.length
    · obtain ⟨w, hwj⟩ : ∃ k, nd.r.l[j]? = some k := ⟨_, List.getElem?_eq_getElem hjl⟩
      have hnw : Nx next at0 w := (hnx w).2 (List.mem_of_getElem? hwj)
      have hwl := hNet.lt at0 w hnw
      obtain ⟨z, hz⟩ : ∃ x, t[w]? = some x := ⟨_, List.getElem?_eq_getElem hwl⟩
      obtain ⟨nz, hnz⟩ : ∃ r, nds[w]? = some r := ⟨_, List.getElem?_eq_getElem (by omega)⟩
      have hnzn := (hk w nz z hnz hz).1
      have htk := take_snoc' hwj
      by_cases hDw : Dist (Nx next) (q + 1) w goal
      · have hdw := farD_get hF (by omega) hDw
        rcases hCd with ⟨rfl, hno⟩ | ⟨kc, xc', rfl, hxc, hcr, hDc, h5⟩
        · have hnew := cand_first (t := t) hno hDw hz
          rw [← htk] at hnew
          clear hno hDw hT hnxE hnx hDy hDb hk hNet hN0 hd htk
          
          repeat' (first | ((first | apply RW.q1 | (apply DW.q1; exact rfl) | ((first | apply RW.qg | (apply DW.qg; exact rfl)); exact gvx; refine hgx tst ?_; intro hg hg')); (first | (apply q_ldr; exact rfl; exact evgx; exact hn; first | exact nd_ns hnz hnzn (by omega) | exact nd_r hdi (by omega)) | (apply q_ldr; exact rfl; exact evgx; exact hro; exact nums_at hwj (by omega)) | (apply q_ldo; exact rfl; exact evgx; infer_instance; exact ints_at hdw (by omega)) | (exact (no : QW _ _ _ _ ⟨_, .load 9 _, _, _, _, _⟩ (.string (bstr [])))) | exact qt | exact qu)) | refine xsg cts ?_ | (apply CW_condT; exact rfl; exact ar) | (apply CW_condF; exact rfl; exact ar) | ((first | apply RW.s1 | apply RW.s0 | (apply DW.sa; exact rfl)); exact gva) | (refine hK _ _ ?_; clear hK; refine xsg xsl ?_) | (refine xsg ahd ?_; (first | (apply gw_asg; exact rfl) | (apply gw_lit1; exact rfl; exact rfl; exact rfl; exact rfl; decide; intro b) | (apply gw_lit2; exact rfl; exact rfl; exact rfl; exact rfl; intro b) | (apply gw_lit3; exact rfl; exact rfl; exact rfl; exact rfl; exact rfl; intro b) | (apply gw_ap1; exact rfl; exact rfl; infer_instance; infer_instance; exact rfl; exact rfl; exact rfl; exact rfl; omega; intro a c) | (apply gw_ap1n; exact rfl; exact rfl; infer_instance; exact rfl; exact rfl; exact rfl; exact rfl; omega; intro a c) | (fail))) | (apply CW_region; intro K hK) | (apply CW_condX; exact rfl; exact tst; exact tst; all_goals (intro hq hc; try exact no)) | (refine CW_draw (id := 14) [] dwRfH0 mixed (by kernel_rfl) (fun K hK => ?_)))
          exact ⟨_, _, _, ⟨j + 1, _, rfl, rfl, rfl, by omega, hnew⟩, by exact sbe, sblt, by omega⟩
        · have hcl := (List.getElem?_eq_some_iff.1 hxc).1
          obtain ⟨nc2, hnc⟩ : ∃ r, nds[kc]? = some r := ⟨_, List.getElem?_eq_getElem (by omega)⟩
          have hncn := (hk kc nc2 xc' hnc hxc).1
          have hc0 : ¬ ((kc : Int) < 0) := by omega
          have hcd : decide ((kc : Int) < 0) = false := decide_eq_false hc0
          have hgd : (decide ((q : Int) + 1 = (q : Int) + 1) && !decide ((kc : Int) < 0)) = true := by rw [hcd, decide_eq_true rfl]; rfl
          by_cases hlt2 : ltT z.n xc'.n
          · have hnew := cand_new hxc h5 hDw hz hlt2
            rw [← htk] at hnew
            clear h5 hDc hcr hDw hT hnxE hnx hDy hDb hk hNet hN0 hd htk
            
            repeat' (first | ((first | apply RW.q1 | (apply DW.q1; exact rfl) | ((first | apply RW.qg | (apply DW.qg; exact rfl)); exact gvx; refine hgx tst ?_; intro hg hg')); (first | (apply q_ldr; exact rfl; exact evgx; exact hn; first | exact nd_ns hnz hnzn (by omega) | exact nd_ns hnc hncn (by omega) | exact nd_r hdi (by omega)) | (apply q_ldr; exact rfl; exact evgx; exact hro; exact nums_at hwj (by omega)) | (apply q_ldo; exact rfl; exact evgx; infer_instance; exact ints_at hdw (by omega)) | (apply q_sltT; exact evgx; exact evgx; exact hlt2) | exact qt | exact qu)) | refine xsg cts ?_ | (apply CW_condT; exact rfl; exact ar) | (apply CW_condF; exact rfl; exact ar) | ((first | apply RW.s1 | apply RW.s0 | (apply DW.sa; exact rfl)); exact gva) | (refine hK _ _ ?_; clear hK; refine xsg xsl ?_) | (refine xsg ahd ?_; (first | (apply gw_asg; exact rfl) | (apply gw_lit1; exact rfl; exact rfl; exact rfl; exact rfl; decide; intro b) | (apply gw_lit2; exact rfl; exact rfl; exact rfl; exact rfl; intro b) | (apply gw_lit3; exact rfl; exact rfl; exact rfl; exact rfl; exact rfl; intro b) | (apply gw_ap1; exact rfl; exact rfl; infer_instance; infer_instance; exact rfl; exact rfl; exact rfl; exact rfl; omega; intro a c) | (apply gw_ap1n; exact rfl; exact rfl; infer_instance; exact rfl; exact rfl; exact rfl; exact rfl; omega; intro a c) | (fail))) | (apply CW_region; intro K hK) | (apply CW_condX; exact rfl; exact tst; exact tst; all_goals (intro hq hc; try exact no)) | (refine CW_draw (id := 14) [] dwRfH0 mixed (by kernel_rfl) (fun K hK => ?_)))
            exact ⟨_, _, _, ⟨j + 1, _, rfl, rfl, rfl, by omega, hnew⟩, by exact sbe, sblt, by omega⟩
          · have hkeep := cand_keep hd hxc hcr hDc h5 hz hlt2
            rw [← htk] at hkeep
            clear h5 hDc hcr hDw hT hnxE hnx hDy hDb hk hNet hN0 hd htk
            
            repeat' (first | ((first | apply RW.q1 | (apply DW.q1; exact rfl) | ((first | apply RW.qg | (apply DW.qg; exact rfl)); exact gvx; refine hgx tst ?_; intro hg hg')); (first | (apply q_ldr; exact rfl; exact evgx; exact hn; first | exact nd_ns hnz hnzn (by omega) | exact nd_ns hnc hncn (by omega) | exact nd_r hdi (by omega)) | (apply q_ldr; exact rfl; exact evgx; exact hro; exact nums_at hwj (by omega)) | (apply q_ldo; exact rfl; exact evgx; infer_instance; exact ints_at hdw (by omega)) | (apply q_sltF; exact evgx; exact evgx; exact hlt2) | exact qt | exact qu)) | refine xsg cts ?_ | (apply CW_condT; exact rfl; exact ar) | (apply CW_condF; exact rfl; exact ar) | ((first | apply RW.s1 | apply RW.s0 | (apply DW.sa; exact rfl)); exact gva) | (refine hK _ _ ?_; clear hK; refine xsg xsl ?_) | (refine xsg ahd ?_; (first | (apply gw_asg; exact rfl) | (apply gw_lit1; exact rfl; exact rfl; exact rfl; exact rfl; decide; intro b) | (apply gw_lit2; exact rfl; exact rfl; exact rfl; exact rfl; intro b) | (apply gw_lit3; exact rfl; exact rfl; exact rfl; exact rfl; exact rfl; intro b) | (apply gw_ap1; exact rfl; exact rfl; infer_instance; infer_instance; exact rfl; exact rfl; exact rfl; exact rfl; omega; intro a c) | (apply gw_ap1n; exact rfl; exact rfl; infer_instance; exact rfl; exact rfl; exact rfl; exact rfl; omega; intro a c) | (fail))) | (apply CW_region; intro K hK) | (apply CW_condX; exact rfl; exact tst; exact tst; all_goals (intro hq hc; try exact no)) | (refine CW_draw (id := 14) [] dwRfH0 mixed (by kernel_rfl) (fun K hK => ?_)))
            exact ⟨_, _, _, ⟨j + 1, _, rfl, rfl, rfl, by omega, hkeep⟩, by exact sbe, sblt, by omega⟩
      · have hskip := cand_skip hCd hDw
        rw [← htk] at hskip
        obtain ⟨v, hv⟩ : ∃ v, d[w]? = some v := ⟨_, List.getElem?_eq_getElem (by rw [hF.1, hxl]; exact hwl)⟩
        have hvne : ¬ v = (q : Int) + 1 := fun h => hDw (farD_is hF (by rw [hv, h]; rfl))
        clear hDw hCd hT hnxE hnx hDy hDb hk hNet hN0 hd htk
        
        repeat' (first | ((first | apply RW.q1 | (apply DW.q1; exact rfl) | ((first | apply RW.qg | (apply DW.qg; exact rfl)); exact gvx; refine hgx tst ?_; intro hg hg')); (first | (apply q_ldr; exact rfl; exact evgx; exact hn; first | exact nd_ns hnz hnzn (by omega) | exact nd_r hdi (by omega)) | (apply q_ldr; exact rfl; exact evgx; exact hro; exact nums_at hwj (by omega)) | (apply q_ldo; exact rfl; exact evgx; infer_instance; exact ints_at hv (by omega)) | (exact (no : QW _ _ _ _ ⟨_, .load 9 _, _, _, _, _⟩ (.string (bstr [])))) | exact qt | exact qu)) | refine xsg cts ?_ | (apply CW_condT; exact rfl; exact ar) | (apply CW_condF; exact rfl; exact ar) | ((first | apply RW.s1 | apply RW.s0 | (apply DW.sa; exact rfl)); exact gva) | (refine hK _ _ ?_; clear hK; refine xsg xsl ?_) | (refine xsg ahd ?_; (first | (apply gw_asg; exact rfl) | (apply gw_lit1; exact rfl; exact rfl; exact rfl; exact rfl; decide; intro b) | (apply gw_lit2; exact rfl; exact rfl; exact rfl; exact rfl; intro b) | (apply gw_lit3; exact rfl; exact rfl; exact rfl; exact rfl; exact rfl; intro b) | (apply gw_ap1; exact rfl; exact rfl; infer_instance; infer_instance; exact rfl; exact rfl; exact rfl; exact rfl; omega; intro a c) | (apply gw_ap1n; exact rfl; exact rfl; infer_instance; exact rfl; exact rfl; exact rfl; exact rfl; omega; intro a c) | (fail))) | (apply CW_region; intro K hK) | (apply CW_condX; exact rfl; exact tst; exact tst; all_goals (intro hq hc; try exact no)) | (refine CW_draw (id := 14) [] dwRfH0 mixed (by kernel_rfl) (fun K hK => ?_)))
        exact ⟨_, _, _, ⟨j + 1, _, rfl, rfl, rfl, by omega, hskip⟩, by exact sbe, sblt, by omega⟩
    obtain rfl : j = nd.r.l.length := by omega
    rw [List.take_length] at hCd
    obtain ⟨b', hb1, hb2⟩ := dist_near hDy
    rcases hCd with ⟨_, hno⟩ | ⟨kc, xc', rfl, hxc, hcr, hDc, h5⟩
    · exact absurd hb2 (hno b' ((hnx b').1 hb1))
    have hcl := (List.getElem?_eq_some_iff.1 hxc).1
    obtain ⟨nc2, hnc⟩ : ∃ r, nds[kc]? = some r := ⟨_, List.getElem?_eq_getElem (by omega)⟩
    have hncn := (hk kc nc2 xc' hnc hxc).1
    have hT2 : ∀ l, Told (NT t) ltT xg.n q xc'.n l → ∃ l', (out ++ [xc'.n]) ++ l = xg.n :: l' ∧ Told (NT t) ltT xg.n k xg.n l' := fun l hl2 => by
      rw [List.append_assoc]
      exact hT _ (told_step hNet hd hxg hy hxc ((hnx kc).2 hcr) hDc (fun e x he hDe hne hxe => h5 e x ((hnx e).1 he) hDe hne hxe) hl2)
    
    repeat' (first | ((first | apply RW.q1 | (apply DW.q1; exact rfl) | ((first | apply RW.qg | (apply DW.qg; exact rfl)); exact gvx; refine hgx tst ?_; intro hg hg')); (first | (apply q_ldr; exact rfl; exact evgx; exact hn; first | exact nd_r hdi (by omega) | exact nd_ns hnc hncn (by omega)) | exact qt | exact qu)) | refine xsg cts ?_ | (apply CW_condT; exact rfl; exact ar) | (apply CW_condF; exact rfl; exact ar) | ((first | apply RW.s1 | apply RW.s0 | (apply DW.sa; exact rfl)); exact gva) | (refine hK _ _ ?_; clear hK; refine xsg xsl ?_) | (refine xsg ahd ?_; (first | (apply gw_asg; exact rfl) | (apply gw_lit1; exact rfl; exact rfl; exact rfl; exact rfl; decide; intro b) | (apply gw_lit2; exact rfl; exact rfl; exact rfl; exact rfl; intro b) | (apply gw_lit3; exact rfl; exact rfl; exact rfl; exact rfl; exact rfl; intro b) | (apply gw_ap1; exact rfl; exact rfl; infer_instance; infer_instance; exact rfl; exact rfl; exact rfl; exact rfl; omega; intro a c) | (apply gw_ap1n; exact rfl; exact rfl; infer_instance; exact rfl; exact rfl; exact rfl; exact rfl; omega; intro a c) | (fail))) | (apply CW_region; intro K hK) | (apply CW_condX; exact rfl; exact tst; exact tst; all_goals (intro hq hc; try exact no)) | (refine CW_draw (id := 14) [] dwRfH0 mixed (by kernel_rfl) (fun K hK => ?_)))
    exact ⟨_, _, _, ⟨kc, q, out.length + 1, _, _, out ++ [xc'.n], _, xc', rfl, rfl, rfl, by rw [List.length_append]; rfl, txs_snoc _ _, by omega, by omega, hxc, hDc, hT2⟩, by exact sbe, sblt, by omega⟩
  · have hno : ∀ m, ¬ Walk (Nx next) m goal goal := fun m h => hwk ⟨m, h⟩
    (refine SC_intro Try.func44 rfl (by kernel_rfl) (by rw [Try.ntmps44]; exact Nat.le_of_ble_eq_true rfl) ?_; simp only [Try.ntmps44, argE, Nat.reduceAdd])
    
    repeat' (first | ((first | apply RW.q1 | (apply DW.q1; exact rfl) | ((first | apply RW.qg | (apply DW.qg; exact rfl)); exact gvx; refine hgx tst ?_; intro hg hg')); (first | (apply q_ldo; exact rfl; exact evgx; infer_instance; exact ints_at hdv (by omega)) | exact qt | exact qu)) | refine xsg cts ?_ | (apply CW_condT; exact rfl; exact ar) | (apply CW_condF; exact rfl; exact ar) | ((first | apply RW.s1 | apply RW.s0 | (apply DW.sa; exact rfl)); exact gva) | (refine hK _ _ ?_; clear hK; refine xsg xsl ?_) | (refine xsg ahd ?_; (first | (apply gw_call (f := 68); exact evx; exact go68; intro G hG; refine SC.mono (hsp G hG.ext) ?_; rintro v M ⟨d, da, dc, hF, rfl, rfl⟩; (try dsimp only [jL, jM]); have hdv := farD_no hF (by omega) hno) | (apply gw_asg; exact rfl) | (apply gw_lit1; exact rfl; exact rfl; exact rfl; exact rfl; decide; intro b) | (apply gw_lit2; exact rfl; exact rfl; exact rfl; exact rfl; intro b) | (apply gw_lit3; exact rfl; exact rfl; exact rfl; exact rfl; exact rfl; intro b) | (apply gw_ap1; exact rfl; exact rfl; infer_instance; infer_instance; exact rfl; exact rfl; exact rfl; exact rfl; omega; intro a c) | (apply gw_ap1n; exact rfl; exact rfl; infer_instance; exact rfl; exact rfl; exact rfl; exact rfl; omega; intro a c) | (fail))) | (apply CW_region; intro K hK) | (apply CW_condX; exact rfl; exact tst; exact tst; all_goals (intro hq hc; try exact no)) | (refine CW_draw (id := 14) [] dwRfH0 mixed (by kernel_rfl) (fun K hK => ?_)))
    (refine CW_ret ?_; refine xsg xsl ?_; refine bR [.tmp 4] [.own 9 1 none 0 0 []] ?_)
    exact ⟨[], none, 0, .inl ⟨rfl, hno⟩, rfl, rfl, fun _ => ⟨rfl, rfl⟩, fun h => absurd rfl h⟩
end Go.Proofs.Ytkhmimlgkjenfaa.HL
namespace Go.Proofs.Ytkhmimlgkjenfaa.HL
open Go
attribute [local irreducible] goFn thenS blockS bodyS CW RW DW GW QW NW SC Pick Picks SubL Rd NN ResOk SrcW subE hops hseg AW hgen HC qv bldv
set_option maxHeartbeats 8000000
set_option maxRecDepth 100000
set_option linter.unusedVariables false
set_option linter.unusedSimpArgs false

abbrev dwRfI0 : List (Nat × Bool) := [(0, false), (1, false), (2, false), (3, false), (4, false), (5, false), (6, false), (7, false), (8, false)]
abbrev dwRfI1 : List (Nat × Bool) := [(0, false), (1, false), (2, false), (3, false), (4, false), (5, false), (6, false), (7, false), (8, false), (9, false)]
theorem rFirst_spec (x y : Tx) (l m : List Tx) (a b : Option Addr) (c e : Nat) (H : Hp) (ha : Rs H 1 a (x :: l).length c (txs (x :: l))) (hb : Rs H 1 b (y :: m).length e (txs (y :: m))) (hl : (x :: l).length ≤ 1048577) (hm : (y :: m).length ≤ 1048577) (hxy : x ≠ y) (w : Bool) (hw : w = true ↔ l.length < m.length ∨ (l.length = m.length ∧ ltT x y)) :
    SC Try.prog 45 [.slice a (x :: l).length c, .slice b (y :: m).length e] H [] (fun v M => v = .bool w ∧ M = []) := by
  have e1 : (x :: l).length = l.length + 1 := rfl
  have e2 : (y :: m).length = m.length + 1 := rfl
  by_cases hlen : l.length = m.length
  · have hx0 : (x :: l)[0]? = some x := rfl
    have hy0 : (y :: m)[0]? = some y := rfl
    (refine SC_intro Try.func45 rfl (by kernel_rfl) (by rw [Try.ntmps45]; exact Nat.le_of_ble_eq_true rfl) ?_; simp only [Try.ntmps45, argE, Nat.reduceAdd])
    
    repeat' (first | ((first | apply RW.q1 | (apply DW.q1; exact rfl)); exact qt) | refine xsg cts ?_ | (apply CW_condT; exact rfl; exact ar) | (apply CW_condF; exact rfl; exact ar) | (refine hK _ _ ?_; clear hK; refine xsg xsl ?_) | (refine xsg ahd ?_; (first | (apply gw_asg; exact rfl) | (fail))) | (apply CW_region; intro K hK) | (apply CW_condX; exact rfl; exact tst; exact tst; all_goals (intro hq hc; try exact no)) | (refine CW_draw (id := 6) [] dwRfI0 mixed (by kernel_rfl) (fun K hK => ?_)) | (refine CW_draw (id := 7) [] dwRfI1 mixed (by kernel_rfl) (fun K hK => ?_)))
    refine CW_loop (fun m' ll L => m' = 0 ∧ ll = [(0, true, .slice a (x :: l).length c), (1, true, .slice b (y :: m).length e), (5, true, .int .i64 0)] ∧ L = []) ⟨_, _, _, ⟨rfl, rfl, rfl⟩, by exact sbe, by exact sbl⟩ ?_
    rintro m' ll L ⟨rfl, rfl, rfl⟩
    by_cases hlt : ltT x y
    · obtain rfl : w = true := hw.2 (.inr ⟨hlen, hlt⟩)
      
      repeat' (first | ((first | apply RW.q1 | (apply DW.q1; exact rfl)); (first | (apply q_ldr; exact rfl; exact rfl; exact ha; exact txs_at hx0 (by omega)) | (apply q_ldr; exact rfl; exact rfl; exact hb; exact txs_at hy0 (by omega)) | (apply q_sbneT; exact rfl; exact rfl; exact hxy) | (apply q_sltT; exact rfl; exact rfl; exact hlt) | exact qt)) | refine xsg cts ?_ | (apply CW_condT; exact rfl; exact ar) | (apply CW_condF; exact rfl; exact ar) | (refine hK _ _ ?_; clear hK; refine xsg xsl ?_) | (refine xsg ahd ?_; (first | (apply gw_asg; exact rfl) | (fail))) | (apply CW_region; intro K hK) | (apply CW_condX; exact rfl; exact tst; exact tst; all_goals (intro hq hc; try exact no)) | (refine CW_draw (id := 6) [] dwRfI0 mixed (by kernel_rfl) (fun K hK => ?_)) | (refine CW_draw (id := 7) [] dwRfI1 mixed (by kernel_rfl) (fun K hK => ?_)))
      (refine CW_ret ?_; refine xsg xsl ?_; refine bR [.tmp 4] [] ?_)
      exact ⟨rfl, rfl⟩
    · obtain rfl : w = false := by
        cases w with
        | false => rfl
        | true =>
          rcases hw.1 rfl with h | h
          · omega
          · exact absurd h.2 hlt
      
      repeat' (first | ((first | apply RW.q1 | (apply DW.q1; exact rfl)); (first | (apply q_ldr; exact rfl; exact rfl; exact ha; exact txs_at hx0 (by omega)) | (apply q_ldr; exact rfl; exact rfl; exact hb; exact txs_at hy0 (by omega)) | (apply q_sbneT; exact rfl; exact rfl; exact hxy) | (apply q_sltF; exact rfl; exact rfl; exact hlt) | exact qt)) | refine xsg cts ?_ | (apply CW_condT; exact rfl; exact ar) | (apply CW_condF; exact rfl; exact ar) | (refine hK _ _ ?_; clear hK; refine xsg xsl ?_) | (refine xsg ahd ?_; (first | (apply gw_asg; exact rfl) | (fail))) | (apply CW_region; intro K hK) | (apply CW_condX; exact rfl; exact tst; exact tst; all_goals (intro hq hc; try exact no)) | (refine CW_draw (id := 6) [] dwRfI0 mixed (by kernel_rfl) (fun K hK => ?_)) | (refine CW_draw (id := 7) [] dwRfI1 mixed (by kernel_rfl) (fun K hK => ?_)))
      (refine CW_ret ?_; refine xsg xsl ?_; refine bR [.tmp 4] [] ?_)
      exact ⟨rfl, rfl⟩
  · have hwd : w = decide (((x :: l).length : Int) < ((y :: m).length : Int)) := by
      rw [Bool.eq_iff_iff, hw, jA]
      exact ⟨fun h => by omega, fun h => .inl (by omega)⟩
    (refine SC_intro Try.func45 rfl (by kernel_rfl) (by rw [Try.ntmps45]; exact Nat.le_of_ble_eq_true rfl) ?_; simp only [Try.ntmps45, argE, Nat.reduceAdd])
    
    repeat' (first | ((first | apply RW.q1 | (apply DW.q1; exact rfl)); exact qt) | refine xsg cts ?_ | (apply CW_condT; exact rfl; exact ar) | (apply CW_condF; exact rfl; exact ar) | (refine hK _ _ ?_; clear hK; refine xsg xsl ?_) | (refine xsg ahd ?_; (first | (apply gw_asg; exact rfl) | (fail))) | (apply CW_region; intro K hK) | (apply CW_condX; exact rfl; exact tst; exact tst; all_goals (intro hq hc; try exact no)) | (refine CW_draw (id := 6) [] dwRfI0 mixed (by kernel_rfl) (fun K hK => ?_)) | (refine CW_draw (id := 7) [] dwRfI1 mixed (by kernel_rfl) (fun K hK => ?_)))
    (refine CW_ret ?_; refine xsg xsl ?_; refine bR [.tmp 4] [] ?_)
    exact ⟨ret_bool hwd.symm, rfl⟩
theorem rCycle_spec (t : List Th) (nds : List Nd) (a0 : Option Addr) (c0 : Nat) (H : Hp) (hN : NdIn H t nds a0 c0) (hd : (t.map Th.n).Nodup) (hl : t.length ≤ 1048576) (hu : ∀ x, x ∈ t → x.u.length ≤ 1048576) :
    SC Try.prog 19 [.slice a0 t.length c0] H [] (fun v M => ∃ c a cc, CycS (NT t) (VN t) ltT c ∧ v = .slice a c.length cc ∧ M = [.own 9 1 a c.length cc (txs c)] ∧ (c = [] → a = none) ∧ (c ≠ [] → a.isNone = false)) := by
  have hN0 := hN
  obtain ⟨hn, ho, hnl, hk⟩ := hN
  have hNR := nds_rows hnl hk
  have hNet := hNR.net
  have hrn : ∀ (i : Nat) (x : Th) (G : Hp), t[i]? = some x → Ext H G → (∀ m, ¬ Walk (Nx ((nds.map Nd.r).map Rw.l)) m i i) → SC Try.prog 44 [.slice a0 t.length c0, .int .i64 (i : Nat)] G [] (fun v M => v = .slice none 0 0 ∧ M = [.own 9 1 none 0 0 []]) := fun i x G hx hG hno =>
    SC.mono (rRound_spec t nds a0 c0 i x G (hN0.ext hG) hd hl hu hx) fun v M ⟨c, a, cc, h1, h2, h3, h4, h5⟩ => by
      rcases h1 with ⟨rfl, _⟩ | ⟨k, l, rfl, hD, _⟩
      · obtain ⟨rfl, rfl⟩ := h4 rfl
        exact ⟨h2, h3⟩
      · exact absurd hD.1 (hno _)
  have hrs : ∀ (i q : Nat) (x : Th) (G : Hp), t[i]? = some x → Ext H G → Dist (Nx ((nds.map Nd.r).map Rw.l)) (q + 1) i i → SC Try.prog 44 [.slice a0 t.length c0, .int .i64 (i : Nat)] G [] (fun v M => ∃ (ad : Addr) (l : List Tx) (cc : Nat), v = .slice (some ad) (x.n :: l).length cc ∧ M = [.own 9 1 (some ad) (x.n :: l).length cc (txs (x.n :: l))] ∧ Told (NT t) ltT x.n q x.n l ∧ l.length = q) := fun i q x G hx hG hD0 =>
    SC.mono (rRound_spec t nds a0 c0 i x G (hN0.ext hG) hd hl hu hx) fun v M ⟨c, a, cc, h1, h2, h3, h4, h5⟩ => by
      rcases h1 with ⟨rfl, hno⟩ | ⟨k, l, rfl, hD, hT⟩
      · exact absurd hD0.1 (hno _)
      · obtain ⟨ad, rfl⟩ := h5 (by simp)
        have hkq : k = q := by have := hD.same hD0; omega
        subst hkq
        exact ⟨ad, l, cc, h2, h3, hT, hT.len⟩
  have hxl : ((nds.map Nd.r).map Rw.l).length = t.length := by rw [List.length_map, List.length_map]; exact hnl
  obtain ⟨next, hnext⟩ : ∃ next, next = (nds.map Nd.r).map Rw.l := ⟨_, rfl⟩
  rw [← hnext] at hNet hrn hrs hxl
  (refine SC_intro Try.func19 rfl (by kernel_rfl) (by rw [Try.ntmps19]; exact Nat.le_of_ble_eq_true rfl) ?_; simp only [Try.ntmps19, argE, Nat.reduceAdd])
  
  repeat' (first | (apply RW.q1; exact qt) | (apply RW.qg; exact gvx; refine hgx tst ?_; intro hg hg'; exact qu) | refine xsg cts ?_ | (apply CW_condT; exact rfl; exact ar) | (apply CW_condF; exact rfl; exact ar) | ((first | apply RW.s1 | apply RW.s0); exact gva) | (refine hK _ _ ?_; clear hK; refine xsg xsl ?_) | ((first | apply RW.a1 | apply RW.a0 | (apply RW.at; exact gva)); (first | (apply gw_asg; exact rfl) | (fail))) | (apply CW_region; intro K hK) | (apply CW_condX; exact rfl; exact tst; exact tst; all_goals (intro hq hc; try exact no)))
  refine CW_loop (fun m ll L => ∃ (i bn bc : Nat) (ba : Option Addr) (cs : List Value), m = t.length - i ∧ ll = [(0, true, .slice a0 t.length c0), (3, true, .slice ba bn bc), (4, true, .int .i64 (i : Nat))] ∧
      L = [.own 9 1 ba bn bc cs] ∧ i ≤ t.length ∧ ((ba = none ∧ bn = 0 ∧ bc = 0 ∧ cs = [] ∧ BestT t next i none) ∨ ∃ (ad : Addr) (g0 k : Nat) (y : Th) (l : List Tx), ba = some ad ∧ bn = (y.n :: l).length ∧ cs = txs (y.n :: l) ∧ g0 < i ∧ t[g0]? = some y ∧ Dist (Nx next) (k + 1) g0 g0 ∧ l.length = k ∧ Told (NT t) ltT y.n k y.n l ∧ BestT t next i (some g0)))
    ⟨_, _, _, ⟨0, 0, 0, none, [], rfl, rfl, rfl, by omega, .inl ⟨rfl, rfl, rfl, rfl, fun i x h => absurd h (by omega)⟩⟩, by exact sbe, sblt⟩ ?_
  rintro m ll L ⟨i, bn, bc, ba, cs, rfl, rfl, rfl, hi, hB⟩
  by_cases hlt : i < t.length
  · obtain ⟨x, hxi⟩ : ∃ x, t[i]? = some x := ⟨_, List.getElem?_eq_getElem (by omega)⟩
    obtain ⟨nd, hdi⟩ : ∃ r, nds[i]? = some r := ⟨_, List.getElem?_eq_getElem (by omega)⟩
    have hdv := (hk i nd x hdi hxi).2.1
    have hndv : ∀ (j : Nat), j = i * 3 + 1 → ((nds.flatMap ndC).drop j).take 1 = [.bool x.v] := fun j hj => by rw [← hdv]; exact nd_v hdi hj
    have hskipR : ∀ (hs : ∀ y, t[i]? = some y → vaT y → ∀ m, ¬ Walk (Nx next) m i i), ((ba = none ∧ bn = 0 ∧ bc = 0 ∧ cs = [] ∧ BestT t next (i + 1) none) ∨ ∃ (ad : Addr) (g0 k : Nat) (y : Th) (l : List Tx), ba = some ad ∧ bn = (y.n :: l).length ∧ cs = txs (y.n :: l) ∧ g0 < i + 1 ∧ t[g0]? = some y ∧ Dist (Nx next) (k + 1) g0 g0 ∧ l.length = k ∧ Told (NT t) ltT y.n k y.n l ∧ BestT t next (i + 1) (some g0)) := fun hs =>
      hB.imp (fun ⟨h1, h2, h3, h4, h5⟩ => ⟨h1, h2, h3, h4, best_skip h5 hs⟩) fun ⟨ad, g0, k, y, l, h1, h2, h3, h4, h5, h6, h7, h8, h9⟩ => ⟨ad, g0, k, y, l, h1, h2, h3, by omega, h5, h6, h7, h8, best_skip h9 hs⟩
    cases hxv : x.v with
    | false =>
      rw [hxv] at hndv
      have hR := hskipR fun y hy hvy => by
        rw [hxi] at hy; cases hy
        unfold vaT at hvy
        rw [hxv] at hvy
        cases hvy
      
      repeat' (first | ((first | apply RW.q1 | (apply RW.qg; exact gvx; refine hgx tst ?_; intro hg hg')); (first | (apply q_ldr; exact rfl; exact evgx; exact hn; exact hndv _ (by omega)) | exact qt | exact qu)) | refine xsg cts ?_ | (apply CW_condT; exact rfl; exact ar) | (apply CW_condF; exact rfl; exact ar) | ((first | apply RW.s1 | apply RW.s0); exact gva) | (refine hK _ _ ?_; clear hK; refine xsg xsl ?_) | ((first | apply RW.a1 | apply RW.a0 | (apply RW.at; exact gva)); (first | (apply gw_asg; exact rfl) | (fail))) | (apply CW_region; intro K hK) | (apply CW_condX; exact rfl; exact tst; exact tst; all_goals (intro hq hc; try exact no)))
      exact ⟨_, _, _, ⟨i + 1, bn, bc, ba, cs, rfl, rfl, rfl, by omega, hR⟩, by exact sbe, sblt, by omega⟩
    | true =>
      rw [hxv] at hndv
      by_cases hwk : ∃ m, Walk (Nx next) m i i
      · obtain ⟨m0, hm0⟩ := hwk
        obtain ⟨m1, _, hD1⟩ := hm0.dist
        have hm1 := hD1.1.pos
        obtain ⟨q, rfl⟩ : ∃ q, m1 = q + 1 := ⟨m1 - 1, by omega⟩
        have hq1 := dist_le hD1
        clear hskipR hm0
        rcases hB with ⟨rfl, rfl, rfl, rfl, hB⟩ | ⟨ad, g0, k, y, l, rfl, rfl, rfl, hgi, hyb, hDb, hll, hTb, hB⟩
        · have hnew := best_first hB hxi hxv hD1
          
          repeat' (first | ((first | apply RW.q1 | (apply RW.qg; exact gvx; refine hgx tst ?_; intro hg hg')); (first | (apply q_ldr; exact rfl; exact evgx; exact hn; exact hndv _ (by omega)) | exact qt | exact qu)) | refine xsg cts ?_ | (apply CW_condT; exact rfl; exact ar) | (apply CW_condF; exact rfl; exact ar) | ((first | apply RW.s1 | apply RW.s0); exact gva) | (refine hK _ _ ?_; clear hK; refine xsg xsl ?_) | ((first | apply RW.a1 | apply RW.a0 | (apply RW.at; exact gva)); (first | (apply gw_call (f := 44); exact evx; exact go44; intro G hG; refine SC.mono (hrs i q x G hxi hG.ext hD1) ?_; rintro v M ⟨wd, wl, wc, rfl, rfl, hwT, hwl⟩; (try dsimp only [jL, jM])) | (apply gw_asg; exact rfl) | (fail))) | (apply CW_region; intro K hK) | (apply CW_condX; exact rfl; exact tst; exact tst; all_goals (intro hq hc; try exact no)))
          exact ⟨_, _, _, ⟨i + 1, (x.n :: wl).length, wc, some wd, _, rfl, rfl, rfl, by omega, .inr ⟨wd, i, q, x, wl, rfl, rfl, rfl, by omega, hxi, hD1, hwl, hwT, hnew⟩⟩, by exact sbe, sblt, by omega⟩
        · have hk1 := dist_le hDb
          have hne : x.n ≠ y.n := fun h => by
            have := (get_one hd hxi hyb h).1
            omega
          by_cases hc1 : q < k ∨ (q = k ∧ ltT x.n y.n)
          · have hnew := best_new hB hyb hDb hxi hxv hD1 hc1
            
            repeat' (first | ((first | apply RW.q1 | (apply RW.qg; exact gvx; refine hgx tst ?_; intro hg hg')); (first | (apply q_ldr; exact rfl; exact evgx; exact hn; exact hndv _ (by omega)) | exact qt | exact qu)) | refine xsg cts ?_ | (apply CW_condT; exact rfl; exact ar) | (apply CW_condF; exact rfl; exact ar) | ((first | apply RW.s1 | apply RW.s0); exact gva) | (refine hK _ _ ?_; clear hK; refine xsg xsl ?_) | ((first | apply RW.a1 | apply RW.a0 | (apply RW.at; exact gva)); (first | (apply gw_call (f := 44); exact evx; exact go44; intro G hG; refine SC.mono (hrs i q x G hxi hG.ext hD1) ?_; rintro v M ⟨wd, wl, wc, rfl, rfl, hwT, hwl⟩; (try dsimp only [jL, jM])) | (apply gw_callE (f := 45); exact evx; exact go45; intro G hG; exact rFirst_spec x.n y.n wl l (some wd) (some ad) wc bc G (sl_own (by exact pkx) hG) (sl_own (by exact pkx) hG) (by rw [List.length_cons]; omega) (by rw [List.length_cons]; omega) hne true ⟨fun _ => by rw [hwl, hll]; exact hc1, fun _ => rfl⟩) | (apply gw_asg; exact rfl) | (fail))) | (apply CW_region; intro K hK) | (apply CW_condX; exact rfl; exact tst; exact tst; all_goals (intro hq hc; try exact no)))
            exact ⟨_, _, _, ⟨i + 1, (x.n :: wl).length, wc, some wd, _, rfl, rfl, rfl, by omega, .inr ⟨wd, i, q, x, wl, rfl, rfl, rfl, by omega, hxi, hD1, hwl, hwT, hnew⟩⟩, by exact sbe, sblt, by omega⟩
          · have hc2 : k < q ∨ (q = k ∧ ¬ ltT x.n y.n) := by
              by_cases h : q = k
              · exact .inr ⟨h, fun g => hc1 (.inr ⟨h, g⟩)⟩
              · have : ¬ q < k := fun g => hc1 (.inl g)
                exact .inl (by omega)
            have hkeep := best_keep hB hd hyb hDb hxi hD1 hc2
            
            repeat' (first | ((first | apply RW.q1 | (apply RW.qg; exact gvx; refine hgx tst ?_; intro hg hg')); (first | (apply q_ldr; exact rfl; exact evgx; exact hn; exact hndv _ (by omega)) | exact qt | exact qu)) | refine xsg cts ?_ | (apply CW_condT; exact rfl; exact ar) | (apply CW_condF; exact rfl; exact ar) | ((first | apply RW.s1 | apply RW.s0); exact gva) | (refine hK _ _ ?_; clear hK; refine xsg xsl ?_) | ((first | apply RW.a1 | apply RW.a0 | (apply RW.at; exact gva)); (first | (apply gw_call (f := 44); exact evx; exact go44; intro G hG; refine SC.mono (hrs i q x G hxi hG.ext hD1) ?_; rintro v M ⟨wd, wl, wc, rfl, rfl, hwT, hwl⟩; (try dsimp only [jL, jM])) | (apply gw_callE (f := 45); exact evx; exact go45; intro G hG; exact rFirst_spec x.n y.n wl l (some wd) (some ad) wc bc G (sl_own (by exact pkx) hG) (sl_own (by exact pkx) hG) (by rw [List.length_cons]; omega) (by rw [List.length_cons]; omega) hne false ⟨fun h => (by cases h), fun h => absurd (by rw [hwl, hll] at h; exact h) hc1⟩) | (apply gw_asg; exact rfl) | (fail))) | (apply CW_region; intro K hK) | (apply CW_condX; exact rfl; exact tst; exact tst; all_goals (intro hq hc; try exact no)))
            exact ⟨_, _, _, ⟨i + 1, _, bc, _, _, rfl, rfl, rfl, by omega, .inr ⟨ad, g0, k, y, l, rfl, rfl, rfl, by omega, hyb, hDb, hll, hTb, hkeep⟩⟩, by exact sbe, sblt, by omega⟩
      · have hno : ∀ m, ¬ Walk (Nx next) m i i := fun m h => hwk ⟨m, h⟩
        have hR := hskipR fun y _ _ m h => hwk ⟨m, h⟩
        
        repeat' (first | ((first | apply RW.q1 | (apply RW.qg; exact gvx; refine hgx tst ?_; intro hg hg')); (first | (apply q_ldr; exact rfl; exact evgx; exact hn; exact hndv _ (by omega)) | exact qt | exact qu)) | refine xsg cts ?_ | (apply CW_condT; exact rfl; exact ar) | (apply CW_condF; exact rfl; exact ar) | ((first | apply RW.s1 | apply RW.s0); exact gva) | (refine hK _ _ ?_; clear hK; refine xsg xsl ?_) | ((first | apply RW.a1 | apply RW.a0 | (apply RW.at; exact gva)); (first | (apply gw_callE (f := 44); exact evx; exact go44; intro G hG; exact hrn i x G hxi hG.ext hno) | (apply gw_call (f := 44); exact evx; exact go44; intro G hG; refine SC.mono (hrn i x G hxi hG.ext hno) ?_; rintro v M ⟨rfl, rfl⟩; (try dsimp only [jL, jM])) | (apply gw_asg; exact rfl) | (fail))) | (apply CW_region; intro K hK) | (apply CW_condX; exact rfl; exact tst; exact tst; all_goals (intro hq hc; try exact no)))
        exact ⟨_, _, _, ⟨i + 1, bn, bc, ba, cs, rfl, rfl, rfl, by omega, hR⟩, by exact sbe, sblt, by omega⟩
  obtain rfl : i = t.length := by omega
  rcases hB with ⟨rfl, rfl, rfl, rfl, hB⟩ | ⟨ad, g0, k, y, l, rfl, rfl, rfl, hgi, hyb, hDb, hll, hTb, hB⟩
  · have hC := BestC.none_cyc hNet hd hB
    
    repeat' (first | (apply RW.q1; exact qt) | (apply RW.qg; exact gvx; refine hgx tst ?_; intro hg hg'; exact qu) | refine xsg cts ?_ | (apply CW_condT; exact rfl; exact ar) | (apply CW_condF; exact rfl; exact ar) | ((first | apply RW.s1 | apply RW.s0); exact gva) | (refine hK _ _ ?_; clear hK; refine xsg xsl ?_) | ((first | apply RW.a1 | apply RW.a0 | (apply RW.at; exact gva)); (first | (apply gw_asg; exact rfl) | (fail))) | (apply CW_region; intro K hK) | (apply CW_condX; exact rfl; exact tst; exact tst; all_goals (intro hq hc; try exact no)))
    (refine CW_ret ?_; refine xsg xsl ?_; refine bR [.tmp 2] [.own 9 1 none 0 0 []] ?_)
    exact ⟨[], none, 0, hC, rfl, rfl, fun _ => rfl, fun h => absurd rfl h⟩
  · obtain ⟨xb, k', hxb, hDb', hcyc⟩ := BestC.some_cyc hNet hd hB
    rw [hyb] at hxb
    cases hxb
    have hkk : k = k' := by have := hDb.same hDb'; omega
    subst hkk
    have hC := hcyc l hTb
    
    repeat' (first | (apply RW.q1; exact qt) | (apply RW.qg; exact gvx; refine hgx tst ?_; intro hg hg'; exact qu) | refine xsg cts ?_ | (apply CW_condT; exact rfl; exact ar) | (apply CW_condF; exact rfl; exact ar) | ((first | apply RW.s1 | apply RW.s0); exact gva) | (refine hK _ _ ?_; clear hK; refine xsg xsl ?_) | ((first | apply RW.a1 | apply RW.a0 | (apply RW.at; exact gva)); (first | (apply gw_asg; exact rfl) | (fail))) | (apply CW_region; intro K hK) | (apply CW_condX; exact rfl; exact tst; exact tst; all_goals (intro hq hc; try exact no)))
    (refine CW_ret ?_; refine xsg xsl ?_; refine bR [.tmp 2] [.own 9 1 (some ad) (y.n :: l).length bc (txs (y.n :: l))] ?_)
    exact ⟨y.n :: l, some ad, bc, hC, rfl, rfl, fun h => (by cases h), fun _ => rfl⟩
end Go.Proofs.Ytkhmimlgkjenfaa.HL
