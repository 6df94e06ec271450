/- LawFirst: StaZk: the law of one file's variables. Conditions: the lists' lengths. OpenS: texts, variables, files and packages among the arguments, opened. No condition. StaLa: the closing of the law StartFirst: the given statement in full. No condition. -/
import Derived.Test.YtkhmimlgkjenfaaEngX
import Derived.Test.YtkhmimlgkjenfaaWalkGX
import Derived.Test.YtkhmimlgkjenfaaClose7X
import Derived.Test.YtkhmimlgkjenfaaLibOX
import Derived.Test.YtkhmimlgkjenfaaWalkBX
namespace Go.Proofs.Ytkhmimlgkjenfaa.HL
open Go
attribute [local irreducible] goFn thenS blockS bodyS CW RW DW GW QW NW SC Pick Picks SubL Rd NN ResOk SrcW subE hops hseg AW hgen HC qv bldv
set_option maxHeartbeats 8000000
set_option maxRecDepth 100000
set_option linter.unusedVariables false
set_option linter.unusedSimpArgs false

def onF (va : Option Addr) (vc : Nat) (l : List Vr) : Fl := ⟨[102], va, vc, l, none, 0, [], 0⟩
def onP (la : Option Addr) (lc : Nat) (f : Fl) : Pk := ⟨[97], none, 0, [], la, lc, [f]⟩
theorem on_things (va : Option Addr) (vc : Nat) (l : List Vr) : things (onF va vc l) = l.map (thV true) := by
  show l.map (thV true) ++ [] = _
  rw [List.append_nil]
theorem on_all (va : Option Addr) (vc : Nat) (l : List Vr) : allT [onF va vc l] = l.map (thV true) := by
  show things (onF va vc l) ++ [] = _
  rw [List.append_nil, on_things]
theorem flt_ne0 {p : Pk} {q : Int × List Tx} (h : fltO p = some q) : q.1 ≠ 0 := by
  unfold fltO at h
  cases h1 : sizeO p with
  | some x =>
    rw [h1] at h; cases h
    rw [(sizeO_some h1).2]; decide
  | none =>
    rw [h1] at h
    cases h2 : formO [p] with
    | some s => rw [h2] at h; cases h; show (3 : Int) ≠ 0; decide
    | none =>
      rw [h2] at h
      cases h3 : dupP [] [p] with
      | some s => rw [h3] at h; cases h; show (6 : Int) ≠ 0; decide
      | none =>
        rw [h3] at h
        cases h4 : joinO p with
        | some r => rw [h4] at h; cases h; exact (joinO_some h4).1
        | none => rw [h4] at h; cases h
theorem on_cases {la va : Option Addr} {lc vc : Nat} {l : List Vr} {e : Int} {out them : List Tx} (h : VarsR (onP la lc (onF va vc l)) e out them) :
    (e ≠ 0 ∧ out = []) ∨ (e = 0 ∧ out.length = l.length ∧ ∀ (n : Nat) (s : Tx), out[n]? = some s → s ≠ [] ∧
      ∃ (i : Nat) (x : Vr), l[i]? = some x ∧ x.n = s ∧ (x.n ∉ out.take n ∧ ∀ u, u ∈ x.u → u ∈ out.take n) ∧ ∀ (j : Nat) (y : Vr), j < i → l[j]? = some y → ¬ (y.n ∉ out.take n ∧ ∀ u, u ∈ y.u → u ∈ out.take n)) := by
  rcases h with ⟨q, h1, rfl, rfl, rfl⟩ | ⟨h1, h2, h3, rfl, rfl⟩ | ⟨h1, h2, rfl, rfl, l', h3, h4, h5⟩
  · exact .inl ⟨flt_ne0 h1, rfl⟩
  · exact .inl ⟨by decide, rfl⟩
  · obtain ⟨g1, _, _, g4, g5, _⟩ := dup_one h1
    have hl : l' = [onF va vc l] := List.perm_singleton.1 h3
    subst hl
    have ha : allT (onP la lc (onF va vc l)).fl = l.map (thV true) := on_all va vc l
    rw [ha] at g4
    rw [on_all] at h5
    have hv : ∀ x, x ∈ l.map (thV true) → x.v = true := fun x hx => by
      obtain ⟨y, _, rfl⟩ := List.mem_map.1 hx; rfl
    have hu : ∀ x, x ∈ l.map (thV true) → ∀ s, s ∈ x.u → s ∈ (l.map (thV true)).map Th.n := fun x hx s hs => by
      rw [join_flat, ha] at g5
      have h6 := useO_none.1 (firstO_none.1 (firstO_none.1 g5 x hx) s hs)
      unfold useE at h6
      split at h6
      · by_cases hin : s ∈ (l.map (thV true)).map Th.n
        · exact hin
        · rw [if_neg hin] at h6; cases h6
      · rw [if_neg (show ¬ s.take _ ∈ (onP la lc (onF va vc l)).im from fun h => by cases h)] at h6
        cases h6
    refine .inr ⟨rfl, ?_, fun n s hs => ?_⟩
    · rw [h5.2, List.countP_eq_length.2 (fun x hx => hv x hx), List.length_map]
    · obtain ⟨i, x, hx, rfl, hr, hm⟩ := ord_first h5 hv hu g4 hs
      rw [List.getElem?_map] at hx
      obtain ⟨y, hy, rfl⟩ := Option.map_eq_some_iff.1 hx
      refine ⟨fun hn => ?_, i, y, hy, rfl, hr, fun j z hj hz => hm j (thV true z) hj (by rw [List.getElem?_map, hz]; rfl)⟩
      have hw := (form_words g1 (p := onP la lc (onF va vc l)) (by simp)).2 (thV true y) (by rw [ha]; exact List.mem_map.2 ⟨y, List.mem_of_getElem? hy, rfl⟩)
      have := hw.1
      rw [hn] at this
      exact absurd this (by decide)
theorem on_ok {G : Hp} {la va : Option Addr} {lc vc : Nat} {l : List Vr} (h1 : Rs G 2 va l.length vc (l.flatMap vrC)) (h2 : ∀ x, x ∈ l → vrOk G x) (h3 : Rs G 4 la 1 lc ([onF va vc l].flatMap flC)) : pkOk G (onP la lc (onF va vc l)) := by
  refine ⟨rs_none, h3, fun f hf => ?_⟩
  obtain rfl := List.mem_singleton.1 hf
  exact ⟨h1, rs_none, h2, fun x hx => by cases hx⟩
theorem on_small {la va : Option Addr} {lc vc : Nat} {l : List Vr} (hl : l.length ≤ 1048576) (hu : ∀ x, x ∈ l → x.u.length ≤ 1048576 ∧ x.n.length ≤ 1048576 ∧ ∀ s, s ∈ x.u → s.length ≤ 1048576) : Small (onP la lc (onF va vc l)) := by
  refine ⟨Nat.zero_le _, by show 1 ≤ _; omega, fun f hf => ?_, ⟨by show 1 ≤ _; omega, fun f hf => ?_⟩, fun x hx => ?_⟩
  · obtain rfl := List.mem_singleton.1 hf
    exact ⟨hl, Nat.zero_le _⟩
  · obtain rfl := List.mem_singleton.1 hf
    show 1 ≤ _; omega
  · have hx : x ∈ allT [onF va vc l] := hx
    rw [on_all] at hx
    obtain ⟨y, hy, rfl⟩ := List.mem_map.1 hx
    exact hu y hy
def rB (o us : List Tx) (n : Tx) : Bool := !decide (n ∈ o) && us.all fun u => decide (u ∈ o)
theorem rB_iff {o us : List Tx} {n : Tx} : rB o us n = true ↔ n ∉ o ∧ ∀ u, u ∈ us → u ∈ o := by
  simp [rB]
theorem rB_snoc {o us : List Tx} {n u : Tx} : rB o (us ++ [u]) n = (rB o us n && decide (u ∈ o)) := by
  unfold rB
  rw [List.all_append]
  simp [Bool.and_assoc]
theorem lawFirst_spec (l : List Vr) (va : Option Addr) (vc : Nat) (H : Hp) (hv : Rs H 2 va l.length vc (l.flatMap vrC)) (hvo : ∀ x, x ∈ l → vrOk H x) (hl : l.length ≤ 1048576) (hu : ∀ x, x ∈ l → x.u.length ≤ 1048576 ∧ x.n.length ≤ 1048576 ∧ ∀ s, s ∈ x.u → s.length ≤ 1048576) :
    SC Try.prog 4 [.slice va l.length vc] H [] (fun v M => v = .bool true) := by
  (refine SC_intro Try.func4 rfl (by kernel_rfl) (by rw [Try.ntmps4]; exact Nat.le_of_ble_eq_true rfl) ?_; simp only [Try.ntmps4, argE, Nat.reduceAdd])
  
  repeat' (first | ((first | apply RW.q1 | (apply DW.q1; exact rfl)); (first | (apply q_bld; exact rfl; first | exact bld25_0_2 _ _ _ _ | exact bld38_0_1 _ _ _ _) | exact qt)) | ((first | apply RW.qg | (apply DW.qg; exact rfl)); exact gvx; refine hgx tst ?_; intro hg hg'; (first | (apply q_bld; exact rfl; first | exact bld25_0_2 _ _ _ _ | exact bld38_0_1 _ _ _ _) | exact qu)) | refine xsg cts ?_ | (apply CW_condT; exact rfl; exact ar) | (apply CW_condF; exact rfl; exact ar) | ((first | apply RW.s1 | apply RW.s0 | (apply DW.sa; exact rfl)); exact gva) | (refine hK _ _ ?_; clear hK; refine xsg xsl ?_) | (refine xsg ahd ?_; (first | (apply gw_lit1 (d := some 17); exact rfl; exact rfl; exact rfl; exact rfl; decide; intro fb) | (apply gw_call (f := 6); exact evx; exact go6; intro G hG; refine SC.mono (sVars_spec (onP (some ⟨fb, 0, none⟩) 1 (onF va vc l)) G (on_ok (hv.ext hG.ext) (fun x hx => (hvo x hx).ext hG.ext) (sl_own (by exact pkx) hG)) (on_small hl hu)) ?_; rintro v M ⟨e, out, them, oa, ca, oc, cc, hV, rfl, rfl⟩; (try dsimp only [jL, jM]); rcases on_cases hV with ⟨he, rfl⟩ | ⟨rfl, hlen, hfst⟩) | (apply gw_callE (f := 10); exact evx; exact go10; intro G hG; exact known_spec G) | (apply gw_asg; exact rfl) | (apply gw_lit1; exact rfl; exact rfl; exact rfl; exact rfl; decide; intro b) | (apply gw_lit2; exact rfl; exact rfl; exact rfl; exact rfl; intro b) | (apply gw_lit3; exact rfl; exact rfl; exact rfl; exact rfl; exact rfl; intro b) | (fail))) | (apply CW_region; intro K hK) | (apply CW_condX; exact rfl; exact tst; exact tst; all_goals (intro hq hc; try exact no)) | (refine CW_draw (id := 17) [] [(0, false), (1, false), (2, false), (3, false), (4, false), (5, false), (6, false), (7, false), (8, false), (9, false), (10, false), (11, false), (12, false), (13, true)] mixed (by kernel_rfl) (fun K hK => ?_)) | (refine CW_draw (id := 25) [] [(0, false), (1, false), (2, false), (3, false), (4, false), (5, false), (6, false), (7, false), (8, false), (9, false), (10, false), (11, false), (12, false), (13, false), (14, false), (15, false), (16, true)] mixed (by kernel_rfl) (fun K hK => ?_)))
  · (refine CW_ret ?_; refine xsg xsl ?_; refine bR [.tmp 2] [] ?_)
    rfl
  · refine CW_loop (fun m ll L => ∃ k : Nat, m = out.length - k ∧ ll = [(0, true, .slice va l.length vc), (3, true, .slice oa out.length oc), (6, true, .int .i64 (k : Nat))] ∧ L = [.own 9 1 oa out.length oc (txs out)] ∧ k ≤ out.length)
      ⟨_, _, _, ⟨0, rfl, rfl, rfl, by omega⟩, by exact sbe, by exact sbl⟩ ?_
    rintro m ll L ⟨k, rfl, rfl, rfl, hk⟩
    by_cases hlt : k < out.length
    · obtain ⟨s, hs⟩ : ∃ s, out[k]? = some s := ⟨_, List.getElem?_eq_getElem hlt⟩
      obtain ⟨hs0, i0, x0, hx0, hn0, hr0, hm0⟩ := hfst k s hs
      have hi0 := (List.getElem?_eq_some_iff.1 hx0).1
      
      repeat' (first | ((first | apply RW.q1 | (apply DW.q1; exact rfl)); (first | (apply q_bld; exact rfl; first | exact bld25_0_2 _ _ _ _ | exact bld38_0_1 _ _ _ _) | exact qt)) | ((first | apply RW.qg | (apply DW.qg; exact rfl)); exact gvx; refine hgx tst ?_; intro hg hg'; (first | (apply q_bld; exact rfl; first | exact bld25_0_2 _ _ _ _ | exact bld38_0_1 _ _ _ _) | exact qu)) | refine xsg cts ?_ | (apply CW_condT; exact rfl; exact ar) | (apply CW_condF; exact rfl; exact ar) | ((first | apply RW.s1 | apply RW.s0 | (apply DW.sa; exact rfl)); exact gva) | (refine hK _ _ ?_; clear hK; refine xsg xsl ?_) | (refine xsg ahd ?_; (first | (apply gw_asg; exact rfl) | (apply gw_lit1; exact rfl; exact rfl; exact rfl; exact rfl; decide; intro b) | (apply gw_lit2; exact rfl; exact rfl; exact rfl; exact rfl; intro b) | (apply gw_lit3; exact rfl; exact rfl; exact rfl; exact rfl; exact rfl; intro b) | (fail))) | (apply CW_region; intro K hK) | (apply CW_condX; exact rfl; exact tst; exact tst; all_goals (intro hq hc; try exact no)) | (refine CW_draw (id := 17) [] [(0, false), (1, false), (2, false), (3, false), (4, false), (5, false), (6, false), (7, false), (8, false), (9, false), (10, false), (11, false), (12, false), (13, true)] mixed (by kernel_rfl) (fun K hK => ?_)) | (refine CW_draw (id := 25) [] [(0, false), (1, false), (2, false), (3, false), (4, false), (5, false), (6, false), (7, false), (8, false), (9, false), (10, false), (11, false), (12, false), (13, false), (14, false), (15, false), (16, true)] mixed (by kernel_rfl) (fun K hK => ?_)))
      refine CW_loop (fun m ll L => ∃ (i : Nat) (w : Tx), m = l.length - i ∧ ll = [(0, true, .slice va l.length vc), (3, true, .slice oa out.length oc), (6, true, .int .i64 (k : Nat)), (7, true, .string (bstr w)), (8, true, .int .i64 (i : Nat))] ∧ L = [.own 9 1 oa out.length oc (txs out)] ∧ ((w = [] ∧ i ≤ i0) ∨ (w = s ∧ i = i0 + 1)))
        ⟨_, _, _, ⟨0, [], rfl, rfl, rfl, .inl ⟨rfl, by omega⟩⟩, by exact sbe, by exact sbl⟩ ?_
      rintro m ll L ⟨i, w, rfl, rfl, rfl, hw⟩
      rcases hw with ⟨rfl, hi⟩ | ⟨rfl, rfl⟩
      · obtain ⟨y, hy⟩ : ∃ y, l[i]? = some y := ⟨_, List.getElem?_eq_getElem (by omega)⟩
        have hyo : Rs H 1 y.a y.u.length y.c (txs y.u) := hvo y (List.mem_of_getElem? hy)
        have hyu := hu y (List.mem_of_getElem? hy)
        
        repeat' (first | ((first | apply RW.q1 | (apply DW.q1; exact rfl)); (first | (apply q_sbeqT (a := []) (b := []); exact rfl; exact rfl; exact rfl) | (apply q_bld; exact rfl; first | exact bld25_0_2 _ _ _ _ | exact bld38_0_1 _ _ _ _) | exact qt)) | ((first | apply RW.qg | (apply DW.qg; exact rfl)); exact gvx; refine hgx tst ?_; intro hg hg'; (first | (apply q_sbeqT (a := []) (b := []); exact evgx; exact evgx; exact rfl) | (apply q_bld; exact rfl; first | exact bld25_0_2 _ _ _ _ | exact bld38_0_1 _ _ _ _) | exact qu)) | refine xsg cts ?_ | (apply CW_condT; exact rfl; exact ar) | (apply CW_condF; exact rfl; exact ar) | ((first | apply RW.s1 | apply RW.s0 | (apply DW.sa; exact rfl)); exact gva) | (refine hK _ _ ?_; clear hK; refine xsg xsl ?_) | (refine xsg ahd ?_; (first | (apply gw_asg; exact rfl) | (apply gw_lit1; exact rfl; exact rfl; exact rfl; exact rfl; decide; intro b) | (apply gw_lit2; exact rfl; exact rfl; exact rfl; exact rfl; intro b) | (apply gw_lit3; exact rfl; exact rfl; exact rfl; exact rfl; exact rfl; intro b) | (fail))) | (apply CW_region; intro K hK) | (apply CW_condX; exact rfl; exact tst; exact tst; all_goals (intro hq hc; try exact no)) | (refine CW_draw (id := 17) [] [(0, false), (1, false), (2, false), (3, false), (4, false), (5, false), (6, false), (7, false), (8, false), (9, false), (10, false), (11, false), (12, false), (13, true)] mixed (by kernel_rfl) (fun K hK => ?_)) | (refine CW_draw (id := 25) [] [(0, false), (1, false), (2, false), (3, false), (4, false), (5, false), (6, false), (7, false), (8, false), (9, false), (10, false), (11, false), (12, false), (13, false), (14, false), (15, false), (16, true)] mixed (by kernel_rfl) (fun K hK => ?_)))
        refine CW_loop (fun m ll L => ∃ (j : Nat) (r : Bool), m = k - j ∧ ll = [(0, true, .slice va l.length vc), (3, true, .slice oa out.length oc), (6, true, .int .i64 (k : Nat)), (7, true, .string (bstr [])), (8, true, .int .i64 (i : Nat)), (9, true, .bool r), (10, true, .int .i64 (j : Nat))] ∧ L = [.own 9 1 oa out.length oc (txs out)] ∧ j ≤ k ∧ r = !decide (y.n ∈ out.take j))
          ⟨_, _, _, ⟨0, true, rfl, rfl, rfl, by omega, rfl⟩, by exact sbe, by exact sbl⟩ ?_
        rintro m ll L ⟨j, r, rfl, rfl, rfl, hj, hr⟩
        by_cases hjl : j < k
        · obtain ⟨z, hz⟩ : ∃ z, out[j]? = some z := ⟨_, List.getElem?_eq_getElem (by omega)⟩
          have htk := take_snoc' hz
          cases r with
          | false =>
            have hnew : false = !decide (y.n ∈ out.take (j + 1)) := by
              have : y.n ∈ out.take j := by simpa using hr
              rw [htk]; simp [this]
            
            repeat' (first | ((first | apply RW.q1 | (apply DW.q1; exact rfl)); (first | (apply q_bld; exact rfl; first | exact bld25_0_2 _ _ _ _ | exact bld38_0_1 _ _ _ _) | exact qt)) | ((first | apply RW.qg | (apply DW.qg; exact rfl)); exact gvx; refine hgx tst ?_; intro hg hg'; (first | (apply q_bld; exact rfl; first | exact bld25_0_2 _ _ _ _ | exact bld38_0_1 _ _ _ _) | exact qu)) | refine xsg cts ?_ | (apply CW_condT; exact rfl; exact ar) | (apply CW_condF; exact rfl; exact ar) | ((first | apply RW.s1 | apply RW.s0 | (apply DW.sa; exact rfl)); exact gva) | (refine hK _ _ ?_; clear hK; refine xsg xsl ?_) | (refine xsg ahd ?_; (first | (apply gw_asg; exact rfl) | (apply gw_lit1; exact rfl; exact rfl; exact rfl; exact rfl; decide; intro b) | (apply gw_lit2; exact rfl; exact rfl; exact rfl; exact rfl; intro b) | (apply gw_lit3; exact rfl; exact rfl; exact rfl; exact rfl; exact rfl; intro b) | (fail))) | (apply CW_region; intro K hK) | (apply CW_condX; exact rfl; exact tst; exact tst; all_goals (intro hq hc; try exact no)) | (refine CW_draw (id := 17) [] [(0, false), (1, false), (2, false), (3, false), (4, false), (5, false), (6, false), (7, false), (8, false), (9, false), (10, false), (11, false), (12, false), (13, true)] mixed (by kernel_rfl) (fun K hK => ?_)) | (refine CW_draw (id := 25) [] [(0, false), (1, false), (2, false), (3, false), (4, false), (5, false), (6, false), (7, false), (8, false), (9, false), (10, false), (11, false), (12, false), (13, false), (14, false), (15, false), (16, true)] mixed (by kernel_rfl) (fun K hK => ?_)))
            exact ⟨_, _, _, ⟨j + 1, false, rfl, rfl, rfl, by omega, hnew⟩, by exact sbe, by exact sbl, by omega⟩
          | true =>
            have hno : y.n ∉ out.take j := by simpa using hr
            by_cases hzy : z = y.n
            · have hnew : false = !decide (y.n ∈ out.take (j + 1)) := by rw [htk, hzy]; simp
              
              repeat' (first | ((first | apply RW.q1 | (apply DW.q1; exact rfl)); (first | (apply q_ldo; exact rfl; exact rfl; infer_instance; exact txs_at hz (by omega)) | (apply q_ldr; exact rfl; exact rfl; exact hv; exact vr_n hy (by omega)) | (apply q_sbneF; exact rfl; exact rfl; exact hzy) | (apply q_bld; exact rfl; first | exact bld25_0_2 _ _ _ _ | exact bld38_0_1 _ _ _ _) | exact qt)) | ((first | apply RW.qg | (apply DW.qg; exact rfl)); exact gvx; refine hgx tst ?_; intro hg hg'; (first | (apply q_ldo; exact rfl; exact evgx; infer_instance; exact txs_at hz (by omega)) | (apply q_ldr; exact rfl; exact evgx; exact hv; exact vr_n hy (by omega)) | (apply q_sbneF; exact evgx; exact evgx; exact hzy) | (apply q_bld; exact rfl; first | exact bld25_0_2 _ _ _ _ | exact bld38_0_1 _ _ _ _) | exact qu)) | refine xsg cts ?_ | (apply CW_condT; exact rfl; exact ar) | (apply CW_condF; exact rfl; exact ar) | ((first | apply RW.s1 | apply RW.s0 | (apply DW.sa; exact rfl)); exact gva) | (refine hK _ _ ?_; clear hK; refine xsg xsl ?_) | (refine xsg ahd ?_; (first | (apply gw_asg; exact rfl) | (apply gw_lit1; exact rfl; exact rfl; exact rfl; exact rfl; decide; intro b) | (apply gw_lit2; exact rfl; exact rfl; exact rfl; exact rfl; intro b) | (apply gw_lit3; exact rfl; exact rfl; exact rfl; exact rfl; exact rfl; intro b) | (fail))) | (apply CW_region; intro K hK) | (apply CW_condX; exact rfl; exact tst; exact tst; all_goals (intro hq hc; try exact no)) | (refine CW_draw (id := 17) [] [(0, false), (1, false), (2, false), (3, false), (4, false), (5, false), (6, false), (7, false), (8, false), (9, false), (10, false), (11, false), (12, false), (13, true)] mixed (by kernel_rfl) (fun K hK => ?_)) | (refine CW_draw (id := 25) [] [(0, false), (1, false), (2, false), (3, false), (4, false), (5, false), (6, false), (7, false), (8, false), (9, false), (10, false), (11, false), (12, false), (13, false), (14, false), (15, false), (16, true)] mixed (by kernel_rfl) (fun K hK => ?_)))
              exact ⟨_, _, _, ⟨j + 1, false, rfl, rfl, rfl, by omega, hnew⟩, by exact sbe, by exact sbl, by omega⟩
            · have hnew : true = !decide (y.n ∈ out.take (j + 1)) := by rw [htk]; simp [hno, Ne.symm hzy]
              
              repeat' (first | ((first | apply RW.q1 | (apply DW.q1; exact rfl)); (first | (apply q_ldo; exact rfl; exact rfl; infer_instance; exact txs_at hz (by omega)) | (apply q_ldr; exact rfl; exact rfl; exact hv; exact vr_n hy (by omega)) | (apply q_sbneT; exact rfl; exact rfl; exact hzy) | (apply q_bld; exact rfl; first | exact bld25_0_2 _ _ _ _ | exact bld38_0_1 _ _ _ _) | exact qt)) | ((first | apply RW.qg | (apply DW.qg; exact rfl)); exact gvx; refine hgx tst ?_; intro hg hg'; (first | (apply q_ldo; exact rfl; exact evgx; infer_instance; exact txs_at hz (by omega)) | (apply q_ldr; exact rfl; exact evgx; exact hv; exact vr_n hy (by omega)) | (apply q_sbneT; exact evgx; exact evgx; exact hzy) | (apply q_bld; exact rfl; first | exact bld25_0_2 _ _ _ _ | exact bld38_0_1 _ _ _ _) | exact qu)) | refine xsg cts ?_ | (apply CW_condT; exact rfl; exact ar) | (apply CW_condF; exact rfl; exact ar) | ((first | apply RW.s1 | apply RW.s0 | (apply DW.sa; exact rfl)); exact gva) | (refine hK _ _ ?_; clear hK; refine xsg xsl ?_) | (refine xsg ahd ?_; (first | (apply gw_asg; exact rfl) | (apply gw_lit1; exact rfl; exact rfl; exact rfl; exact rfl; decide; intro b) | (apply gw_lit2; exact rfl; exact rfl; exact rfl; exact rfl; intro b) | (apply gw_lit3; exact rfl; exact rfl; exact rfl; exact rfl; exact rfl; intro b) | (fail))) | (apply CW_region; intro K hK) | (apply CW_condX; exact rfl; exact tst; exact tst; all_goals (intro hq hc; try exact no)) | (refine CW_draw (id := 17) [] [(0, false), (1, false), (2, false), (3, false), (4, false), (5, false), (6, false), (7, false), (8, false), (9, false), (10, false), (11, false), (12, false), (13, true)] mixed (by kernel_rfl) (fun K hK => ?_)) | (refine CW_draw (id := 25) [] [(0, false), (1, false), (2, false), (3, false), (4, false), (5, false), (6, false), (7, false), (8, false), (9, false), (10, false), (11, false), (12, false), (13, false), (14, false), (15, false), (16, true)] mixed (by kernel_rfl) (fun K hK => ?_)))
              exact ⟨_, _, _, ⟨j + 1, true, rfl, rfl, rfl, by omega, hnew⟩, by exact sbe, by exact sbl, by omega⟩
        obtain rfl : j = k := by omega
        clear hjl hj
        
        repeat' (first | ((first | apply RW.q1 | (apply DW.q1; exact rfl)); (first | (apply q_bld; exact rfl; first | exact bld25_0_2 _ _ _ _ | exact bld38_0_1 _ _ _ _) | exact qt)) | ((first | apply RW.qg | (apply DW.qg; exact rfl)); exact gvx; refine hgx tst ?_; intro hg hg'; (first | (apply q_bld; exact rfl; first | exact bld25_0_2 _ _ _ _ | exact bld38_0_1 _ _ _ _) | exact qu)) | refine xsg cts ?_ | (apply CW_condT; exact rfl; exact ar) | (apply CW_condF; exact rfl; exact ar) | ((first | apply RW.s1 | apply RW.s0 | (apply DW.sa; exact rfl)); exact gva) | (refine hK _ _ ?_; clear hK; refine xsg xsl ?_) | (refine xsg ahd ?_; (first | (apply gw_asg; exact rfl) | (apply gw_lit1; exact rfl; exact rfl; exact rfl; exact rfl; decide; intro b) | (apply gw_lit2; exact rfl; exact rfl; exact rfl; exact rfl; intro b) | (apply gw_lit3; exact rfl; exact rfl; exact rfl; exact rfl; exact rfl; intro b) | (fail))) | (apply CW_region; intro K hK) | (apply CW_condX; exact rfl; exact tst; exact tst; all_goals (intro hq hc; try exact no)) | (refine CW_draw (id := 17) [] [(0, false), (1, false), (2, false), (3, false), (4, false), (5, false), (6, false), (7, false), (8, false), (9, false), (10, false), (11, false), (12, false), (13, true)] mixed (by kernel_rfl) (fun K hK => ?_)) | (refine CW_draw (id := 25) [] [(0, false), (1, false), (2, false), (3, false), (4, false), (5, false), (6, false), (7, false), (8, false), (9, false), (10, false), (11, false), (12, false), (13, false), (14, false), (15, false), (16, true)] mixed (by kernel_rfl) (fun K hK => ?_)))
        refine CW_loop (fun m ll L => ∃ (q : Nat) (r : Bool), m = y.u.length - q ∧ ll = [(0, true, .slice va l.length vc), (3, true, .slice oa out.length oc), (6, true, .int .i64 (j : Nat)), (7, true, .string (bstr [])), (8, true, .int .i64 (i : Nat)), (9, true, .bool r), (11, true, .int .i64 (q : Nat))] ∧ L = [.own 9 1 oa out.length oc (txs out)] ∧ q ≤ y.u.length ∧ r = rB (out.take j) (y.u.take q) y.n)
          ⟨_, _, _, ⟨0, r, rfl, rfl, rfl, by omega, by rw [hr]; simp [rB]⟩, by exact sbe, by exact sbl⟩ ?_
        clear hr
        rintro m ll L ⟨q, r, rfl, rfl, rfl, hq1, hr⟩
        by_cases hql : q < y.u.length
        · obtain ⟨u, hu1⟩ : ∃ u, y.u[q]? = some u := ⟨_, List.getElem?_eq_getElem hql⟩
          have hrn : rB (out.take j) (y.u.take (q + 1)) y.n = (r && decide (u ∈ out.take j)) := by rw [take_snoc' hu1, rB_snoc, hr]
          
          repeat' (first | ((first | apply RW.q1 | (apply DW.q1; exact rfl)); (first | (apply q_ldr; exact rfl; exact rfl; exact hv; exact vr_u hy (by omega)) | (apply q_bld; exact rfl; first | exact bld25_0_2 _ _ _ _ | exact bld38_0_1 _ _ _ _) | exact qt)) | ((first | apply RW.qg | (apply DW.qg; exact rfl)); exact gvx; refine hgx tst ?_; intro hg hg'; (first | (apply q_ldr; exact rfl; exact evgx; exact hv; exact vr_u hy (by omega)) | (apply q_bld; exact rfl; first | exact bld25_0_2 _ _ _ _ | exact bld38_0_1 _ _ _ _) | exact qu)) | refine xsg cts ?_ | (apply CW_condT; exact rfl; exact ar) | (apply CW_condF; exact rfl; exact ar) | ((first | apply RW.s1 | apply RW.s0 | (apply DW.sa; exact rfl)); exact gva) | (refine hK _ _ ?_; clear hK; refine xsg xsl ?_) | (refine xsg ahd ?_; (first | (apply gw_asg; exact rfl) | (apply gw_lit1; exact rfl; exact rfl; exact rfl; exact rfl; decide; intro b) | (apply gw_lit2; exact rfl; exact rfl; exact rfl; exact rfl; intro b) | (apply gw_lit3; exact rfl; exact rfl; exact rfl; exact rfl; exact rfl; intro b) | (fail))) | (apply CW_region; intro K hK) | (apply CW_condX; exact rfl; exact tst; exact tst; all_goals (intro hq hc; try exact no)) | (refine CW_draw (id := 17) [] [(0, false), (1, false), (2, false), (3, false), (4, false), (5, false), (6, false), (7, false), (8, false), (9, false), (10, false), (11, false), (12, false), (13, true)] mixed (by kernel_rfl) (fun K hK => ?_)) | (refine CW_draw (id := 25) [] [(0, false), (1, false), (2, false), (3, false), (4, false), (5, false), (6, false), (7, false), (8, false), (9, false), (10, false), (11, false), (12, false), (13, false), (14, false), (15, false), (16, true)] mixed (by kernel_rfl) (fun K hK => ?_)))
          refine CW_loop (fun m ll L => ∃ (j2 : Nat) (w2 : Bool), m = j - j2 ∧ ll = [(0, true, .slice va l.length vc), (3, true, .slice oa out.length oc), (6, true, .int .i64 (j : Nat)), (7, true, .string (bstr [])), (8, true, .int .i64 (i : Nat)), (9, true, .bool r), (11, true, .int .i64 (q : Nat)), (12, true, .bool w2), (13, true, .int .i64 (j2 : Nat))] ∧ L = [.own 9 1 oa out.length oc (txs out)] ∧ j2 ≤ j ∧ w2 = decide (u ∈ out.take j2))
            ⟨_, _, _, ⟨0, false, rfl, rfl, rfl, by omega, by simp⟩, by exact sbe, by exact sbl⟩ ?_
          rintro m ll L ⟨j2, w2, rfl, rfl, rfl, hj2, hw2⟩
          by_cases hjl : j2 < j
          · obtain ⟨z, hz⟩ : ∃ z, out[j2]? = some z := ⟨_, List.getElem?_eq_getElem (by omega)⟩
            have htk := take_snoc' hz
            cases w2 with
            | true =>
              have hnew : true = decide (u ∈ out.take (j2 + 1)) := by
                have : u ∈ out.take j2 := by simpa using hw2
                rw [htk]; simp [this]
              
              repeat' (first | ((first | apply RW.q1 | (apply DW.q1; exact rfl)); (first | (apply q_bld; exact rfl; first | exact bld25_0_2 _ _ _ _ | exact bld38_0_1 _ _ _ _) | exact qt)) | ((first | apply RW.qg | (apply DW.qg; exact rfl)); exact gvx; refine hgx tst ?_; intro hg hg'; (first | (apply q_bld; exact rfl; first | exact bld25_0_2 _ _ _ _ | exact bld38_0_1 _ _ _ _) | exact qu)) | refine xsg cts ?_ | (apply CW_condT; exact rfl; exact ar) | (apply CW_condF; exact rfl; exact ar) | ((first | apply RW.s1 | apply RW.s0 | (apply DW.sa; exact rfl)); exact gva) | (refine hK _ _ ?_; clear hK; refine xsg xsl ?_) | (refine xsg ahd ?_; (first | (apply gw_asg; exact rfl) | (apply gw_lit1; exact rfl; exact rfl; exact rfl; exact rfl; decide; intro b) | (apply gw_lit2; exact rfl; exact rfl; exact rfl; exact rfl; intro b) | (apply gw_lit3; exact rfl; exact rfl; exact rfl; exact rfl; exact rfl; intro b) | (fail))) | (apply CW_region; intro K hK) | (apply CW_condX; exact rfl; exact tst; exact tst; all_goals (intro hq hc; try exact no)) | (refine CW_draw (id := 17) [] [(0, false), (1, false), (2, false), (3, false), (4, false), (5, false), (6, false), (7, false), (8, false), (9, false), (10, false), (11, false), (12, false), (13, true)] mixed (by kernel_rfl) (fun K hK => ?_)) | (refine CW_draw (id := 25) [] [(0, false), (1, false), (2, false), (3, false), (4, false), (5, false), (6, false), (7, false), (8, false), (9, false), (10, false), (11, false), (12, false), (13, false), (14, false), (15, false), (16, true)] mixed (by kernel_rfl) (fun K hK => ?_)))
              exact ⟨_, _, _, ⟨j2 + 1, true, rfl, rfl, rfl, by omega, hnew⟩, by exact sbe, by exact sbl, by omega⟩
            | false =>
              have hno : u ∉ out.take j2 := by simpa using hw2
              by_cases hzu : z = u
              · have hnew : true = decide (u ∈ out.take (j2 + 1)) := by rw [htk, hzu]; simp
                
                repeat' (first | ((first | apply RW.q1 | (apply DW.q1; exact rfl)); (first | (apply q_ldo; exact rfl; exact rfl; infer_instance; exact txs_at hz (by omega)) | (apply q_ldr; exact rfl; exact rfl; exact hv; exact vr_u hy (by omega)) | (apply q_ldr; exact rfl; exact rfl; exact hyo; exact txs_at hu1 (by omega)) | (apply q_sbeqT; exact rfl; exact rfl; exact hzu) | (apply q_bld; exact rfl; first | exact bld25_0_2 _ _ _ _ | exact bld38_0_1 _ _ _ _) | exact qt)) | ((first | apply RW.qg | (apply DW.qg; exact rfl)); exact gvx; refine hgx tst ?_; intro hg hg'; (first | (apply q_ldo; exact rfl; exact evgx; infer_instance; exact txs_at hz (by omega)) | (apply q_ldr; exact rfl; exact evgx; exact hv; exact vr_u hy (by omega)) | (apply q_ldr; exact rfl; exact evgx; exact hyo; exact txs_at hu1 (by omega)) | (apply q_sbeqT; exact evgx; exact evgx; exact hzu) | (apply q_bld; exact rfl; first | exact bld25_0_2 _ _ _ _ | exact bld38_0_1 _ _ _ _) | exact qu)) | refine xsg cts ?_ | (apply CW_condT; exact rfl; exact ar) | (apply CW_condF; exact rfl; exact ar) | ((first | apply RW.s1 | apply RW.s0 | (apply DW.sa; exact rfl)); exact gva) | (refine hK _ _ ?_; clear hK; refine xsg xsl ?_) | (refine xsg ahd ?_; (first | (apply gw_asg; exact rfl) | (apply gw_lit1; exact rfl; exact rfl; exact rfl; exact rfl; decide; intro b) | (apply gw_lit2; exact rfl; exact rfl; exact rfl; exact rfl; intro b) | (apply gw_lit3; exact rfl; exact rfl; exact rfl; exact rfl; exact rfl; intro b) | (fail))) | (apply CW_region; intro K hK) | (apply CW_condX; exact rfl; exact tst; exact tst; all_goals (intro hq hc; try exact no)) | (refine CW_draw (id := 17) [] [(0, false), (1, false), (2, false), (3, false), (4, false), (5, false), (6, false), (7, false), (8, false), (9, false), (10, false), (11, false), (12, false), (13, true)] mixed (by kernel_rfl) (fun K hK => ?_)) | (refine CW_draw (id := 25) [] [(0, false), (1, false), (2, false), (3, false), (4, false), (5, false), (6, false), (7, false), (8, false), (9, false), (10, false), (11, false), (12, false), (13, false), (14, false), (15, false), (16, true)] mixed (by kernel_rfl) (fun K hK => ?_)))
                exact ⟨_, _, _, ⟨j2 + 1, true, rfl, rfl, rfl, by omega, hnew⟩, by exact sbe, by exact sbl, by omega⟩
              · have hnew : false = decide (u ∈ out.take (j2 + 1)) := by rw [htk]; simp [hno, Ne.symm hzu]
                
                repeat' (first | ((first | apply RW.q1 | (apply DW.q1; exact rfl)); (first | (apply q_ldo; exact rfl; exact rfl; infer_instance; exact txs_at hz (by omega)) | (apply q_ldr; exact rfl; exact rfl; exact hv; exact vr_u hy (by omega)) | (apply q_ldr; exact rfl; exact rfl; exact hyo; exact txs_at hu1 (by omega)) | (apply q_sbeqF; exact rfl; exact rfl; exact hzu) | (apply q_bld; exact rfl; first | exact bld25_0_2 _ _ _ _ | exact bld38_0_1 _ _ _ _) | exact qt)) | ((first | apply RW.qg | (apply DW.qg; exact rfl)); exact gvx; refine hgx tst ?_; intro hg hg'; (first | (apply q_ldo; exact rfl; exact evgx; infer_instance; exact txs_at hz (by omega)) | (apply q_ldr; exact rfl; exact evgx; exact hv; exact vr_u hy (by omega)) | (apply q_ldr; exact rfl; exact evgx; exact hyo; exact txs_at hu1 (by omega)) | (apply q_sbeqF; exact evgx; exact evgx; exact hzu) | (apply q_bld; exact rfl; first | exact bld25_0_2 _ _ _ _ | exact bld38_0_1 _ _ _ _) | exact qu)) | refine xsg cts ?_ | (apply CW_condT; exact rfl; exact ar) | (apply CW_condF; exact rfl; exact ar) | ((first | apply RW.s1 | apply RW.s0 | (apply DW.sa; exact rfl)); exact gva) | (refine hK _ _ ?_; clear hK; refine xsg xsl ?_) | (refine xsg ahd ?_; (first | (apply gw_asg; exact rfl) | (apply gw_lit1; exact rfl; exact rfl; exact rfl; exact rfl; decide; intro b) | (apply gw_lit2; exact rfl; exact rfl; exact rfl; exact rfl; intro b) | (apply gw_lit3; exact rfl; exact rfl; exact rfl; exact rfl; exact rfl; intro b) | (fail))) | (apply CW_region; intro K hK) | (apply CW_condX; exact rfl; exact tst; exact tst; all_goals (intro hq hc; try exact no)) | (refine CW_draw (id := 17) [] [(0, false), (1, false), (2, false), (3, false), (4, false), (5, false), (6, false), (7, false), (8, false), (9, false), (10, false), (11, false), (12, false), (13, true)] mixed (by kernel_rfl) (fun K hK => ?_)) | (refine CW_draw (id := 25) [] [(0, false), (1, false), (2, false), (3, false), (4, false), (5, false), (6, false), (7, false), (8, false), (9, false), (10, false), (11, false), (12, false), (13, false), (14, false), (15, false), (16, true)] mixed (by kernel_rfl) (fun K hK => ?_)))
                exact ⟨_, _, _, ⟨j2 + 1, false, rfl, rfl, rfl, by omega, hnew⟩, by exact sbe, by exact sbl, by omega⟩
          obtain rfl : j2 = j := by omega
          rw [← hw2] at hrn
          cases r with
          | false =>
            
            repeat' (first | ((first | apply RW.q1 | (apply DW.q1; exact rfl)); (first | (apply q_bld; exact rfl; first | exact bld25_0_2 _ _ _ _ | exact bld38_0_1 _ _ _ _) | exact qt)) | ((first | apply RW.qg | (apply DW.qg; exact rfl)); exact gvx; refine hgx tst ?_; intro hg hg'; (first | (apply q_bld; exact rfl; first | exact bld25_0_2 _ _ _ _ | exact bld38_0_1 _ _ _ _) | exact qu)) | refine xsg cts ?_ | (apply CW_condT; exact rfl; exact ar) | (apply CW_condF; exact rfl; exact ar) | ((first | apply RW.s1 | apply RW.s0 | (apply DW.sa; exact rfl)); exact gva) | (refine hK _ _ ?_; clear hK; refine xsg xsl ?_) | (refine xsg ahd ?_; (first | (apply gw_asg; exact rfl) | (apply gw_lit1; exact rfl; exact rfl; exact rfl; exact rfl; decide; intro b) | (apply gw_lit2; exact rfl; exact rfl; exact rfl; exact rfl; intro b) | (apply gw_lit3; exact rfl; exact rfl; exact rfl; exact rfl; exact rfl; intro b) | (fail))) | (apply CW_region; intro K hK) | (apply CW_condX; exact rfl; exact tst; exact tst; all_goals (intro hq hc; try exact no)) | (refine CW_draw (id := 17) [] [(0, false), (1, false), (2, false), (3, false), (4, false), (5, false), (6, false), (7, false), (8, false), (9, false), (10, false), (11, false), (12, false), (13, true)] mixed (by kernel_rfl) (fun K hK => ?_)) | (refine CW_draw (id := 25) [] [(0, false), (1, false), (2, false), (3, false), (4, false), (5, false), (6, false), (7, false), (8, false), (9, false), (10, false), (11, false), (12, false), (13, false), (14, false), (15, false), (16, true)] mixed (by kernel_rfl) (fun K hK => ?_)))
            exact ⟨_, _, _, ⟨q + 1, false, rfl, rfl, rfl, by omega, hrn.symm⟩, by exact sbe, by exact sbl, by omega⟩
          | true =>
            
            repeat' (first | ((first | apply RW.q1 | (apply DW.q1; exact rfl)); (first | (apply q_bld; exact rfl; first | exact bld25_0_2 _ _ _ _ | exact bld38_0_1 _ _ _ _) | exact qt)) | ((first | apply RW.qg | (apply DW.qg; exact rfl)); exact gvx; refine hgx tst ?_; intro hg hg'; (first | (apply q_bld; exact rfl; first | exact bld25_0_2 _ _ _ _ | exact bld38_0_1 _ _ _ _) | exact qu)) | refine xsg cts ?_ | (apply CW_condT; exact rfl; exact ar) | (apply CW_condF; exact rfl; exact ar) | ((first | apply RW.s1 | apply RW.s0 | (apply DW.sa; exact rfl)); exact gva) | (refine hK _ _ ?_; clear hK; refine xsg xsl ?_) | (refine xsg ahd ?_; (first | (apply gw_asg; exact rfl) | (apply gw_lit1; exact rfl; exact rfl; exact rfl; exact rfl; decide; intro b) | (apply gw_lit2; exact rfl; exact rfl; exact rfl; exact rfl; intro b) | (apply gw_lit3; exact rfl; exact rfl; exact rfl; exact rfl; exact rfl; intro b) | (fail))) | (apply CW_region; intro K hK) | (apply CW_condX; exact rfl; exact tst; exact tst; all_goals (intro hq hc; try exact no)) | (refine CW_draw (id := 17) [] [(0, false), (1, false), (2, false), (3, false), (4, false), (5, false), (6, false), (7, false), (8, false), (9, false), (10, false), (11, false), (12, false), (13, true)] mixed (by kernel_rfl) (fun K hK => ?_)) | (refine CW_draw (id := 25) [] [(0, false), (1, false), (2, false), (3, false), (4, false), (5, false), (6, false), (7, false), (8, false), (9, false), (10, false), (11, false), (12, false), (13, false), (14, false), (15, false), (16, true)] mixed (by kernel_rfl) (fun K hK => ?_)))
            exact ⟨_, _, _, ⟨q + 1, w2, rfl, rfl, rfl, by omega, hrn.symm⟩, by exact sbe, by exact sbl, by omega⟩
        obtain rfl : q = y.u.length := by omega
        rw [List.take_length] at hr
        by_cases hii : i = i0
        · subst hii
          rw [hx0] at hy
          cases hy
          obtain rfl : r = true := by rw [hr]; exact rB_iff.2 hr0
          
          repeat' (first | ((first | apply RW.q1 | (apply DW.q1; exact rfl)); (first | (apply q_ldr; exact rfl; exact rfl; exact hv; first | exact vr_u hx0 (by omega) | exact vr_n hx0 (by omega)) | (apply q_bld; exact rfl; first | exact bld25_0_2 _ _ _ _ | exact bld38_0_1 _ _ _ _) | exact qt)) | ((first | apply RW.qg | (apply DW.qg; exact rfl)); exact gvx; refine hgx tst ?_; intro hg hg'; (first | (apply q_ldr; exact rfl; exact evgx; exact hv; first | exact vr_u hx0 (by omega) | exact vr_n hx0 (by omega)) | (apply q_bld; exact rfl; first | exact bld25_0_2 _ _ _ _ | exact bld38_0_1 _ _ _ _) | exact qu)) | refine xsg cts ?_ | (apply CW_condT; exact rfl; exact ar) | (apply CW_condF; exact rfl; exact ar) | ((first | apply RW.s1 | apply RW.s0 | (apply DW.sa; exact rfl)); exact gva) | (refine hK _ _ ?_; clear hK; refine xsg xsl ?_) | (refine xsg ahd ?_; (first | (apply gw_asg; exact rfl) | (apply gw_lit1; exact rfl; exact rfl; exact rfl; exact rfl; decide; intro b) | (apply gw_lit2; exact rfl; exact rfl; exact rfl; exact rfl; intro b) | (apply gw_lit3; exact rfl; exact rfl; exact rfl; exact rfl; exact rfl; intro b) | (fail))) | (apply CW_region; intro K hK) | (apply CW_condX; exact rfl; exact tst; exact tst; all_goals (intro hq hc; try exact no)) | (refine CW_draw (id := 17) [] [(0, false), (1, false), (2, false), (3, false), (4, false), (5, false), (6, false), (7, false), (8, false), (9, false), (10, false), (11, false), (12, false), (13, true)] mixed (by kernel_rfl) (fun K hK => ?_)) | (refine CW_draw (id := 25) [] [(0, false), (1, false), (2, false), (3, false), (4, false), (5, false), (6, false), (7, false), (8, false), (9, false), (10, false), (11, false), (12, false), (13, false), (14, false), (15, false), (16, true)] mixed (by kernel_rfl) (fun K hK => ?_)))
          exact ⟨_, _, _, ⟨i + 1, x0.n, rfl, rfl, rfl, .inr ⟨hn0, rfl⟩⟩, by exact sbe, by exact sbl, by omega⟩
        · obtain rfl : r = false := by
            cases r with
            | false => rfl
            | true => exact absurd (rB_iff.1 hr.symm) (hm0 i y (by omega) hy)
          
          repeat' (first | ((first | apply RW.q1 | (apply DW.q1; exact rfl)); (first | (apply q_ldr; exact rfl; exact rfl; exact hv; first | exact vr_u hy (by omega) | exact vr_n hy (by omega)) | (apply q_bld; exact rfl; first | exact bld25_0_2 _ _ _ _ | exact bld38_0_1 _ _ _ _) | exact qt)) | ((first | apply RW.qg | (apply DW.qg; exact rfl)); exact gvx; refine hgx tst ?_; intro hg hg'; (first | (apply q_ldr; exact rfl; exact evgx; exact hv; first | exact vr_u hy (by omega) | exact vr_n hy (by omega)) | (apply q_bld; exact rfl; first | exact bld25_0_2 _ _ _ _ | exact bld38_0_1 _ _ _ _) | exact qu)) | refine xsg cts ?_ | (apply CW_condT; exact rfl; exact ar) | (apply CW_condF; exact rfl; exact ar) | ((first | apply RW.s1 | apply RW.s0 | (apply DW.sa; exact rfl)); exact gva) | (refine hK _ _ ?_; clear hK; refine xsg xsl ?_) | (refine xsg ahd ?_; (first | (apply gw_asg; exact rfl) | (apply gw_lit1; exact rfl; exact rfl; exact rfl; exact rfl; decide; intro b) | (apply gw_lit2; exact rfl; exact rfl; exact rfl; exact rfl; intro b) | (apply gw_lit3; exact rfl; exact rfl; exact rfl; exact rfl; exact rfl; intro b) | (fail))) | (apply CW_region; intro K hK) | (apply CW_condX; exact rfl; exact tst; exact tst; all_goals (intro hq hc; try exact no)) | (refine CW_draw (id := 17) [] [(0, false), (1, false), (2, false), (3, false), (4, false), (5, false), (6, false), (7, false), (8, false), (9, false), (10, false), (11, false), (12, false), (13, true)] mixed (by kernel_rfl) (fun K hK => ?_)) | (refine CW_draw (id := 25) [] [(0, false), (1, false), (2, false), (3, false), (4, false), (5, false), (6, false), (7, false), (8, false), (9, false), (10, false), (11, false), (12, false), (13, false), (14, false), (15, false), (16, true)] mixed (by kernel_rfl) (fun K hK => ?_)))
          exact ⟨_, _, _, ⟨i + 1, [], rfl, rfl, rfl, .inl ⟨rfl, by omega⟩⟩, by exact sbe, by exact sbl, by omega⟩
      · by_cases hil : i0 + 1 < l.length
        · 
          repeat' (first | ((first | apply RW.q1 | (apply DW.q1; exact rfl)); (first | (apply q_sbeqF (b := []); exact rfl; exact rfl; exact hs0) | (apply q_ldo; exact rfl; exact rfl; infer_instance; exact txs_at hs (by omega)) | (apply q_sbneF; exact rfl; exact rfl; exact rfl) | (apply q_bld; exact rfl; first | exact bld25_0_2 _ _ _ _ | exact bld38_0_1 _ _ _ _) | exact qt)) | ((first | apply RW.qg | (apply DW.qg; exact rfl)); exact gvx; refine hgx tst ?_; intro hg hg'; (first | (apply q_sbeqF (b := []); exact evgx; exact evgx; exact hs0) | (apply q_ldo; exact rfl; exact evgx; infer_instance; exact txs_at hs (by omega)) | (apply q_sbneF; exact evgx; exact evgx; exact rfl) | (apply q_bld; exact rfl; first | exact bld25_0_2 _ _ _ _ | exact bld38_0_1 _ _ _ _) | exact qu)) | refine xsg cts ?_ | (apply CW_condT; exact rfl; exact ar) | (apply CW_condF; exact rfl; exact ar) | ((first | apply RW.s1 | apply RW.s0 | (apply DW.sa; exact rfl)); exact gva) | (refine hK _ _ ?_; clear hK; refine xsg xsl ?_) | (refine xsg ahd ?_; (first | (apply gw_asg; exact rfl) | (apply gw_lit1; exact rfl; exact rfl; exact rfl; exact rfl; decide; intro b) | (apply gw_lit2; exact rfl; exact rfl; exact rfl; exact rfl; intro b) | (apply gw_lit3; exact rfl; exact rfl; exact rfl; exact rfl; exact rfl; intro b) | (fail))) | (apply CW_region; intro K hK) | (apply CW_condX; exact rfl; exact tst; exact tst; all_goals (intro hq hc; try exact no)) | (refine CW_draw (id := 17) [] [(0, false), (1, false), (2, false), (3, false), (4, false), (5, false), (6, false), (7, false), (8, false), (9, false), (10, false), (11, false), (12, false), (13, true)] mixed (by kernel_rfl) (fun K hK => ?_)) | (refine CW_draw (id := 25) [] [(0, false), (1, false), (2, false), (3, false), (4, false), (5, false), (6, false), (7, false), (8, false), (9, false), (10, false), (11, false), (12, false), (13, false), (14, false), (15, false), (16, true)] mixed (by kernel_rfl) (fun K hK => ?_)))
          · exact absurd hq (by simp)
          exact ⟨_, _, _, ⟨k + 1, rfl, rfl, rfl, by omega⟩, by exact sbe, by exact sbl, by omega⟩
        · 
          repeat' (first | ((first | apply RW.q1 | (apply DW.q1; exact rfl)); (first | (apply q_sbeqF (b := []); exact rfl; exact rfl; exact hs0) | (apply q_ldo; exact rfl; exact rfl; infer_instance; exact txs_at hs (by omega)) | (apply q_sbneF; exact rfl; exact rfl; exact rfl) | (apply q_bld; exact rfl; first | exact bld25_0_2 _ _ _ _ | exact bld38_0_1 _ _ _ _) | exact qt)) | ((first | apply RW.qg | (apply DW.qg; exact rfl)); exact gvx; refine hgx tst ?_; intro hg hg'; (first | (apply q_sbeqF (b := []); exact evgx; exact evgx; exact hs0) | (apply q_ldo; exact rfl; exact evgx; infer_instance; exact txs_at hs (by omega)) | (apply q_sbneF; exact evgx; exact evgx; exact rfl) | (apply q_bld; exact rfl; first | exact bld25_0_2 _ _ _ _ | exact bld38_0_1 _ _ _ _) | exact qu)) | refine xsg cts ?_ | (apply CW_condT; exact rfl; exact ar) | (apply CW_condF; exact rfl; exact ar) | ((first | apply RW.s1 | apply RW.s0 | (apply DW.sa; exact rfl)); exact gva) | (refine hK _ _ ?_; clear hK; refine xsg xsl ?_) | (refine xsg ahd ?_; (first | (apply gw_asg; exact rfl) | (apply gw_lit1; exact rfl; exact rfl; exact rfl; exact rfl; decide; intro b) | (apply gw_lit2; exact rfl; exact rfl; exact rfl; exact rfl; intro b) | (apply gw_lit3; exact rfl; exact rfl; exact rfl; exact rfl; exact rfl; intro b) | (fail))) | (apply CW_region; intro K hK) | (apply CW_condX; exact rfl; exact tst; exact tst; all_goals (intro hq hc; try exact no)) | (refine CW_draw (id := 17) [] [(0, false), (1, false), (2, false), (3, false), (4, false), (5, false), (6, false), (7, false), (8, false), (9, false), (10, false), (11, false), (12, false), (13, true)] mixed (by kernel_rfl) (fun K hK => ?_)) | (refine CW_draw (id := 25) [] [(0, false), (1, false), (2, false), (3, false), (4, false), (5, false), (6, false), (7, false), (8, false), (9, false), (10, false), (11, false), (12, false), (13, false), (14, false), (15, false), (16, true)] mixed (by kernel_rfl) (fun K hK => ?_)))
          exact ⟨_, _, _, ⟨k + 1, rfl, rfl, rfl, by omega⟩, by exact sbe, by exact sbl, by omega⟩
    obtain rfl : k = out.length := by omega
    
    repeat' (first | ((first | apply RW.q1 | (apply DW.q1; exact rfl)); (first | (apply q_bld; exact rfl; first | exact bld25_0_2 _ _ _ _ | exact bld38_0_1 _ _ _ _) | exact qt)) | ((first | apply RW.qg | (apply DW.qg; exact rfl)); exact gvx; refine hgx tst ?_; intro hg hg'; (first | (apply q_bld; exact rfl; first | exact bld25_0_2 _ _ _ _ | exact bld38_0_1 _ _ _ _) | exact qu)) | refine xsg cts ?_ | (apply CW_condT; exact rfl; exact ar) | (apply CW_condF; exact rfl; exact ar) | ((first | apply RW.s1 | apply RW.s0 | (apply DW.sa; exact rfl)); exact gva) | (refine hK _ _ ?_; clear hK; refine xsg xsl ?_) | (refine xsg ahd ?_; (first | (apply gw_callE (f := 10); exact evx; exact go10; intro G hG; exact known_spec G) | (apply gw_asg; exact rfl) | (apply gw_lit1; exact rfl; exact rfl; exact rfl; exact rfl; decide; intro b) | (apply gw_lit2; exact rfl; exact rfl; exact rfl; exact rfl; intro b) | (apply gw_lit3; exact rfl; exact rfl; exact rfl; exact rfl; exact rfl; intro b) | (fail))) | (apply CW_region; intro K hK) | (apply CW_condX; exact rfl; exact tst; exact tst; all_goals (intro hq hc; try exact no)) | (refine CW_draw (id := 17) [] [(0, false), (1, false), (2, false), (3, false), (4, false), (5, false), (6, false), (7, false), (8, false), (9, false), (10, false), (11, false), (12, false), (13, true)] mixed (by kernel_rfl) (fun K hK => ?_)) | (refine CW_draw (id := 25) [] [(0, false), (1, false), (2, false), (3, false), (4, false), (5, false), (6, false), (7, false), (8, false), (9, false), (10, false), (11, false), (12, false), (13, false), (14, false), (15, false), (16, true)] mixed (by kernel_rfl) (fun K hK => ?_)))
    (refine CW_ret ?_; refine xsg xsl ?_; refine bR [.tmp 2] [] ?_)
    rfl
end Go.Proofs.Ytkhmimlgkjenfaa.HL
namespace Go.Proofs.Ytkhmimlgkjenfaa.HL
open Go
set_option maxHeartbeats 8000000
set_option maxRecDepth 100000
set_option linter.unusedVariables false
open Go.ChangeShapes Go.WideShapes Go.ChangeAt Go.RowKit

theorem list2s {α : Type} {l : List α} (h : l.length = 2) : ∃ y0 y1, l = [y0, y1] := by
  match l, h with
  | [y0, y1], _ => exact ⟨y0, y1, rfl⟩
theorem bulk_pos {H : Type} (x : DataW H) : 1 ≤ Rows.uptoBulk x := by
  unfold Rows.uptoBulk
  split <;> omega
theorem bulk_len {H : Type} (ds : List (DataW H)) : ds.length ≤ Rows.uptoBulkAll ds := by
  induction ds with
  | nil => exact Nat.zero_le _
  | cons x ds ih =>
    have := bulk_pos x
    rw [Rows.uptoBulkAll, List.length_cons]; omega
theorem bulk_at {H : Type} : ∀ {ds : List (DataW H)} {i : Nat} {d : DataW H}, ds[i]? = some d → Rows.uptoBulk d ≤ Rows.uptoBulkAll ds
  | [], _, _, h => by simp at h
  | x :: ds, 0, d, h => by
    obtain rfl : x = d := by simpa using h
    rw [Rows.uptoBulkAll]; omega
  | x :: ds, i + 1, d, h => by
    have := bulk_at (i := i) (ds := ds) (d := d) (by simpa using h)
    rw [Rows.uptoBulkAll]; omega
theorem one_str {H : Type} {enc : TypeId × Value → H} {W : World} {m : Nat} {c : Value} {y : DataW H × List MemPlace} (h : DataW.trod enc Try.prog W 0 (fun _ => true) true m 9 [c] = some y) : ∃ l, c = .string (bstr l) ∧ Rows.uptoBulk y.1 = l.length + 1 := by
  obtain ⟨s, h1, h2, _⟩ := DataW.trod_string Try.underlying9 h
  obtain ⟨l, rfl⟩ := bstr_of s
  cases h1
  subst h2
  exact ⟨l, rfl, by simp [Rows.uptoBulk, bstr]⟩
theorem cellStr : Try.prog.cellsOf 9 = 1 := by kernel_rfl
theorem cellTxs : Try.prog.cellsOf 22 = 1 := by kernel_rfl
theorem cellVar : Try.prog.cellsOf 40 = 2 := by kernel_rfl
section
variable {H : Type} {enc : TypeId × Value → H} {W : World}
theorem row_bulk {α : Type} {R : α → DataW H → Prop} {l : List α} {d : DataW H} (h : (d = .nil ∧ l = []) ∨ ∃ ds r, d = .slice ds r ∧ Pair2 R l ds) : l.length ≤ Rows.uptoBulk d ∧ ∀ x, x ∈ l → ∃ y : DataW H, R x y ∧ Rows.uptoBulk y ≤ Rows.uptoBulk d := by
  rcases h with ⟨_, rfl⟩ | ⟨ds, r, rfl, h1, h2⟩
  · exact ⟨Nat.zero_le _, fun x hx => by cases hx⟩
  · rw [Rows.uptoBulk]
    have hb := bulk_len ds
    refine ⟨by omega, fun x hx => ?_⟩
    obtain ⟨i, hi⟩ := List.mem_iff_getElem?.1 hx
    have hlt : i < ds.length := by
      have := (List.getElem?_eq_some_iff.1 hi).1
      omega
    have hB := bulk_at (List.getElem?_eq_getElem hlt)
    exact ⟨_, h2 i x _ hi (List.getElem?_eq_getElem hlt), by omega⟩
theorem flat_txs (u : List Tx) : u.flatMap (fun s => [Value.string (bstr s)]) = txs u := by
  induction u with
  | nil => rfl
  | cons s u ih => rw [List.flatMap_cons, ih]; rfl
theorem texts_cells {fuel : Nat} {cs : List Value} {x : DataW H × List MemPlace} (h : DataW.trod enc Try.prog W 0 (fun _ => true) true fuel 22 cs = some x) :
    ∃ (a : Option Addr) (c : Nat) (u : List Tx), cs = [.slice a u.length c] ∧ UOk (allOf W) a c u ∧ u.length ≤ Rows.uptoBulk x.1 ∧ ∀ s, s ∈ u → s.length ≤ Rows.uptoBulk x.1 := by
  obtain ⟨a, c, u, h1, h2, h3⟩ := open_rows (z := 1) (dec := fun s : Tx => [Value.string (bstr s)]) (R := fun s d => s.length ≤ Rows.uptoBulk d) Try.underlying22 cellStr (by decide) (fun fuel cs x h => by
    obtain ⟨s, h1, h2, _⟩ := DataW.trod_string Try.underlying9 h
    obtain ⟨l, rfl⟩ := bstr_of s
    refine ⟨l, h1, ?_⟩
    rw [h2]; simp [Rows.uptoBulk, bstr]) h
  rw [flat_txs] at h2
  obtain ⟨h4, h5⟩ := row_bulk h3
  refine ⟨a, c, u, h1, h2, h4, fun s hs => ?_⟩
  obtain ⟨y, h6, h7⟩ := h5 s hs
  omega
def VrB (x : Vr) (n : Nat) : Prop := x.u.length ≤ n ∧ x.n.length ≤ n ∧ ∀ s, s ∈ x.u → s.length ≤ n
theorem VrB.mono {x : Vr} {n m : Nat} (h : VrB x n) (hm : n ≤ m) : VrB x m := ⟨Nat.le_trans h.1 hm, Nat.le_trans h.2.1 hm, fun s hs => Nat.le_trans (h.2.2 s hs) hm⟩
def VrR (W : World) (x : Vr) (d : DataW H) : Prop := vrOk (allOf W) x ∧ VrB x (Rows.uptoBulk d)
theorem pair_cells {T : TypeId} {fs : Array Field} (hc : Try.prog.cellsOf T = 2) {cs : List Value} {xs : List (DataW H × List MemPlace)} {k : Nat} {x : DataW H × List MemPlace} (hx : x.1 = .agg (xs.map fun y => y.1)) (hl : cs.length = 2) (hxl : xs.length = 2)
    (f0 : ∀ y, xs[0]? = some y → DataW.trod enc Try.prog W 0 (fun _ => true) true k 9 ((cs.drop 0).take 1) = some y) (f1 : ∀ y, xs[1]? = some y → DataW.trod enc Try.prog W 0 (fun _ => true) true k 22 ((cs.drop 1).take 1) = some y) : ∃ v : Vr, cs = vrC v ∧ VrR W v x.1 := by
  obtain ⟨c0, c1, rfl⟩ := list2s hl
  obtain ⟨y0, y1, rfl⟩ := list2s hxl
  obtain ⟨n, rfl, b0⟩ := one_str (c := c0) (f0 y0 rfl)
  obtain ⟨a, c, u, h1, h2, h3, h4⟩ := texts_cells (f1 y1 rfl)
  have h1' : [c1] = [.slice a u.length c] := h1
  cases h1'
  refine ⟨⟨n, a, c, u⟩, rfl, h2, ?_⟩
  rw [hx]
  simp only [List.map_cons, List.map_nil, Rows.uptoBulk, Rows.uptoBulkAll, b0]
  exact ⟨by show u.length ≤ _; omega, by show n.length ≤ _; omega, fun s hs => by have := h4 s hs; omega⟩
theorem var_cells : ∀ fuel cs (x : DataW H × List MemPlace), DataW.trod enc Try.prog W 0 (fun _ => true) true fuel 40 cs = some x → ∃ v : Vr, cs = vrC v ∧ VrR W v x.1 := by
  intro fuel cs x h
  obtain ⟨xs, k, _, hx, hl, hxl, hf⟩ := DataW.trod_struct Try.underlying40 h
  rw [cellVar] at hl
  exact pair_cells (T := 40) (fs := #[]) (k := k) cellVar (by rw [hx]) hl hxl (fun y hy => by
      have h0 : DataW.trod enc Try.prog W 0 (fun _ => true) true k 9 ((cs.drop 0).take (Try.prog.cellsOf 9)) = xs[0]? := hf 0 _ rfl
      rw [cellStr, hy] at h0; exact h0) (fun y hy => by
      have h0 : DataW.trod enc Try.prog W 0 (fun _ => true) true k 22 ((cs.drop 1).take (Try.prog.cellsOf 22)) = xs[1]? := hf 1 _ rfl
      rw [cellTxs, hy] at h0; exact h0)
theorem open_vars {v : Value} {d : DataW H} {ps : List MemPlace} (hval : Value.okWide Try.prog W .any 0 35 v) (h : DataW.Trod enc Try.prog W 0 (fun _ => true) true 35 v d ps) :
    ∃ (a : Option Addr) (c : Nat) (l : List Vr), v = .slice a l.length c ∧ Rs (allOf W) 2 a l.length c (l.flatMap vrC) ∧ (∀ x, x ∈ l → vrOk (allOf W) x) ∧ l.length ≤ Rows.uptoBulk d ∧ ∀ x, x ∈ l → VrB x (Rows.uptoBulk d) := by
  obtain ⟨a0, len, cap, rfl⟩ := okWide_slice Try.underlying35 hval
  obtain ⟨fuel, hf⟩ := h
  obtain ⟨a, c, l, h1, h2, h3⟩ := open_rows (z := 2) Try.underlying35 cellVar (by decide) var_cells hf
  have e1 : (Value.slice a0 len cap).cells.toList = [.slice a0 len cap] := rfl
  rw [e1] at h1
  cases h1
  obtain ⟨h4, h5⟩ := row_bulk h3
  refine ⟨_, _, l, rfl, h2, fun x hx => ?_, h4, fun x hx => ?_⟩
  · obtain ⟨y, h6, _⟩ := h5 x hx
    exact h6.1
  · obtain ⟨y, h6, h7⟩ := h5 x hx
    exact h6.2.mono h7
end
end Go.Proofs.Ytkhmimlgkjenfaa.HL
namespace Go.Proofs.Ytkhmimlgkjenfaa
namespace HL
open Go
open Go.ChangeShapes Go.WideShapes Go.ChangeAt Go.RowKit
open Go.ChangeMaps (open_string shut_string)
set_option maxHeartbeats 8000000
set_option maxRecDepth 100000
set_option linter.unusedVariables false
set_option linter.unusedSimpArgs false
theorem startFirst_contract (H : Type) (enc : TypeId × Value → H) (W : World) (base : Nat) (args : Array Value) (ds gs : List (DataW H)) (before : List MemPlace)
    (hval : ∀ (j : Nat) t v, Try.f4.params[j]? = some t → args[j]? = some v → Value.okWide Try.prog W .any base t v)
    (hW : DataW.Whole enc Try.prog Try.f4.params.toList Rows.startFirstSpec.vars false W args.toList ds gs before) (hk : Rows.uptoSmall H (ds ++ gs) = true) :
    Calls Try.prog 4 args W fun e W' => ∃ v, e = .returned v ∧ Rows.startFirstSpec.post enc Try.prog Try.f4 false true false false W args v W' := by
  have hW' := hW
  obtain ⟨p, q, hA0, hV, rfl, hfz, hnd⟩ := hW
  have hA : DataW.TrodAll enc Try.prog W 0 (fun _ => true) true Try.f4.params.toList args.toList ds p := hA0
  rw [Try.params4] at hA hval
  obtain ⟨v0, vs0, d0, ds0, p0, q0, hargs0, rfl, rfl, h0, r0⟩ := trodAll_cons hA
  obtain ⟨rfl, rfl, rfl⟩ := trodAll_nil r0
  obtain rfl : args = #[v0] := by cases args; simp_all
  obtain ⟨rfl, rfl⟩ := trodVars_none hV
  obtain ⟨a0, c0, L0, rfl, hrs0, hvo0, hl0, hb0⟩ := open_vars (hval 0 35 v0 rfl rfl) h0
  clear hA0
  simp only [List.append_nil] at hW'
  simp only [List.append_nil] at hk
  have hsz := of_decide_eq_true hk
  simp only [Rows.uptoBulkAll, Rows.uptoBulk] at hsz
  have law := lawFirst_spec L0 a0 c0 (allOf W) hrs0 hvo0 (by omega) (fun x hx => (hb0 x hx).mono (by omega)) (allOf W) (hs_nil _) W W (allOf_fit W)
  have htb : (Try.f4.params.toList.all fun t => (Try.prog).readableRec t && decide (t < (Try.prog).types.size)) = true := by kernel_rfl
  refine law.mono ?_
  rintro e W' ⟨v, H', he, hf, M, hM, hv⟩
  obtain rfl : v = .bool true := by first | exact hv | exact hv.1
  exact ⟨_, he, post_true laidOut htb rfl Try.underlying4 rfl hW' rfl rfl rfl hM.ext hf⟩

theorem startFirst_lifted (os : Os) (started : os.Started) (H : Type) (enc : TypeId × Value → H) (F : Stop.Interp) :
    ReturnsInHanded {} Try.checked os 4 .any ((Rows.OpenSpec.upto Rows.startFirstSpec).pre6 enc Try.prog Try.f4 Rows.startFirstUptoRow.domain false) (((Rows.OpenSpec.upto Rows.startFirstSpec).at F).post enc Try.prog Try.f4 false true false false) := by
  refine returnsInHanded_of_cond (C := Try.checked) (s := Rows.OpenSpec.upto Rows.startFirstSpec) (k := Rows.uptoSmall) rfl own0 started (by kernel_rfl) Try.func4
    (OpenSpec.witness (enc := enc) (C := Try.checked) (s := Rows.OpenSpec.upto Rows.startFirstSpec) (k := Rows.uptoSmall) rfl false ⟨#[], #[.slice none 0 0], []⟩ 8 (by kernel_rfl) (by kernel_rfl) (by kernel_rfl)
      (x := ([.nil], [], [])) (by kernel_rfl) rfl (by kernel_rfl)) ?_
  intro W base args ds gs before hval hW _ hk _
  exact startFirst_contract H enc W base args ds gs before hval hW hk
end HL
theorem startFirst_saidUpto : Rows.StartFirstUptoSaid :=
  OpenClaim.holds_of_cond 4 Try.f4 rfl rfl rfl rfl rfl rfl rfl ⟨rfl, rfl, rfl, rfl, rfl⟩ rfl rfl rfl rfl rfl (by kernel_rfl) Try.func4 (by kernel_rfl)
    (of_decide_eq_true (by kernel_rfl)) (by unfold Func.isWrapper; first | (rw [if_pos (by decide +kernel)]; kernel_rfl) | (rw [if_neg (by decide +kernel)]; exact ⟨rfl, rfl⟩))
    (fun os started H enc _ F => HL.startFirst_lifted os started H enc F)
end Go.Proofs.Ytkhmimlgkjenfaa
