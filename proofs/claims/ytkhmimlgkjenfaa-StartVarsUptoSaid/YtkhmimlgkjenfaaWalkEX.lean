/- WalkE: StaZd: cycle: the shortest one, told first. Conditions: lengths; single names. -/
import Derived.Test.YtkhmimlgkjenfaaEngX
import Derived.Test.YtkhmimlgkjenfaaWalkDX
namespace Go.Proofs.Ytkhmimlgkjenfaa.HL
open Go
attribute [local irreducible] goFn thenS blockS bodyS CW RW DW GW QW NW SC Pick Picks SubL Rd NN ResOk SrcW subE hops hseg AW hgen HC qv bldv
set_option maxHeartbeats 8000000
set_option maxRecDepth 100000
set_option linter.unusedVariables false
set_option linter.unusedSimpArgs false

abbrev dwStaZd0 : List (Nat × Bool) := [(0, false), (1, false), (2, false), (3, false), (4, false), (5, false), (6, false), (7, false), (8, false), (9, false), (10, false), (11, false), (12, false), (13, false), (14, false), (15, false), (16, false), (17, false), (18, false), (19, false), (20, false), (21, false), (22, false), (23, false), (24, false), (25, false), (26, false), (27, false), (28, false), (29, false), (30, false), (31, false), (32, false)]
abbrev dwStaZd1 : List (Nat × Bool) := [(0, false), (1, false), (2, false), (3, false), (4, false), (5, false), (6, false), (7, false), (8, false), (9, false), (10, false), (11, false), (12, false), (13, false), (14, false), (15, false), (16, false), (17, false), (18, false), (19, false), (20, false), (21, false), (22, false), (23, false), (24, false), (25, false), (26, false), (27, false)]
theorem farD_get {next : List (List Nat)} {to : Nat} {d : List Int} (h : FarD next to d) {i k : Nat} (hi : i < next.length) (hD : Dist (Nx next) (k + 1) i to) : d[i]? = some ((k : Int) + 1) := by
  obtain ⟨v, hv⟩ : ∃ v, d[i]? = some v := ⟨_, List.getElem?_eq_getElem (by rw [h.1]; exact hi)⟩
  rw [hv, farD_at h hv hD]; rfl
theorem farD_no {next : List (List Nat)} {to : Nat} {d : List Int} (h : FarD next to d) {i : Nat} (hi : i < next.length) (hn : ∀ m, ¬ Walk (Nx next) m i to) : d[i]? = some (-1) := by
  obtain ⟨v, hv⟩ : ∃ v, d[i]? = some v := ⟨_, List.getElem?_eq_getElem (by rw [h.1]; exact hi)⟩
  rcases h.2 i v hv with ⟨h1, _⟩ | ⟨j, _, hj⟩
  · rw [hv, h1]
  · exact absurd hj.1 (hn j)
theorem dist_row {next : List (List Nat)} {g : Nat} : ∀ (k a : Nat), Dist (Nx next) (k + 1) a g → ∃ l : List Nat, l.length = k + 1 ∧ l.Nodup ∧ ∀ x, x ∈ l → ∃ j, 0 < j ∧ j ≤ k + 1 ∧ Dist (Nx next) j x g
  | 0, a, h => ⟨[a], rfl, by simp, fun x hx => ⟨1, by omega, by omega, by rw [List.mem_singleton.1 hx]; exact h⟩⟩
  | k + 1, a, h => by
    obtain ⟨b, _, hb⟩ := dist_near h
    obtain ⟨l, h1, h2, h3⟩ := dist_row k b hb
    refine ⟨a :: l, by rw [List.length_cons, h1], List.nodup_cons.2 ⟨fun hm => ?_, h2⟩, fun x hx => ?_⟩
    · obtain ⟨j, _, h4, h5⟩ := h3 a hm
      have := h.same h5
      omega
    · rcases List.mem_cons.1 hx with rfl | hx
      · exact ⟨k + 2, by omega, by omega, h⟩
      · obtain ⟨j, h4, h5, h6⟩ := h3 x hx
        exact ⟨j, h4, by omega, h6⟩
theorem nodup_le {n : Nat} {l : List Nat} (hd : l.Nodup) (h : ∀ x, x ∈ l → x < n) : l.length ≤ n := by
  have hp : l.Perm ((List.range n).filter fun x => decide (x ∈ l)) := by
    refine (List.perm_ext_iff_of_nodup hd (List.nodup_range.filter _)).2 fun x => ?_
    rw [List.mem_filter, List.mem_range]
    exact ⟨fun hx => ⟨h x hx, by simpa using hx⟩, fun hx => by simpa using hx.2⟩
  rw [hp.length_eq]
  exact Nat.le_trans (List.length_filter_le _ _) (by simp)
theorem walk_lt {next : List (List Nat)} {m a b : Nat} (h : Walk (Nx next) m a b) : a < next.length := by
  have : ∀ {a b}, Nx next a b → a < next.length := fun {a b} ⟨r, h1, _⟩ => (List.getElem?_eq_some_iff.1 h1).1
  rcases h.cut with ⟨_, e⟩ | ⟨_, _, _, e, _⟩ <;> exact this e
theorem dist_le {next : List (List Nat)} {k a g : Nat} (h : Dist (Nx next) (k + 1) a g) : k + 1 ≤ next.length := by
  obtain ⟨l, h1, h2, h3⟩ := dist_row k a h
  have := nodup_le (n := next.length) h2 fun x hx => by
    obtain ⟨j, _, _, h4⟩ := h3 x hx
    exact walk_lt h4.1
  omega
theorem cycle_spec (t : List Th) (rows : List Rw) (na xa ma : Option Addr) (nc xc mc : Nat) (H : Hp) (hN : NetIn H t rows na nc xa xc ma mc) (hd : (t.map Th.n).Nodup) (hl : t.length ≤ 1048576) (hu : ∀ x, x ∈ t → x.u.length ≤ 1048576) :
    SC Try.prog 35 [netV t.length na nc xa xc ma mc] H [] (fun v M => ∃ c a cc, CycS (NT t) (VN t) ltT c ∧ v = .slice a c.length cc ∧ M = [.own 9 1 a c.length cc (txs c)] ∧ (c = [] → a = none) ∧ (c ≠ [] → a.isNone = false)) := by
  have hN0 := hN
  obtain ⟨hn, hx, hm, ho, hr⟩ := hN
  have hrl := hr.1
  have hnl : (rows.map Rw.l).length = t.length := by rw [List.length_map]; exact hrl
  have hNet := hr.net
  (refine SC_intro Try.func35 rfl (by kernel_rfl) (by rw [Try.ntmps35]; exact Nat.le_of_ble_eq_true rfl) ?_; simp only [Try.ntmps35, argE, Nat.reduceAdd])
  
  repeat' (first | ((first | apply RW.q1 | (apply DW.q1; exact rfl)); exact qt) | ((first | apply RW.qg | (apply DW.qg; exact rfl)); exact gvx; refine hgx tst ?_; intro hg hg'; exact qu) | refine xsg cts ?_ | (apply CW_condT; exact rfl; exact ar) | (apply CW_condF; exact rfl; exact ar) | ((first | apply RW.s1 | apply RW.s0 | (apply DW.sa; exact rfl)); exact gva) | (refine hK _ _ ?_; clear hK; refine xsg xsl ?_) | (refine xsg ahd ?_; (first | (apply gw_box (d := some 1); exact rfl; exact rfl; intro b1) | (apply gw_asg; exact rfl) | (apply gw_box; exact rfl; exact rfl; intro b) | (apply gw_lit1; exact rfl; exact rfl; exact rfl; exact rfl; decide; intro b) | (apply gw_lit2; exact rfl; exact rfl; exact rfl; exact rfl; intro b) | (apply gw_lit3; exact rfl; exact rfl; exact rfl; exact rfl; exact rfl; intro b) | (apply gw_ap1; exact rfl; exact rfl; infer_instance; infer_instance; exact rfl; exact rfl; exact rfl; exact rfl; omega; intro a c) | (apply gw_ap1n; exact rfl; exact rfl; infer_instance; exact rfl; exact rfl; exact rfl; exact rfl; omega; intro a c) | (fail))) | (apply CW_region; intro K hK) | (apply CW_condX; exact rfl; exact tst; exact tst; all_goals (intro hq hc; try exact no)) | (refine CW_draw (id := 9) [] dwStaZd0 mixed (by kernel_rfl) (fun K hK => ?_)) | (refine CW_draw (id := 23) [] dwStaZd1 mixed (by kernel_rfl) (fun K hK => ?_)))
  refine CW_loop (fun m ll L => ∃ (i dn dc : Nat) (best : Int) (da : Option Addr) (cs : List Value), m = t.length - i ∧ ll = [(1, true, .pointer (some ⟨b1, 0, none⟩)), (3, true, .int .i64 best), (4, true, .slice da dn dc), (15, true, .slice na t.length nc), (16, true, .int .i64 t.length), (17, true, .int .i64 (i : Nat))] ∧
      L = [.box b1 76 [.slice na t.length nc, .slice xa t.length xc, .slice ma t.length mc], .own 3 1 da dn dc cs] ∧ i ≤ t.length ∧ ((best = -1 ∧ BestT t (rows.map Rw.l) i none) ∨ ∃ (b : Nat) (d : List Int), best = (b : Int) ∧ dn = t.length ∧ cs = ints d ∧ FarD (rows.map Rw.l) b d ∧ BestT t (rows.map Rw.l) i (some b)))
    ⟨_, _, _, ⟨0, 0, 0, -1, none, [], rfl, rfl, rfl, by omega, .inl ⟨rfl, fun i x h => absurd h (by omega)⟩⟩, by exact sbe, sblt⟩ ?_
  rintro m ll L ⟨i, dn, dc, best, da, cs, rfl, rfl, rfl, hi, hB⟩
  by_cases hlt : i < t.length
  · obtain ⟨x, hxi⟩ : ∃ x, t[i]? = some x := ⟨_, List.getElem?_eq_getElem (by omega)⟩
    have hni := nm_at hxi
    have hvi := v_at hxi
    cases hxv : x.v with
    | false =>
      rw [hxv] at hvi
      have hskip : ∀ y, t[i]? = some y → vaT y → ∀ m, ¬ Walk (Nx (rows.map Rw.l)) m i i := fun y hy hvy => by
        rw [hxi] at hy; cases hy
        unfold vaT at hvy
        rw [hxv] at hvy
        cases hvy
      
      repeat' (first | ((first | apply RW.q1 | (apply DW.q1; exact rfl) | ((first | apply RW.qg | (apply DW.qg; exact rfl)); exact gvx; refine hgx tst ?_; intro hg hg')); (first | (apply q_ldr; exact rfl; exact evgx; exact hn; exact txs_at hni (by omega)) | (apply q_ldr; exact rfl; exact evgx; exact hm; exact bools_at hvi (by omega)) | exact qt | exact qu)) | refine xsg cts ?_ | (apply CW_condT; exact rfl; exact ar) | (apply CW_condF; exact rfl; exact ar) | ((first | apply RW.s1 | apply RW.s0 | (apply DW.sa; exact rfl)); exact gva) | (refine hK _ _ ?_; clear hK; refine xsg xsl ?_) | (refine xsg ahd ?_; (first | (apply gw_asg; exact rfl) | (apply gw_box; exact rfl; exact rfl; intro b) | (apply gw_lit1; exact rfl; exact rfl; exact rfl; exact rfl; decide; intro b) | (apply gw_lit2; exact rfl; exact rfl; exact rfl; exact rfl; intro b) | (apply gw_lit3; exact rfl; exact rfl; exact rfl; exact rfl; exact rfl; intro b) | (apply gw_ap1; exact rfl; exact rfl; infer_instance; infer_instance; exact rfl; exact rfl; exact rfl; exact rfl; omega; intro a c) | (apply gw_ap1n; exact rfl; exact rfl; infer_instance; exact rfl; exact rfl; exact rfl; exact rfl; omega; intro a c) | (fail))) | (apply CW_region; intro K hK) | (apply CW_condX; exact rfl; exact tst; exact tst; all_goals (intro hq hc; try exact no)) | (refine CW_draw (id := 9) [] dwStaZd0 mixed (by kernel_rfl) (fun K hK => ?_)) | (refine CW_draw (id := 23) [] dwStaZd1 mixed (by kernel_rfl) (fun K hK => ?_)))
      exact ⟨_, _, _, ⟨i + 1, dn, dc, best, da, cs, rfl, rfl, rfl, by omega, hB.imp (fun h => ⟨h.1, best_skip h.2 hskip⟩) fun ⟨b, d, h1, h2, h3, h4, h5⟩ => ⟨b, d, h1, h2, h3, h4, best_skip h5 hskip⟩⟩, by exact sbe, sblt, by omega⟩
    | true =>
      rw [hxv] at hvi
      by_cases hwk : ∃ m, Walk (Nx (rows.map Rw.l)) m i i
      · obtain ⟨m0, hm0⟩ := hwk
        obtain ⟨m1, _, hD1⟩ := hm0.dist
        have hm1 := hD1.1.pos
        obtain ⟨q, rfl⟩ : ∃ q, m1 = q + 1 := ⟨m1 - 1, by omega⟩
        rcases hB with ⟨rfl, hB⟩ | ⟨b, d, rfl, rfl, rfl, hF, hB⟩
        · have hnew := best_first hB hxi hxv hD1
          
          repeat' (first | ((first | apply RW.q1 | (apply DW.q1; exact rfl) | ((first | apply RW.qg | (apply DW.qg; exact rfl)); exact gvx; refine hgx tst ?_; intro hg hg')); (first | (apply q_ldr; exact rfl; exact evgx; exact hn; exact txs_at hni (by omega)) | (apply q_ldr; exact rfl; exact evgx; exact hm; exact bools_at hvi (by omega)) | (apply q_ldo; exact rfl; exact evgx; infer_instance; exact ints_at hwv (by omega)) | (exact (no : QW _ _ _ _ ⟨_, .load 3 _, _, _, _, _⟩ (.int .i64 0))) | (exact (no : QW _ _ _ _ ⟨_, .load 9 _, _, _, _, _⟩ (.string (bstr [])))) | exact qt | exact qu)) | refine xsg cts ?_ | (apply CW_condT; exact rfl; exact ar) | (apply CW_condF; exact rfl; exact ar) | ((first | apply RW.s1 | apply RW.s0 | (apply DW.sa; exact rfl)); exact gva) | (refine hK _ _ ?_; clear hK; refine xsg xsl ?_) | (refine xsg ahd ?_; (first | (apply gw_call (f := 60); exact evx; exact go60; intro G hG; refine SC.mono (far_spec t rows na xa ma nc xc mc i G (hN0.ext hG.ext) hl hu hlt) ?_; rintro v M ⟨w, wa, wc, hw, rfl, rfl⟩; (try dsimp only [jL, jM]); have hwv := farD_get hw (by omega) hD1) | (apply gw_asg; exact rfl) | (apply gw_box; exact rfl; exact rfl; intro b) | (apply gw_lit1; exact rfl; exact rfl; exact rfl; exact rfl; decide; intro b) | (apply gw_lit2; exact rfl; exact rfl; exact rfl; exact rfl; intro b) | (apply gw_lit3; exact rfl; exact rfl; exact rfl; exact rfl; exact rfl; intro b) | (apply gw_ap1; exact rfl; exact rfl; infer_instance; infer_instance; exact rfl; exact rfl; exact rfl; exact rfl; omega; intro a c) | (apply gw_ap1n; exact rfl; exact rfl; infer_instance; exact rfl; exact rfl; exact rfl; exact rfl; omega; intro a c) | (fail))) | (apply CW_region; intro K hK) | (apply CW_condX; exact rfl; exact tst; exact tst; all_goals (intro hq hc; try exact no)) | (refine CW_draw (id := 9) [] dwStaZd0 mixed (by kernel_rfl) (fun K hK => ?_)) | (refine CW_draw (id := 23) [] dwStaZd1 mixed (by kernel_rfl) (fun K hK => ?_)))
          exact ⟨_, _, _, ⟨i + 1, t.length, wc, _, wa, _, rfl, rfl, rfl, by omega, .inr ⟨i, w, rfl, rfl, rfl, hw, hnew⟩⟩, by exact sbe, sblt, by omega⟩
        · have hB0 := hB
          obtain ⟨y, kb, hyb, _, hDb, _, _⟩ := hB0
          have hbl := (List.getElem?_eq_some_iff.1 hyb).1
          have hdv := farD_get hF (by omega) hDb
          have hnb := nm_at hyb
          have hb0 : ¬ ((b : Int) < 0) := by omega
          by_cases hc1 : q < kb
          · have hnew := best_new hB hyb hDb hxi hxv hD1 (.inl hc1)
            
            repeat' (first | ((first | apply RW.q1 | (apply DW.q1; exact rfl) | ((first | apply RW.qg | (apply DW.qg; exact rfl)); exact gvx; refine hgx tst ?_; intro hg hg')); (first | (apply q_ldr; exact rfl; exact evgx; exact hn; exact txs_at hni (by omega)) | (apply q_ldr; exact rfl; exact evgx; exact hm; exact bools_at hvi (by omega)) | (apply q_ldo; exact rfl; exact evgx; infer_instance; first | exact ints_at hwv (by omega) | exact ints_at hdv (by omega)) | exact qt | exact qu)) | refine xsg cts ?_ | (apply CW_condT; exact rfl; exact ar) | (apply CW_condF; exact rfl; exact ar) | ((first | apply RW.s1 | apply RW.s0 | (apply DW.sa; exact rfl)); exact gva) | (refine hK _ _ ?_; clear hK; refine xsg xsl ?_) | (refine xsg ahd ?_; (first | (apply gw_call (f := 60); exact evx; exact go60; intro G hG; refine SC.mono (far_spec t rows na xa ma nc xc mc i G (hN0.ext hG.ext) hl hu hlt) ?_; rintro v M ⟨w, wa, wc, hw, rfl, rfl⟩; (try dsimp only [jL, jM]); have hwv := farD_get hw (by omega) hD1) | (apply gw_asg; exact rfl) | (apply gw_box; exact rfl; exact rfl; intro b) | (apply gw_lit1; exact rfl; exact rfl; exact rfl; exact rfl; decide; intro b) | (apply gw_lit2; exact rfl; exact rfl; exact rfl; exact rfl; intro b) | (apply gw_lit3; exact rfl; exact rfl; exact rfl; exact rfl; exact rfl; intro b) | (apply gw_ap1; exact rfl; exact rfl; infer_instance; infer_instance; exact rfl; exact rfl; exact rfl; exact rfl; omega; intro a c) | (apply gw_ap1n; exact rfl; exact rfl; infer_instance; exact rfl; exact rfl; exact rfl; exact rfl; omega; intro a c) | (fail))) | (apply CW_region; intro K hK) | (apply CW_condX; exact rfl; exact tst; exact tst; all_goals (intro hq hc; try exact no)) | (refine CW_draw (id := 9) [] dwStaZd0 mixed (by kernel_rfl) (fun K hK => ?_)) | (refine CW_draw (id := 23) [] dwStaZd1 mixed (by kernel_rfl) (fun K hK => ?_)))
            exact ⟨_, _, _, ⟨i + 1, t.length, wc, _, wa, _, rfl, rfl, rfl, by omega, .inr ⟨i, w, rfl, rfl, rfl, hw, hnew⟩⟩, by exact sbe, sblt, by omega⟩
          by_cases hc2 : q = kb
          · subst hc2
            by_cases hc3 : ltT x.n y.n
            · have hnew := best_new hB hyb hDb hxi hxv hD1 (.inr ⟨rfl, hc3⟩)
              
              repeat' (first | ((first | apply RW.q1 | (apply DW.q1; exact rfl) | ((first | apply RW.qg | (apply DW.qg; exact rfl)); exact gvx; refine hgx tst ?_; intro hg hg')); (first | (apply q_ldr; exact rfl; exact evgx; exact hn; first | exact txs_at hni (by omega) | exact txs_at hnb (by omega)) | (apply q_ldr; exact rfl; exact evgx; exact hm; exact bools_at hvi (by omega)) | (apply q_ldo; exact rfl; exact evgx; infer_instance; first | exact ints_at hwv (by omega) | exact ints_at hdv (by omega)) | (apply q_sltT; exact evgx; exact evgx; exact hc3) | exact qt | exact qu)) | refine xsg cts ?_ | (apply CW_condT; exact rfl; exact ar) | (apply CW_condF; exact rfl; exact ar) | ((first | apply RW.s1 | apply RW.s0 | (apply DW.sa; exact rfl)); exact gva) | (refine hK _ _ ?_; clear hK; refine xsg xsl ?_) | (refine xsg ahd ?_; (first | (apply gw_call (f := 60); exact evx; exact go60; intro G hG; refine SC.mono (far_spec t rows na xa ma nc xc mc i G (hN0.ext hG.ext) hl hu hlt) ?_; rintro v M ⟨w, wa, wc, hw, rfl, rfl⟩; (try dsimp only [jL, jM]); have hwv := farD_get hw (by omega) hD1) | (apply gw_asg; exact rfl) | (apply gw_box; exact rfl; exact rfl; intro b) | (apply gw_lit1; exact rfl; exact rfl; exact rfl; exact rfl; decide; intro b) | (apply gw_lit2; exact rfl; exact rfl; exact rfl; exact rfl; intro b) | (apply gw_lit3; exact rfl; exact rfl; exact rfl; exact rfl; exact rfl; intro b) | (apply gw_ap1; exact rfl; exact rfl; infer_instance; infer_instance; exact rfl; exact rfl; exact rfl; exact rfl; omega; intro a c) | (apply gw_ap1n; exact rfl; exact rfl; infer_instance; exact rfl; exact rfl; exact rfl; exact rfl; omega; intro a c) | (fail))) | (apply CW_region; intro K hK) | (apply CW_condX; exact rfl; exact tst; exact tst; all_goals (intro hq hc; try exact no)) | (refine CW_draw (id := 9) [] dwStaZd0 mixed (by kernel_rfl) (fun K hK => ?_)) | (refine CW_draw (id := 23) [] dwStaZd1 mixed (by kernel_rfl) (fun K hK => ?_)))
              exact ⟨_, _, _, ⟨i + 1, t.length, wc, _, wa, _, rfl, rfl, rfl, by omega, .inr ⟨i, w, rfl, rfl, rfl, hw, hnew⟩⟩, by exact sbe, sblt, by omega⟩
              exact hc.2.elim
            · have hkeep := best_keep hB hd hyb hDb hxi hD1 (.inr ⟨rfl, hc3⟩)
              
              repeat' (first | ((first | apply RW.q1 | (apply DW.q1; exact rfl) | ((first | apply RW.qg | (apply DW.qg; exact rfl)); exact gvx; refine hgx tst ?_; intro hg hg')); (first | (apply q_ldr; exact rfl; exact evgx; exact hn; first | exact txs_at hni (by omega) | exact txs_at hnb (by omega)) | (apply q_ldr; exact rfl; exact evgx; exact hm; exact bools_at hvi (by omega)) | (apply q_ldo; exact rfl; exact evgx; infer_instance; first | exact ints_at hwv (by omega) | exact ints_at hdv (by omega)) | (apply q_sltF; exact evgx; exact evgx; exact hc3) | exact qt | exact qu)) | refine xsg cts ?_ | (apply CW_condT; exact rfl; exact ar) | (apply CW_condF; exact rfl; exact ar) | ((first | apply RW.s1 | apply RW.s0 | (apply DW.sa; exact rfl)); exact gva) | (refine hK _ _ ?_; clear hK; refine xsg xsl ?_) | (refine xsg ahd ?_; (first | (apply gw_call (f := 60); exact evx; exact go60; intro G hG; refine SC.mono (far_spec t rows na xa ma nc xc mc i G (hN0.ext hG.ext) hl hu hlt) ?_; rintro v M ⟨w, wa, wc, hw, rfl, rfl⟩; (try dsimp only [jL, jM]); have hwv := farD_get hw (by omega) hD1) | (apply gw_asg; exact rfl) | (apply gw_box; exact rfl; exact rfl; intro b) | (apply gw_lit1; exact rfl; exact rfl; exact rfl; exact rfl; decide; intro b) | (apply gw_lit2; exact rfl; exact rfl; exact rfl; exact rfl; intro b) | (apply gw_lit3; exact rfl; exact rfl; exact rfl; exact rfl; exact rfl; intro b) | (apply gw_ap1; exact rfl; exact rfl; infer_instance; infer_instance; exact rfl; exact rfl; exact rfl; exact rfl; omega; intro a c) | (apply gw_ap1n; exact rfl; exact rfl; infer_instance; exact rfl; exact rfl; exact rfl; exact rfl; omega; intro a c) | (fail))) | (apply CW_region; intro K hK) | (apply CW_condX; exact rfl; exact tst; exact tst; all_goals (intro hq hc; try exact no)) | (refine CW_draw (id := 9) [] dwStaZd0 mixed (by kernel_rfl) (fun K hK => ?_)) | (refine CW_draw (id := 23) [] dwStaZd1 mixed (by kernel_rfl) (fun K hK => ?_)))
              exact ⟨_, _, _, ⟨i + 1, t.length, dc, _, da, _, rfl, rfl, rfl, by omega, .inr ⟨b, d, rfl, rfl, rfl, hF, hkeep⟩⟩, by exact sbe, sblt, by omega⟩
          · have hc4 : kb < q := by omega
            have hkeep := best_keep hB hd hyb hDb hxi hD1 (.inl hc4)
            
            repeat' (first | ((first | apply RW.q1 | (apply DW.q1; exact rfl) | ((first | apply RW.qg | (apply DW.qg; exact rfl)); exact gvx; refine hgx tst ?_; intro hg hg')); (first | (apply q_ldr; exact rfl; exact evgx; exact hn; first | exact txs_at hni (by omega) | exact txs_at hnb (by omega)) | (apply q_ldr; exact rfl; exact evgx; exact hm; exact bools_at hvi (by omega)) | (apply q_ldo; exact rfl; exact evgx; infer_instance; first | exact ints_at hwv (by omega) | exact ints_at hdv (by omega)) | exact qt | exact qu)) | refine xsg cts ?_ | (apply CW_condT; exact rfl; exact ar) | (apply CW_condF; exact rfl; exact ar) | ((first | apply RW.s1 | apply RW.s0 | (apply DW.sa; exact rfl)); exact gva) | (refine hK _ _ ?_; clear hK; refine xsg xsl ?_) | (refine xsg ahd ?_; (first | (apply gw_call (f := 60); exact evx; exact go60; intro G hG; refine SC.mono (far_spec t rows na xa ma nc xc mc i G (hN0.ext hG.ext) hl hu hlt) ?_; rintro v M ⟨w, wa, wc, hw, rfl, rfl⟩; (try dsimp only [jL, jM]); have hwv := farD_get hw (by omega) hD1) | (apply gw_asg; exact rfl) | (apply gw_box; exact rfl; exact rfl; intro b) | (apply gw_lit1; exact rfl; exact rfl; exact rfl; exact rfl; decide; intro b) | (apply gw_lit2; exact rfl; exact rfl; exact rfl; exact rfl; intro b) | (apply gw_lit3; exact rfl; exact rfl; exact rfl; exact rfl; exact rfl; intro b) | (apply gw_ap1; exact rfl; exact rfl; infer_instance; infer_instance; exact rfl; exact rfl; exact rfl; exact rfl; omega; intro a c) | (apply gw_ap1n; exact rfl; exact rfl; infer_instance; exact rfl; exact rfl; exact rfl; exact rfl; omega; intro a c) | (fail))) | (apply CW_region; intro K hK) | (apply CW_condX; exact rfl; exact tst; exact tst; all_goals (intro hq hc; try exact no)) | (refine CW_draw (id := 9) [] dwStaZd0 mixed (by kernel_rfl) (fun K hK => ?_)) | (refine CW_draw (id := 23) [] dwStaZd1 mixed (by kernel_rfl) (fun K hK => ?_)))
            exact ⟨_, _, _, ⟨i + 1, t.length, dc, _, da, _, rfl, rfl, rfl, by omega, .inr ⟨b, d, rfl, rfl, rfl, hF, hkeep⟩⟩, by exact sbe, sblt, by omega⟩
      · have hskip : ∀ y, t[i]? = some y → vaT y → ∀ m, ¬ Walk (Nx (rows.map Rw.l)) m i i := fun y _ _ m h => hwk ⟨m, h⟩
        have hno : ∀ m, ¬ Walk (Nx (rows.map Rw.l)) m i i := fun m h => hwk ⟨m, h⟩
        
        repeat' (first | ((first | apply RW.q1 | (apply DW.q1; exact rfl) | ((first | apply RW.qg | (apply DW.qg; exact rfl)); exact gvx; refine hgx tst ?_; intro hg hg')); (first | (apply q_ldr; exact rfl; exact evgx; exact hn; exact txs_at hni (by omega)) | (apply q_ldr; exact rfl; exact evgx; exact hm; exact bools_at hvi (by omega)) | (apply q_ldo; exact rfl; exact evgx; infer_instance; exact ints_at hwv (by omega)) | exact qt | exact qu)) | refine xsg cts ?_ | (apply CW_condT; exact rfl; exact ar) | (apply CW_condF; exact rfl; exact ar) | ((first | apply RW.s1 | apply RW.s0 | (apply DW.sa; exact rfl)); exact gva) | (refine hK _ _ ?_; clear hK; refine xsg xsl ?_) | (refine xsg ahd ?_; (first | (apply gw_call (f := 60); exact evx; exact go60; intro G hG; refine SC.mono (far_spec t rows na xa ma nc xc mc i G (hN0.ext hG.ext) hl hu hlt) ?_; rintro v M ⟨w, wa, wc, hw, rfl, rfl⟩; (try dsimp only [jL, jM]); have hwv := farD_no hw (by omega) hno) | (apply gw_asg; exact rfl) | (apply gw_box; exact rfl; exact rfl; intro b) | (apply gw_lit1; exact rfl; exact rfl; exact rfl; exact rfl; decide; intro b) | (apply gw_lit2; exact rfl; exact rfl; exact rfl; exact rfl; intro b) | (apply gw_lit3; exact rfl; exact rfl; exact rfl; exact rfl; exact rfl; intro b) | (apply gw_ap1; exact rfl; exact rfl; infer_instance; infer_instance; exact rfl; exact rfl; exact rfl; exact rfl; omega; intro a c) | (apply gw_ap1n; exact rfl; exact rfl; infer_instance; exact rfl; exact rfl; exact rfl; exact rfl; omega; intro a c) | (fail))) | (apply CW_region; intro K hK) | (apply CW_condX; exact rfl; exact tst; exact tst; all_goals (intro hq hc; try exact no)) | (refine CW_draw (id := 9) [] dwStaZd0 mixed (by kernel_rfl) (fun K hK => ?_)) | (refine CW_draw (id := 23) [] dwStaZd1 mixed (by kernel_rfl) (fun K hK => ?_)))
        exact ⟨_, _, _, ⟨i + 1, dn, dc, best, da, cs, rfl, rfl, rfl, by omega, hB.imp (fun h => ⟨h.1, best_skip h.2 hskip⟩) fun ⟨b, d, h1, h2, h3, h4, h5⟩ => ⟨b, d, h1, h2, h3, h4, best_skip h5 hskip⟩⟩, by exact sbe, sblt, by omega⟩
  obtain rfl : i = t.length := by omega
  clear hlt hi
  rcases hB with ⟨rfl, hB⟩ | ⟨g0, d, rfl, rfl, rfl, hF, hB⟩
  · have hC := BestC.none_cyc hNet hd hB
    
    repeat' (first | ((first | apply RW.q1 | (apply DW.q1; exact rfl)); exact qt) | ((first | apply RW.qg | (apply DW.qg; exact rfl)); exact gvx; refine hgx tst ?_; intro hg hg'; exact qu) | refine xsg cts ?_ | (apply CW_condT; exact rfl; exact ar) | (apply CW_condF; exact rfl; exact ar) | ((first | apply RW.s1 | apply RW.s0 | (apply DW.sa; exact rfl)); exact gva) | (refine hK _ _ ?_; clear hK; refine xsg xsl ?_) | (refine xsg ahd ?_; (first | (apply gw_asg; exact rfl) | (apply gw_box; exact rfl; exact rfl; intro b) | (apply gw_lit1; exact rfl; exact rfl; exact rfl; exact rfl; decide; intro b) | (apply gw_lit2; exact rfl; exact rfl; exact rfl; exact rfl; intro b) | (apply gw_lit3; exact rfl; exact rfl; exact rfl; exact rfl; exact rfl; intro b) | (apply gw_ap1; exact rfl; exact rfl; infer_instance; infer_instance; exact rfl; exact rfl; exact rfl; exact rfl; omega; intro a c) | (apply gw_ap1n; exact rfl; exact rfl; infer_instance; exact rfl; exact rfl; exact rfl; exact rfl; omega; intro a c) | (fail))) | (apply CW_region; intro K hK) | (apply CW_condX; exact rfl; exact tst; exact tst; all_goals (intro hq hc; try exact no)) | (refine CW_draw (id := 9) [] dwStaZd0 mixed (by kernel_rfl) (fun K hK => ?_)) | (refine CW_draw (id := 23) [] dwStaZd1 mixed (by kernel_rfl) (fun K hK => ?_)))
    (refine CW_ret ?_; refine xsg xsl ?_; refine bR [.tmp 2] [.own 9 1 none 0 0 []] ?_)
    exact ⟨[], none, 0, hC, rfl, rfl, fun _ => rfl, fun h => absurd rfl h⟩
  · obtain ⟨xb, k, hxb, hDb, hcyc⟩ := BestC.some_cyc hNet hd hB
    have hbl := (List.getElem?_eq_some_iff.1 hxb).1
    have hdv := farD_get hF (by omega) hDb
    have hnb := nm_at hxb
    have hkb := dist_le hDb
    rw [hnl] at hkb
    
    repeat' (first | ((first | apply RW.q1 | (apply DW.q1; exact rfl) | ((first | apply RW.qg | (apply DW.qg; exact rfl)); exact gvx; refine hgx tst ?_; intro hg hg')); (first | (apply q_ldr; exact rfl; exact evgx; exact hn; exact txs_at hnb (by omega)) | (apply q_ldo; exact rfl; exact evgx; infer_instance; exact ints_at hdv (by omega)) | exact qt | exact qu)) | refine xsg cts ?_ | (apply CW_condT; exact rfl; exact ar) | (apply CW_condF; exact rfl; exact ar) | ((first | apply RW.s1 | apply RW.s0 | (apply DW.sa; exact rfl)); exact gva) | (refine hK _ _ ?_; clear hK; refine xsg xsl ?_) | (refine xsg ahd ?_; (first | (apply gw_asg; exact rfl) | (apply gw_box; exact rfl; exact rfl; intro b) | (apply gw_lit1; exact rfl; exact rfl; exact rfl; exact rfl; decide; intro b) | (apply gw_lit2; exact rfl; exact rfl; exact rfl; exact rfl; intro b) | (apply gw_lit3; exact rfl; exact rfl; exact rfl; exact rfl; exact rfl; intro b) | (apply gw_ap1; exact rfl; exact rfl; infer_instance; infer_instance; exact rfl; exact rfl; exact rfl; exact rfl; omega; intro a c) | (apply gw_ap1n; exact rfl; exact rfl; infer_instance; exact rfl; exact rfl; exact rfl; exact rfl; omega; intro a c) | (fail))) | (apply CW_region; intro K hK) | (apply CW_condX; exact rfl; exact tst; exact tst; all_goals (intro hq hc; try exact no)) | (refine CW_draw (id := 9) [] dwStaZd0 mixed (by kernel_rfl) (fun K hK => ?_)) | (refine CW_draw (id := 23) [] dwStaZd1 mixed (by kernel_rfl) (fun K hK => ?_)))
    refine CW_loop (fun m ll L => ∃ (at0 left on oc : Nat) (oa : Option Addr) (out : List Tx) (cs : List Value) (y : Th), m = left + 1 ∧ ll = [(1, true, .pointer (some ⟨b1, 0, none⟩)), (3, true, .int .i64 (g0 : Nat)), (4, true, .slice da t.length dc), (8, true, .slice oa on oc), (9, true, .int .i64 (left : Nat)), (10, true, .int .i64 (at0 : Nat))] ∧
        L = [.box b1 76 [.slice na t.length nc, .slice xa t.length xc, .slice ma t.length mc], .own 3 1 da t.length dc (ints d), .own 9 1 oa on oc cs] ∧ on = out.length ∧ cs = txs out ∧ 0 < on ∧ on + left ≤ k + 1 ∧ t[at0]? = some y ∧ Dist (Nx (rows.map Rw.l)) (left + 1) at0 g0 ∧ ∀ l, Told (NT t) ltT xb.n left y.n l → CycS (NT t) (VN t) ltT (out ++ l))
      ⟨_, _, _, ⟨g0, k, 1, _, _, [xb.n], _, xb, rfl, rfl, rfl, rfl, rfl, by omega, by omega, hxb, hDb, hcyc⟩, by exact sbe, sblt⟩ ?_
    rintro m ll L ⟨at0, left, on, oc, oa, out, cs, y, rfl, rfl, rfl, hon, hcs, hon0, hlk, hy, hDy, hT⟩
    subst hon
    subst hcs
    by_cases hl0 : left = 0
    · subst hl0
      have hC := hT [] .nil
      rw [List.append_nil] at hC
      refine CW_own (a := oa) (by exact pkx) hon0 (fun ob hob _ => ?_)
      
      repeat' (first | ((first | apply RW.q1 | (apply DW.q1; exact rfl)); exact qt) | ((first | apply RW.qg | (apply DW.qg; exact rfl)); exact gvx; refine hgx tst ?_; intro hg hg'; exact qu) | refine xsg cts ?_ | (apply CW_condT; exact rfl; exact ar) | (apply CW_condF; exact rfl; exact ar) | ((first | apply RW.s1 | apply RW.s0 | (apply DW.sa; exact rfl)); exact gva) | (refine hK _ _ ?_; clear hK; refine xsg xsl ?_) | (refine xsg ahd ?_; (first | (apply gw_asg; exact rfl) | (apply gw_box; exact rfl; exact rfl; intro b) | (apply gw_lit1; exact rfl; exact rfl; exact rfl; exact rfl; decide; intro b) | (apply gw_lit2; exact rfl; exact rfl; exact rfl; exact rfl; intro b) | (apply gw_lit3; exact rfl; exact rfl; exact rfl; exact rfl; exact rfl; intro b) | (apply gw_ap1; exact rfl; exact rfl; infer_instance; infer_instance; exact rfl; exact rfl; exact rfl; exact rfl; omega; intro a c) | (apply gw_ap1n; exact rfl; exact rfl; infer_instance; exact rfl; exact rfl; exact rfl; exact rfl; omega; intro a c) | (fail))) | (apply CW_region; intro K hK) | (apply CW_condX; exact rfl; exact tst; exact tst; all_goals (intro hq hc; try exact no)) | (refine CW_draw (id := 9) [] dwStaZd0 mixed (by kernel_rfl) (fun K hK => ?_)) | (refine CW_draw (id := 23) [] dwStaZd1 mixed (by kernel_rfl) (fun K hK => ?_)))
      (refine CW_ret ?_; refine xsg xsl ?_; refine bR [.tmp 2] [.own 9 1 oa out.length oc (txs out)] ?_)
      exact ⟨out, oa, oc, hC, rfl, rfl, fun h => absurd hon0 (by rw [h]; simp), fun _ => by rw [hob]; rfl⟩
    obtain ⟨q, rfl⟩ : ∃ q, left = q + 1 := ⟨left - 1, by omega⟩
    have hal := (List.getElem?_eq_some_iff.1 hy).1
    obtain ⟨r, hri⟩ : ∃ r, rows[at0]? = some r := ⟨_, List.getElem?_eq_getElem (by omega)⟩
    have hro : Rs H 1 r.a r.l.length r.c (nums r.l) := ho r (List.mem_of_getElem? hri)
    have hrx := (hr.2 at0 r y hri hy).2
    have hyu := hu y (List.mem_of_getElem? hy)
    
    repeat' (first | ((first | apply RW.q1 | (apply DW.q1; exact rfl) | ((first | apply RW.qg | (apply DW.qg; exact rfl)); exact gvx; refine hgx tst ?_; intro hg hg')); (first | (apply q_ldr; exact rfl; exact evgx; exact hx; exact rwv_at hri (by omega)) | exact qt | exact qu)) | refine xsg cts ?_ | (apply CW_condT; exact rfl; exact ar) | (apply CW_condF; exact rfl; exact ar) | ((first | apply RW.s1 | apply RW.s0 | (apply DW.sa; exact rfl)); exact gva) | (refine hK _ _ ?_; clear hK; refine xsg xsl ?_) | (refine xsg ahd ?_; (first | (apply gw_asg; exact rfl) | (apply gw_box; exact rfl; exact rfl; intro b) | (apply gw_lit1; exact rfl; exact rfl; exact rfl; exact rfl; decide; intro b) | (apply gw_lit2; exact rfl; exact rfl; exact rfl; exact rfl; intro b) | (apply gw_lit3; exact rfl; exact rfl; exact rfl; exact rfl; exact rfl; intro b) | (apply gw_ap1; exact rfl; exact rfl; infer_instance; infer_instance; exact rfl; exact rfl; exact rfl; exact rfl; omega; intro a c) | (apply gw_ap1n; exact rfl; exact rfl; infer_instance; exact rfl; exact rfl; exact rfl; exact rfl; omega; intro a c) | (fail))) | (apply CW_region; intro K hK) | (apply CW_condX; exact rfl; exact tst; exact tst; all_goals (intro hq hc; try exact no)) | (refine CW_draw (id := 9) [] dwStaZd0 mixed (by kernel_rfl) (fun K hK => ?_)) | (refine CW_draw (id := 23) [] dwStaZd1 mixed (by kernel_rfl) (fun K hK => ?_)))
    refine CW_loop (fun m ll L => ∃ (j : Nat) (to : Int), m = r.l.length - j ∧ ll = [(1, true, .pointer (some ⟨b1, 0, none⟩)), (3, true, .int .i64 (g0 : Nat)), (4, true, .slice da t.length dc), (8, true, .slice oa out.length oc), (9, true, .int .i64 ((q : Int) + 1)), (11, true, .int .i64 to), (94, true, .slice r.a r.l.length r.c), (95, true, .int .i64 r.l.length), (96, true, .int .i64 (j : Nat))] ∧
        L = [.box b1 76 [.slice na t.length nc, .slice xa t.length xc, .slice ma t.length mc], .own 3 1 da t.length dc (ints d), .own 9 1 oa out.length oc (txs out)] ∧ j ≤ r.l.length ∧ Cand t (rows.map Rw.l) g0 (q + 1) (r.l.take j) to)
      ⟨_, _, _, ⟨0, -1, rfl, rfl, rfl, by omega, cand_nil⟩, by exact sbe, sblt⟩ ?_
    rintro m ll L ⟨j, to, rfl, rfl, rfl, hj, hCd⟩
    by_cases hjl : j < r.l.length
    · obtain ⟨w, hwj⟩ : ∃ k, r.l[j]? = some k := ⟨_, List.getElem?_eq_getElem hjl⟩
      have hnx : Nx (rows.map Rw.l) at0 w := (nx_at hri).2 (List.mem_of_getElem? hwj)
      have hwl := hNet.lt at0 w hnx
      obtain ⟨z, hz⟩ : ∃ x, t[w]? = some x := ⟨_, List.getElem?_eq_getElem hwl⟩
      have hnz := nm_at hz
      have htk := take_snoc' hwj
      by_cases hDw : Dist (Nx (rows.map Rw.l)) (q + 1) w g0
      · have hdw := farD_get hF (by omega) hDw
        have hwb : ¬ w = g0 := fun h => by
          subst h
          have := hDw.same hDb
          omega
        have hwbi : ¬ (w : Int) = (g0 : Int) := by omega
        rcases hCd with ⟨rfl, hno⟩ | ⟨kc, xc', rfl, hxc, hcr, hDc, h5⟩
        · have hnew := cand_first (t := t) hno hDw hz
          rw [← htk] at hnew
          
          repeat' (first | ((first | apply RW.q1 | (apply DW.q1; exact rfl) | ((first | apply RW.qg | (apply DW.qg; exact rfl)); exact gvx; refine hgx tst ?_; intro hg hg')); (first | (apply q_ldr; exact rfl; exact evgx; exact hro; exact nums_at hwj (by omega)) | (apply q_ldo; exact rfl; exact evgx; infer_instance; exact ints_at hdw (by omega)) | (apply q_ldr; exact rfl; exact evgx; exact hn; exact txs_at hnz (by omega)) | (exact (no : QW _ _ _ _ ⟨_, .load 9 _, _, _, _, _⟩ (.string (bstr [])))) | exact qt | exact qu)) | refine xsg cts ?_ | (apply CW_condT; exact rfl; exact ar) | (apply CW_condF; exact rfl; exact ar) | ((first | apply RW.s1 | apply RW.s0 | (apply DW.sa; exact rfl)); exact gva) | (refine hK _ _ ?_; clear hK; refine xsg xsl ?_) | (refine xsg ahd ?_; (first | (apply gw_asg; exact rfl) | (apply gw_box; exact rfl; exact rfl; intro b) | (apply gw_lit1; exact rfl; exact rfl; exact rfl; exact rfl; decide; intro b) | (apply gw_lit2; exact rfl; exact rfl; exact rfl; exact rfl; intro b) | (apply gw_lit3; exact rfl; exact rfl; exact rfl; exact rfl; exact rfl; intro b) | (apply gw_ap1; exact rfl; exact rfl; infer_instance; infer_instance; exact rfl; exact rfl; exact rfl; exact rfl; omega; intro a c) | (apply gw_ap1n; exact rfl; exact rfl; infer_instance; exact rfl; exact rfl; exact rfl; exact rfl; omega; intro a c) | (fail))) | (apply CW_region; intro K hK) | (apply CW_condX; exact rfl; exact tst; exact tst; all_goals (intro hq hc; try exact no)) | (refine CW_draw (id := 9) [] dwStaZd0 mixed (by kernel_rfl) (fun K hK => ?_)) | (refine CW_draw (id := 23) [] dwStaZd1 mixed (by kernel_rfl) (fun K hK => ?_)))
          exact ⟨_, _, _, ⟨j + 1, _, rfl, rfl, rfl, by omega, hnew⟩, by exact sbe, sblt, by omega⟩
        · have hnc := nm_at hxc
          have hcl := (List.getElem?_eq_some_iff.1 hxc).1
          have hc0 : ¬ ((kc : Int) < 0) := by omega
          have hcd : decide ((kc : Int) < 0) = false := decide_eq_false hc0
          have hgd : (!decide ((w : Int) = (g0 : Int)) && decide ((q : Int) + 1 = (q : Int) + 1) && !decide ((kc : Int) < 0)) = true := by rw [decide_eq_false hwbi, hcd, decide_eq_true rfl]; rfl
          by_cases hlt2 : ltT z.n xc'.n
          · have hnew := cand_new hxc h5 hDw hz hlt2
            rw [← htk] at hnew
            clear h5 hDc hcr hDw hT hcyc htk hDb hDy hB hN0 hd
            
            repeat' (first | ((first | apply RW.q1 | (apply DW.q1; exact rfl) | ((first | apply RW.qg | (apply DW.qg; exact rfl)); exact gvx; refine hgx tst ?_; intro hg hg')); (first | (apply q_ldr; exact rfl; exact evgx; exact hro; exact nums_at hwj (by omega)) | (apply q_ldo; exact rfl; exact evgx; infer_instance; exact ints_at hdw (by omega)) | (apply q_ldr; exact rfl; exact evgx; exact hn; first | exact txs_at hnz (by omega) | exact txs_at hnc (by omega)) | (apply q_sltT; exact evgx; exact evgx; exact hlt2) | exact qt | exact qu)) | refine xsg cts ?_ | (apply CW_condT; exact rfl; exact ar) | (apply CW_condF; exact rfl; exact ar) | ((first | apply RW.s1 | apply RW.s0 | (apply DW.sa; exact rfl)); exact gva) | (refine hK _ _ ?_; clear hK; refine xsg xsl ?_) | (refine xsg ahd ?_; (first | (apply gw_asg; exact rfl) | (apply gw_box; exact rfl; exact rfl; intro b) | (apply gw_lit1; exact rfl; exact rfl; exact rfl; exact rfl; decide; intro b) | (apply gw_lit2; exact rfl; exact rfl; exact rfl; exact rfl; intro b) | (apply gw_lit3; exact rfl; exact rfl; exact rfl; exact rfl; exact rfl; intro b) | (apply gw_ap1; exact rfl; exact rfl; infer_instance; infer_instance; exact rfl; exact rfl; exact rfl; exact rfl; omega; intro a c) | (apply gw_ap1n; exact rfl; exact rfl; infer_instance; exact rfl; exact rfl; exact rfl; exact rfl; omega; intro a c) | (fail))) | (apply CW_region; intro K hK) | (apply CW_condX; exact rfl; exact tst; exact tst; all_goals (intro hq hc; try exact no)) | (refine CW_draw (id := 9) [] dwStaZd0 mixed (by kernel_rfl) (fun K hK => ?_)) | (refine CW_draw (id := 23) [] dwStaZd1 mixed (by kernel_rfl) (fun K hK => ?_)))
            exact ⟨_, _, _, ⟨j + 1, _, rfl, rfl, rfl, by omega, hnew⟩, by exact sbe, sblt, by omega⟩
          · have hkeep := cand_keep hd hxc hcr hDc h5 hz hlt2
            rw [← htk] at hkeep
            clear h5 hDc hcr hDw hT hcyc htk hDb hDy hB hN0 hd
            
            repeat' (first | ((first | apply RW.q1 | (apply DW.q1; exact rfl) | ((first | apply RW.qg | (apply DW.qg; exact rfl)); exact gvx; refine hgx tst ?_; intro hg hg')); (first | (apply q_ldr; exact rfl; exact evgx; exact hro; exact nums_at hwj (by omega)) | (apply q_ldo; exact rfl; exact evgx; infer_instance; exact ints_at hdw (by omega)) | (apply q_ldr; exact rfl; exact evgx; exact hn; first | exact txs_at hnz (by omega) | exact txs_at hnc (by omega)) | (apply q_sltF; exact evgx; exact evgx; exact hlt2) | exact qt | exact qu)) | refine xsg cts ?_ | (apply CW_condT; exact rfl; exact ar) | (apply CW_condF; exact rfl; exact ar) | ((first | apply RW.s1 | apply RW.s0 | (apply DW.sa; exact rfl)); exact gva) | (refine hK _ _ ?_; clear hK; refine xsg xsl ?_) | (refine xsg ahd ?_; (first | (apply gw_asg; exact rfl) | (apply gw_box; exact rfl; exact rfl; intro b) | (apply gw_lit1; exact rfl; exact rfl; exact rfl; exact rfl; decide; intro b) | (apply gw_lit2; exact rfl; exact rfl; exact rfl; exact rfl; intro b) | (apply gw_lit3; exact rfl; exact rfl; exact rfl; exact rfl; exact rfl; intro b) | (apply gw_ap1; exact rfl; exact rfl; infer_instance; infer_instance; exact rfl; exact rfl; exact rfl; exact rfl; omega; intro a c) | (apply gw_ap1n; exact rfl; exact rfl; infer_instance; exact rfl; exact rfl; exact rfl; exact rfl; omega; intro a c) | (fail))) | (apply CW_region; intro K hK) | (apply CW_condX; exact rfl; exact tst; exact tst; all_goals (intro hq hc; try exact no)) | (refine CW_draw (id := 9) [] dwStaZd0 mixed (by kernel_rfl) (fun K hK => ?_)) | (refine CW_draw (id := 23) [] dwStaZd1 mixed (by kernel_rfl) (fun K hK => ?_)))
            · exact absurd hq (by simp)
            exact ⟨_, _, _, ⟨j + 1, _, rfl, rfl, rfl, by omega, hkeep⟩, by exact sbe, sblt, by omega⟩
      · have hskip := cand_skip hCd hDw
        rw [← htk] at hskip
        obtain ⟨v, hv⟩ : ∃ v, d[w]? = some v := ⟨_, List.getElem?_eq_getElem (by rw [hF.1, hnl]; exact hwl)⟩
        have hvne : ¬ v = (q : Int) + 1 := fun h => hDw (farD_is hF (by rw [hv, h]; rfl))
        have hvb := hF.1
        clear hDw hCd hvb
        by_cases hwb : w = g0
        · subst hwb
          
          repeat' (first | ((first | apply RW.q1 | (apply DW.q1; exact rfl) | ((first | apply RW.qg | (apply DW.qg; exact rfl)); exact gvx; refine hgx tst ?_; intro hg hg')); (first | (apply q_ldr; exact rfl; exact evgx; exact hro; exact nums_at hwj (by omega)) | (apply q_ldo; exact rfl; exact evgx; infer_instance; exact ints_at hv (by omega)) | (exact (no : QW _ _ _ _ ⟨_, .load 9 _, _, _, _, _⟩ (.string (bstr [])))) | exact qt | exact qu)) | refine xsg cts ?_ | (apply CW_condT; exact rfl; exact ar) | (apply CW_condF; exact rfl; exact ar) | ((first | apply RW.s1 | apply RW.s0 | (apply DW.sa; exact rfl)); exact gva) | (refine hK _ _ ?_; clear hK; refine xsg xsl ?_) | (refine xsg ahd ?_; (first | (apply gw_asg; exact rfl) | (apply gw_box; exact rfl; exact rfl; intro b) | (apply gw_lit1; exact rfl; exact rfl; exact rfl; exact rfl; decide; intro b) | (apply gw_lit2; exact rfl; exact rfl; exact rfl; exact rfl; intro b) | (apply gw_lit3; exact rfl; exact rfl; exact rfl; exact rfl; exact rfl; intro b) | (apply gw_ap1; exact rfl; exact rfl; infer_instance; infer_instance; exact rfl; exact rfl; exact rfl; exact rfl; omega; intro a c) | (apply gw_ap1n; exact rfl; exact rfl; infer_instance; exact rfl; exact rfl; exact rfl; exact rfl; omega; intro a c) | (fail))) | (apply CW_region; intro K hK) | (apply CW_condX; exact rfl; exact tst; exact tst; all_goals (intro hq hc; try exact no)) | (refine CW_draw (id := 9) [] dwStaZd0 mixed (by kernel_rfl) (fun K hK => ?_)) | (refine CW_draw (id := 23) [] dwStaZd1 mixed (by kernel_rfl) (fun K hK => ?_)))
          exact ⟨_, _, _, ⟨j + 1, _, rfl, rfl, rfl, by omega, hskip⟩, by exact sbe, sblt, by omega⟩
        · have hwbi : ¬ (w : Int) = (g0 : Int) := by omega
          
          repeat' (first | ((first | apply RW.q1 | (apply DW.q1; exact rfl) | ((first | apply RW.qg | (apply DW.qg; exact rfl)); exact gvx; refine hgx tst ?_; intro hg hg')); (first | (apply q_ldr; exact rfl; exact evgx; exact hro; exact nums_at hwj (by omega)) | (apply q_ldo; exact rfl; exact evgx; infer_instance; exact ints_at hv (by omega)) | (exact (no : QW _ _ _ _ ⟨_, .load 9 _, _, _, _, _⟩ (.string (bstr [])))) | exact qt | exact qu)) | refine xsg cts ?_ | (apply CW_condT; exact rfl; exact ar) | (apply CW_condF; exact rfl; exact ar) | ((first | apply RW.s1 | apply RW.s0 | (apply DW.sa; exact rfl)); exact gva) | (refine hK _ _ ?_; clear hK; refine xsg xsl ?_) | (refine xsg ahd ?_; (first | (apply gw_asg; exact rfl) | (apply gw_box; exact rfl; exact rfl; intro b) | (apply gw_lit1; exact rfl; exact rfl; exact rfl; exact rfl; decide; intro b) | (apply gw_lit2; exact rfl; exact rfl; exact rfl; exact rfl; intro b) | (apply gw_lit3; exact rfl; exact rfl; exact rfl; exact rfl; exact rfl; intro b) | (apply gw_ap1; exact rfl; exact rfl; infer_instance; infer_instance; exact rfl; exact rfl; exact rfl; exact rfl; omega; intro a c) | (apply gw_ap1n; exact rfl; exact rfl; infer_instance; exact rfl; exact rfl; exact rfl; exact rfl; omega; intro a c) | (fail))) | (apply CW_region; intro K hK) | (apply CW_condX; exact rfl; exact tst; exact tst; all_goals (intro hq hc; try exact no)) | (refine CW_draw (id := 9) [] dwStaZd0 mixed (by kernel_rfl) (fun K hK => ?_)) | (refine CW_draw (id := 23) [] dwStaZd1 mixed (by kernel_rfl) (fun K hK => ?_)))
          exact ⟨_, _, _, ⟨j + 1, _, rfl, rfl, rfl, by omega, hskip⟩, by exact sbe, sblt, by omega⟩
    obtain rfl : j = r.l.length := by omega
    rw [List.take_length] at hCd
    obtain ⟨b', hb1, hb2⟩ := dist_near hDy
    rcases hCd with ⟨_, hno⟩ | ⟨kc, xc', rfl, hxc, hcr, hDc, h5⟩
    · exact absurd hb2 (hno b' ((nx_at hri).1 hb1))
    have hnc := nm_at hxc
    have hcl := (List.getElem?_eq_some_iff.1 hxc).1
    have hT2 : ∀ l, Told (NT t) ltT xb.n q xc'.n l → CycS (NT t) (VN t) ltT ((out ++ [xc'.n]) ++ l) := fun l hl2 => by
      rw [List.append_assoc]
      exact hT _ (told_step hNet hd hxb hy hxc ((nx_at hri).2 hcr) hDc (fun e x he hDe hne hxe => h5 e x ((nx_at hri).1 he) hDe hne hxe) hl2)
    
    repeat' (first | ((first | apply RW.q1 | (apply DW.q1; exact rfl) | ((first | apply RW.qg | (apply DW.qg; exact rfl)); exact gvx; refine hgx tst ?_; intro hg hg')); (first | (apply q_ldr; exact rfl; exact evgx; exact hn; exact txs_at hnc (by omega)) | exact qt | exact qu)) | refine xsg cts ?_ | (apply CW_condT; exact rfl; exact ar) | (apply CW_condF; exact rfl; exact ar) | ((first | apply RW.s1 | apply RW.s0 | (apply DW.sa; exact rfl)); exact gva) | (refine hK _ _ ?_; clear hK; refine xsg xsl ?_) | (refine xsg ahd ?_; (first | (apply gw_asg; exact rfl) | (apply gw_box; exact rfl; exact rfl; intro b) | (apply gw_lit1; exact rfl; exact rfl; exact rfl; exact rfl; decide; intro b) | (apply gw_lit2; exact rfl; exact rfl; exact rfl; exact rfl; intro b) | (apply gw_lit3; exact rfl; exact rfl; exact rfl; exact rfl; exact rfl; intro b) | (apply gw_ap1; exact rfl; exact rfl; infer_instance; infer_instance; exact rfl; exact rfl; exact rfl; exact rfl; omega; intro a c) | (apply gw_ap1n; exact rfl; exact rfl; infer_instance; exact rfl; exact rfl; exact rfl; exact rfl; omega; intro a c) | (fail))) | (apply CW_region; intro K hK) | (apply CW_condX; exact rfl; exact tst; exact tst; all_goals (intro hq hc; try exact no)) | (refine CW_draw (id := 9) [] dwStaZd0 mixed (by kernel_rfl) (fun K hK => ?_)) | (refine CW_draw (id := 23) [] dwStaZd1 mixed (by kernel_rfl) (fun K hK => ?_)))
    exact ⟨_, _, _, ⟨kc, q, out.length + 1, _, _, out ++ [xc'.n], _, xc', rfl, rfl, rfl, by rw [List.length_append]; rfl, txs_snoc _ _, by omega, by omega, hxc, hDc, hT2⟩, by exact sbe, sblt, by omega⟩
end Go.Proofs.Ytkhmimlgkjenfaa.HL
