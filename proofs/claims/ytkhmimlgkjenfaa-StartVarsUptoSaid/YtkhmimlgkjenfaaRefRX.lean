/- RefR: RfK: the document's order of files. Conditions: lengths. RfL: the document's leans: the variables on which one leans, straight or by functions. Conditions: lengths. RfM: the document's vars: the variables in their order. Conditions: lengths; single names; no cycle. RfN: the document's Vars. Conditions: the lists' lengths. -/
import Derived.Test.YtkhmimlgkjenfaaEngX
import Derived.Test.YtkhmimlgkjenfaaRefQX
import Derived.Test.YtkhmimlgkjenfaaWalkFX
import Derived.Test.YtkhmimlgkjenfaaWalkUX
import Derived.Test.YtkhmimlgkjenfaaRefPX
namespace Go.Proofs.Ytkhmimlgkjenfaa.HL
open Go
attribute [local irreducible] goFn thenS blockS bodyS CW RW DW GW QW NW SC Pick Picks SubL Rd NN ResOk SrcW subE hops hseg AW hgen HC qv bldv
set_option maxHeartbeats 8000000
set_option maxRecDepth 100000
set_option linter.unusedVariables false
set_option linter.unusedSimpArgs false

abbrev dwRfK0 : List (Nat × Bool) := [(0, false), (1, false), (2, false), (3, false), (4, false), (5, false), (6, false), (7, false), (8, false), (9, false), (10, false), (11, false), (12, false), (13, false), (14, false), (15, false), (16, false), (17, false), (18, false), (19, false)]
abbrev dwRfK1 : List (Nat × Bool) := [(0, false), (1, false), (2, false), (3, false), (4, false), (5, false), (6, false), (7, false), (8, false), (9, true), (10, true), (11, true)]
def txA (l : List Tx) (i : Nat) : Tx := (l[i]?).getD []
theorem txA_at {l : List Tx} {i : Nat} {s : Tx} (h : l[i]? = some s) : txA l i = s := by unfold txA; rw [h]; rfl
def SrN (l : List Tx) (o : List Nat) : Prop := o.Pairwise fun i j => ¬ ltT (txA l j) (txA l i)
theorem nums_set (d : List Nat) (i w : Nat) : (nums d).set i (.int .i64 ((w : Nat) : Int)) = nums (d.set i w) := by simp [nums, List.map_set]
theorem nums_len (d : List Nat) : (nums d).length = d.length := List.length_map _
section
variable {P : Program} {l : Ents} {H : Hp} {L L' : List Res} {K : Value → List Res → Prop} {dd : Option Tmp} {T : TypeId} {pos : String} {aft : Array Edge} {gd : Option (Nat × Bool)}
theorem gw_soN {t e : TypeId} {m c k : Nat} {x y : Operand} {a : Option Addr} {d : List Nat} {w : Nat} (i : Nat) [hz : Szc P t 1] (hx : evg l true x = some (.pointer (pt a k))) (hy : evg l true y = some (.int .i64 ((w : Nat) : Int))) (hp : POwn L a e 1 m c (nums d) L')
    (hk : k = i) (hl : i < d.length) (h : K undef (.own e 1 a m c (nums (d.set i w)) :: L')) : GW P l ⟨dd, .store t x y, T, pos, aft, gd⟩ H L K := by
  subst hk
  exact gw_so1 hx hy hp rfl rfl (by rw [nums_len]; exact hl) (by rw [nums_set]; exact h)
end
theorem swap_nums {A B : List Nat} {x y : Nat} : ((A ++ [y] ++ x :: B).set (A.length + 1) y).set A.length x = A ++ x :: y :: B := by
  rw [List.append_assoc, List.set_append_right _ _ (by omega), List.set_append_right _ _ (by omega)]
  simp
theorem rSorted_spec (l : List Tx) (a0 : Option Addr) (c0 : Nat) (H : Hp) (hr : Rs H 1 a0 l.length c0 (txs l)) (hl : l.length ≤ 1048576) :
    SC Try.prog 69 [.slice a0 l.length c0] H [] (fun v M => ∃ o a c, v = .slice a l.length c ∧ M = [.own 3 1 a l.length c (nums o)] ∧ o.Perm (List.range l.length) ∧ SrN l o) := by
  (refine SC_intro Try.func69 rfl (by kernel_rfl) (by rw [Try.ntmps69]; exact Nat.le_of_ble_eq_true rfl) ?_; simp only [Try.ntmps69, argE, Nat.reduceAdd])
  
  repeat' (first | ((first | apply RW.q1 | (apply DW.q1; exact rfl)); exact qt) | ((first | apply RW.qg | (apply DW.qg; exact rfl)); exact gvx; refine hgx tst ?_; intro hg hg'; exact qu) | refine xsg cts ?_ | (apply CW_condT; exact rfl; exact ar) | (apply CW_condF; exact rfl; exact ar) | ((first | apply RW.s1 | apply RW.s0 | (apply DW.sa; exact rfl)); exact gva) | (refine hK _ _ ?_; clear hK; refine xsg xsl ?_) | (refine xsg ahd ?_; (first | (apply gw_asg; exact rfl) | (apply gw_lit1; exact rfl; exact rfl; exact rfl; exact rfl; decide; intro b) | (apply gw_lit2; exact rfl; exact rfl; exact rfl; exact rfl; intro b) | (apply gw_lit3; exact rfl; exact rfl; exact rfl; exact rfl; exact rfl; intro b) | (apply gw_ap1; exact rfl; exact rfl; infer_instance; infer_instance; exact rfl; exact rfl; exact rfl; exact rfl; omega; intro a c) | (apply gw_ap1n; exact rfl; exact rfl; infer_instance; exact rfl; exact rfl; exact rfl; exact rfl; omega; intro a c) | (refine gw_stx sto ?_) | (fail))) | (apply CW_region; intro K hK) | (apply CW_condX; exact rfl; exact tst; exact tst; all_goals (intro hq hc; try exact no)) | (refine CW_draw (id := 7) [] dwRfK0 mixed (by kernel_rfl) (fun K hK => ?_)))
  refine CW_loop (fun m ll L => ∃ (i n c : Nat) (a : Option Addr) (o : List Nat) (cs : List Value), m = l.length - i ∧ ll = [(0, true, .slice a0 l.length c0), (3, true, .slice a n c), (4, true, .int .i64 (i : Nat))] ∧
      L = [.own 3 1 a n c cs] ∧ i ≤ l.length ∧ n = i ∧ cs = nums o ∧ o.Perm (List.range i) ∧ SrN l o)
    ⟨_, _, _, ⟨0, 0, 0, none, [], [], rfl, rfl, rfl, by omega, rfl, rfl, List.Perm.refl _, List.Pairwise.nil⟩, by exact sbe, sblt⟩ ?_
  rintro m ll L ⟨i, n, c, a, o, cs, rfl, rfl, rfl, hi, hn, hcs, hp, hS⟩
  by_cases hlt : i < l.length
  · obtain rfl : i = n := hn.symm
    have hol : o.length = i := by rw [hp.length_eq, List.length_range]
    have hxm : ∀ j, j ∈ o → j < i := fun j hj => List.mem_range.1 (hp.mem_iff.1 hj)
    obtain ⟨s, hs⟩ : ∃ s, l[i]? = some s := ⟨_, List.getElem?_eq_getElem hlt⟩
    have hsx := txA_at hs
    have e1 : nums o ++ [.int .i64 ((i : Nat) : Int)] = nums (o ++ i :: []) := nums_snoc o i
    rw [← hcs] at e1
    
    repeat' (first | ((first | apply RW.q1 | (apply DW.q1; exact rfl)); exact qt) | ((first | apply RW.qg | (apply DW.qg; exact rfl)); exact gvx; refine hgx tst ?_; intro hg hg'; exact qu) | refine xsg cts ?_ | (apply CW_condT; exact rfl; exact ar) | (apply CW_condF; exact rfl; exact ar) | ((first | apply RW.s1 | apply RW.s0 | (apply DW.sa; exact rfl)); exact gva) | (refine hK _ _ ?_; clear hK; refine xsg xsl ?_) | (refine xsg ahd ?_; (first | (apply gw_asg; exact rfl) | (apply gw_lit1; exact rfl; exact rfl; exact rfl; exact rfl; decide; intro b) | (apply gw_lit2; exact rfl; exact rfl; exact rfl; exact rfl; intro b) | (apply gw_lit3; exact rfl; exact rfl; exact rfl; exact rfl; exact rfl; intro b) | (apply gw_ap1; exact rfl; exact rfl; infer_instance; infer_instance; exact rfl; exact rfl; exact rfl; exact rfl; omega; intro a c) | (apply gw_ap1n; exact rfl; exact rfl; infer_instance; exact rfl; exact rfl; exact rfl; exact rfl; omega; intro a c) | (refine gw_stx sto ?_) | (fail))) | (apply CW_region; intro K hK) | (apply CW_condX; exact rfl; exact tst; exact tst; all_goals (intro hq hc; try exact no)) | (refine CW_draw (id := 7) [] dwRfK0 mixed (by kernel_rfl) (fun K hK => ?_)))
    refine CW_loop (fun m ll L => ∃ (c : Nat) (a : Option Addr) (A B : List Nat) (cs : List Value), m = A.length + 1 ∧ ll = [(0, true, .slice a0 l.length c0), (3, true, .slice a (i + 1) c), (4, true, .int .i64 (i : Nat)), (5, true, .int .i64 (A.length : Nat))] ∧
        L = [.own 3 1 a (i + 1) c cs] ∧ cs = nums (A ++ i :: B) ∧ A ++ B = o ∧ ∀ j, j ∈ B → ltT s (txA l j))
      ⟨_, _, _, ⟨_, _, o, [], _, rfl, rfl, rfl, e1, List.append_nil _, fun j hj => by cases hj⟩, by exact sbe, sblt⟩ ?_
    rintro m ll L ⟨c, a, A, B, cs, rfl, rfl, rfl, hcs, hAB, hB⟩
    subst hcs
    have hABl : A.length + B.length = i := by rw [← hol, ← hAB, List.length_append]
    by_cases hA0 : A.length = 0
    · have hA : A = [] := List.eq_nil_of_length_eq_zero hA0
      subst hA
      have hAB' : B = o := hAB
      subst hAB'
      have hSn : SrN l (i :: B) := List.pairwise_cons.2 ⟨fun j hj g => by rw [hsx] at g; exact ltT_asym (hB j hj) g, hS⟩
      have hpn : (i :: B).Perm (List.range (i + 1)) := by rw [List.range_succ]; exact (hp.cons i).trans (List.perm_append_singleton i _).symm
      
      repeat' (first | ((first | apply RW.q1 | (apply DW.q1; exact rfl) | ((first | apply RW.qg | (apply DW.qg; exact rfl)); exact gvx; refine hgx tst ?_; intro hg hg')); (first | (exact (no : QW _ _ _ _ ⟨_, .load 3 _, _, _, _, _⟩ (.int .i64 0))) | (exact (no : QW _ _ _ _ ⟨_, .load 9 _, _, _, _, _⟩ (.string (bstr [])))) | exact qt | exact qu)) | refine xsg cts ?_ | (apply CW_condT; exact rfl; exact ar) | (apply CW_condF; exact rfl; exact ar) | ((first | apply RW.s1 | apply RW.s0 | (apply DW.sa; exact rfl)); exact gva) | (refine hK _ _ ?_; clear hK; refine xsg xsl ?_) | (refine xsg ahd ?_; (first | (apply gw_asg; exact rfl) | (apply gw_lit1; exact rfl; exact rfl; exact rfl; exact rfl; decide; intro b) | (apply gw_lit2; exact rfl; exact rfl; exact rfl; exact rfl; intro b) | (apply gw_lit3; exact rfl; exact rfl; exact rfl; exact rfl; exact rfl; intro b) | (apply gw_ap1; exact rfl; exact rfl; infer_instance; infer_instance; exact rfl; exact rfl; exact rfl; exact rfl; omega; intro a c) | (apply gw_ap1n; exact rfl; exact rfl; infer_instance; exact rfl; exact rfl; exact rfl; exact rfl; omega; intro a c) | (refine gw_stx sto ?_) | (fail))) | (apply CW_region; intro K hK) | (apply CW_condX; exact rfl; exact tst; exact tst; all_goals (intro hq hc; try exact no)) | (refine CW_draw (id := 7) [] dwRfK0 mixed (by kernel_rfl) (fun K hK => ?_)))
      exact ⟨_, _, _, ⟨i + 1, i + 1, c, a, i :: B, _, rfl, rfl, rfl, by omega, rfl, rfl, hpn, hSn⟩, by exact sbe, sblt, by omega⟩
    · obtain ⟨A', y, rfl⟩ : ∃ A' y, A = A' ++ [y] := ⟨A.dropLast, A.getLast (fun h => hA0 (by rw [h]; rfl)), (List.dropLast_concat_getLast _).symm⟩
      have hAl : (A' ++ [y]).length = A'.length + 1 := by simp
      have hyo : y ∈ o := by rw [← hAB]; simp
      have hyi := hxm y hyo
      obtain ⟨sy, hsy⟩ : ∃ s, l[y]? = some s := ⟨_, List.getElem?_eq_getElem (by omega)⟩
      have hsyx := txA_at hsy
      have hrl : (A' ++ [y] ++ i :: B).length = i + 1 := by rw [List.length_append, List.length_cons]; omega
      have hgi : (A' ++ [y] ++ i :: B)[A'.length + 1]? = some i := by rw [List.getElem?_append_right (by rw [hAl]; omega), hAl, Nat.sub_self]; rfl
      have hgy : (A' ++ [y] ++ i :: B)[A'.length]? = some y := by rw [List.append_assoc, List.getElem?_append_right (Nat.le_refl _), Nat.sub_self]; rfl
      by_cases hlt2 : ltT s sy
      · have e3 := swap_nums (A := A') (B := B) (x := i) (y := y)
        
        repeat' (first | ((first | apply RW.q1 | (apply DW.q1; exact rfl) | ((first | apply RW.qg | (apply DW.qg; exact rfl)); exact gvx; refine hgx tst ?_; intro hg hg')); (first | (apply q_ldo; exact rfl; exact evgx; infer_instance; first | exact nums_at hgi (by omega) | exact nums_at hgy (by omega)) | (apply q_ldr; exact rfl; exact evgx; exact hr; first | exact txs_at hs (by omega) | exact txs_at hsy (by omega)) | (apply q_sltT; exact evgx; exact evgx; exact hlt2) | exact qt | exact qu)) | refine xsg cts ?_ | (apply CW_condT; exact rfl; exact ar) | (apply CW_condF; exact rfl; exact ar) | ((first | apply RW.s1 | apply RW.s0 | (apply DW.sa; exact rfl)); exact gva) | (refine hK _ _ ?_; clear hK; refine xsg xsl ?_) | (refine xsg ahd ?_; (first | (apply gw_soN (d := A' ++ [y] ++ i :: B) (A'.length + 1); exact rfl; exact rfl; infer_instance; omega; omega) | (apply gw_soN A'.length; exact rfl; exact rfl; infer_instance; omega; (rw [List.length_set]; omega); rw [e3]) | (apply gw_asg; exact rfl) | (apply gw_lit1; exact rfl; exact rfl; exact rfl; exact rfl; decide; intro b) | (apply gw_lit2; exact rfl; exact rfl; exact rfl; exact rfl; intro b) | (apply gw_lit3; exact rfl; exact rfl; exact rfl; exact rfl; exact rfl; intro b) | (apply gw_ap1; exact rfl; exact rfl; infer_instance; infer_instance; exact rfl; exact rfl; exact rfl; exact rfl; omega; intro a c) | (apply gw_ap1n; exact rfl; exact rfl; infer_instance; exact rfl; exact rfl; exact rfl; exact rfl; omega; intro a c) | (refine gw_stx sto ?_) | (fail))) | (apply CW_region; intro K hK) | (apply CW_condX; exact rfl; exact tst; exact tst; all_goals (intro hq hc; try exact no)) | (refine CW_draw (id := 7) [] dwRfK0 mixed (by kernel_rfl) (fun K hK => ?_)))
        refine ⟨_, _, _, ⟨c, a, A', y :: B, _, rfl, rfl, rfl, rfl, by rw [← hAB]; simp, fun j hj => ?_⟩, by exact sbe, sblt, by omega⟩
        rcases List.mem_cons.1 hj with rfl | hj
        · rw [hsyx]; exact hlt2
        · exact hB j hj
      · have hSn : SrN l (A' ++ [y] ++ i :: B) := by
          rw [← hAB] at hS
          obtain ⟨h1, h2, h3⟩ := List.pairwise_append.1 hS
          refine List.pairwise_append.2 ⟨h1, List.pairwise_cons.2 ⟨fun j hj g => by rw [hsx] at g; exact ltT_asym (hB j hj) g, h2⟩, fun z hz j hj => ?_⟩
          rcases List.mem_cons.1 hj with rfl | hj
          · rw [hsx]
            have hzy : ¬ ltT sy (txA l z) := by
              rcases List.mem_append.1 hz with g | g
              · rw [← hsyx]; exact (List.pairwise_append.1 h1).2.2 z g y (by simp)
              · rw [List.mem_singleton.1 g, hsyx]; exact ltT_irr sy
            intro g
            by_cases h5 : ltT (txA l z) sy
            · exact hlt2 (ltT_tr g h5)
            · rw [ltT_tri h5 hzy] at g
              exact hlt2 g
          · exact h3 z hz j hj
        have hpn : (A' ++ [y] ++ i :: B).Perm (List.range (i + 1)) := by
          rw [List.range_succ]
          refine List.perm_middle.trans ?_
          rw [hAB]
          exact (hp.cons i).trans (List.perm_append_singleton i _).symm
        
        repeat' (first | ((first | apply RW.q1 | (apply DW.q1; exact rfl) | ((first | apply RW.qg | (apply DW.qg; exact rfl)); exact gvx; refine hgx tst ?_; intro hg hg')); (first | (apply q_ldo; exact rfl; exact evgx; infer_instance; first | exact nums_at hgi (by omega) | exact nums_at hgy (by omega)) | (apply q_ldr; exact rfl; exact evgx; exact hr; first | exact txs_at hs (by omega) | exact txs_at hsy (by omega)) | (apply q_sltF; exact evgx; exact evgx; exact hlt2) | exact qt | exact qu)) | refine xsg cts ?_ | (apply CW_condT; exact rfl; exact ar) | (apply CW_condF; exact rfl; exact ar) | ((first | apply RW.s1 | apply RW.s0 | (apply DW.sa; exact rfl)); exact gva) | (refine hK _ _ ?_; clear hK; refine xsg xsl ?_) | (refine xsg ahd ?_; (first | (apply gw_asg; exact rfl) | (apply gw_lit1; exact rfl; exact rfl; exact rfl; exact rfl; decide; intro b) | (apply gw_lit2; exact rfl; exact rfl; exact rfl; exact rfl; intro b) | (apply gw_lit3; exact rfl; exact rfl; exact rfl; exact rfl; exact rfl; intro b) | (apply gw_ap1; exact rfl; exact rfl; infer_instance; infer_instance; exact rfl; exact rfl; exact rfl; exact rfl; omega; intro a c) | (apply gw_ap1n; exact rfl; exact rfl; infer_instance; exact rfl; exact rfl; exact rfl; exact rfl; omega; intro a c) | (refine gw_stx sto ?_) | (fail))) | (apply CW_region; intro K hK) | (apply CW_condX; exact rfl; exact tst; exact tst; all_goals (intro hq hc; try exact no)) | (refine CW_draw (id := 7) [] dwRfK0 mixed (by kernel_rfl) (fun K hK => ?_)))
        · exact absurd hq (by simp)
        exact ⟨_, _, _, ⟨i + 1, i + 1, c, a, A' ++ [y] ++ i :: B, _, rfl, rfl, rfl, by omega, rfl, rfl, hpn, hSn⟩, by exact sbe, sblt, by omega⟩
  obtain rfl : i = l.length := by omega
  subst hn
  subst hcs
  
  repeat' (first | ((first | apply RW.q1 | (apply DW.q1; exact rfl)); exact qt) | ((first | apply RW.qg | (apply DW.qg; exact rfl)); exact gvx; refine hgx tst ?_; intro hg hg'; exact qu) | refine xsg cts ?_ | (apply CW_condT; exact rfl; exact ar) | (apply CW_condF; exact rfl; exact ar) | ((first | apply RW.s1 | apply RW.s0 | (apply DW.sa; exact rfl)); exact gva) | (refine hK _ _ ?_; clear hK; refine xsg xsl ?_) | (refine xsg ahd ?_; (first | (apply gw_asg; exact rfl) | (apply gw_lit1; exact rfl; exact rfl; exact rfl; exact rfl; decide; intro b) | (apply gw_lit2; exact rfl; exact rfl; exact rfl; exact rfl; intro b) | (apply gw_lit3; exact rfl; exact rfl; exact rfl; exact rfl; exact rfl; intro b) | (apply gw_ap1; exact rfl; exact rfl; infer_instance; infer_instance; exact rfl; exact rfl; exact rfl; exact rfl; omega; intro a c) | (apply gw_ap1n; exact rfl; exact rfl; infer_instance; exact rfl; exact rfl; exact rfl; exact rfl; omega; intro a c) | (refine gw_stx sto ?_) | (fail))) | (apply CW_region; intro K hK) | (apply CW_condX; exact rfl; exact tst; exact tst; all_goals (intro hq hc; try exact no)) | (refine CW_draw (id := 7) [] dwRfK0 mixed (by kernel_rfl) (fun K hK => ?_)))
  (refine CW_ret ?_; refine xsg xsl ?_; refine bR [.tmp 2] [.own 3 1 a l.length c (nums o)] ?_)
  exact ⟨o, a, c, rfl, rfl, hp, hS⟩
def flA (l : List Fl) (i : Nat) : Fl := (l[i]?).getD ⟨[], none, 0, [], none, 0, [], 0⟩
theorem flA_at {l : List Fl} {i : Nat} {f : Fl} (h : l[i]? = some f) : flA l i = f := by unfold flA; rw [h]; rfl
theorem flA_range (l : List Fl) : (List.range l.length).map (flA l) = l := by
  apply List.ext_getElem?
  intro i
  rw [List.getElem?_map]
  rcases Nat.lt_or_ge i l.length with h | h
  · rw [List.getElem?_range h, List.getElem?_eq_getElem h]
    exact congrArg some (flA_at (List.getElem?_eq_getElem h))
  · rw [List.getElem?_eq_none (by simpa using h), List.getElem?_eq_none h]; rfl
theorem flA_perm {l : List Fl} {o : List Nat} (h : o.Perm (List.range l.length)) : (o.map (flA l)).Perm l := by
  have := h.map (flA l)
  rwa [flA_range] at this
theorem flA_srt {l : List Fl} {o : List Nat} (h : o.Perm (List.range l.length)) (hs : SrN (l.map Fl.n) o) : Srt flLt (o.map (flA l)) := by
  refine List.pairwise_map.2 (hs.imp_of_mem fun {i j} hi hj g => ?_)
  have e : ∀ i, i ∈ o → txA (l.map Fl.n) i = (flA l i).n := fun i hi => by
    have hl := List.mem_range.1 (h.mem_iff.1 hi)
    rw [flA_at (List.getElem?_eq_getElem hl)]
    exact txA_at (by rw [List.getElem?_map, List.getElem?_eq_getElem hl]; rfl)
  rw [e i hi, e j hj] at g
  exact g
theorem rFiles_spec (p : Pk) (H : Hp) (hp : pkOk H p) (hf : p.fl.length ≤ 1048576) :
    SC Try.prog 49 [pkV p] H [] (fun v M => ∃ l' a c, l'.Perm p.fl ∧ Srt flLt l' ∧ v = .slice a p.fl.length c ∧ M = [.own 38 4 a p.fl.length c (l'.flatMap flC)]) := by
  have hpf : Rs H 4 p.la p.fl.length p.lc (p.fl.flatMap flC) := hp.2.1
  have hnml : (p.fl.map Fl.n).length = p.fl.length := List.length_map _
  (refine SC_intro Try.func49 rfl (by kernel_rfl) (by rw [Try.ntmps49]; exact Nat.le_of_ble_eq_true rfl) ?_; simp only [Try.ntmps49, argE, Nat.reduceAdd])
  
  repeat' (first | ((first | apply RW.q1 | (apply DW.q1; exact rfl)); exact qt) | refine xsg cts ?_ | (apply CW_condT; exact rfl; exact ar) | (apply CW_condF; exact rfl; exact ar) | (refine hK _ _ ?_; clear hK; refine xsg xsl ?_) | (refine xsg ahd ?_; (first | (apply gw_box (d := some 1); exact rfl; exact rfl; intro b1) | (apply gw_asg; exact rfl) | (apply gw_box; exact rfl; exact rfl; intro b) | (apply gw_lit1; exact rfl; exact rfl; exact rfl; exact rfl; decide; intro b) | (apply gw_lit2; exact rfl; exact rfl; exact rfl; exact rfl; intro b) | (apply gw_lit3; exact rfl; exact rfl; exact rfl; exact rfl; exact rfl; intro b) | (apply gw_ap1; exact rfl; exact rfl; infer_instance; infer_instance; exact rfl; exact rfl; exact rfl; exact rfl; omega; intro a c) | (apply gw_ap1n; exact rfl; exact rfl; infer_instance; exact rfl; exact rfl; exact rfl; exact rfl; omega; intro a c) | (fail))) | (apply CW_region; intro K hK) | (apply CW_condX; exact rfl; exact tst; exact tst; all_goals (intro hq hc; try exact no)) | (refine CW_draw (id := 11) [] dwRfK1 mixed (by kernel_rfl) (fun K hK => ?_)))
  refine CW_loop (fun m ll L => ∃ (i n c : Nat) (a : Option Addr) (cs : List Value), m = p.fl.length - i ∧ ll = [(1, true, .pointer (some ⟨b1, 0, none⟩)), (3, true, .slice a n c), (4, true, .int .i64 (i : Nat))] ∧
      L = [.box b1 25 (pkC p), .own 9 1 a n c cs] ∧ i ≤ p.fl.length ∧ n = i ∧ cs = txs ((p.fl.take i).map Fl.n))
    ⟨_, _, _, ⟨0, 0, 0, none, [], rfl, rfl, rfl, by omega, rfl, rfl⟩, by exact sbe, sblt⟩ ?_
  rintro m ll L ⟨i, n, c, a, cs, rfl, rfl, rfl, hi, hn, hcs⟩
  by_cases hlt : i < p.fl.length
  · obtain ⟨f, hfx⟩ : ∃ f, p.fl[i]? = some f := ⟨_, List.getElem?_eq_getElem hlt⟩
    have e1 : cs ++ [.string (bstr f.n)] = txs ((p.fl.take (i + 1)).map Fl.n) := by rw [hcs, txs_snoc, take_snoc' hfx, List.map_append]; rfl
    
    repeat' (first | ((first | apply RW.q1 | (apply DW.q1; exact rfl)); (first | (apply q_ldr; exact rfl; exact rfl; exact hpf; exact fl_n hfx (by omega)) | exact qt)) | refine xsg cts ?_ | (apply CW_condT; exact rfl; exact ar) | (apply CW_condF; exact rfl; exact ar) | (refine hK _ _ ?_; clear hK; refine xsg xsl ?_) | (refine xsg ahd ?_; (first | (apply gw_asg; exact rfl) | (apply gw_box; exact rfl; exact rfl; intro b) | (apply gw_lit1; exact rfl; exact rfl; exact rfl; exact rfl; decide; intro b) | (apply gw_lit2; exact rfl; exact rfl; exact rfl; exact rfl; intro b) | (apply gw_lit3; exact rfl; exact rfl; exact rfl; exact rfl; exact rfl; intro b) | (apply gw_ap1; exact rfl; exact rfl; infer_instance; infer_instance; exact rfl; exact rfl; exact rfl; exact rfl; omega; intro a c) | (apply gw_ap1n; exact rfl; exact rfl; infer_instance; exact rfl; exact rfl; exact rfl; exact rfl; omega; intro a c) | (fail))) | (apply CW_region; intro K hK) | (apply CW_condX; exact rfl; exact tst; exact tst; all_goals (intro hq hc; try exact no)) | (refine CW_draw (id := 11) [] dwRfK1 mixed (by kernel_rfl) (fun K hK => ?_)))
    exact ⟨_, _, _, ⟨i + 1, n + 1, _, _, _, rfl, rfl, rfl, by omega, by omega, e1⟩, by exact sbe, sblt, by omega⟩
  obtain rfl : i = p.fl.length := by omega
  rw [List.take_length] at hcs
  subst hn
  subst hcs
  have hso := fun (G : Hp) (hr : Rs G 1 a (p.fl.map Fl.n).length c (txs (p.fl.map Fl.n))) => rSorted_spec (p.fl.map Fl.n) a c G hr (by omega)
  simp only [hnml] at hso
  
  repeat' (first | ((first | apply RW.q1 | (apply DW.q1; exact rfl)); exact qt) | refine xsg cts ?_ | (apply CW_condT; exact rfl; exact ar) | (apply CW_condF; exact rfl; exact ar) | (refine hK _ _ ?_; clear hK; refine xsg xsl ?_) | (refine xsg ahd ?_; (first | (apply gw_call (f := 69); exact rfl; exact go69; intro G hG; refine SC.mono (hso G (sl_own (by exact pkx) hG)) ?_; rintro v M ⟨o, oa, oc, rfl, rfl, hop, hoS⟩; (try dsimp only [jL, jM])) | (apply gw_asg; exact rfl) | (apply gw_box; exact rfl; exact rfl; intro b) | (apply gw_lit1; exact rfl; exact rfl; exact rfl; exact rfl; decide; intro b) | (apply gw_lit2; exact rfl; exact rfl; exact rfl; exact rfl; intro b) | (apply gw_lit3; exact rfl; exact rfl; exact rfl; exact rfl; exact rfl; intro b) | (apply gw_ap1; exact rfl; exact rfl; infer_instance; infer_instance; exact rfl; exact rfl; exact rfl; exact rfl; omega; intro a c) | (apply gw_ap1n; exact rfl; exact rfl; infer_instance; exact rfl; exact rfl; exact rfl; exact rfl; omega; intro a c) | (fail))) | (apply CW_region; intro K hK) | (apply CW_condX; exact rfl; exact tst; exact tst; all_goals (intro hq hc; try exact no)) | (refine CW_draw (id := 11) [] dwRfK1 mixed (by kernel_rfl) (fun K hK => ?_)))
  have hpl := hop.length_eq
  rw [List.length_range] at hpl
  refine CW_loop (fun m ll L => ∃ (i n c : Nat) (a : Option Addr) (cs : List Value), m = p.fl.length - i ∧ ll = [(1, true, .pointer (some ⟨b1, 0, none⟩)), (5, true, .slice oa p.fl.length oc), (6, true, .slice a n c), (7, true, .int .i64 (i : Nat))] ∧
      L = [.box b1 25 (pkC p), .own 3 1 oa p.fl.length oc (nums o), .own 38 4 a n c cs] ∧ i ≤ p.fl.length ∧ n = i ∧ cs = ((o.take i).map (flA p.fl)).flatMap flC)
    ⟨_, _, _, ⟨0, 0, 0, none, [], rfl, rfl, rfl, by omega, rfl, rfl⟩, by exact sbe, sblt⟩ ?_
  rintro m ll L ⟨i, n, c2, a2, cs, rfl, rfl, rfl, hi, hn, hcs⟩
  by_cases hlt : i < p.fl.length
  · obtain ⟨k, hk⟩ : ∃ k, o[i]? = some k := ⟨_, List.getElem?_eq_getElem (by omega)⟩
    have hkl := List.mem_range.1 (hop.mem_iff.1 (List.mem_of_getElem? hk))
    obtain ⟨f, hfx⟩ : ∃ f, p.fl[k]? = some f := ⟨_, List.getElem?_eq_getElem hkl⟩
    have e1 : cs ++ flC f = ((o.take (i + 1)).map (flA p.fl)).flatMap flC := by rw [hcs, take_snoc' hk, List.map_append, List.flatMap_append, List.map_cons, List.map_nil, flA_at hfx]; simp
    
    repeat' (first | ((first | apply RW.q1 | (apply DW.q1; exact rfl)); (first | (apply q_ldo; exact rfl; exact rfl; infer_instance; exact nums_at hk (by omega)) | (apply q_lar; exact rfl; exact rfl; exact hpf; exact ix_elem hfx (by omega); exact rfl; decide) | exact qt)) | refine xsg cts ?_ | (apply CW_condT; exact rfl; exact ar) | (apply CW_condF; exact rfl; exact ar) | (refine hK _ _ ?_; clear hK; refine xsg xsl ?_) | (refine xsg ahd ?_; (first | (apply gw_asg; exact rfl) | (apply gw_box; exact rfl; exact rfl; intro b) | (apply gw_lit1; exact rfl; exact rfl; exact rfl; exact rfl; decide; intro b) | (apply gw_lit2; exact rfl; exact rfl; exact rfl; exact rfl; intro b) | (apply gw_lit3; exact rfl; exact rfl; exact rfl; exact rfl; exact rfl; intro b) | (apply gw_ap1; exact rfl; exact rfl; infer_instance; infer_instance; exact rfl; exact rfl; exact rfl; exact rfl; omega; intro a c) | (apply gw_ap1n; exact rfl; exact rfl; infer_instance; exact rfl; exact rfl; exact rfl; exact rfl; omega; intro a c) | (fail))) | (apply CW_region; intro K hK) | (apply CW_condX; exact rfl; exact tst; exact tst; all_goals (intro hq hc; try exact no)) | (refine CW_draw (id := 11) [] dwRfK1 mixed (by kernel_rfl) (fun K hK => ?_)))
    exact ⟨_, _, _, ⟨i + 1, n + 1, _, _, _, rfl, rfl, rfl, by omega, by omega, e1⟩, by exact sbe, sblt, by omega⟩
  obtain rfl : i = p.fl.length := by omega
  rw [List.take_of_length_le (by omega)] at hcs
  subst hn
  subst hcs
  
  repeat' (first | ((first | apply RW.q1 | (apply DW.q1; exact rfl)); exact qt) | refine xsg cts ?_ | (apply CW_condT; exact rfl; exact ar) | (apply CW_condF; exact rfl; exact ar) | (refine hK _ _ ?_; clear hK; refine xsg xsl ?_) | (refine xsg ahd ?_; (first | (apply gw_asg; exact rfl) | (apply gw_box; exact rfl; exact rfl; intro b) | (apply gw_lit1; exact rfl; exact rfl; exact rfl; exact rfl; decide; intro b) | (apply gw_lit2; exact rfl; exact rfl; exact rfl; exact rfl; intro b) | (apply gw_lit3; exact rfl; exact rfl; exact rfl; exact rfl; exact rfl; intro b) | (apply gw_ap1; exact rfl; exact rfl; infer_instance; infer_instance; exact rfl; exact rfl; exact rfl; exact rfl; omega; intro a c) | (apply gw_ap1n; exact rfl; exact rfl; infer_instance; exact rfl; exact rfl; exact rfl; exact rfl; omega; intro a c) | (fail))) | (apply CW_region; intro K hK) | (apply CW_condX; exact rfl; exact tst; exact tst; all_goals (intro hq hc; try exact no)) | (refine CW_draw (id := 11) [] dwRfK1 mixed (by kernel_rfl) (fun K hK => ?_)))
  (refine CW_ret ?_; refine xsg xsl ?_; refine bR [.tmp 2] [.own 38 4 a2 p.fl.length c2 _] ?_)
  exact ⟨o.map (flA p.fl), a2, c2, flA_perm hop, flA_srt hop hoS, rfl, rfl⟩
end Go.Proofs.Ytkhmimlgkjenfaa.HL
namespace Go.Proofs.Ytkhmimlgkjenfaa.HL
open Go
attribute [local irreducible] goFn thenS blockS bodyS CW RW DW GW QW NW SC Pick Picks SubL Rd NN ResOk SrcW subE hops hseg AW hgen HC qv bldv
set_option maxHeartbeats 8000000
set_option maxRecDepth 100000
set_option linter.unusedVariables false
set_option linter.unusedSimpArgs false

structure LnI (next : List (List Nat)) (V : Nat → Prop) (i : Nat) (out seen : List Bool) (todo : List Nat) (pend : Nat → Prop) : Prop where
  ol : out.length = next.length
  sl : seen.length = next.length
  /-- what is marked is reached -/
  oy : ∀ y, Dn out y → V y ∧ ByF (Nx next) V i y
  sy : ∀ y, Dn seen y → ¬ V y ∧ ByF (Nx next) V i y
  td : ∀ y, y ∈ todo → y = i ∨ Dn seen y
  /-- what is through, or i, and no longer to do: all behind it is marked -/
  sh : ∀ x, (x = i ∨ Dn seen x) → x ∉ todo → ¬ pend x → ∀ y, Nx next x y → (V y → Dn out y) ∧ (¬ V y → Dn seen y)
theorem LnI.done {next : List (List Nat)} {V : Nat → Prop} {i : Nat} {out seen : List Bool} (h : LnI next V i out seen [] (fun _ => False)) (y : Nat) : Dn out y ↔ V y ∧ ByF (Nx next) V i y := by
  refine ⟨h.oy y, fun ⟨hv, hb⟩ => ?_⟩
  have key : ∀ a b, ByF (Nx next) V a b → (a = i ∨ Dn seen a) → V b → Dn out b := by
    intro a b hab
    induction hab with
    | one e => intro ha hb; exact (h.sh _ ha (by simp) (fun f => f) _ e).1 hb
    | step e hn _ ih => intro ha hb; exact ih (.inr ((h.sh _ ha (by simp) (fun f => f) _ e).2 hn)) hb
  exact key i y hb (.inl rfl) hv
theorem byF_snoc {next : List (List Nat)} {V : Nat → Prop} {i x y : Nat} (h : ByF (Nx next) V i x) (hx : ¬ V x) (e : Nx next x y) : ByF (Nx next) V i y := by
  induction h with
  | one e0 => exact .step e0 hx (.one e)
  | step e0 hn _ ih => exact .step e0 hn (ih hx e)
theorem dn_of {d : List Bool} {x : Nat} (h : d[x]? = some true) : Dn d x := h
theorem not_dn' {d : List Bool} {x : Nat} (h : d[x]? = some false) : ¬ Dn d x := fun g => by unfold Dn at g; rw [h] at g; cases g
structure LnX (next : List (List Nat)) (V : Nat → Prop) (i x : Nat) (r : List Nat) (q : Nat) (out seen : List Bool) (todo : List Nat) : Prop where
  I : LnI next V i out seen todo (fun z => z = x)
  xx : x = i ∨ (Dn seen x ∧ ¬ V x ∧ ByF (Nx next) V i x)
  ed : ∀ y, y ∈ r.take q → (V y → Dn out y) ∧ (¬ V y → Dn seen y)
section
variable {next : List (List Nat)} {V : Nat → Prop} {i x q y : Nat} {r : List Nat} {out seen : List Bool} {todo : List Nat}
theorem LnX.reach (h : LnX next V i x r q out seen todo) (he : Nx next x y) : ByF (Nx next) V i y := by
  rcases h.xx with rfl | ⟨_, h2, h3⟩
  · exact .one he
  · exact byF_snoc h3 h2 he
theorem ed_snoc (h : ∀ y, y ∈ r.take q → (V y → Dn out y) ∧ (¬ V y → Dn seen y)) (hr : r[q]? = some y) (hy : (V y → Dn out y) ∧ (¬ V y → Dn seen y)) : ∀ z, z ∈ r.take (q + 1) → (V z → Dn out z) ∧ (¬ V z → Dn seen z) := fun z hz => by
  rw [take_snoc' hr] at hz
  rcases List.mem_append.1 hz with g | g
  · exact h z g
  · rw [List.mem_singleton.1 g]; exact hy
theorem LnX.var (h : LnX next V i x r q out seen todo) (hr : r[q]? = some y) (he : Nx next x y) (hl : y < out.length) (hv : V y) : LnX next V i x r (q + 1) (out.set y true) seen todo := by
  have up : ∀ z, Dn out z → Dn (out.set y true) z := fun z hz => (dn_set hl).2 (.inl hz)
  refine ⟨⟨by rw [List.length_set]; exact h.I.ol, h.I.sl, fun z hz => ?_, h.I.sy, h.I.td, fun z h1 h2 h3 w hw => ?_⟩, h.xx, ?_⟩
  · rcases (dn_set hl).1 hz with g | rfl
    · exact h.I.oy z g
    · exact ⟨hv, h.reach he⟩
  · have := h.I.sh z h1 h2 h3 w hw
    exact ⟨fun g => up w (this.1 g), this.2⟩
  · exact ed_snoc (fun z hz => ⟨fun g => up z ((h.ed z hz).1 g), (h.ed z hz).2⟩) hr ⟨fun _ => (dn_set hl).2 (.inr rfl), fun g => absurd hv g⟩
theorem LnX.old (h : LnX next V i x r q out seen todo) (hr : r[q]? = some y) (hv : ¬ V y) (hs : Dn seen y) : LnX next V i x r (q + 1) out seen todo :=
  ⟨h.I, h.xx, ed_snoc h.ed hr ⟨fun g => absurd g hv, fun _ => hs⟩⟩
theorem LnX.new (h : LnX next V i x r q out seen todo) (hr : r[q]? = some y) (he : Nx next x y) (hl : y < seen.length) (hv : ¬ V y) : LnX next V i x r (q + 1) out (seen.set y true) (todo ++ [y]) := by
  have up : ∀ z, Dn seen z → Dn (seen.set y true) z := fun z hz => (dn_set hl).2 (.inl hz)
  refine ⟨⟨h.I.ol, by rw [List.length_set]; exact h.I.sl, h.I.oy, fun z hz => ?_, fun z hz => ?_, fun z h1 h2 h3 w hw => ?_⟩, ?_, ?_⟩
  · rcases (dn_set hl).1 hz with g | rfl
    · exact h.I.sy z g
    · exact ⟨hv, h.reach he⟩
  · rcases List.mem_append.1 hz with g | g
    · exact (h.I.td z g).imp id (up z)
    · rw [List.mem_singleton.1 g]; exact .inr ((dn_set hl).2 (.inr rfl))
  · have hz2 : z ∉ todo := fun g => h2 (List.mem_append_left _ g)
    have hzy : z ≠ y := fun g => h2 (by rw [g]; simp)
    have h1' : z = i ∨ Dn seen z := h1.imp id fun g => ((dn_set hl).1 g).resolve_right hzy
    have := h.I.sh z h1' hz2 h3 w hw
    exact ⟨this.1, fun g => up w (this.2 g)⟩
  · exact h.xx.imp id fun ⟨a, b, c⟩ => ⟨up x a, b, c⟩
  · exact ed_snoc (fun z hz => ⟨(h.ed z hz).1, fun g => up z ((h.ed z hz).2 g)⟩) hr ⟨fun g => absurd g hv, fun _ => (dn_set hl).2 (.inr rfl)⟩
theorem LnX.through (h : LnX next V i x r r.length out seen todo) (hx : next[x]? = some r) : LnI next V i out seen todo (fun _ => False) := by
  refine ⟨h.I.ol, h.I.sl, h.I.oy, h.I.sy, h.I.td, fun z h1 h2 _ w hw => ?_⟩
  by_cases hzx : z = x
  · subst hzx
    obtain ⟨r', h3, h4⟩ := hw
    rw [hx] at h3
    cases h3
    exact h.ed w (by rw [List.take_length]; exact h4)
  · exact h.I.sh z h1 h2 hzx w hw
theorem LnI.off (h : LnI next V i out seen (todo ++ [x]) (fun _ => False)) : LnX next V i x r 0 out seen todo := by
  refine ⟨⟨h.ol, h.sl, h.oy, h.sy, fun z hz => h.td z (List.mem_append_left _ hz), fun z h1 h2 h3 => h.sh z h1 (fun g => ?_) (fun f => f)⟩, ?_, fun y hy => by rw [List.take_zero] at hy; cases hy⟩
  · rcases List.mem_append.1 g with g | g
    · exact h2 g
    · exact h3 (List.mem_singleton.1 g)
  · exact (h.td x (by simp)).imp id fun g => ⟨g, h.sy x g⟩
theorem LnI.start {n : Nat} (hn : next.length = n) : LnI next V i (List.replicate n false) (List.replicate n false) [i] (fun _ => False) :=
  ⟨by rw [List.length_replicate, hn], by rw [List.length_replicate, hn], fun y h => absurd h (not_dn n y), fun y h => absurd h (not_dn n y), fun y hy => .inl (List.mem_singleton.1 hy), fun z h1 h2 _ => by
    rcases h1 with rfl | h
    · exact absurd (by simp) h2
    · exact absurd h (not_dn n z)⟩
end
theorem rLeans_spec (t : List Th) (nds : List Nd) (a0 : Option Addr) (c0 i : Nat) (H : Hp) (hN : NdIn H t nds a0 c0) (hl : t.length ≤ 1048576) (hu : ∀ x, x ∈ t → x.u.length ≤ 1048576) (hi : i < t.length) :
    SC Try.prog 50 [.slice a0 t.length c0, .int .i64 (i : Nat)] H [] (fun v M => ∃ out a c, v = .slice a t.length c ∧ M = [.own 4 1 a t.length c (bools out)] ∧ out.length = t.length ∧ ∀ y, Dn out y ↔ VI t y ∧ ByF (Nx ((nds.map Nd.r).map Rw.l)) (VI t) i y) := by
  obtain ⟨hn, ho, hnl, hk⟩ := hN
  have hNR := nds_rows hnl hk
  have hNet := hNR.net
  have hxl : ((nds.map Nd.r).map Rw.l).length = t.length := by rw [List.length_map, List.length_map]; exact hnl
  have hnxE : ∀ (i : Nat) (nd : Nd) (k : Nat), nds[i]? = some nd → (Nx ((nds.map Nd.r).map Rw.l) i k ↔ k ∈ nd.r.l) := fun i nd k h => nx_at (by rw [List.getElem?_map, h]; rfl)
  have hnxR : ∀ (i : Nat) (nd : Nd), nds[i]? = some nd → ((nds.map Nd.r).map Rw.l)[i]? = some nd.r.l := fun i nd h => by rw [List.getElem?_map, List.getElem?_map, h]; rfl
  obtain ⟨next, hnext⟩ : ∃ next, next = (nds.map Nd.r).map Rw.l := ⟨_, rfl⟩
  rw [← hnext] at hNet hxl hnxE hnxR ⊢
  (refine SC_intro Try.func50 rfl (by kernel_rfl) (by rw [Try.ntmps50]; exact Nat.le_of_ble_eq_true rfl) ?_; simp only [Try.ntmps50, argE, Nat.reduceAdd])
  
  repeat' (first | (apply RW.q1; exact qt) | refine xsg cts ?_ | (apply CW_condT; exact rfl; exact ar) | (apply CW_condF; exact rfl; exact ar) | (refine hK _ _ ?_; clear hK; refine xsg xsl ?_) | ((first | apply RW.a1 | apply RW.a0); (first | (apply gw_make (d := some 13); exact rfl; exact rfl; exact rfl; exact rfl; omega; omega; omega; omega; intro db; rw [zrow_bools]) | (apply gw_make (d := some 16); exact rfl; exact rfl; exact rfl; exact rfl; omega; omega; omega; omega; intro sb; rw [zrow_bools]) | (apply gw_asg; exact rfl) | (apply gw_make; exact rfl; exact rfl; exact rfl; exact rfl; omega; omega; omega; omega; intro b) | (apply gw_lit1; exact rfl; exact rfl; exact rfl; exact rfl; decide; intro b) | (apply gw_lit2; exact rfl; exact rfl; exact rfl; exact rfl; intro b) | (apply gw_lit3; exact rfl; exact rfl; exact rfl; exact rfl; exact rfl; intro b) | (apply gw_ap1; exact rfl; exact rfl; infer_instance; infer_instance; exact rfl; exact rfl; exact rfl; exact rfl; omega; intro a c) | (apply gw_ap1n; exact rfl; exact rfl; infer_instance; exact rfl; exact rfl; exact rfl; exact rfl; omega; intro a c) | (refine gw_stx sto ?_) | (fail))) | (apply CW_region; intro K hK) | (apply CW_condX; exact rfl; exact tst; exact tst; all_goals (intro hq hc; try exact no)))
  refine CW_loop (fun m ll L => ∃ (out seen : List Bool) (todo : List Nat) (oa sa ta : Option Addr) (oc sc tc tn : Nat) (cs rest : List Value), m = 2 * left0 seen + todo.length ∧ ll = [(0, true, .slice a0 t.length c0), (5, true, .slice oa t.length oc), (6, true, .slice sa t.length sc), (7, true, .slice ta tn tc)] ∧
      L = [.own 4 1 oa t.length oc (bools out), .own 4 1 sa t.length sc (bools seen), .own 3 1 ta tn tc cs] ∧ tn = todo.length ∧ cs = nums todo ∧ todo.length + left0 seen ≤ 1048577 ∧ (∀ x, x ∈ todo → x < t.length) ∧ LnI next (VI t) i out seen todo (fun _ => False))
    ⟨_, _, _, ⟨List.replicate t.length false, List.replicate t.length false, [i], _, _, _, _, _, _, 1, _, [], rfl, rfl, rfl, rfl, rfl, by have := left_le (List.replicate t.length false); rw [List.length_replicate] at this; rw [List.length_singleton]; omega, fun x hx => by rw [List.mem_singleton.1 hx]; exact hi, LnI.start hxl⟩, by exact sbe, sblt⟩ ?_
  rintro m ll L ⟨out, seen, todo, oa, sa, ta, oc, sc, tc, tn, cs, rest, rfl, rfl, rfl, htn, hcs, hT, hTx, hI⟩
  subst htn
  subst hcs
  have hol := hI.ol
  have hsl := hI.sl
  by_cases h0 : todo.length = 0
  · have htd : todo = [] := List.eq_nil_of_length_eq_zero h0
    subst htd
    have hD := hI.done
    
    repeat' (first | (apply RW.q1; exact qt) | refine xsg cts ?_ | (apply CW_condT; exact rfl; exact ar) | (apply CW_condF; exact rfl; exact ar) | (refine hK _ _ ?_; clear hK; refine xsg xsl ?_) | ((first | apply RW.a1 | apply RW.a0); (first | (apply gw_asg; exact rfl) | (apply gw_make; exact rfl; exact rfl; exact rfl; exact rfl; omega; omega; omega; omega; intro b) | (apply gw_lit1; exact rfl; exact rfl; exact rfl; exact rfl; decide; intro b) | (apply gw_lit2; exact rfl; exact rfl; exact rfl; exact rfl; intro b) | (apply gw_lit3; exact rfl; exact rfl; exact rfl; exact rfl; exact rfl; intro b) | (apply gw_ap1; exact rfl; exact rfl; infer_instance; infer_instance; exact rfl; exact rfl; exact rfl; exact rfl; omega; intro a c) | (apply gw_ap1n; exact rfl; exact rfl; infer_instance; exact rfl; exact rfl; exact rfl; exact rfl; omega; intro a c) | (refine gw_stx sto ?_) | (fail))) | (apply CW_region; intro K hK) | (apply CW_condX; exact rfl; exact tst; exact tst; all_goals (intro hq hc; try exact no)))
    (refine CW_ret ?_; refine xsg xsl ?_; refine bR [.tmp 4] [.own 4 1 oa t.length oc (bools out)] ?_)
    exact ⟨out, oa, oc, rfl, rfl, by omega, hD⟩
  · obtain ⟨td, x, rfl⟩ : ∃ A y, todo = A ++ [y] := ⟨todo.dropLast, todo.getLast (fun h => h0 (by rw [h]; rfl)), (List.dropLast_concat_getLast _).symm⟩
    have htl : (td ++ [x]).length = td.length + 1 := by simp
    have hxl2 := hTx x (by simp)
    have hgx : (td ++ [x])[td.length]? = some x := by rw [List.getElem?_append_right (Nat.le_refl _), Nat.sub_self]; rfl
    obtain ⟨nd, hdi⟩ : ∃ r, nds[x]? = some r := ⟨_, List.getElem?_eq_getElem (by omega)⟩
    obtain ⟨y0, hy0⟩ : ∃ y, t[x]? = some y := ⟨_, List.getElem?_eq_getElem (by omega)⟩
    have hro : Rs H 1 nd.r.a nd.r.l.length nd.r.c (nums nd.r.l) := ho nd (List.mem_of_getElem? hdi)
    have hrx := (hk x nd y0 hdi hy0).2.2.2
    have hyu := hu y0 (List.mem_of_getElem? hy0)
    have hX : LnX next (VI t) i x nd.r.l 0 out seen td := hI.off
    
    repeat' (first | (apply RW.q1; (first | (apply q_ldo; exact rfl; exact rfl; infer_instance; exact nums_at hgx (by omega)) | exact qt)) | refine xsg cts ?_ | (apply CW_condT; exact rfl; exact ar) | (apply CW_condF; exact rfl; exact ar) | (refine hK _ _ ?_; clear hK; refine xsg xsl ?_) | ((first | apply RW.a1 | apply RW.a0); (first | (apply gw_asg; exact rfl) | (apply gw_make; exact rfl; exact rfl; exact rfl; exact rfl; omega; omega; omega; omega; intro b) | (apply gw_lit1; exact rfl; exact rfl; exact rfl; exact rfl; decide; intro b) | (apply gw_lit2; exact rfl; exact rfl; exact rfl; exact rfl; intro b) | (apply gw_lit3; exact rfl; exact rfl; exact rfl; exact rfl; exact rfl; intro b) | (apply gw_ap1; exact rfl; exact rfl; infer_instance; infer_instance; exact rfl; exact rfl; exact rfl; exact rfl; omega; intro a c) | (apply gw_ap1n; exact rfl; exact rfl; infer_instance; exact rfl; exact rfl; exact rfl; exact rfl; omega; intro a c) | (refine gw_stx sto ?_) | (fail))) | (apply CW_region; intro K hK) | (apply CW_condX; exact rfl; exact tst; exact tst; all_goals (intro hq hc; try exact no)))
    have htk : (nums (td ++ [x])).take (td.length * 1) = nums td := by rw [Nat.mul_one]; unfold nums; rw [List.map_append, List.take_left' (List.length_map _)]
    have hkk : (((td ++ [x]).length : Int) - 1).toNat = td.length := by omega
    rw [hkk]
    refine CW_drop [.own 3 1 ta td.length tc (nums td), .own 4 1 oa t.length oc (bools out), .own 4 1 sa t.length sc (bools seen)] (by rw [← htk]; exact subl_less' (by exact pkx) (by omega) (by exact sbl)) ?_
    refine CW_loop (fun m ll L => ∃ (q : Nat) (out2 seen2 : List Bool) (td2 : List Nat) (ta2 : Option Addr) (tc2 tn2 : Nat) (cs2 : List Value), m = nd.r.l.length - q ∧ ll = [(0, true, .slice a0 t.length c0), (5, true, .slice oa t.length oc), (6, true, .slice sa t.length sc), (7, true, .slice ta2 tn2 tc2), (8, true, .int .i64 (x : Nat)), (9, true, .int .i64 (q : Nat))] ∧
        L = [.own 4 1 oa t.length oc (bools out2), .own 4 1 sa t.length sc (bools seen2), .own 3 1 ta2 tn2 tc2 cs2] ∧ q ≤ nd.r.l.length ∧ tn2 = td2.length ∧ cs2 = nums td2 ∧ td2.length + left0 seen2 ≤ td.length + left0 seen ∧ left0 seen2 ≤ left0 seen ∧ (∀ x, x ∈ td2 → x < t.length) ∧ LnX next (VI t) i x nd.r.l q out2 seen2 td2)
      ⟨_, _, _, ⟨0, out, seen, td, ta, tc, td.length, _, rfl, rfl, rfl, by omega, rfl, rfl, Nat.le_refl _, Nat.le_refl _, fun z hz => hTx z (List.mem_append_left _ hz), hX⟩, by exact sbe, sblt⟩ ?_
    rintro m ll L ⟨q, out2, seen2, td2, ta2, tc2, tn2, cs2, rfl, rfl, rfl, hq1, htn2, hcs2, hT2, hL2, hTx2, hX2⟩
    subst htn2
    subst hcs2
    have hol2 := hX2.I.ol
    have hsl2 := hX2.I.sl
    by_cases hql : q < nd.r.l.length
    · obtain ⟨k, hkq⟩ : ∃ k, nd.r.l[q]? = some k := ⟨_, List.getElem?_eq_getElem hql⟩
      have hnk := (hnxE x nd k hdi).2 (List.mem_of_getElem? hkq)
      have hkl := hNet.lt x k hnk
      obtain ⟨y, hy⟩ : ∃ y, t[k]? = some y := ⟨_, List.getElem?_eq_getElem hkl⟩
      obtain ⟨ny, hny⟩ : ∃ r, nds[k]? = some r := ⟨_, List.getElem?_eq_getElem (by omega)⟩
      have hnv := (hk k ny y hny hy).2.1
      have hndv : ∀ (j : Nat), j = k * 3 + 1 → ((nds.flatMap ndC).drop j).take 1 = [.bool y.v] := fun j hj => by rw [← hnv]; exact nd_v hny hj
      cases hyv : y.v with
      | true =>
        rw [hyv] at hndv
        have hV : VI t k := ⟨y, hy, hyv⟩
        have hnew := hX2.var hkq hnk (by omega) hV
        
        repeat' (first | (apply RW.q1; (first | (apply q_ldr; exact rfl; exact rfl; exact hn; first | exact nd_r hdi (by omega) | exact hndv _ (by omega)) | (apply q_ldr; exact rfl; exact rfl; exact hro; exact nums_at hkq (by omega)) | exact qt)) | refine xsg cts ?_ | (apply CW_condT; exact rfl; exact ar) | (apply CW_condF; exact rfl; exact ar) | (refine hK _ _ ?_; clear hK; refine xsg xsl ?_) | ((first | apply RW.a1 | apply RW.a0); (first | (apply gw_soB k; exact rfl; exact rfl; infer_instance; omega; omega) | (apply gw_asg; exact rfl) | (apply gw_make; exact rfl; exact rfl; exact rfl; exact rfl; omega; omega; omega; omega; intro b) | (apply gw_lit1; exact rfl; exact rfl; exact rfl; exact rfl; decide; intro b) | (apply gw_lit2; exact rfl; exact rfl; exact rfl; exact rfl; intro b) | (apply gw_lit3; exact rfl; exact rfl; exact rfl; exact rfl; exact rfl; intro b) | (apply gw_ap1; exact rfl; exact rfl; infer_instance; infer_instance; exact rfl; exact rfl; exact rfl; exact rfl; omega; intro a c) | (apply gw_ap1n; exact rfl; exact rfl; infer_instance; exact rfl; exact rfl; exact rfl; exact rfl; omega; intro a c) | (refine gw_stx sto ?_) | (fail))) | (apply CW_region; intro K hK) | (apply CW_condX; exact rfl; exact tst; exact tst; all_goals (intro hq hc; try exact no)))
        exact ⟨_, _, _, ⟨q + 1, out2.set k true, seen2, td2, ta2, tc2, td2.length, _, rfl, rfl, rfl, by omega, rfl, rfl, hT2, hL2, hTx2, hnew⟩, by exact sbe, sblt, by omega⟩
      | false =>
        rw [hyv] at hndv
        have hV : ¬ VI t k := fun ⟨z, hz, hv⟩ => by rw [hy] at hz; cases hz; rw [hyv] at hv; cases hv
        obtain ⟨sb0, hsb⟩ : ∃ b, seen2[k]? = some b := ⟨_, List.getElem?_eq_getElem (by omega)⟩
        cases sb0 with
        | true =>
          have hnew := hX2.old hkq hV (dn_of hsb)
          
          repeat' (first | (apply RW.q1; (first | (apply q_ldr; exact rfl; exact rfl; exact hn; first | exact nd_r hdi (by omega) | exact hndv _ (by omega)) | (apply q_ldr; exact rfl; exact rfl; exact hro; exact nums_at hkq (by omega)) | (apply q_ldo; exact rfl; exact rfl; infer_instance; exact bools_at hsb (by omega)) | exact qt)) | refine xsg cts ?_ | (apply CW_condT; exact rfl; exact ar) | (apply CW_condF; exact rfl; exact ar) | (refine hK _ _ ?_; clear hK; refine xsg xsl ?_) | ((first | apply RW.a1 | apply RW.a0); (first | (apply gw_asg; exact rfl) | (apply gw_make; exact rfl; exact rfl; exact rfl; exact rfl; omega; omega; omega; omega; intro b) | (apply gw_lit1; exact rfl; exact rfl; exact rfl; exact rfl; decide; intro b) | (apply gw_lit2; exact rfl; exact rfl; exact rfl; exact rfl; intro b) | (apply gw_lit3; exact rfl; exact rfl; exact rfl; exact rfl; exact rfl; intro b) | (apply gw_ap1; exact rfl; exact rfl; infer_instance; infer_instance; exact rfl; exact rfl; exact rfl; exact rfl; omega; intro a c) | (apply gw_ap1n; exact rfl; exact rfl; infer_instance; exact rfl; exact rfl; exact rfl; exact rfl; omega; intro a c) | (refine gw_stx sto ?_) | (fail))) | (apply CW_region; intro K hK) | (apply CW_condX; exact rfl; exact tst; exact tst; all_goals (intro hq hc; try exact no)))
          exact ⟨_, _, _, ⟨q + 1, out2, seen2, td2, ta2, tc2, td2.length, _, rfl, rfl, rfl, by omega, rfl, rfl, hT2, hL2, hTx2, hnew⟩, by exact sbe, sblt, by omega⟩
        | false =>
          have hnew := hX2.new hkq hnk (by omega) hV
          have hls := left_set hsb
          have hlen : td2.length + 1 = (td2 ++ [k]).length := by simp
          have hTx3 : ∀ z, z ∈ td2 ++ [k] → z < t.length := fun z hz => by
            rcases List.mem_append.1 hz with g | g
            · exact hTx2 z g
            · rw [List.mem_singleton.1 g]; exact hkl
          
          repeat' (first | (apply RW.q1; (first | (apply q_ldr; exact rfl; exact rfl; exact hn; first | exact nd_r hdi (by omega) | exact hndv _ (by omega)) | (apply q_ldr; exact rfl; exact rfl; exact hro; exact nums_at hkq (by omega)) | (apply q_ldo; exact rfl; exact rfl; infer_instance; exact bools_at hsb (by omega)) | exact qt)) | refine xsg cts ?_ | (apply CW_condT; exact rfl; exact ar) | (apply CW_condF; exact rfl; exact ar) | (refine hK _ _ ?_; clear hK; refine xsg xsl ?_) | ((first | apply RW.a1 | apply RW.a0); (first | (apply gw_soB k; exact rfl; exact rfl; infer_instance; omega; omega) | (apply gw_asg; exact rfl) | (apply gw_make; exact rfl; exact rfl; exact rfl; exact rfl; omega; omega; omega; omega; intro b) | (apply gw_lit1; exact rfl; exact rfl; exact rfl; exact rfl; decide; intro b) | (apply gw_lit2; exact rfl; exact rfl; exact rfl; exact rfl; intro b) | (apply gw_lit3; exact rfl; exact rfl; exact rfl; exact rfl; exact rfl; intro b) | (apply gw_ap1; exact rfl; exact rfl; infer_instance; infer_instance; exact rfl; exact rfl; exact rfl; exact rfl; omega; intro a c) | (apply gw_ap1n; exact rfl; exact rfl; infer_instance; exact rfl; exact rfl; exact rfl; exact rfl; omega; intro a c) | (refine gw_stx sto ?_) | (fail))) | (apply CW_region; intro K hK) | (apply CW_condX; exact rfl; exact tst; exact tst; all_goals (intro hq hc; try exact no)))
          exact ⟨_, _, _, ⟨q + 1, out2, seen2.set k true, td2 ++ [k], _, _, td2.length + 1, nums td2 ++ [.int .i64 ((k : Nat) : Int)], rfl, rfl, rfl, by omega, hlen, nums_snoc td2 k, by omega, by omega, hTx3, hnew⟩, by exact sbe, sblt, by omega⟩
    obtain rfl : q = nd.r.l.length := by omega
    have hI2 := hX2.through (hnxR x nd hdi)
    
    repeat' (first | (apply RW.q1; (first | (apply q_ldr; exact rfl; exact rfl; exact hn; exact nd_r hdi (by omega)) | exact qt)) | refine xsg cts ?_ | (apply CW_condT; exact rfl; exact ar) | (apply CW_condF; exact rfl; exact ar) | (refine hK _ _ ?_; clear hK; refine xsg xsl ?_) | ((first | apply RW.a1 | apply RW.a0); (first | (apply gw_asg; exact rfl) | (apply gw_make; exact rfl; exact rfl; exact rfl; exact rfl; omega; omega; omega; omega; intro b) | (apply gw_lit1; exact rfl; exact rfl; exact rfl; exact rfl; decide; intro b) | (apply gw_lit2; exact rfl; exact rfl; exact rfl; exact rfl; intro b) | (apply gw_lit3; exact rfl; exact rfl; exact rfl; exact rfl; exact rfl; intro b) | (apply gw_ap1; exact rfl; exact rfl; infer_instance; infer_instance; exact rfl; exact rfl; exact rfl; exact rfl; omega; intro a c) | (apply gw_ap1n; exact rfl; exact rfl; infer_instance; exact rfl; exact rfl; exact rfl; exact rfl; omega; intro a c) | (refine gw_stx sto ?_) | (fail))) | (apply CW_region; intro K hK) | (apply CW_condX; exact rfl; exact tst; exact tst; all_goals (intro hq hc; try exact no)))
    exact ⟨_, _, _, ⟨out2, seen2, td2, oa, sa, ta2, oc, sc, tc2, td2.length, _, [], rfl, rfl, rfl, rfl, rfl, by omega, hTx2, hI2⟩, by exact sbe, sblt, by omega⟩
end Go.Proofs.Ytkhmimlgkjenfaa.HL
namespace Go.Proofs.Ytkhmimlgkjenfaa.HL
open Go
attribute [local irreducible] goFn thenS blockS bodyS CW RW DW GW QW NW SC Pick Picks SubL Rd NN ResOk SrcW subE hops hseg AW hgen HC qv bldv
set_option maxHeartbeats 8000000
set_option maxRecDepth 100000
set_option linter.unusedVariables false
set_option linter.unusedSimpArgs false

abbrev pkW (p : Pk) (a : Option Addr) (c : Nat) (l : List Fl) : Pk := ⟨p.p, p.ia, p.ic, p.im, a, c, l⟩
theorem pkW_ok {H G : Hp} {p : Pk} {a : Option Addr} {c : Nat} {l : List Fl} (h : pkOk H p) (hx : Ext H G) (hp : l.Perm p.fl) (hr : Rs G 4 a l.length c (l.flatMap flC)) : pkOk G (pkW p a c l) :=
  ⟨h.1.ext hx, hr, fun f hf => flOk_ext (h.2.2 f (hp.mem_iff.1 hf)) hx⟩
structure VarsJ (p : Pk) (l' : List Fl) (nds : List Nd) (ons : List (List Bool)) (d : List Bool) (o : List Nat) : Prop where
  pm : l'.Perm p.fl
  st : Srt flLt l'
  nl : nds.length = (allT l').length
  at_ : NdsAt (allT l') nds
  ol : ons.length = (allT l').length
  ok : ∀ (i : Nat) (r : List Bool), ons[i]? = some r → r.length = (allT l').length ∧ ∀ y, Dn r y ↔ VI (allT l') y ∧ ByF (Nx ((nds.map Nd.r).map Rw.l)) (VI (allT l')) i y
  dl : d.length = (allT l').length
  dk : ∀ k, k < (allT l').length → d[k]? = some (decide (k ∈ o))
  sp : Steps (RdF (Nx ((nds.map Nd.r).map Rw.l)) (VI (allT l'))) (List.range (allT l').length) o
  cy : CycS (NT (allT p.fl)) (VN (allT p.fl)) ltT []
section
variable {p : Pk} {l' : List Fl} {nds : List Nd} {ons : List (List Bool)} {d : List Bool} {o : List Nat} {i : Nat}
theorem VarsJ.lt (h : VarsJ p l' nds ons d o) (hi : i < (allT l').length) (ho : i ∉ o) : o.length < (allT l').length := by
  have hm := steps_mem (steps_W h.sp)
  have := nodup_le (n := (allT l').length) (l := i :: o) (List.nodup_cons.2 ⟨ho, hm.1⟩) fun x hx => by
    rcases List.mem_cons.1 hx with rfl | hx
    · exact hi
    · exact List.mem_range.1 (hm.2 x hx).1
  rw [List.length_cons] at this
  omega
theorem VarsJ.take (h : VarsJ p l' nds ons d o) (hi : i < (allT l').length) (hb : ∀ j, j < i → ¬ RdF (Nx ((nds.map Nd.r).map Rw.l)) (VI (allT l')) o j) (hR : RdF (Nx ((nds.map Nd.r).map Rw.l)) (VI (allT l')) o i) : VarsJ p l' nds ons (d.set i true) (o ++ [i]) := by
  obtain ⟨B, hB⟩ := range_split hi
  refine ⟨h.pm, h.st, h.nl, h.at_, h.ol, h.ok, by rw [List.length_set]; exact h.dl, fun k hk => ?_, .snoc h.sp hB hR fun y hy => hb y (List.mem_range.1 hy), h.cy⟩
  by_cases hki : k = i
  · subst hki
    rw [List.getElem?_set_self (by rw [h.dl]; exact hi)]
    simp
  · rw [List.getElem?_set_ne (fun e => hki e.symm), h.dk k hk]
    simp [hki]
theorem VarsJ.ex (h : VarsJ p l' nds ons d o) (hd : ((allT p.fl).map Th.n).Nodup) (hlt : o.length < (allT l').countP Th.v) : ∃ y, y < (allT l').length ∧ RdF (Nx ((nds.map Nd.r).map Rw.l)) (VI (allT l')) o y := by
  have hm : ∀ x, x ∈ allT l' ↔ x ∈ allT p.fl := fun x => (allT_perm h.pm).mem_iff
  have hd' : ((allT l').map Th.n).Nodup := ((allT_perm h.pm).map Th.n).nodup_iff.2 hd
  have hN := (nds_rows h.nl h.at_).net
  have hW := steps_W h.sp
  have hc : ∀ a, VI (allT l') a → ∀ m, ¬ Walk (Nx ((nds.map Nd.r).map Rw.l)) m a a := by
    rintro a ⟨x, hx, hxv⟩ m hw
    have h1 := (hN.walk hd' hx hx).1 hw
    have e1 : NE Th.n Th.u (allT l') = NT (allT p.fl) := ne_perm hm
    rw [e1] at h1
    rcases h.cy with ⟨_, h2⟩ | ⟨_, _, _, h2, _⟩
    · exact h2 x.n m ⟨x, (hm x).1 (List.mem_of_getElem? hx), rfl, hxv⟩ h1
    · cases h2
  obtain ⟨x, hx, hv, ho⟩ := steps_le hW (fun i => (((allT l')[i]?).map Th.v).getD false) (fun i hi => by
    rw [List.getElem?_eq_getElem hi]
    constructor
    · intro g; exact ⟨_, List.getElem?_eq_getElem hi, g⟩
    · rintro ⟨x, hx, hv⟩
      rw [List.getElem?_eq_getElem hi] at hx
      cases hx; exact hv) (by rw [count_range]; exact hlt)
  obtain ⟨y, hy, hR⟩ := rdW_ex (n := (allT l').length) hc (fun i k hk => hN.lt i k hk) hx hv ho
  exact ⟨y, hy, (rdW_F hW).1 hR⟩
theorem VarsJ.ord (h : VarsJ p l' nds ons d o) (hd : ((allT p.fl).map Th.n).Nodup) (hle : ¬ o.length < (allT l').countP Th.v) : OrdR (allT l') (o.map (nmA (allT l'))) := by
  have hd' : ((allT l').map Th.n).Nodup := ((allT_perm h.pm).map Th.n).nodup_iff.2 hd
  have hN := (nds_rows h.nl h.at_).net
  have hW := steps_W h.sp
  have hst := steps_names hN hd' hW
  refine ⟨hst, ?_⟩
  have h1 : (o.map (nmA (allT l'))).length ≤ (allT l').countP Th.v := by
    rw [List.length_map, ← count_range Th.v, List.countP_eq_length_filter]
    obtain ⟨g1, g2⟩ := steps_mem hW
    have hp : o.Perm ((List.range (allT l').length).filter fun i => decide (i ∈ o)) := by
      refine (List.perm_ext_iff_of_nodup g1 (List.nodup_range.filter _)).2 fun x => ?_
      rw [List.mem_filter]
      exact ⟨fun hx => ⟨(g2 x hx).1, by simpa using hx⟩, fun hx => by simpa using hx.2⟩
    rw [hp.length_eq, ← List.countP_eq_length_filter, ← List.countP_eq_length_filter]
    refine List.countP_mono_left fun x hx hxo => ?_
    obtain ⟨z, hz, hv⟩ := (g2 x (by simpa using hxo)).2
    rw [hz]; exact hv
  rw [List.length_map] at h1 ⊢
  omega
end
structure Bw where
  a : Option Addr
  c : Nat
  l : List Bool
def bwvs (l : List Bw) : List Value := l.map fun r => .slice r.a r.l.length r.c
def BowsIn (L : List Res) (rows : List Bw) : Prop := ∀ H G, Hs H L G → ∀ r, r ∈ rows → Rs G 1 r.a r.l.length r.c (bools r.l)
theorem bows_push {L : List Res} {rows : List Bw} {e : TypeId} {a : Option Addr} {n c : Nat} {l : List Bool} (hn : n = l.length) (h : BowsIn L rows) : BowsIn (.own e 1 a n c (bools l) :: L) (rows ++ [⟨a, c, l⟩]) := fun H G hG x hx => by
  subst hn
  rcases List.mem_append.1 hx with g | g
  · exact h H G (hG.sub (subl_tail subl_refl)) x g
  · obtain rfl := List.mem_singleton.1 g
    exact sl_own pick0 hG
theorem bwv_at {d : List Bw} {k j : Nat} {r : Bw} (hx : d[k]? = some r) (hj : j = k) : ((bwvs d).drop j).take 1 = [.slice r.a r.l.length r.c] := by
  subst hj
  have := ix_map (g := fun r : Bw => Value.slice r.a r.l.length r.c) (i := (j : Int)) hx (by omega)
  simpa [bwvs] using this
theorem bwvs_snoc (rows : List Bw) (a : Option Addr) (c n : Nat) (l : List Bool) (hn : n = l.length) : bwvs rows ++ [.slice a n c] = bwvs (rows ++ [⟨a, c, l⟩]) := by subst hn; simp [bwvs]
theorem rFilesW (p : Pk) (H : Hp) (hp : pkOk H p) (hf : p.fl.length ≤ 1048576) :
    SC Try.prog 49 [pkV p] H [] (fun v M => ∃ l' a c, l'.Perm p.fl ∧ Srt flLt l' ∧ v = .slice a l'.length c ∧ M = [.own 38 4 a l'.length c (l'.flatMap flC)]) :=
  SC.mono (rFiles_spec p H hp hf) fun v M ⟨l', a, c, h1, h2, h3, h4⟩ => ⟨l', a, c, h1, h2, by rw [h3, h1.length_eq], by rw [h4, h1.length_eq]⟩
theorem rAllW (p : Pk) (a : Option Addr) (c : Nat) (l' : List Fl) (H : Hp) (hp : pkOk H (pkW p a c l')) (hn : (allT l').length ≤ 1048576) (hf : l'.length ≤ 1048576) :
    SC Try.prog 21 [.agg #[.string (bstr p.p), .slice p.ia p.im.length p.ic, .slice a l'.length c]] H [] (fun v M => ∃ ta tc, v = .slice ta (allT l').length tc ∧ M = [.own 89 3 ta (allT l').length tc ((allT l').flatMap thC)]) := rAll_spec (pkW p a c l') H hp hn hf
theorem countP_snoc {t : List Th} {i : Nat} {x : Th} (hx : t[i]? = some x) : (t.take (i + 1)).countP Th.v = (t.take i).countP Th.v + (if x.v then 1 else 0) := by
  rw [take_snoc' hx, List.countP_append, List.countP_singleton]
theorem rVars_spec (p : Pk) (H : Hp) (hp : pkOk H p) (hn : (allT p.fl).length ≤ 1048576) (hf : p.fl.length ≤ 1048576) (hu : ∀ x, x ∈ allT p.fl → x.u.length ≤ 1048576 ∧ ∀ s, s ∈ x.u → s.length ≤ 1048576) (hd : ((allT p.fl).map Th.n).Nodup) (hw : ∀ x, x ∈ allT p.fl → lastPt x.n = none) (hcy : CycS (NT (allT p.fl)) (VN (allT p.fl)) ltT []) :
    SC Try.prog 22 [pkV p] H [] (fun v M => ∃ out a c l', v = .slice a out.length c ∧ M = [.own 9 1 a out.length c (txs out)] ∧ l'.Perm p.fl ∧ Srt flLt l' ∧ OrdR (allT l') out) := by
  (refine SC_intro Try.func22 rfl (by kernel_rfl) (by rw [Try.ntmps22]; exact Nat.le_of_ble_eq_true rfl) ?_; simp only [Try.ntmps22, argE, Nat.reduceAdd])
  
  repeat' (first | (apply RW.q1; exact qt) | (apply RW.qg; exact gvx; refine hgx tst ?_; intro hg hg'; exact qu) | refine xsg cts ?_ | (apply CW_condT; exact rfl; exact ar) | (apply CW_condF; exact rfl; exact ar) | ((first | apply RW.s1 | apply RW.s0); exact gva) | (refine hK _ _ ?_; clear hK; refine xsg xsl ?_) | ((first | apply RW.a1 | apply RW.a0 | (apply RW.at; exact gva)); (first | (apply gw_box (d := some 1); exact rfl; exact rfl; intro b1) | (apply gw_call (f := 49); exact evx; exact go49; intro G hG; refine SC.mono (rFilesW p G (pkOk_ext hp hG.ext) hf) ?_; rintro v M ⟨l', fa, fc, hpm, hst, rfl, rfl⟩; (try dsimp only [jL, jM]); have hal := (allT_perm hpm).length_eq; have hfl := hpm.length_eq; have hm : ∀ x, x ∈ allT l' ↔ x ∈ allT p.fl := fun x ↦ (allT_perm hpm).mem_iff; have hd' : ((allT l').map Th.n).Nodup := ((allT_perm hpm).map Th.n).nodup_iff.2 hd) | (apply gw_call (f := 21); exact evx; exact go21; intro G hG; refine SC.mono (rAllW p fa fc l' G (pkW_ok hp hG.ext hpm (sl_own (by exact pkx) hG)) (by omega) (by omega)) ?_; rintro v M ⟨ta, tc, rfl, rfl⟩; (try dsimp only [jL, jM])) | (apply gw_call (f := 20); exact evx; exact go20; intro G hG; refine SC.mono (rLeads_spec (allT l') ta tc G (sl_own (by exact pkx) hG) (fun x hx => (allT_ok hp x ((hm x).1 hx)).ext hG.ext) hd' (fun x hx => hw x ((hm x).1 hx)) (by omega) (fun x hx => hu x ((hm x).1 hx))) ?_; rintro v M ⟨nds, na, nc, L0, rfl, rfl, hL0, hndl, hnda⟩; (try dsimp only [jL, jM]); refine RW_drop (_ ++ (_ :: L0)) (subl_comm (M := _ :: L0) (L := [_, _, _])) ?_; dsimp only [jL, jM]) | (apply gw_make (d := some 22); exact rfl; exact rfl; exact rfl; exact rfl; omega; omega; omega; omega; intro db; rw [zrow_bools]) | (apply gw_asg; exact rfl) | (apply gw_box; exact rfl; exact rfl; intro b) | (apply gw_make; exact rfl; exact rfl; exact rfl; exact rfl; omega; omega; omega; omega; intro b) | (apply gw_lit1; exact rfl; exact rfl; exact rfl; exact rfl; decide; intro b) | (apply gw_lit2; exact rfl; exact rfl; exact rfl; exact rfl; intro b) | (apply gw_lit3; exact rfl; exact rfl; exact rfl; exact rfl; exact rfl; intro b) | (apply gw_ap1; exact rfl; exact rfl; infer_instance; infer_instance; exact rfl; exact rfl; exact rfl; exact rfl; omega; intro a c) | (apply gw_ap1n; exact rfl; exact rfl; infer_instance; exact rfl; exact rfl; exact rfl; exact rfl; omega; intro a c) | (refine gw_stx sto ?_) | (fail))) | (apply CW_region; intro K hK) | (apply CW_condX; exact rfl; exact tst; exact tst; all_goals (intro hq hc; try exact no)))
  refine CW_loop (fun m ll L => ∃ (i on oc dc : Nat) (oa da : Option Addr) (bws : List Bw) (cs : List Value) (L' : List Res), m = (allT l').length - i ∧ ll = [(3, true, .slice ta (allT l').length tc), (4, true, .slice na (allT l').length nc), (5, true, .slice da (allT l').length dc), (6, true, .int .i64 (((allT l').take i).countP Th.v : Nat)), (7, true, .slice oa on oc), (8, true, .int .i64 (i : Nat))] ∧
      L = .own 89 3 ta (allT l').length tc ((allT l').flatMap thC) :: .own 86 3 na (allT l').length nc (nds.flatMap ndC) :: .own 4 1 da (allT l').length dc (bools (List.replicate (allT l').length false)) :: .own 74 1 oa on oc cs :: L' ∧ i ≤ (allT l').length ∧ on = i ∧ cs = bwvs bws ∧ bws.length = i ∧ BowsIn L' bws ∧ RowsIn L' (nds.map Nd.r) ∧ ∀ (j : Nat) (r : Bw), bws[j]? = some r → r.l.length = (allT l').length ∧ ∀ y, Dn r.l y ↔ VI (allT l') y ∧ ByF (Nx ((nds.map Nd.r).map Rw.l)) (VI (allT l')) j y)
    ⟨_, _, _, ⟨0, 0, 0, _, none, _, [], [], L0, rfl, rfl, rfl, by omega, rfl, rfl, rfl, fun _ _ _ r hr => (by cases hr), hL0, fun j r h => by simp at h⟩, by exact sbe, sblt⟩ ?_
  rintro m ll L ⟨i, on, oc, dc, oa, da, bws, cs, L', rfl, rfl, rfl, hi, hon, hcs, hbl, hB, hL1, hbw⟩
  by_cases hlt : i < (allT l').length
  · obtain ⟨x, hx⟩ : ∃ x, (allT l')[i]? = some x := ⟨_, List.getElem?_eq_getElem hlt⟩
    have hcp := countP_snoc hx
    have hcb : ((allT l').take i).countP Th.v ≤ 1048576 := by
      have h1 := List.countP_le_length (p := Th.v) (l := (allT l').take i)
      rw [List.length_take] at h1
      omega
    subst hcs
    have hthv : ∀ (j : Nat), j = i * 3 + 1 → (((allT l').flatMap thC).drop j).take 1 = [.bool x.v] := fun j hj => th_v' hx hj
    have hpush : ∀ {la : Option Addr} {lc : Nat} {ob : List Bool}, ob.length = (allT l').length → (∀ y, Dn ob y ↔ VI (allT l') y ∧ ByF (Nx ((nds.map Nd.r).map Rw.l)) (VI (allT l')) i y) → ∀ (j : Nat) (r : Bw), (bws ++ [⟨la, lc, ob⟩])[j]? = some r → r.l.length = (allT l').length ∧ ∀ y, Dn r.l y ↔ VI (allT l') y ∧ ByF (Nx ((nds.map Nd.r).map Rw.l)) (VI (allT l')) j y := fun {la lc ob} h1 h2 j r hj => by
      rcases Nat.lt_or_ge j bws.length with h | h
      · rw [List.getElem?_append_left h] at hj
        exact hbw j r hj
      · rw [List.getElem?_append_right h] at hj
        have hj0 : j - bws.length = 0 := by
          have := (List.getElem?_eq_some_iff.1 hj).1
          simpa using this
        rw [hj0] at hj
        cases hj
        obtain rfl : j = i := by omega
        exact ⟨h1, h2⟩
    cases hxv : x.v with
    | true =>
      rw [hxv] at hthv hcp
      rw [if_pos rfl] at hcp
      
      repeat' (first | ((first | apply RW.q1 | (apply RW.qg; exact gvx; refine hgx tst ?_; intro hg hg')); (first | (apply q_ldo; exact rfl; exact evgx; infer_instance; exact hthv _ (by omega)) | exact qt | exact qu)) | refine xsg cts ?_ | (apply CW_condT; exact rfl; exact ar) | (apply CW_condF; exact rfl; exact ar) | ((first | apply RW.s1 | apply RW.s0); exact gva) | (refine hK _ _ ?_; clear hK; refine xsg xsl ?_) | ((first | apply RW.a1 | apply RW.a0 | (apply RW.at; exact gva)); (first | (apply gw_call (f := 50); exact evx; exact go50; intro G hG; refine SC.mono (rLeans_spec (allT l') nds na nc i G ⟨sl_own (by exact pkx) hG, fun d hd => hL1 H G (hG.sub (subl_tail (subl_tail (subl_tail (subl_tail subl_refl))))) d.r (List.mem_map.2 ⟨d, hd, rfl⟩), hndl, hnda⟩ (by omega) (fun x hx => (hu x ((hm x).1 hx)).1) hlt) ?_; rintro v M ⟨ob, la, lc, rfl, rfl, hobl, hob⟩; (try dsimp only [jL, jM])) | (apply gw_asg; exact rfl) | (apply gw_box; exact rfl; exact rfl; intro b) | (apply gw_make; exact rfl; exact rfl; exact rfl; exact rfl; omega; omega; omega; omega; intro b) | (apply gw_lit1; exact rfl; exact rfl; exact rfl; exact rfl; decide; intro b) | (apply gw_lit2; exact rfl; exact rfl; exact rfl; exact rfl; intro b) | (apply gw_lit3; exact rfl; exact rfl; exact rfl; exact rfl; exact rfl; intro b) | (apply gw_ap1; exact rfl; exact rfl; infer_instance; infer_instance; exact rfl; exact rfl; exact rfl; exact rfl; omega; intro a c) | (apply gw_ap1n; exact rfl; exact rfl; infer_instance; exact rfl; exact rfl; exact rfl; exact rfl; omega; intro a c) | (refine gw_stx sto ?_) | (fail))) | (apply CW_region; intro K hK) | (apply CW_condX; exact rfl; exact tst; exact tst; all_goals (intro hq hc; try exact no)))
      exact ⟨_, _, _, ⟨i + 1, on + 1, _, dc, _, da, bws ++ [⟨la, lc, ob⟩], _, .own 4 1 la (allT l').length lc (bools ob) :: L', rfl, rfl, rfl, by omega, by omega, bwvs_snoc bws la lc _ ob hobl.symm, by rw [List.length_append]; exact congrArg (· + 1) hbl, bows_push hobl.symm hB, rows_tail hL1, hpush hobl hob⟩, by rw [hcp]; exact sbe, sblt, by omega⟩
    | false =>
      rw [hxv] at hthv hcp
      rw [if_neg (by simp)] at hcp
      
      repeat' (first | ((first | apply RW.q1 | (apply RW.qg; exact gvx; refine hgx tst ?_; intro hg hg')); (first | (apply q_ldo; exact rfl; exact evgx; infer_instance; exact hthv _ (by omega)) | exact qt | exact qu)) | refine xsg cts ?_ | (apply CW_condT; exact rfl; exact ar) | (apply CW_condF; exact rfl; exact ar) | ((first | apply RW.s1 | apply RW.s0); exact gva) | (refine hK _ _ ?_; clear hK; refine xsg xsl ?_) | ((first | apply RW.a1 | apply RW.a0 | (apply RW.at; exact gva)); (first | (apply gw_call (f := 50); exact evx; exact go50; intro G hG; refine SC.mono (rLeans_spec (allT l') nds na nc i G ⟨sl_own (by exact pkx) hG, fun d hd => hL1 H G (hG.sub (subl_tail (subl_tail (subl_tail (subl_tail subl_refl))))) d.r (List.mem_map.2 ⟨d, hd, rfl⟩), hndl, hnda⟩ (by omega) (fun x hx => (hu x ((hm x).1 hx)).1) hlt) ?_; rintro v M ⟨ob, la, lc, rfl, rfl, hobl, hob⟩; (try dsimp only [jL, jM])) | (apply gw_asg; exact rfl) | (apply gw_box; exact rfl; exact rfl; intro b) | (apply gw_make; exact rfl; exact rfl; exact rfl; exact rfl; omega; omega; omega; omega; intro b) | (apply gw_lit1; exact rfl; exact rfl; exact rfl; exact rfl; decide; intro b) | (apply gw_lit2; exact rfl; exact rfl; exact rfl; exact rfl; intro b) | (apply gw_lit3; exact rfl; exact rfl; exact rfl; exact rfl; exact rfl; intro b) | (apply gw_ap1; exact rfl; exact rfl; infer_instance; infer_instance; exact rfl; exact rfl; exact rfl; exact rfl; omega; intro a c) | (apply gw_ap1n; exact rfl; exact rfl; infer_instance; exact rfl; exact rfl; exact rfl; exact rfl; omega; intro a c) | (refine gw_stx sto ?_) | (fail))) | (apply CW_region; intro K hK) | (apply CW_condX; exact rfl; exact tst; exact tst; all_goals (intro hq hc; try exact no)))
      exact ⟨_, _, _, ⟨i + 1, on + 1, _, dc, _, da, bws ++ [⟨la, lc, ob⟩], _, .own 4 1 la (allT l').length lc (bools ob) :: L', rfl, rfl, rfl, by omega, by omega, bwvs_snoc bws la lc _ ob hobl.symm, by rw [List.length_append]; exact congrArg (· + 1) hbl, bows_push hobl.symm hB, rows_tail hL1, hpush hobl hob⟩, by rw [hcp]; exact sbe, sblt, by omega⟩
  obtain rfl : i = (allT l').length := by omega
  rw [List.take_length]
  subst hon
  subst hcs
  have hJ0 : VarsJ p l' nds (bws.map Bw.l) (List.replicate (allT l').length false) [] := ⟨hpm, hst, hndl, hnda, by rw [List.length_map, hbl], fun i r hr => by
    rw [List.getElem?_map] at hr
    obtain ⟨w, hw1, rfl⟩ := Option.map_eq_some_iff.1 hr
    exact hbw i w hw1, List.length_replicate, fun k hk => by rw [List.getElem?_replicate, if_pos hk]; rfl, .nil, hcy⟩
  obtain ⟨d0, hd0⟩ : ∃ d : List Bool, d = List.replicate (allT l').length false := ⟨_, rfl⟩
  rw [← hd0] at hJ0 ⊢
  clear hbw
  
  repeat' (first | (apply RW.q1; exact qt) | (apply RW.qg; exact gvx; refine hgx tst ?_; intro hg hg'; exact qu) | refine xsg cts ?_ | (apply CW_condT; exact rfl; exact ar) | (apply CW_condF; exact rfl; exact ar) | ((first | apply RW.s1 | apply RW.s0); exact gva) | (refine hK _ _ ?_; clear hK; refine xsg xsl ?_) | ((first | apply RW.a1 | apply RW.a0 | (apply RW.at; exact gva)); (first | (apply gw_asg; exact rfl) | (apply gw_box; exact rfl; exact rfl; intro b) | (apply gw_make; exact rfl; exact rfl; exact rfl; exact rfl; omega; omega; omega; omega; intro b) | (apply gw_lit1; exact rfl; exact rfl; exact rfl; exact rfl; decide; intro b) | (apply gw_lit2; exact rfl; exact rfl; exact rfl; exact rfl; intro b) | (apply gw_lit3; exact rfl; exact rfl; exact rfl; exact rfl; exact rfl; intro b) | (apply gw_ap1; exact rfl; exact rfl; infer_instance; infer_instance; exact rfl; exact rfl; exact rfl; exact rfl; omega; intro a c) | (apply gw_ap1n; exact rfl; exact rfl; infer_instance; exact rfl; exact rfl; exact rfl; exact rfl; omega; intro a c) | (refine gw_stx sto ?_) | (fail))) | (apply CW_region; intro K hK) | (apply CW_condX; exact rfl; exact tst; exact tst; all_goals (intro hq hc; try exact no)))
  refine CW_loop (fun m ll L => ∃ (o : List Nat) (d : List Bool) (ua : Option Addr) (uc : Nat), m = (allT l').length - o.length ∧ ll = [(3, true, .slice ta (allT l').length tc), (5, true, .slice da (allT l').length dc), (6, true, .int .i64 ((allT l').countP Th.v : Nat)), (7, true, .slice oa (allT l').length oc), (9, true, .slice ua o.length uc)] ∧
      L = .own 89 3 ta (allT l').length tc ((allT l').flatMap thC) :: .own 4 1 da (allT l').length dc (bools d) :: .own 74 1 oa (allT l').length oc (bwvs bws) :: .own 9 1 ua o.length uc (txs (o.map (nmA (allT l')))) :: L' ∧ VarsJ p l' nds (bws.map Bw.l) d o)
    ⟨_, _, _, ⟨[], d0, none, 0, rfl, rfl, rfl, hJ0⟩, by exact sbe, sblt⟩ ?_
  clear hJ0 hd0
  rintro m ll L ⟨o, d, ua, uc, rfl, rfl, rfl, hJ⟩
  by_cases hlt2 : o.length < (allT l').countP Th.v
  · obtain ⟨y, hyl, hyR⟩ := hJ.ex hd hlt2
    have hdl := hJ.dl
    
    repeat' (first | (apply RW.q1; exact qt) | (apply RW.qg; exact gvx; refine hgx tst ?_; intro hg hg'; exact qu) | refine xsg cts ?_ | (apply CW_condT; exact rfl; exact ar) | (apply CW_condF; exact rfl; exact ar) | ((first | apply RW.s1 | apply RW.s0); exact gva) | (refine hK _ _ ?_; clear hK; refine xsg xsl ?_) | ((first | apply RW.a1 | apply RW.a0 | (apply RW.at; exact gva)); (first | (apply gw_asg; exact rfl) | (apply gw_box; exact rfl; exact rfl; intro b) | (apply gw_make; exact rfl; exact rfl; exact rfl; exact rfl; omega; omega; omega; omega; intro b) | (apply gw_lit1; exact rfl; exact rfl; exact rfl; exact rfl; decide; intro b) | (apply gw_lit2; exact rfl; exact rfl; exact rfl; exact rfl; intro b) | (apply gw_lit3; exact rfl; exact rfl; exact rfl; exact rfl; exact rfl; intro b) | (apply gw_ap1; exact rfl; exact rfl; infer_instance; infer_instance; exact rfl; exact rfl; exact rfl; exact rfl; omega; intro a c) | (apply gw_ap1n; exact rfl; exact rfl; infer_instance; exact rfl; exact rfl; exact rfl; exact rfl; omega; intro a c) | (refine gw_stx sto ?_) | (fail))) | (apply CW_region; intro K hK) | (apply CW_condX; exact rfl; exact tst; exact tst; all_goals (intro hq hc; try exact no)))
    refine CW_loop (fun m ll L => ∃ k : Nat, m = y + 1 - k ∧ ll = [(3, true, .slice ta (allT l').length tc), (5, true, .slice da (allT l').length dc), (6, true, .int .i64 ((allT l').countP Th.v : Nat)), (7, true, .slice oa (allT l').length oc), (9, true, .slice ua o.length uc), (10, true, .int .i64 (k : Nat))] ∧
        L = .own 89 3 ta (allT l').length tc ((allT l').flatMap thC) :: .own 4 1 da (allT l').length dc (bools d) :: .own 74 1 oa (allT l').length oc (bwvs bws) :: .own 9 1 ua o.length uc (txs (o.map (nmA (allT l')))) :: L' ∧ k ≤ y ∧ ∀ j, j < k → ¬ RdF (Nx ((nds.map Nd.r).map Rw.l)) (VI (allT l')) o j)
      ⟨_, _, _, ⟨0, rfl, rfl, rfl, by omega, fun j h => absurd h (by omega)⟩, by exact sbe, sblt⟩ ?_
    rintro m ll L ⟨k, rfl, rfl, rfl, hky, hb⟩
    have hkl : k < (allT l').length := by omega
    obtain ⟨x, hx⟩ : ∃ x, (allT l')[k]? = some x := ⟨_, List.getElem?_eq_getElem hkl⟩
    obtain ⟨bw, hbk⟩ : ∃ r, bws[k]? = some r := ⟨_, List.getElem?_eq_getElem (by omega)⟩
    have hdk := hJ.dk k hkl
    have hthv : ∀ (j : Nat), j = k * 3 + 1 → (((allT l').flatMap thC).drop j).take 1 = [.bool x.v] := fun j hj => th_v' hx hj
    have hxn := nmA_at hx
    have hokk := hJ.ok k bw.l (by rw [List.getElem?_map, hbk]; rfl)
    have hnext : ∀ (h : ¬ RdF (Nx ((nds.map Nd.r).map Rw.l)) (VI (allT l')) o k), k + 1 ≤ y ∧ ∀ (j : Nat), j < k + 1 → ¬ RdF (Nx ((nds.map Nd.r).map Rw.l)) (VI (allT l')) o j := fun h => by
      refine ⟨?_, fun j hj => ?_⟩
      · have : k ≠ y := fun e => h (e ▸ hyR)
        omega
      · rcases lt_succ_cases hj with g | rfl
        · exact hb j g
        · exact h
    by_cases hgo : x.v = true ∧ k ∉ o
    · obtain ⟨hxv, hko⟩ := hgo
      rw [hxv] at hthv
      rw [decide_eq_false hko] at hdk
      have hol' := hJ.lt hkl hko
      have hbr := hB
      
      repeat' (first | ((first | apply RW.q1 | (apply RW.qg; exact gvx; refine hgx tst ?_; intro hg hg')); (first | (apply q_ldo; exact rfl; exact evgx; infer_instance; first | exact hthv _ (by omega) | exact bools_at hdk (by omega)) | exact qt | exact qu)) | refine xsg cts ?_ | (apply CW_condT; exact rfl; exact ar) | (apply CW_condF; exact rfl; exact ar) | ((first | apply RW.s1 | apply RW.s0); exact gva) | (refine hK _ _ ?_; clear hK; refine xsg xsl ?_) | ((first | apply RW.a1 | apply RW.a0 | (apply RW.at; exact gva)); (first | (apply gw_asg; exact rfl) | (apply gw_box; exact rfl; exact rfl; intro b) | (apply gw_make; exact rfl; exact rfl; exact rfl; exact rfl; omega; omega; omega; omega; intro b) | (apply gw_lit1; exact rfl; exact rfl; exact rfl; exact rfl; decide; intro b) | (apply gw_lit2; exact rfl; exact rfl; exact rfl; exact rfl; intro b) | (apply gw_lit3; exact rfl; exact rfl; exact rfl; exact rfl; exact rfl; intro b) | (apply gw_ap1; exact rfl; exact rfl; infer_instance; infer_instance; exact rfl; exact rfl; exact rfl; exact rfl; omega; intro a c) | (apply gw_ap1n; exact rfl; exact rfl; infer_instance; exact rfl; exact rfl; exact rfl; exact rfl; omega; intro a c) | (refine gw_stx sto ?_) | (fail))) | (apply CW_region; intro K hK) | (apply CW_condX; exact rfl; exact tst; exact tst; all_goals (intro hq hc; try exact no)))
      refine CW_loop (fun m ll L => ∃ (j : Nat) (r : Bool), m = (allT l').length - j ∧ ll = [(3, true, .slice ta (allT l').length tc), (5, true, .slice da (allT l').length dc), (6, true, .int .i64 ((allT l').countP Th.v : Nat)), (7, true, .slice oa (allT l').length oc), (9, true, .slice ua o.length uc), (10, true, .int .i64 (k : Nat)), (11, true, .bool r), (12, true, .int .i64 (j : Nat))] ∧
          L = .own 89 3 ta (allT l').length tc ((allT l').flatMap thC) :: .own 4 1 da (allT l').length dc (bools d) :: .own 74 1 oa (allT l').length oc (bwvs bws) :: .own 9 1 ua o.length uc (txs (o.map (nmA (allT l')))) :: L' ∧ j ≤ (allT l').length ∧ ((r = true ∧ ∀ z, z < j → Dn bw.l z → z ∈ o) ∨ (r = false ∧ ∃ z, Dn bw.l z ∧ z ∉ o)))
        ⟨_, _, _, ⟨0, true, rfl, rfl, rfl, by omega, .inl ⟨rfl, fun z hz => absurd hz (by omega)⟩⟩, by exact sbe, sblt⟩ ?_
      rintro m ll L ⟨j, r, rfl, rfl, rfl, hj, hr⟩
      rcases hr with ⟨rfl, hall⟩ | ⟨rfl, z, hz1, hz2⟩
      · by_cases hjl : j < (allT l').length
        · obtain ⟨bz, hbz⟩ : ∃ b, bw.l[j]? = some b := ⟨_, List.getElem?_eq_getElem (by rw [hokk.1]; exact hjl)⟩
          have hdj := hJ.dk j hjl
          have hbl2 := hokk.1
          cases bz with
          | false =>
            have hnew : ∀ z, z < j + 1 → Dn bw.l z → z ∈ o := fun z hz hdn => by
              rcases lt_succ_cases hz with g | rfl
              · exact hall z g hdn
              · exact absurd hdn (not_dn' hbz)
            
            repeat' (first | ((first | apply RW.q1 | (apply RW.qg; exact gvx; refine hgx tst ?_; intro hg hg')); (first | (apply q_ldo; exact rfl; exact evgx; infer_instance; first | exact bwv_at hbk (by omega) | exact bools_at hdk (by omega)) | (apply q_ldrs; exact rfl; exact evgx; exact fun G hG => hB H G (hG.sub (subl_tail (subl_tail (subl_tail (subl_tail subl_refl))))) bw (List.mem_of_getElem? hbk); exact bools_at hbz (by omega)) | (apply q_ixrs; exact evgx; exact fun G hG => hB H G (hG.sub (subl_tail (subl_tail (subl_tail (subl_tail subl_refl))))) bw (List.mem_of_getElem? hbk); exact evgx; omega) | exact qt | exact qu)) | refine xsg cts ?_ | (apply CW_condT; exact rfl; exact ar) | (apply CW_condF; exact rfl; exact ar) | ((first | apply RW.s1 | apply RW.s0); exact gva) | (refine hK _ _ ?_; clear hK; refine xsg xsl ?_) | ((first | apply RW.a1 | apply RW.a0 | (apply RW.at; exact gva)); (first | (apply gw_asg; exact rfl) | (apply gw_box; exact rfl; exact rfl; intro b) | (apply gw_make; exact rfl; exact rfl; exact rfl; exact rfl; omega; omega; omega; omega; intro b) | (apply gw_lit1; exact rfl; exact rfl; exact rfl; exact rfl; decide; intro b) | (apply gw_lit2; exact rfl; exact rfl; exact rfl; exact rfl; intro b) | (apply gw_lit3; exact rfl; exact rfl; exact rfl; exact rfl; exact rfl; intro b) | (apply gw_ap1; exact rfl; exact rfl; infer_instance; infer_instance; exact rfl; exact rfl; exact rfl; exact rfl; omega; intro a c) | (apply gw_ap1n; exact rfl; exact rfl; infer_instance; exact rfl; exact rfl; exact rfl; exact rfl; omega; intro a c) | (refine gw_stx sto ?_) | (fail))) | (apply CW_region; intro K hK) | (apply CW_condX; exact rfl; exact tst; exact tst; all_goals (intro hq hc; try exact no)))
            exact ⟨_, _, _, ⟨j + 1, true, rfl, rfl, rfl, by omega, .inl ⟨rfl, hnew⟩⟩, by exact sbe, sblt, by omega⟩
          | true =>
            by_cases hjo : j ∈ o
            · rw [decide_eq_true hjo] at hdj
              have hnew : ∀ z, z < j + 1 → Dn bw.l z → z ∈ o := fun z hz hdn => by
                rcases lt_succ_cases hz with g | rfl
                · exact hall z g hdn
                · exact hjo
              
              repeat' (first | ((first | apply RW.q1 | (apply RW.qg; exact gvx; refine hgx tst ?_; intro hg hg')); (first | (apply q_ldo; exact rfl; exact evgx; infer_instance; first | exact bwv_at hbk (by omega) | exact bools_at hdj (by omega)) | (apply q_ldrs; exact rfl; exact evgx; exact fun G hG => hB H G (hG.sub (subl_tail (subl_tail (subl_tail (subl_tail subl_refl))))) bw (List.mem_of_getElem? hbk); exact bools_at hbz (by omega)) | (apply q_ixrs; exact evgx; exact fun G hG => hB H G (hG.sub (subl_tail (subl_tail (subl_tail (subl_tail subl_refl))))) bw (List.mem_of_getElem? hbk); exact evgx; omega) | exact qt | exact qu)) | refine xsg cts ?_ | (apply CW_condT; exact rfl; exact ar) | (apply CW_condF; exact rfl; exact ar) | ((first | apply RW.s1 | apply RW.s0); exact gva) | (refine hK _ _ ?_; clear hK; refine xsg xsl ?_) | ((first | apply RW.a1 | apply RW.a0 | (apply RW.at; exact gva)); (first | (apply gw_asg; exact rfl) | (apply gw_box; exact rfl; exact rfl; intro b) | (apply gw_make; exact rfl; exact rfl; exact rfl; exact rfl; omega; omega; omega; omega; intro b) | (apply gw_lit1; exact rfl; exact rfl; exact rfl; exact rfl; decide; intro b) | (apply gw_lit2; exact rfl; exact rfl; exact rfl; exact rfl; intro b) | (apply gw_lit3; exact rfl; exact rfl; exact rfl; exact rfl; exact rfl; intro b) | (apply gw_ap1; exact rfl; exact rfl; infer_instance; infer_instance; exact rfl; exact rfl; exact rfl; exact rfl; omega; intro a c) | (apply gw_ap1n; exact rfl; exact rfl; infer_instance; exact rfl; exact rfl; exact rfl; exact rfl; omega; intro a c) | (refine gw_stx sto ?_) | (fail))) | (apply CW_region; intro K hK) | (apply CW_condX; exact rfl; exact tst; exact tst; all_goals (intro hq hc; try exact no)))
              exact ⟨_, _, _, ⟨j + 1, true, rfl, rfl, rfl, by omega, .inl ⟨rfl, hnew⟩⟩, by exact sbe, sblt, by omega⟩
            · rw [decide_eq_false hjo] at hdj
              
              repeat' (first | ((first | apply RW.q1 | (apply RW.qg; exact gvx; refine hgx tst ?_; intro hg hg')); (first | (apply q_ldo; exact rfl; exact evgx; infer_instance; first | exact bwv_at hbk (by omega) | exact bools_at hdj (by omega)) | (apply q_ldrs; exact rfl; exact evgx; exact fun G hG => hB H G (hG.sub (subl_tail (subl_tail (subl_tail (subl_tail subl_refl))))) bw (List.mem_of_getElem? hbk); exact bools_at hbz (by omega)) | (apply q_ixrs; exact evgx; exact fun G hG => hB H G (hG.sub (subl_tail (subl_tail (subl_tail (subl_tail subl_refl))))) bw (List.mem_of_getElem? hbk); exact evgx; omega) | exact qt | exact qu)) | refine xsg cts ?_ | (apply CW_condT; exact rfl; exact ar) | (apply CW_condF; exact rfl; exact ar) | ((first | apply RW.s1 | apply RW.s0); exact gva) | (refine hK _ _ ?_; clear hK; refine xsg xsl ?_) | ((first | apply RW.a1 | apply RW.a0 | (apply RW.at; exact gva)); (first | (apply gw_asg; exact rfl) | (apply gw_box; exact rfl; exact rfl; intro b) | (apply gw_make; exact rfl; exact rfl; exact rfl; exact rfl; omega; omega; omega; omega; intro b) | (apply gw_lit1; exact rfl; exact rfl; exact rfl; exact rfl; decide; intro b) | (apply gw_lit2; exact rfl; exact rfl; exact rfl; exact rfl; intro b) | (apply gw_lit3; exact rfl; exact rfl; exact rfl; exact rfl; exact rfl; intro b) | (apply gw_ap1; exact rfl; exact rfl; infer_instance; infer_instance; exact rfl; exact rfl; exact rfl; exact rfl; omega; intro a c) | (apply gw_ap1n; exact rfl; exact rfl; infer_instance; exact rfl; exact rfl; exact rfl; exact rfl; omega; intro a c) | (refine gw_stx sto ?_) | (fail))) | (apply CW_region; intro K hK) | (apply CW_condX; exact rfl; exact tst; exact tst; all_goals (intro hq hc; try exact no)))
              exact ⟨_, _, _, ⟨j + 1, false, rfl, rfl, rfl, by omega, .inr ⟨rfl, j, hbz, hjo⟩⟩, by exact sbe, sblt, by omega⟩
        obtain rfl : j = (allT l').length := by omega
        have hR : RdF (Nx ((nds.map Nd.r).map Rw.l)) (VI (allT l')) o k := ⟨⟨x, hx, hxv⟩, hko, fun z hz hvz => by
          have h1 := (hokk.2 z).2 ⟨hvz, hz⟩
          refine hall z ?_ h1
          obtain ⟨w, hw1, _⟩ := hvz
          exact (List.getElem?_eq_some_iff.1 hw1).1⟩
        have hJ2 := hJ.take hkl hb hR
        have hcs2 : txs (o.map (nmA (allT l'))) ++ [.string (bstr x.n)] = txs ((o ++ [k]).map (nmA (allT l'))) := by rw [txs_snoc, List.map_append, List.map_cons, List.map_nil, hxn]
        have hlen : o.length + 1 = (o ++ [k]).length := by simp
        
        repeat' (first | ((first | apply RW.q1 | (apply RW.qg; exact gvx; refine hgx tst ?_; intro hg hg')); (first | (apply q_ldo; exact rfl; exact evgx; infer_instance; exact th_n hx (by omega)) | exact qt | exact qu)) | refine xsg cts ?_ | (apply CW_condT; exact rfl; exact ar) | (apply CW_condF; exact rfl; exact ar) | ((first | apply RW.s1 | apply RW.s0); exact gva) | (refine hK _ _ ?_; clear hK; refine xsg xsl ?_) | ((first | apply RW.a1 | apply RW.a0 | (apply RW.at; exact gva)); (first | (apply gw_soB k; exact rfl; exact rfl; infer_instance; omega; omega) | (apply gw_asg; exact rfl) | (apply gw_box; exact rfl; exact rfl; intro b) | (apply gw_make; exact rfl; exact rfl; exact rfl; exact rfl; omega; omega; omega; omega; intro b) | (apply gw_lit1; exact rfl; exact rfl; exact rfl; exact rfl; decide; intro b) | (apply gw_lit2; exact rfl; exact rfl; exact rfl; exact rfl; intro b) | (apply gw_lit3; exact rfl; exact rfl; exact rfl; exact rfl; exact rfl; intro b) | (apply gw_ap1; exact rfl; exact rfl; infer_instance; infer_instance; exact rfl; exact rfl; exact rfl; exact rfl; omega; intro a c) | (apply gw_ap1n; exact rfl; exact rfl; infer_instance; exact rfl; exact rfl; exact rfl; exact rfl; omega; intro a c) | (refine gw_stx sto ?_) | (fail))) | (apply CW_region; intro K hK) | (apply CW_condX; exact rfl; exact tst; exact tst; all_goals (intro hq hc; try exact no)))
        exact ⟨_, _, _, ⟨o ++ [k], d.set k true, _, _, rfl, by rw [← hlen], by rw [← hcs2, ← hlen], hJ2⟩, by exact sbe, sblt, by rw [← hlen]; omega⟩
      · have hno := hnext fun h => hz2 (h.2.2 z ((hokk.2 z).1 hz1).2 ((hokk.2 z).1 hz1).1)
        by_cases hjl : j < (allT l').length
        · 
          repeat' (first | (apply RW.q1; exact qt) | (apply RW.qg; exact gvx; refine hgx tst ?_; intro hg hg'; exact qu) | refine xsg cts ?_ | (apply CW_condT; exact rfl; exact ar) | (apply CW_condF; exact rfl; exact ar) | ((first | apply RW.s1 | apply RW.s0); exact gva) | (refine hK _ _ ?_; clear hK; refine xsg xsl ?_) | ((first | apply RW.a1 | apply RW.a0 | (apply RW.at; exact gva)); (first | (apply gw_asg; exact rfl) | (apply gw_box; exact rfl; exact rfl; intro b) | (apply gw_make; exact rfl; exact rfl; exact rfl; exact rfl; omega; omega; omega; omega; intro b) | (apply gw_lit1; exact rfl; exact rfl; exact rfl; exact rfl; decide; intro b) | (apply gw_lit2; exact rfl; exact rfl; exact rfl; exact rfl; intro b) | (apply gw_lit3; exact rfl; exact rfl; exact rfl; exact rfl; exact rfl; intro b) | (apply gw_ap1; exact rfl; exact rfl; infer_instance; infer_instance; exact rfl; exact rfl; exact rfl; exact rfl; omega; intro a c) | (apply gw_ap1n; exact rfl; exact rfl; infer_instance; exact rfl; exact rfl; exact rfl; exact rfl; omega; intro a c) | (refine gw_stx sto ?_) | (fail))) | (apply CW_region; intro K hK) | (apply CW_condX; exact rfl; exact tst; exact tst; all_goals (intro hq hc; try exact no)))
          · exact absurd hq (by simp)
          exact ⟨_, _, _, ⟨k + 1, rfl, rfl, rfl, hno.1, hno.2⟩, by exact sbe, sblt, by omega⟩
        · 
          repeat' (first | (apply RW.q1; exact qt) | (apply RW.qg; exact gvx; refine hgx tst ?_; intro hg hg'; exact qu) | refine xsg cts ?_ | (apply CW_condT; exact rfl; exact ar) | (apply CW_condF; exact rfl; exact ar) | ((first | apply RW.s1 | apply RW.s0); exact gva) | (refine hK _ _ ?_; clear hK; refine xsg xsl ?_) | ((first | apply RW.a1 | apply RW.a0 | (apply RW.at; exact gva)); (first | (apply gw_asg; exact rfl) | (apply gw_box; exact rfl; exact rfl; intro b) | (apply gw_make; exact rfl; exact rfl; exact rfl; exact rfl; omega; omega; omega; omega; intro b) | (apply gw_lit1; exact rfl; exact rfl; exact rfl; exact rfl; decide; intro b) | (apply gw_lit2; exact rfl; exact rfl; exact rfl; exact rfl; intro b) | (apply gw_lit3; exact rfl; exact rfl; exact rfl; exact rfl; exact rfl; intro b) | (apply gw_ap1; exact rfl; exact rfl; infer_instance; infer_instance; exact rfl; exact rfl; exact rfl; exact rfl; omega; intro a c) | (apply gw_ap1n; exact rfl; exact rfl; infer_instance; exact rfl; exact rfl; exact rfl; exact rfl; omega; intro a c) | (refine gw_stx sto ?_) | (fail))) | (apply CW_region; intro K hK) | (apply CW_condX; exact rfl; exact tst; exact tst; all_goals (intro hq hc; try exact no)))
          exact ⟨_, _, _, ⟨k + 1, rfl, rfl, rfl, hno.1, hno.2⟩, by exact sbe, sblt, by omega⟩
    · have hno := hnext fun h => hgo ⟨by obtain ⟨⟨z, hz, hzv⟩, _⟩ := h; rw [hx] at hz; cases hz; exact hzv, h.2.1⟩
      have hbad : x.v = false ∨ (x.v = true ∧ k ∈ o) := by
        cases hxv : x.v with
        | false => exact .inl rfl
        | true => exact .inr ⟨rfl, Classical.byContradiction fun h => hgo ⟨hxv, h⟩⟩
      have hl0 : 0 < (allT l').length := by omega
      rcases hbad with hxv | ⟨hxv, hko⟩
      · rw [hxv] at hthv
        
        repeat' (first | ((first | apply RW.q1 | (apply RW.qg; exact gvx; refine hgx tst ?_; intro hg hg')); (first | (apply q_ldo; exact rfl; exact evgx; infer_instance; exact hthv _ (by omega)) | exact qt | exact qu)) | refine xsg cts ?_ | (apply CW_condT; exact rfl; exact ar) | (apply CW_condF; exact rfl; exact ar) | ((first | apply RW.s1 | apply RW.s0); exact gva) | (refine hK _ _ ?_; clear hK; refine xsg xsl ?_) | ((first | apply RW.a1 | apply RW.a0 | (apply RW.at; exact gva)); (first | (apply gw_asg; exact rfl) | (apply gw_box; exact rfl; exact rfl; intro b) | (apply gw_make; exact rfl; exact rfl; exact rfl; exact rfl; omega; omega; omega; omega; intro b) | (apply gw_lit1; exact rfl; exact rfl; exact rfl; exact rfl; decide; intro b) | (apply gw_lit2; exact rfl; exact rfl; exact rfl; exact rfl; intro b) | (apply gw_lit3; exact rfl; exact rfl; exact rfl; exact rfl; exact rfl; intro b) | (apply gw_ap1; exact rfl; exact rfl; infer_instance; infer_instance; exact rfl; exact rfl; exact rfl; exact rfl; omega; intro a c) | (apply gw_ap1n; exact rfl; exact rfl; infer_instance; exact rfl; exact rfl; exact rfl; exact rfl; omega; intro a c) | (refine gw_stx sto ?_) | (fail))) | (apply CW_region; intro K hK) | (apply CW_condX; exact rfl; exact tst; exact tst; all_goals (intro hq hc; try exact no)))
        refine CW_loop (fun m ll L => m = 0 ∧ ll = [(3, true, .slice ta (allT l').length tc), (5, true, .slice da (allT l').length dc), (6, true, .int .i64 ((allT l').countP Th.v : Nat)), (7, true, .slice oa (allT l').length oc), (9, true, .slice ua o.length uc), (10, true, .int .i64 (k : Nat)), (11, true, .bool false), (12, true, .int .i64 0)] ∧ L = .own 89 3 ta (allT l').length tc ((allT l').flatMap thC) :: .own 4 1 da (allT l').length dc (bools d) :: .own 74 1 oa (allT l').length oc (bwvs bws) :: .own 9 1 ua o.length uc (txs (o.map (nmA (allT l')))) :: L') ⟨_, _, _, ⟨rfl, rfl, rfl⟩, by exact sbe, sblt⟩ ?_
        rintro m ll L ⟨rfl, rfl, rfl⟩
        
        repeat' (first | (apply RW.q1; exact qt) | (apply RW.qg; exact gvx; refine hgx tst ?_; intro hg hg'; exact qu) | refine xsg cts ?_ | (apply CW_condT; exact rfl; exact ar) | (apply CW_condF; exact rfl; exact ar) | ((first | apply RW.s1 | apply RW.s0); exact gva) | (refine hK _ _ ?_; clear hK; refine xsg xsl ?_) | ((first | apply RW.a1 | apply RW.a0 | (apply RW.at; exact gva)); (first | (apply gw_asg; exact rfl) | (apply gw_box; exact rfl; exact rfl; intro b) | (apply gw_make; exact rfl; exact rfl; exact rfl; exact rfl; omega; omega; omega; omega; intro b) | (apply gw_lit1; exact rfl; exact rfl; exact rfl; exact rfl; decide; intro b) | (apply gw_lit2; exact rfl; exact rfl; exact rfl; exact rfl; intro b) | (apply gw_lit3; exact rfl; exact rfl; exact rfl; exact rfl; exact rfl; intro b) | (apply gw_ap1; exact rfl; exact rfl; infer_instance; infer_instance; exact rfl; exact rfl; exact rfl; exact rfl; omega; intro a c) | (apply gw_ap1n; exact rfl; exact rfl; infer_instance; exact rfl; exact rfl; exact rfl; exact rfl; omega; intro a c) | (refine gw_stx sto ?_) | (fail))) | (apply CW_region; intro K hK) | (apply CW_condX; exact rfl; exact tst; exact tst; all_goals (intro hq hc; try exact no)))
        · exact absurd hq (by simp)
        exact ⟨_, _, _, ⟨k + 1, rfl, rfl, rfl, hno.1, hno.2⟩, by exact sbe, sblt, by omega⟩
      · rw [hxv] at hthv
        rw [decide_eq_true hko] at hdk
        
        repeat' (first | ((first | apply RW.q1 | (apply RW.qg; exact gvx; refine hgx tst ?_; intro hg hg')); (first | (apply q_ldo; exact rfl; exact evgx; infer_instance; first | exact hthv _ (by omega) | exact bools_at hdk (by omega)) | exact qt | exact qu)) | refine xsg cts ?_ | (apply CW_condT; exact rfl; exact ar) | (apply CW_condF; exact rfl; exact ar) | ((first | apply RW.s1 | apply RW.s0); exact gva) | (refine hK _ _ ?_; clear hK; refine xsg xsl ?_) | ((first | apply RW.a1 | apply RW.a0 | (apply RW.at; exact gva)); (first | (apply gw_asg; exact rfl) | (apply gw_box; exact rfl; exact rfl; intro b) | (apply gw_make; exact rfl; exact rfl; exact rfl; exact rfl; omega; omega; omega; omega; intro b) | (apply gw_lit1; exact rfl; exact rfl; exact rfl; exact rfl; decide; intro b) | (apply gw_lit2; exact rfl; exact rfl; exact rfl; exact rfl; intro b) | (apply gw_lit3; exact rfl; exact rfl; exact rfl; exact rfl; exact rfl; intro b) | (apply gw_ap1; exact rfl; exact rfl; infer_instance; infer_instance; exact rfl; exact rfl; exact rfl; exact rfl; omega; intro a c) | (apply gw_ap1n; exact rfl; exact rfl; infer_instance; exact rfl; exact rfl; exact rfl; exact rfl; omega; intro a c) | (refine gw_stx sto ?_) | (fail))) | (apply CW_region; intro K hK) | (apply CW_condX; exact rfl; exact tst; exact tst; all_goals (intro hq hc; try exact no)))
        refine CW_loop (fun m ll L => m = 0 ∧ ll = [(3, true, .slice ta (allT l').length tc), (5, true, .slice da (allT l').length dc), (6, true, .int .i64 ((allT l').countP Th.v : Nat)), (7, true, .slice oa (allT l').length oc), (9, true, .slice ua o.length uc), (10, true, .int .i64 (k : Nat)), (11, true, .bool false), (12, true, .int .i64 0)] ∧ L = .own 89 3 ta (allT l').length tc ((allT l').flatMap thC) :: .own 4 1 da (allT l').length dc (bools d) :: .own 74 1 oa (allT l').length oc (bwvs bws) :: .own 9 1 ua o.length uc (txs (o.map (nmA (allT l')))) :: L') ⟨_, _, _, ⟨rfl, rfl, rfl⟩, by exact sbe, sblt⟩ ?_
        rintro m ll L ⟨rfl, rfl, rfl⟩
        
        repeat' (first | (apply RW.q1; exact qt) | (apply RW.qg; exact gvx; refine hgx tst ?_; intro hg hg'; exact qu) | refine xsg cts ?_ | (apply CW_condT; exact rfl; exact ar) | (apply CW_condF; exact rfl; exact ar) | ((first | apply RW.s1 | apply RW.s0); exact gva) | (refine hK _ _ ?_; clear hK; refine xsg xsl ?_) | ((first | apply RW.a1 | apply RW.a0 | (apply RW.at; exact gva)); (first | (apply gw_asg; exact rfl) | (apply gw_box; exact rfl; exact rfl; intro b) | (apply gw_make; exact rfl; exact rfl; exact rfl; exact rfl; omega; omega; omega; omega; intro b) | (apply gw_lit1; exact rfl; exact rfl; exact rfl; exact rfl; decide; intro b) | (apply gw_lit2; exact rfl; exact rfl; exact rfl; exact rfl; intro b) | (apply gw_lit3; exact rfl; exact rfl; exact rfl; exact rfl; exact rfl; intro b) | (apply gw_ap1; exact rfl; exact rfl; infer_instance; infer_instance; exact rfl; exact rfl; exact rfl; exact rfl; omega; intro a c) | (apply gw_ap1n; exact rfl; exact rfl; infer_instance; exact rfl; exact rfl; exact rfl; exact rfl; omega; intro a c) | (refine gw_stx sto ?_) | (fail))) | (apply CW_region; intro K hK) | (apply CW_condX; exact rfl; exact tst; exact tst; all_goals (intro hq hc; try exact no)))
        · exact absurd hq (by simp)
        exact ⟨_, _, _, ⟨k + 1, rfl, rfl, rfl, hno.1, hno.2⟩, by exact sbe, sblt, by omega⟩
  · have hO := hJ.ord hd hlt2
    have hol2 : (o.map (nmA (allT l'))).length = o.length := List.length_map _
    
    repeat' (first | (apply RW.q1; exact qt) | (apply RW.qg; exact gvx; refine hgx tst ?_; intro hg hg'; exact qu) | refine xsg cts ?_ | (apply CW_condT; exact rfl; exact ar) | (apply CW_condF; exact rfl; exact ar) | ((first | apply RW.s1 | apply RW.s0); exact gva) | (refine hK _ _ ?_; clear hK; refine xsg xsl ?_) | ((first | apply RW.a1 | apply RW.a0 | (apply RW.at; exact gva)); (first | (apply gw_asg; exact rfl) | (apply gw_box; exact rfl; exact rfl; intro b) | (apply gw_make; exact rfl; exact rfl; exact rfl; exact rfl; omega; omega; omega; omega; intro b) | (apply gw_lit1; exact rfl; exact rfl; exact rfl; exact rfl; decide; intro b) | (apply gw_lit2; exact rfl; exact rfl; exact rfl; exact rfl; intro b) | (apply gw_lit3; exact rfl; exact rfl; exact rfl; exact rfl; exact rfl; intro b) | (apply gw_ap1; exact rfl; exact rfl; infer_instance; infer_instance; exact rfl; exact rfl; exact rfl; exact rfl; omega; intro a c) | (apply gw_ap1n; exact rfl; exact rfl; infer_instance; exact rfl; exact rfl; exact rfl; exact rfl; omega; intro a c) | (refine gw_stx sto ?_) | (fail))) | (apply CW_region; intro K hK) | (apply CW_condX; exact rfl; exact tst; exact tst; all_goals (intro hq hc; try exact no)))
    (refine CW_ret ?_; refine xsg xsl ?_; refine bR [.tmp 2] [.own 9 1 ua o.length uc (txs (o.map (nmA (allT l'))))] ?_)
    exact ⟨o.map (nmA (allT l')), ua, uc, l', by rw [hol2]; rfl, by rw [hol2], hJ.pm, hJ.st, hO⟩
end Go.Proofs.Ytkhmimlgkjenfaa.HL
namespace Go.Proofs.Ytkhmimlgkjenfaa.HL
open Go
attribute [local irreducible] goFn thenS blockS bodyS CW RW DW GW QW NW SC Pick Picks SubL Rd NN ResOk SrcW subE hops hseg AW hgen HC qv bldv
set_option maxHeartbeats 8000000
set_option maxRecDepth 100000
set_option linter.unusedVariables false
set_option linter.unusedSimpArgs false

abbrev dwRfN0 : List (Nat × Bool) := [(0, false), (1, false), (2, false), (3, false), (4, false), (5, false), (6, false)]
theorem ft_some {p : Pk} {q : Int × List Tx} (h : fltO p = some q) : VarsR p q.1 [] q.2 := .inl ⟨q, h, rfl, rfl, rfl⟩
theorem flt_ne {p : Pk} {q : Int × List Tx} (h : fltO p = some q) : q.1 ≠ 0 := by
  unfold fltO at h
  cases h1 : sizeO p with
  | some x =>
    rw [h1] at h; cases h
    rw [(sizeO_some h1).2]; decide
  | none =>
    rw [h1] at h
    cases h2 : formO [p] with
    | some s => rw [h2] at h; cases h; show (3 : Int) ≠ 0; decide
    | none =>
      rw [h2] at h
      cases h3 : dupP [] [p] with
      | some s => rw [h3] at h; cases h; show (6 : Int) ≠ 0; decide
      | none =>
        rw [h3] at h
        cases h4 : joinO p with
        | some r => rw [h4] at h; cases h; exact (joinO_some h4).1
        | none => rw [h4] at h; cases h
theorem ad_some {ca : Option Addr} (h : ca.isNone = false) : ∃ cb, ca = some cb := by
  cases ca
  · cases h
  · exact ⟨_, rfl⟩

theorem rVarsT_spec (p : Pk) (H : Hp) (hp : pkOk H p) (hS : Small p) :
    SC Try.prog 7 [pkV p] H [] (fun v M => ∃ (e : Int) (out them : List Tx) (oa ca : Option Addr) (oc cc : Nat), VarsR p e out them ∧ v = .tuple #[.slice oa out.length oc, .int .i64 e, .slice ca them.length cc] ∧ M = [.own 9 1 oa out.length oc (txs out), .own 9 1 ca them.length cc (txs them)]) := by
  have row1 : ∀ {G : Hp} {L L' : List Res} {e : TypeId} {aa : Option Addr} {ac : Nat} (hpk : Pick L (.own e 3 aa 1 ac (pkC p)) L') (hG : Hs H L G), Rs G 3 aa [p].length ac ([p].flatMap pkC) := fun hpk hG => sl_own hpk hG
  cases hF : fltO p with
  | some q =>
    have hV := ft_some hF
    have hq0 := flt_ne hF
    have hE : ftE (fltO p) = q.1 := by rw [hF]; rfl
    have hT : ftT (fltO p) = q.2 := by rw [hF]; rfl
    have hR := fun (G : Hp) (aa : Option Addr) (ac : Nat) (hr : Rs G 3 aa [p].length ac ([p].flatMap pkC)) (hpo : pkOk G p) => rRight_spec p aa ac G hr hpo hS
    simp only [hE, hT] at hR
    (refine SC_intro Try.func7 rfl (by kernel_rfl) (by rw [Try.ntmps7]; exact Nat.le_of_ble_eq_true rfl) ?_; simp only [Try.ntmps7, argE, Nat.reduceAdd])
    
    repeat' (first | ((first | apply RW.q1 | (apply DW.q1; exact rfl)); exact qt) | refine xsg cts ?_ | (apply CW_condT; exact rfl; exact ar) | (apply CW_condF; exact rfl; exact ar) | (refine hK _ _ ?_; clear hK; refine xsg xsl ?_) | (refine xsg ahd ?_; (first | (apply gw_box (d := some 1); exact rfl; exact rfl; intro b1) | (apply gw_alloc (d := some 5); exact rfl; intro b5) | (apply gw_lit1 (d := some 8); exact rfl; exact rfl; exact rfl; exact rfl; decide; intro pb) | (apply gw_call (f := 18); exact rfl; exact go18; intro G hG; refine SC.mono (hR G (some ⟨pb, 0, none⟩) 1 (row1 (by exact pkx) hG) (pkOk_ext hp hG.ext)) ?_; rintro v M ⟨fa, fc, rfl, rfl⟩; (try dsimp only [jL, jM])) | (apply gw_asg; exact rfl) | (apply gw_alloc; exact rfl; intro b) | (apply gw_box; exact rfl; exact rfl; intro b) | (apply gw_lit1; exact rfl; exact rfl; exact rfl; exact rfl; decide; intro b) | (apply gw_lit2; exact rfl; exact rfl; exact rfl; exact rfl; intro b) | (apply gw_lit3; exact rfl; exact rfl; exact rfl; exact rfl; exact rfl; intro b) | (refine gw_stx sto ?_) | (fail))) | (apply CW_region; intro K hK) | (apply CW_condX; exact rfl; exact tst; exact tst; all_goals (intro hq hc; try exact no)) | (refine CW_draw (id := 3) [] dwRfN0 mixed (by kernel_rfl) (fun K hK => ?_)))
    (refine CW_ret ?_; refine xsg xsl ?_; refine bR [.tmp 2, .tmp 3, .tmp 4] [.own 9 1 none 0 0 [], .own 9 1 fa q.2.length fc (txs q.2)] ?_)
    exact ⟨q.1, [], q.2, none, fa, 0, fc, hV, rfl, rfl⟩
  | none =>
    have hE : ftE (fltO p) = 0 := by rw [hF]; rfl
    have hT : ftT (fltO p) = [] := by rw [hF]; rfl
    have hR := fun (G : Hp) (aa : Option Addr) (ac : Nat) (hr : Rs G 3 aa [p].length ac ([p].flatMap pkC)) (hpo : pkOk G p) => rRight_spec p aa ac G hr hpo hS
    simp only [hE, hT] at hR
    obtain ⟨g1, _, _, g4, _, g6⟩ := dup_one hF
    have hal := all_len2 hS g6
    have hw : ∀ x, x ∈ allT p.fl → lastPt x.n = none := fun x hx => word_pt ((form_words g1 (p := p) (by simp)).2 x hx)
    have hus : ∀ x, x ∈ allT p.fl → x.u.length ≤ 1048576 ∧ ∀ s, s ∈ x.u → s.length ≤ 1048576 := fun x hx => ⟨(hS.us x hx).1, (hS.us x hx).2.2⟩
    by_cases hcy : CycS (NT (allT p.fl)) (VN (allT p.fl)) ltT []
    · (refine SC_intro Try.func7 rfl (by kernel_rfl) (by rw [Try.ntmps7]; exact Nat.le_of_ble_eq_true rfl) ?_; simp only [Try.ntmps7, argE, Nat.reduceAdd])
      
      repeat' (first | ((first | apply RW.q1 | (apply DW.q1; exact rfl)); exact qt) | refine xsg cts ?_ | (apply CW_condT; exact rfl; exact ar) | (apply CW_condF; exact rfl; exact ar) | (refine hK _ _ ?_; clear hK; refine xsg xsl ?_) | (refine xsg ahd ?_; (first | (apply gw_box (d := some 1); exact rfl; exact rfl; intro b1) | (apply gw_alloc (d := some 5); exact rfl; intro b5) | (apply gw_lit1 (d := some 8); exact rfl; exact rfl; exact rfl; exact rfl; decide; intro pb) | (apply gw_call (f := 18); exact rfl; exact go18; intro G hG; refine SC.mono (hR G (some ⟨pb, 0, none⟩) 1 (row1 (by exact pkx) hG) (pkOk_ext hp hG.ext)) ?_; rintro v M ⟨fa, fc, rfl, rfl⟩; (try dsimp only [jL, jM])) | (apply gw_call (f := 21); exact rfl; exact go21; intro G hG; refine SC.mono (rAll_spec p G (pkOk_ext hp hG.ext) hal hS.fl) ?_; rintro v M ⟨ta, tc, rfl, rfl⟩; (try dsimp only [jL, jM])) | (apply gw_call (f := 20); exact rfl; exact go20; intro G hG; refine SC.mono (rLeads_spec (allT p.fl) ta tc G (sl_own (by exact pkx) hG) (fun x hx => (allT_ok hp x hx).ext hG.ext) g4 hw hal hus) ?_; rintro v M ⟨nds, na, nc, L0, rfl, rfl, hL0, hndl, hnda⟩; (try dsimp only [jL, jM]); refine RW_drop (_ ++ (_ :: L0)) (subl_comm (M := _ :: L0) (L := [_, _, _, _, _])) ?_; dsimp only [jL, jM]) | (apply gw_call (f := 19); exact rfl; exact go19; intro G hG; refine SC.mono (rCycle_spec (allT p.fl) nds na nc G ⟨sl_own (by exact pkx) hG, fun d hd => hL0 H G (hG.sub (subl_tail (subl_tail (subl_tail (subl_tail (subl_tail (subl_tail subl_refl))))))) d.r (List.mem_map.2 ⟨d, hd, rfl⟩), hndl, hnda⟩ g4 hal (fun x hx => (hus x hx).1)) ?_; rintro v M ⟨cy, ca, cc, hcc, rfl, rfl, hc1, hc2⟩; (try dsimp only [jL, jM]); obtain rfl := hcc.same (fun _ _ ↦ ltT_asym) hcy; obtain rfl := hc1 rfl) | (apply gw_call (f := 22); exact rfl; exact go22; intro G hG; refine SC.mono (rVars_spec p G (pkOk_ext hp hG.ext) hal hS.fl hus g4 hw hcy) ?_; rintro v M ⟨out, oa, oc, l', rfl, rfl, hpm, hst, hO⟩; (try dsimp only [jL, jM])) | (apply gw_asg; exact rfl) | (apply gw_alloc; exact rfl; intro b) | (apply gw_box; exact rfl; exact rfl; intro b) | (apply gw_lit1; exact rfl; exact rfl; exact rfl; exact rfl; decide; intro b) | (apply gw_lit2; exact rfl; exact rfl; exact rfl; exact rfl; intro b) | (apply gw_lit3; exact rfl; exact rfl; exact rfl; exact rfl; exact rfl; intro b) | (refine gw_stx sto ?_) | (fail))) | (apply CW_region; intro K hK) | (apply CW_condX; exact rfl; exact tst; exact tst; all_goals (intro hq hc; try exact no)) | (refine CW_draw (id := 3) [] dwRfN0 mixed (by kernel_rfl) (fun K hK => ?_)))
      (refine CW_ret ?_; refine xsg xsl ?_; refine bR [.tmp 2, .tmp 3, .tmp 4] [.own 9 1 oa out.length oc (txs out), .own 9 1 none 0 0 []] ?_)
      exact ⟨0, out, [], oa, none, oc, 0, .inr (.inr ⟨hF, hcy, rfl, rfl, l', hpm, hst, hO⟩), rfl, rfl⟩
    · (refine SC_intro Try.func7 rfl (by kernel_rfl) (by rw [Try.ntmps7]; exact Nat.le_of_ble_eq_true rfl) ?_; simp only [Try.ntmps7, argE, Nat.reduceAdd])
      
      repeat' (first | ((first | apply RW.q1 | (apply DW.q1; exact rfl)); exact qt) | refine xsg cts ?_ | (apply CW_condT; exact rfl; exact ar) | (apply CW_condF; exact rfl; exact ar) | (refine hK _ _ ?_; clear hK; refine xsg xsl ?_) | (refine xsg ahd ?_; (first | (apply gw_box (d := some 1); exact rfl; exact rfl; intro b1) | (apply gw_alloc (d := some 5); exact rfl; intro b5) | (apply gw_lit1 (d := some 8); exact rfl; exact rfl; exact rfl; exact rfl; decide; intro pb) | (apply gw_call (f := 18); exact rfl; exact go18; intro G hG; refine SC.mono (hR G (some ⟨pb, 0, none⟩) 1 (row1 (by exact pkx) hG) (pkOk_ext hp hG.ext)) ?_; rintro v M ⟨fa, fc, rfl, rfl⟩; (try dsimp only [jL, jM])) | (apply gw_call (f := 21); exact rfl; exact go21; intro G hG; refine SC.mono (rAll_spec p G (pkOk_ext hp hG.ext) hal hS.fl) ?_; rintro v M ⟨ta, tc, rfl, rfl⟩; (try dsimp only [jL, jM])) | (apply gw_call (f := 20); exact rfl; exact go20; intro G hG; refine SC.mono (rLeads_spec (allT p.fl) ta tc G (sl_own (by exact pkx) hG) (fun x hx => (allT_ok hp x hx).ext hG.ext) g4 hw hal hus) ?_; rintro v M ⟨nds, na, nc, L0, rfl, rfl, hL0, hndl, hnda⟩; (try dsimp only [jL, jM]); refine RW_drop (_ ++ (_ :: L0)) (subl_comm (M := _ :: L0) (L := [_, _, _, _, _])) ?_; dsimp only [jL, jM]) | (apply gw_call (f := 19); exact rfl; exact go19; intro G hG; refine SC.mono (rCycle_spec (allT p.fl) nds na nc G ⟨sl_own (by exact pkx) hG, fun d hd => hL0 H G (hG.sub (subl_tail (subl_tail (subl_tail (subl_tail (subl_tail (subl_tail subl_refl))))))) d.r (List.mem_map.2 ⟨d, hd, rfl⟩), hndl, hnda⟩ g4 hal (fun x hx => (hus x hx).1)) ?_; rintro v M ⟨cy, ca, cc, hcc, rfl, rfl, hc1, hc2⟩; (try dsimp only [jL, jM]); have hcn : cy ≠ [] := fun h ↦ hcy (h ▸ hcc); have hcs := hc2 hcn; obtain ⟨cb, rfl⟩ := ad_some hcs) | (apply gw_asg; exact rfl) | (apply gw_alloc; exact rfl; intro b) | (apply gw_box; exact rfl; exact rfl; intro b) | (apply gw_lit1; exact rfl; exact rfl; exact rfl; exact rfl; decide; intro b) | (apply gw_lit2; exact rfl; exact rfl; exact rfl; exact rfl; intro b) | (apply gw_lit3; exact rfl; exact rfl; exact rfl; exact rfl; exact rfl; intro b) | (refine gw_stx sto ?_) | (fail))) | (apply CW_region; intro K hK) | (apply CW_condX; exact rfl; exact tst; exact tst; all_goals (intro hq hc; try exact no)) | (refine CW_draw (id := 3) [] dwRfN0 mixed (by kernel_rfl) (fun K hK => ?_)))
      (refine CW_ret ?_; refine xsg xsl ?_; refine bR [.tmp 2, .tmp 3, .tmp 4] [.own 9 1 none 0 0 [], .own 9 1 (some cb) cy.length cc (txs cy)] ?_)
      exact ⟨150, [], cy, none, some cb, 0, cc, .inr (.inl ⟨hF, hcc, hcn, rfl, rfl⟩), rfl, rfl⟩
end Go.Proofs.Ytkhmimlgkjenfaa.HL
