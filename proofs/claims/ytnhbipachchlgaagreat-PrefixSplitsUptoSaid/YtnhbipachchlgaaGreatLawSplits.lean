/- LawSplits: PfxU: units compared; rows of units. No condition. PfxV: the law PrefixSplits. Condition: lengths of at most 1048576. OpenU: a row of units among the arguments, opened. No condition. PfxCe: the closing of the law PrefixSplits: the given statement in full. No condition. -/
import Derived.Test.YtnhbipachchlgaaGreatSplitA
import Derived.Test.YtnhbipachchlgaaGreatEng
import Derived.Test.YtnhbipachchlgaaGreatSplitR
import Derived.Test.YtnhbipachchlgaaGreatClose7
import Derived.Test.YtnhbipachchlgaaGreatLibO
namespace Go.Proofs.YtnhbipachchlgaaGreat.HL
open Go
attribute [local irreducible] goFn thenS blockS bodyS CW RW DW GW QW NW SC Pick Picks SubL Rd NN ResOk SrcW subE hops hseg AW hgen HC qv bldv
set_option linter.unusedVariables false
set_option linter.unusedSimpArgs false

theorem guardU : (Tryz.prog).eqGuardType (Tryz.prog).depth 28 = false := Tryz.eqGuardType28
theorem eqU_refl (e : Nat) (u : Un) : eqF Tryz.prog (e + 1 + 1 + 1) 28 (uV u) (uV u) = some true := by
  have h : ∀ c : ByteArray, eqF Tryz.prog (e + 1 + 1) 9 (.string c) (.string c) = some true := fun c => by rw [eqF_str, decide_eq_true rfl]
  have hi : ∀ z : Int, eqF Tryz.prog (e + 1 + 1) 3 (.int .i64 z) (.int .i64 z) = some true := fun z => by rw [eqF_int]; simp
  have hd : eqF Tryz.prog (e + 1 + 1) 24 (.agg #[.int .i64 u.d1, .int .i64 u.d2, .int .i64 u.d3, .int .i64 u.d4, .int .i64 u.d5, .int .i64 u.d6, .int .i64 u.d7, .int .i64 u.d8]) (.agg #[.int .i64 u.d1, .int .i64 u.d2, .int .i64 u.d3, .int .i64 u.d4, .int .i64 u.d5, .int .i64 u.d6, .int .i64 u.d7, .int .i64 u.d8]) = some true := by
    have := eqF_ints (P := Tryz.prog) (e := e) (n := 8) (t := 24) (el := 3) (k := .i64) (a := [u.d1, u.d2, u.d3, u.d4, u.d5, u.d6, u.d7, u.d8]) (b := [u.d1, u.d2, u.d3, u.d4, u.d5, u.d6, u.d7, u.d8]) rfl rfl
    rw [decide_eq_true rfl] at this
    exact this
  rw [eqF_struct Tryz.stoodInHeld28]
  refine eqFs_cons (r := true) (c := true) (by decide) (a := .string (bstr u.nm)) (b := .string (bstr u.nm)) (partv1 rfl rfl) (partv1 rfl rfl) (h _) ?_
  refine eqFs_cons (r := true) (c := true) (by decide) (a := .string (bstr u.sy)) (b := .string (bstr u.sy)) (partv1 rfl rfl) (partv1 rfl rfl) (h _) ?_
  refine eqFs_cons (r := true) (c := true) (by decide) (partv2 rfl rfl) (partv2 rfl rfl) hd ?_
  refine eqFs_cons (r := true) (c := true) (by decide) (a := .agg #[.string u.f1, .string u.f2]) (b := .agg #[.string u.f1, .string u.f2]) (partv2 rfl rfl) (partv2 rfl rfl) (eqR_refl e _ _) ?_
  refine eqFs_cons (r := true) (c := true) (by decide) (a := .agg #[.string u.f3, .string u.f4]) (b := .agg #[.string u.f3, .string u.f4]) (partv2 rfl rfl) (partv2 rfl rfl) (eqR_refl e _ _) ?_
  exact eqFs_cons (r := true) (c := true) (by decide) (a := .int .i64 u.tk) (b := .int .i64 u.tk) (partv1 rfl rfl) (partv1 rfl rfl) (hi _) eqFs_nil
theorem un_ones (us : List Un) : (us.flatMap encU).all isOne = true := by
  induction us with
  | nil => rfl
  | cons u us ih =>
    rw [List.flatMap_cons, List.all_append, ih]; rfl
theorem un_len (us : List Un) : (us.flatMap encU).length = us.length * 15 := by
  induction us with
  | nil => rfl
  | cons u us ih =>
    rw [List.flatMap_cons, List.length_append, ih, show (encU u).length = 15 from rfl, List.length_cons]
    omega
/-- the unit that is added: no text but its name -/
def u4321 : Un := ⟨[52, 51, 50, 49], [], 0, 0, 0, 0, 0, 0, 0, 0, ⟨#[]⟩, ⟨#[]⟩, ⟨#[]⟩, ⟨#[]⟩, 0⟩
theorem un_add (us : List Un) : us.flatMap encU ++ encU u4321 = (us ++ [u4321]).flatMap encU := by rw [List.flatMap_append]; simp
end Go.Proofs.YtnhbipachchlgaaGreat.HL
namespace Go.Proofs.YtnhbipachchlgaaGreat.HL
open Go
attribute [local irreducible] goFn thenS blockS bodyS CW RW DW GW QW NW SC Pick Picks SubL Rd NN ResOk SrcW subE hops hseg AW hgen HC qv bldv
set_option linter.unusedVariables false
set_option linter.unusedSimpArgs false

section
variable {P : Program} {l : Ents} {H : Hp} {L : List Res} {d : Option Tmp} {T : TypeId} {pos : String} {aft : Array Edge} {gd : Option (Nat × Bool)} {t ty : TypeId} {x y : Operand}
theorem q_ieT {k : IntKind} {a : Int} (hx : evg l true x = some (.int k a)) (hy : evg l true y = some (.int k a)) : QW P l H L ⟨d, .binOp .eql t x y ty, T, pos, aft, gd⟩ (.bool true) := q_cmp hx hy (by simp [cmpI])
end
theorem un_take (us : List Un) : ((us ++ [u4321]).flatMap encU).take (us.length * 15) = us.flatMap encU := by
  rw [← un_add, ← un_len us, List.take_left]
theorem splitQ_tup {s : List UInt8} {us : List Un} {v : Value} (h : SplitQ s us v) : ∃ o k e, v = tupV o k e := by
  rcases h with ⟨_, h⟩ | ⟨_, ⟨_, _, _, h⟩ | ⟨_, ⟨_, h⟩ | ⟨_, h⟩ | ⟨_, _, _, _, h⟩⟩⟩
  all_goals exact ⟨_, _, _, h⟩
set_option maxHeartbeats 2000000 in
set_option maxRecDepth 100000 in
theorem splits_law (s : List UInt8) (us : List Un) (ua : Option Addr) (n uc : Nat) (hn : n = us.length) (hN : n ≤ 1048576) (hs : s.length ≤ 1048576) (hU : ∀ u ∈ us, u.nm.length ≤ 1048576 ∧ u.sy.length ≤ 1048576) (H : Hp) (hr : Rs H 15 ua n uc (us.flatMap encU)) :
    SC Tryz.prog 3 [.string (bstr s), .slice ua n uc] H [] (fun v M => v = .bool true ∧ M = []) := by
  have hlen := un_len us
  have hel : (us ++ [u4321])[n]? = some u4321 := by rw [hn]; simp
  (refine SC_intro Tryz.func3 rfl (by kernel_rfl) (by rw [Tryz.ntmps3]; exact Nat.le_of_ble_eq_true rfl) ?_; simp only [Tryz.ntmps3, argE, Nat.reduceAdd])
  
  repeat' (first | ((first | apply RW.q1 | (apply DW.q1; exact rfl)); (first | (apply q_bld; exact rfl; first | exact bld28_0 _) | exact qt)) | ((first | apply RW.qg | (apply DW.qg; exact rfl)); exact gvx; intro hg; have hg' := hg; (try simp only [jC, jD, jA, jB, jE, jG, jF, jH] at hg'); (first | (apply q_bld; exact rfl; first | exact bld28_0 _) | exact qu)) | apply RW.nil | (refine hK _ _ ?_; clear hK; refine xsg xsl ?_) | ((first | apply RW.a1 | apply RW.a0 | (apply DW.a1; exact rfl; exact rfl) | (apply DW.a0; exact rfl; exact rfl) | (apply DW.ag1; exact rfl) | (apply RW.at; exact gva) | (apply DW.at; exact rfl; exact rfl; exact gva)); (first | (refine GW.nilown (gw_append (e := 28) (z := 15) (n := 0) (m := n) (cs := []) rfl rfl rfl rfl pick0 (src_rs hr) subl_refl (by rw [hlen, hn]) (un_ones us) (by omega) (by omega) (fun a1 c1 => ?_)); rw [List.nil_append, Nat.zero_add]) | (refine gw_litn (cs := encU u4321) rfl rfl rfl rfl rfl (by decide) (fun lb => ?_)) | (refine gw_append (e := 28) (z := 15) (n := n) (m := 1) (cs := us.flatMap encU) (ys := encU u4321) rfl rfl rfl rfl (by exact pkx) (src_own (by exact pkx)) subl_refl rfl rfl (by omega) (by omega) (fun a2 c2 => ?_); rw [un_add]) | (apply gw_call (f := 6); exact evx; exact go6; intro G hG; refine SC.mono (splitQ_spec s us _ n _ hn hN hs hU G ((un_take us) ▸ (hn ▸ rs_take (sl_own (by exact pkx) hG) (by omega)))) ?_; rintro v M ⟨hq1, rfl⟩; (try dsimp only [List.nil_append, List.cons_append]); obtain ⟨o1, k1, e1, rfl⟩ := splitQ_tup hq1; obtain ⟨v1, v2, v3, v4, v5, hv⟩ := preV_cells o1; unfold tupV; rw [hv]) | (apply gw_call (f := 7); exact evx; exact go7; intro G hG; refine SC.mono (rsplit_spec s us ua n uc hn hN hs G (hr.ext hG.ext)) ?_; rintro v M ⟨hq2, rfl⟩; (try dsimp only [List.nil_append, List.cons_append]); obtain rfl := splitQ_one hq2 hq1; unfold tupV; rw [hv]) | (apply gw_alloc (d := some 6); exact rfl; intro b6) | (apply gw_alloc (d := some 9); exact rfl; intro b9) | (apply gw_asg; exact rfl) | (apply gw_alloc; exact rfl; intro b) | (apply gw_lit1; exact rfl; exact rfl; exact rfl; exact rfl; decide; intro b) | (apply gw_lit2; exact rfl; exact rfl; exact rfl; exact rfl; intro b) | (apply gw_lit3; exact rfl; exact rfl; exact rfl; exact rfl; exact rfl; intro b) | (apply gw_ap1; exact rfl; exact rfl; infer_instance; infer_instance; exact rfl; exact rfl; exact rfl; exact rfl; omega; intro a c) | (apply gw_ap1n; exact rfl; exact rfl; infer_instance; exact rfl; exact rfl; exact rfl; exact rfl; omega; intro a c) | (refine gw_stx sto ?_) | (fail))) | ((first | apply RW.s1 | apply RW.s0 | (apply DW.sa; exact rfl)); exact gva) | apply CW_seq | apply CW_block | (apply CW_region; intro K hK) | ((first | apply CW_skip | apply CW_exit); refine xsg xsl ?_) | (apply CW_condT; exact rfl; first | assumption | exact rfl) | (apply CW_condF; exact rfl; first | assumption | exact rfl) | (apply CW_condX; exact rfl; exact tst; exact tst; all_goals (intro hq hc; (try contradiction); (try (exfalso; omega)))) | (refine CW_draw (id := 9) [] [(0, false), (1, false), (2, false), (3, false), (4, false), (5, false), (6, false), (7, false), (8, false)] mixed (by kernel_rfl) (fun K hK => ?_)) | apply DW.nil | fail)
  refine CW_loop (fun m l L' => ∃ i : Nat, m = n - i ∧ l = [(1, true, .slice ua n uc), (5, true, .slice a2 (n + 1) c2), (6, true, .pointer (some ⟨b6, 0, none⟩)), (7, true, .int .i64 k1), (8, true, .int .i64 e1), (9, true, .pointer (some ⟨b9, 0, none⟩)), (10, true, .int .i64 k1), (11, true, .int .i64 e1), (12, true, .int .i64 (i : Nat))] ∧
      L' = [.own 28 15 a2 (n + 1) c2 ((us ++ [u4321]).flatMap encU), .box b6 30 [.string v1, .string v2, .string v3, .string v4, .bool v5], .box b9 30 [.string v1, .string v2, .string v3, .string v4, .bool v5]] ∧ i ≤ n)
    ⟨_, _, _, ⟨0, rfl, rfl, rfl, Nat.zero_le _⟩, by exact sbe, by exact sbl⟩ ?_
  rintro m l L' ⟨i, rfl, rfl, rfl, hi⟩
  by_cases hin : i < n
  · obtain ⟨u, hu⟩ := un_at hn hin
    have hu2 : (us ++ [u4321])[i]? = some u := by rw [List.getElem?_append_left (by omega)]; exact hu
    repeat' (first | ((first | apply RW.q1 | (apply DW.q1; exact rfl)); (first | (apply q_lar; exact rfl; exact rfl; exact hr; exact un_el hu (by omega); exact rfl; decide) | (apply q_lao; exact rfl; exact rfl; infer_instance; exact un_el hu2 (by omega); exact rfl; decide) | (apply q_stne; exact rfl; exact rfl; exact guardU; exact eqU_refl 9997 u) | (apply q_bld; exact rfl; first | exact bld28_0 _) | exact qt)) | ((first | apply RW.qg | (apply DW.qg; exact rfl)); exact gvx; intro hg; have hg' := hg; (try simp only [jC, jD, jA, jB, jE, jG, jF, jH] at hg'); (first | (apply q_lar; exact rfl; exact evgx; exact hr; exact un_el hu (by omega); exact rfl; decide) | (apply q_lao; exact rfl; exact evgx; infer_instance; exact un_el hu2 (by omega); exact rfl; decide) | (apply q_stne; exact evgx; exact evgx; exact guardU; exact eqU_refl 9997 u) | (apply q_bld; exact rfl; first | exact bld28_0 _) | exact qu)) | apply RW.nil | (refine hK _ _ ?_; clear hK; refine xsg xsl ?_) | ((first | apply RW.a1 | apply RW.a0 | (apply DW.a1; exact rfl; exact rfl) | (apply DW.a0; exact rfl; exact rfl) | (apply DW.ag1; exact rfl) | (apply RW.at; exact gva) | (apply DW.at; exact rfl; exact rfl; exact gva)); (first | (apply gw_asg; exact rfl) | (apply gw_alloc; exact rfl; intro b) | (apply gw_lit1; exact rfl; exact rfl; exact rfl; exact rfl; decide; intro b) | (apply gw_lit2; exact rfl; exact rfl; exact rfl; exact rfl; intro b) | (apply gw_lit3; exact rfl; exact rfl; exact rfl; exact rfl; exact rfl; intro b) | (apply gw_ap1; exact rfl; exact rfl; infer_instance; infer_instance; exact rfl; exact rfl; exact rfl; exact rfl; omega; intro a c) | (apply gw_ap1n; exact rfl; exact rfl; infer_instance; exact rfl; exact rfl; exact rfl; exact rfl; omega; intro a c) | (refine gw_stx sto ?_) | (fail))) | ((first | apply RW.s1 | apply RW.s0 | (apply DW.sa; exact rfl)); exact gva) | apply CW_seq | apply CW_block | (apply CW_region; intro K hK) | ((first | apply CW_skip | apply CW_exit); refine xsg xsl ?_) | (apply CW_condT; exact rfl; first | assumption | exact rfl) | (apply CW_condF; exact rfl; first | assumption | exact rfl) | (apply CW_condX; exact rfl; exact tst; exact tst; all_goals (intro hq hc; (try contradiction); (try (exfalso; omega)))) | (refine CW_draw (id := 9) [] [(0, false), (1, false), (2, false), (3, false), (4, false), (5, false), (6, false), (7, false), (8, false)] mixed (by kernel_rfl) (fun K hK => ?_)) | apply DW.nil | fail)
    all_goals exact ⟨_, _, _, ⟨i + 1, rfl, rfl, rfl, by omega⟩, by exact sbe, by exact sbl, by omega⟩
  · have hii : i = n := by omega
    repeat' (first | ((first | apply RW.q1 | (apply DW.q1; exact rfl)); (first | (apply q_steq; exact rfl; exact rfl; exact guard28; exact eqP_refl 9997 _ _ _ _ _) | (apply q_ieT; exact rfl; exact rfl) | (apply q_ldo; exact rfl; exact rfl; infer_instance; exact un_nm hel (by omega)) | (apply q_sbT (b := [52, 51, 50, 49]); exact rfl; exact rfl; exact rfl) | (apply q_bld; exact rfl; first | exact bld28_0 _) | exact qt)) | ((first | apply RW.qg | (apply DW.qg; exact rfl)); exact gvx; intro hg; have hg' := hg; (try simp only [jC, jD, jA, jB, jE, jG, jF, jH] at hg'); (first | (apply q_steq; exact evgx; exact evgx; exact guard28; exact eqP_refl 9997 _ _ _ _ _) | (apply q_ieT; exact evgx; exact evgx) | (apply q_ldo; exact rfl; exact evgx; infer_instance; exact un_nm hel (by omega)) | (apply q_sbT (b := [52, 51, 50, 49]); exact evgx; exact rfl; exact rfl) | (apply q_bld; exact rfl; first | exact bld28_0 _) | exact qu)) | apply RW.nil | (refine hK _ _ ?_; clear hK; refine xsg xsl ?_) | ((first | apply RW.a1 | apply RW.a0 | (apply DW.a1; exact rfl; exact rfl) | (apply DW.a0; exact rfl; exact rfl) | (apply DW.ag1; exact rfl) | (apply RW.at; exact gva) | (apply DW.at; exact rfl; exact rfl; exact gva)); (first | (apply gw_call (f := 8); exact evx; exact go8; intro G hG; refine SC.mono (known_spec G) ?_; rintro v M ⟨rfl, rfl⟩; (try dsimp only [List.nil_append, List.cons_append])) | (apply gw_asg; exact rfl) | (apply gw_alloc; exact rfl; intro b) | (apply gw_lit1; exact rfl; exact rfl; exact rfl; exact rfl; decide; intro b) | (apply gw_lit2; exact rfl; exact rfl; exact rfl; exact rfl; intro b) | (apply gw_lit3; exact rfl; exact rfl; exact rfl; exact rfl; exact rfl; intro b) | (apply gw_ap1; exact rfl; exact rfl; infer_instance; infer_instance; exact rfl; exact rfl; exact rfl; exact rfl; omega; intro a c) | (apply gw_ap1n; exact rfl; exact rfl; infer_instance; exact rfl; exact rfl; exact rfl; exact rfl; omega; intro a c) | (refine gw_stx sto ?_) | (fail))) | ((first | apply RW.s1 | apply RW.s0 | (apply DW.sa; exact rfl)); exact gva) | apply CW_seq | apply CW_block | (apply CW_region; intro K hK) | ((first | apply CW_skip | apply CW_exit); refine xsg xsl ?_) | (apply CW_condT; exact rfl; first | assumption | exact rfl) | (apply CW_condF; exact rfl; first | assumption | exact rfl) | (apply CW_condX; exact rfl; exact tst; exact tst; all_goals (intro hq hc; (try contradiction); (try (exfalso; omega)))) | (refine CW_draw (id := 9) [] [(0, false), (1, false), (2, false), (3, false), (4, false), (5, false), (6, false), (7, false), (8, false)] mixed (by kernel_rfl) (fun K hK => ?_)) | apply DW.nil | fail)
    (refine CW_ret ?_; refine xsg xsl ?_; refine bodyS_ret (L' := []) (rs := [.tmp 4]) (by kernel_rfl) (by (repeat (apply resok_tmp; exact rfl)); exact resok_nil) (by exact sbl) ?_)
    exact ⟨rfl, rfl⟩
end Go.Proofs.YtnhbipachchlgaaGreat.HL
namespace Go.Proofs.YtnhbipachchlgaaGreat.HL
open Go
set_option linter.unusedVariables false
open Go.ChangeShapes Go.WideShapes Go.ChangeAt Go.RowKit

theorem list15 {α : Type} {l : List α} (h : l.length = 15) : ∃ c0 c1 c2 c3 c4 c5 c6 c7 c8 c9 c10 c11 c12 c13 c14, l = [c0, c1, c2, c3, c4, c5, c6, c7, c8, c9, c10, c11, c12, c13, c14] := by
  match l, h with
  | [c0, c1, c2, c3, c4, c5, c6, c7, c8, c9, c10, c11, c12, c13, c14], _ => exact ⟨c0, c1, c2, c3, c4, c5, c6, c7, c8, c9, c10, c11, c12, c13, c14, rfl⟩
theorem list8 {α : Type} {l : List α} (h : l.length = 8) : ∃ e1 e2 e3 e4 e5 e6 e7 e8, l = [e1, e2, e3, e4, e5, e6, e7, e8] := by
  match l, h with
  | [e1, e2, e3, e4, e5, e6, e7, e8], _ => exact ⟨e1, e2, e3, e4, e5, e6, e7, e8, rfl⟩
theorem list6 {α : Type} {l : List α} (h : l.length = 6) : ∃ y0 y1 y2 y3 y4 y5, l = [y0, y1, y2, y3, y4, y5] := by
  match l, h with
  | [y0, y1, y2, y3, y4, y5], _ => exact ⟨y0, y1, y2, y3, y4, y5, rfl⟩
theorem list2 {α : Type} {l : List α} (h : l.length = 2) : ∃ y0 y1, l = [y0, y1] := by
  match l, h with
  | [y0, y1], _ => exact ⟨y0, y1, rfl⟩

theorem one_str {H : Type} {enc : TypeId × Value → H} {W : World} {m : Nat} {c : Value} {y : DataW H × List MemPlace} (h : DataW.trod enc Tryz.prog W 0 (fun _ => true) true m 9 [c] = some y) : ∃ l, c = .string (bstr l) ∧ Rows.uptoBulk y.1 = l.length + 1 := by
  obtain ⟨s, h1, h2, _⟩ := DataW.trod_string Tryz.underlying9 h
  obtain ⟨l, rfl⟩ := bstr_of s
  cases h1
  subst h2
  exact ⟨l, rfl, by simp [Rows.uptoBulk, bstr]⟩
theorem cell9 : Tryz.prog.cellsOf 9 = 1 := by kernel_rfl
theorem cell3 : Tryz.prog.cellsOf 3 = 1 := by kernel_rfl
theorem cellR : Tryz.prog.cellsOf 26 = 2 := by kernel_rfl
theorem cellD : Tryz.prog.cellsOf 24 = 8 := by kernel_rfl
theorem cellU : Tryz.prog.cellsOf 28 = 15 := by kernel_rfl
theorem rat_cells {H : Type} {enc : TypeId × Value → H} {W : World} {m : Nat} {a b : Value} {y : DataW H × List MemPlace} (h : DataW.trod enc Tryz.prog W 0 (fun _ => true) true m 26 [a, b] = some y) : ∃ u v, a = .string u ∧ b = .string v := by
  obtain ⟨xs, k, _, hx, _, hxl, hf⟩ := DataW.trod_struct Tryz.underlying26 h
  obtain ⟨y0, y1, rfl⟩ := list2 (l := xs) hxl
  have f0 : DataW.trod enc Tryz.prog W 0 (fun _ => true) true k 9 (([a, b].drop 0).take (Tryz.prog.cellsOf 9)) = some y0 := hf 0 _ rfl
  have f1 : DataW.trod enc Tryz.prog W 0 (fun _ => true) true k 9 (([a, b].drop 1).take (Tryz.prog.cellsOf 9)) = some y1 := hf 1 _ rfl
  rw [cell9] at f0 f1
  obtain ⟨u, h0, _⟩ := one_str (c := a) f0
  obtain ⟨v, h1, _⟩ := one_str (c := b) f1
  exact ⟨_, _, h0, h1⟩
def UnR {H : Type} (u : Un) (d : DataW H) : Prop := u.nm.length + u.sy.length + 1 ≤ Rows.uptoBulk d
theorem unit_cells {H : Type} {enc : TypeId × Value → H} {W : World} : ∀ fuel cs (x : DataW H × List MemPlace), DataW.trod enc Tryz.prog W 0 (fun _ => true) true fuel 28 cs = some x → ∃ u : Un, cs = encU u ∧ UnR u x.1 := by
  intro fuel cs x h
  obtain ⟨xs, k, _, hx, hl, hxl, hf⟩ := DataW.trod_struct Tryz.underlying28 h
  rw [cellU] at hl
  obtain ⟨c0, c1, c2, c3, c4, c5, c6, c7, c8, c9, c10, c11, c12, c13, c14, rfl⟩ := list15 hl
  obtain ⟨y0, y1, y2, y3, y4, y5, rfl⟩ := list6 (l := xs) hxl
  have f0 : DataW.trod enc Tryz.prog W 0 (fun _ => true) true k 9 (([c0, c1, c2, c3, c4, c5, c6, c7, c8, c9, c10, c11, c12, c13, c14].drop 0).take (Tryz.prog.cellsOf 9)) = some y0 := hf 0 _ rfl
  rw [cell9] at f0
  have f1 : DataW.trod enc Tryz.prog W 0 (fun _ => true) true k 9 (([c0, c1, c2, c3, c4, c5, c6, c7, c8, c9, c10, c11, c12, c13, c14].drop 1).take (Tryz.prog.cellsOf 9)) = some y1 := hf 1 _ rfl
  rw [cell9] at f1
  have f2 : DataW.trod enc Tryz.prog W 0 (fun _ => true) true k 24 (([c0, c1, c2, c3, c4, c5, c6, c7, c8, c9, c10, c11, c12, c13, c14].drop 2).take (Tryz.prog.cellsOf 24)) = some y2 := hf 2 _ rfl
  rw [cellD] at f2
  have f3 : DataW.trod enc Tryz.prog W 0 (fun _ => true) true k 26 (([c0, c1, c2, c3, c4, c5, c6, c7, c8, c9, c10, c11, c12, c13, c14].drop 10).take (Tryz.prog.cellsOf 26)) = some y3 := hf 3 _ rfl
  rw [cellR] at f3
  have f4 : DataW.trod enc Tryz.prog W 0 (fun _ => true) true k 26 (([c0, c1, c2, c3, c4, c5, c6, c7, c8, c9, c10, c11, c12, c13, c14].drop 12).take (Tryz.prog.cellsOf 26)) = some y4 := hf 4 _ rfl
  rw [cellR] at f4
  have f5 : DataW.trod enc Tryz.prog W 0 (fun _ => true) true k 3 (([c0, c1, c2, c3, c4, c5, c6, c7, c8, c9, c10, c11, c12, c13, c14].drop 14).take (Tryz.prog.cellsOf 3)) = some y5 := hf 5 _ rfl
  rw [cell3] at f5
  obtain ⟨n, rfl, b0⟩ := one_str (c := c0) f0
  obtain ⟨sy, rfl, b1⟩ := one_str (c := c1) f1
  obtain ⟨d, h2, h3, _⟩ := open_ints Tryz.underlying24 Tryz.underlying3 (by kernel_rfl) cellD f2
  obtain ⟨e1, e2, e3, e4, e5, e6, e7, e8, rfl⟩ := list8 h3
  have h2' : [c2, c3, c4, c5, c6, c7, c8, c9] = [.int .i64 e1, .int .i64 e2, .int .i64 e3, .int .i64 e4, .int .i64 e5, .int .i64 e6, .int .i64 e7, .int .i64 e8] := h2
  obtain ⟨r1, r2, rfl, rfl⟩ := rat_cells (a := c10) (b := c11) f3
  obtain ⟨r3, r4, rfl, rfl⟩ := rat_cells (a := c12) (b := c13) f4
  obtain ⟨tk, h5, _⟩ := DataW.trod_int Tryz.underlying3 f5
  have h5' : [c14] = [.int .i64 tk] := h5
  cases h2'
  cases h5'
  refine ⟨⟨n, sy, e1, e2, e3, e4, e5, e6, e7, e8, r1, r2, r3, r4, tk⟩, rfl, ?_⟩
  unfold UnR
  rw [hx]
  simp only [List.map_cons, List.map_nil, Rows.uptoBulk, Rows.uptoBulkAll, b0, b1]
  omega
set_option maxRecDepth 100000 in
theorem bulk_pos {H : Type} (x : DataW H) : 1 ≤ Rows.uptoBulk x := by
  unfold Rows.uptoBulk
  split <;> omega
theorem bulk_len {H : Type} (ds : List (DataW H)) : ds.length ≤ Rows.uptoBulkAll ds := by
  induction ds with
  | nil => exact Nat.zero_le _
  | cons x ds ih =>
    have := bulk_pos x
    rw [Rows.uptoBulkAll, List.length_cons]; omega
theorem bulk_at {H : Type} : ∀ {ds : List (DataW H)} {i : Nat} {d : DataW H}, ds[i]? = some d → Rows.uptoBulk d ≤ Rows.uptoBulkAll ds
  | [], _, _, h => by simp at h
  | x :: ds, 0, d, h => by
    obtain rfl : x = d := by simpa using h
    rw [Rows.uptoBulkAll]; omega
  | x :: ds, i + 1, d, h => by
    have := bulk_at (i := i) (ds := ds) (d := d) (by simpa using h)
    rw [Rows.uptoBulkAll]; omega
set_option maxRecDepth 100000 in
theorem open_units {H : Type} {enc : TypeId × Value → H} {W : World} {v : Value} {d : DataW H} {ps : List MemPlace} (hval : Value.okWide Tryz.prog W .any 0 22 v) (h : DataW.Trod enc Tryz.prog W 0 (fun _ => true) true 22 v d ps) :
    ∃ (a : Option Addr) (c : Nat) (l : List Un), v = .slice a l.length c ∧ Rs (allOf W) 15 a l.length c (l.flatMap encU) ∧ l.length ≤ Rows.uptoBulk d ∧ ∀ u ∈ l, u.nm.length ≤ Rows.uptoBulk d ∧ u.sy.length ≤ Rows.uptoBulk d := by
  obtain ⟨a0, len, cap, rfl⟩ := okWide_slice Tryz.underlying22 hval
  obtain ⟨fuel, hf⟩ := h
  obtain ⟨a, c, l, h1, h2, h3⟩ := open_rows (z := 15) Tryz.underlying22 cellU (by decide) unit_cells hf
  have e1 : (Value.slice a0 len cap).cells.toList = [.slice a0 len cap] := rfl
  rw [e1] at h1
  cases h1
  refine ⟨_, _, l, rfl, h2, ?_⟩
  rcases h3 with ⟨_, rfl⟩ | ⟨ds, r, h4, h5, h6⟩
  · exact ⟨Nat.zero_le _, fun u hu => by cases hu⟩
  · simp only at h4
    rw [h4, Rows.uptoBulk]
    have hb := bulk_len ds
    refine ⟨by omega, fun u hu => ?_⟩
    obtain ⟨i, hi⟩ := List.mem_iff_getElem?.1 hu
    have hlt : i < ds.length := by
      rcases Nat.lt_or_ge i l.length with h | h
      · omega
      · rw [List.getElem?_eq_none h] at hi; cases hi
    have hR := h6 i u _ hi (List.getElem?_eq_getElem hlt)
    have hB := bulk_at (List.getElem?_eq_getElem hlt)
    unfold UnR at hR
    omega
end Go.Proofs.YtnhbipachchlgaaGreat.HL
namespace Go.Proofs.YtnhbipachchlgaaGreat
namespace HL
open Go
open Go.ChangeShapes Go.WideShapes Go.ChangeAt Go.RowKit
open Go.ChangeMaps (open_string shut_string)
set_option linter.unusedVariables false
set_option linter.unusedSimpArgs false
set_option maxRecDepth 100000 in
theorem prefixSplits_contract (H : Type) (enc : TypeId × Value → H) (W : World) (base : Nat) (args : Array Value) (ds gs : List (DataW H)) (before : List MemPlace)
    (hval : ∀ (j : Nat) t v, Tryz.f3.params[j]? = some t → args[j]? = some v → Value.okWide Tryz.prog W .any base t v)
    (hW : DataW.Whole enc Tryz.prog Tryz.f3.params.toList Rows.prefixSplitsSpec.vars false W args.toList ds gs before) (hk : Rows.uptoSmall H (ds ++ gs) = true) :
    Calls Tryz.prog 3 args W fun e W' => ∃ v, e = .returned v ∧ Rows.prefixSplitsSpec.post enc Tryz.prog Tryz.f3 false true false false W args v W' := by
  have hW' := hW
  obtain ⟨p, q, hA0, hV, rfl, hfz, hnd⟩ := hW
  have hA : DataW.TrodAll enc Tryz.prog W 0 (fun _ => true) true Tryz.f3.params.toList args.toList ds p := hA0
  rw [Tryz.params3] at hA hval
  obtain ⟨v0, vs0, d0, ds0, p0, q0, hargs0, rfl, rfl, h0, r0⟩ := trodAll_cons hA
  obtain ⟨v1, vs1, d1, ds1, p1, q1, hargs1, rfl, rfl, h1, r1⟩ := trodAll_cons r0
  obtain ⟨rfl, rfl, rfl⟩ := trodAll_nil r1
  obtain rfl : args = #[v0, v1] := by cases args; simp_all
  obtain ⟨rfl, rfl⟩ := trodVars_none hV
  obtain ⟨s0, rfl, rfl, rfl, hm0⟩ := open_string Tryz.underlying9 (hval 0 9 v0 rfl rfl) h0
  obtain ⟨a1, c1, L1, rfl, hrs1, hl1, hb1⟩ := open_units (hval 1 22 v1 rfl rfl) h1
  clear hA0
  simp only [List.append_nil] at hW'
  simp only [List.append_nil] at hk
  have hsz := of_decide_eq_true hk
  simp only [Rows.uptoBulkAll, Rows.uptoBulk] at hsz
  obtain ⟨l0, rfl⟩ := bstr_of s0
  have law := (splits_law l0 L1 a1 _ c1 rfl (by omega) (by have e : (bstr l0).data.toList.length = l0.length := (by simp [bstr]); omega) (fun u hu => by have := hb1 u hu; omega) (allOf W) hrs1) (allOf W) (hs_nil _) W W (allOf_fit W)
  have htb : (Tryz.f3.params.toList.all fun t => (Tryz.prog).readableRec t && decide (t < (Tryz.prog).types.size)) = true := by kernel_rfl
  refine law.mono ?_
  rintro e W' ⟨v, H', he, hf, M, hM, hv⟩
  obtain rfl : v = .bool true := by first | exact hv | exact hv.1
  exact ⟨_, he, post_true laidOut htb rfl Tryz.underlying4 rfl hW' rfl rfl rfl hM.ext hf⟩

set_option maxRecDepth 100000 in
theorem prefixSplits_lifted (os : Os) (started : os.Started) (H : Type) (enc : TypeId × Value → H) (F : Stop.Interp) :
    ReturnsInHanded {} Tryz.checked os 3 .any ((Rows.OpenSpec.upto Rows.prefixSplitsSpec).pre6 enc Tryz.prog Tryz.f3 Rows.prefixSplitsUptoRow.domain false) (((Rows.OpenSpec.upto Rows.prefixSplitsSpec).at F).post enc Tryz.prog Tryz.f3 false true false false) := by
  refine returnsInHanded_of_cond (C := Tryz.checked) (s := Rows.OpenSpec.upto Rows.prefixSplitsSpec) (k := Rows.uptoSmall) rfl own0 started (by kernel_rfl) Tryz.func3
    (OpenSpec.witness (enc := enc) (C := Tryz.checked) (s := Rows.OpenSpec.upto Rows.prefixSplitsSpec) (k := Rows.uptoSmall) rfl false ⟨#[], #[.string ⟨#[]⟩, .slice none 0 0], []⟩ 8 (by kernel_rfl) (by kernel_rfl) (by kernel_rfl)
      (x := ([.lit (.string []), .nil], [], [])) (by kernel_rfl) rfl (by kernel_rfl)) ?_
  intro W base args ds gs before hval hW _ hk _
  exact prefixSplits_contract H enc W base args ds gs before hval hW hk
end HL
/-- THE GIVEN STATEMENT, SECOND FORM -/
theorem prefixSplits_saidUpto : Rows.PrefixSplitsUptoSaid :=
  OpenClaim.holds_of_cond 3 Tryz.f3 rfl rfl rfl rfl rfl rfl rfl ⟨rfl, rfl, rfl, rfl, rfl⟩ rfl rfl rfl rfl rfl (by kernel_rfl) Tryz.func3 (by kernel_rfl)
    (of_decide_eq_true (by kernel_rfl)) (by unfold Func.isWrapper; first | (rw [if_pos (by decide +kernel)]; kernel_rfl) | (rw [if_neg (by decide +kernel)]; exact ⟨rfl, rfl⟩))
    (fun os started H enc _ F => HL.prefixSplits_lifted os started H enc F)
end Go.Proofs.YtnhbipachchlgaaGreat
