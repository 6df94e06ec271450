/- LawScales: PfxZd: the law PrefixScales. Condition: the texts' lengths, which Go bounds. PfxZf: the law PrefixScales, walked. Condition: the texts' lengths, which Go bounds. OpenR: a number among the arguments, opened. No condition. PfxCf: the closing of the law PrefixScales: the given statement in full. No condition. -/
import Derived.Test.YtnhbipachchlgaaGreatBestB
import Derived.Test.YtnhbipachchlgaaGreatEng
import Derived.Test.YtnhbipachchlgaaGreatPrefsA
import Derived.Test.YtnhbipachchlgaaGreatClose7
import Derived.Test.YtnhbipachchlgaaGreatLibO
import Derived.Test.YtnhbipachchlgaaGreatPartsB
namespace Go.Proofs.YtnhbipachchlgaaGreat.HL
open Go
attribute [local irreducible] goFn thenS blockS bodyS CW RW DW GW QW NW SC Pick Picks SubL Rd NN ResOk SrcW subE hops hseg AW hgen HC qv bldv
set_option linter.unusedVariables false
set_option linter.unusedSimpArgs false

theorem readQ_int {p : Int} {q : Nat} (h1 : (Lib.decDigits p.natAbs).length ≤ 600) (h2 : (Lib.decDigits q).length ≤ 600) (h0 : 0 < q) (hg : p.natAbs.gcd q = 1) : readQ (decB p) (Lib.decDigits q) = some (p, q) := by
  have hw : wholeZ (decB p) = some p := by
    unfold wholeZ decB
    by_cases hp : p < 0
    · rw [if_pos hp, if_neg]
      · have hd : (45 :: Lib.decDigits p.natAbs).drop 1 = Lib.decDigits p.natAbs := rfl
        rw [hd, dec_dv, if_pos ⟨rfl, rightB_of_dec h1, by omega⟩]
        congr 1; omega
      · intro h
        exact right_take h rfl
    · rw [if_neg hp, if_pos (rightB_of_dec h1), dec_dv]
      congr 1; omega
  unfold readQ
  rw [hw]
  simp only
  rw [dec_dv, if_pos ⟨rightB_of_dec h2, by omega, hg⟩]
theorem fn_props {X Y : Int} (hY : 0 < Y) : ∃ q : Nat, fd X Y = (q : Int) ∧ 0 < q ∧ (fn X Y).natAbs.gcd q = 1 ∧ fn X Y * Y = X * q := by
  have hYn : 0 < Y.natAbs := by omega
  have hg0 : 0 < X.natAbs.gcd Y.natAbs := Nat.gcd_pos_of_pos_right _ hYn
  obtain ⟨x', hx'⟩ := Nat.gcd_dvd_left X.natAbs Y.natAbs
  obtain ⟨y', hy'⟩ := Nat.gcd_dvd_right X.natAbs Y.natAbs
  have ex : X.natAbs / X.natAbs.gcd Y.natAbs = x' := Nat.div_eq_of_eq_mul_right hg0 hx'
  have ey : Y.natAbs / X.natAbs.gcd Y.natAbs = y' := Nat.div_eq_of_eq_mul_right hg0 hy'
  refine ⟨y', ?_, ?_, ?_, ?_⟩
  · unfold fd; rw [ey]
  · rcases Nat.eq_zero_or_pos y' with h | h
    · rw [h, Nat.mul_zero] at hy'; omega
    · exact h
  · unfold fn
    rw [sg_abs, ex]
    have h1 : X.natAbs.gcd Y.natAbs * x'.gcd y' = X.natAbs.gcd Y.natAbs * 1 := by
      rw [← Nat.gcd_mul_left, ← hx', ← hy', Nat.mul_one]
    exact Nat.eq_of_mul_eq_mul_left hg0 h1
  · unfold fn
    rw [ex, decide_eq_false (p := Y < 0) (by omega)]
    have e1 : (Y : Int) = ((X.natAbs.gcd Y.natAbs : Nat) : Int) * y' := by rw [← Int.natCast_mul, ← hy']; omega
    have e2 : (X.natAbs : Int) = ((X.natAbs.gcd Y.natAbs : Nat) : Int) * x' := by rw [← Int.natCast_mul, ← hx']
    unfold sg
    by_cases hn : X < 0
    · rw [decide_eq_true hn]
      have e3 : X = -(X.natAbs : Int) := by omega
      simp only [Bool.bne_false, if_true]
      generalize X.natAbs.gcd Y.natAbs = g at e1 e2
      rw [e1, e3, e2, Int.neg_mul, Int.neg_mul, Int.mul_comm (g : Int) x', Int.mul_assoc]
    · rw [decide_eq_false hn]
      have e3 : X = (X.natAbs : Int) := by omega
      simp only [bne_self_eq_false]
      rw [if_neg (by decide)]
      generalize X.natAbs.gcd Y.natAbs = g at e1 e2
      rw [e1, e3, e2, Int.mul_comm (g : Int) x', Int.mul_assoc]
/-- a number told, times the factor, is the number -/
theorem back_spec {n d : List UInt8} {a : Int} {q : Nat} (h : readQ n d = some (a, q)) {x : Px} (hx : x ∈ pfx) {X Y : List UInt8} (hT : toldV (fn (a * (powN 1 (byP x) x.pw : Nat)) ((q : Int) * (powN (byP x) 1 x.pw : Nat))) (fd (a * (powN 1 (byP x) x.pw : Nat)) ((q : Int) * (powN (byP x) 1 x.pw : Nat))) = .tuple #[ratV X Y, .int .i64 0]) (H : Hp) :
    SC Tryz.prog 10 [ratV X Y, ratV (facN x) (facD x)] H [] (fun v M => v = .tuple #[ratV n d, .int .i64 0] ∧ M = []) := by
  obtain ⟨t1, t2, t3, t4, _, _⟩ := readQ_txt h
  have h0 : 0 < byP x := by have := (byP_le x).2; omega
  have hF := powN_pos (n := x.pw) h0 (by decide : 0 < 1)
  have hD := powN_pos (n := x.pw) (by decide : 0 < 1) h0
  have hY : 0 < (q : Int) * (powN (byP x) 1 x.pw : Nat) := Int.mul_pos (by omega) (by omega)
  obtain ⟨r, e1, e2, e3, e4⟩ := fn_props (X := a * (powN 1 (byP x) x.pw : Nat)) hY
  have hb := told_back h
  rw [e1] at hT
  generalize fn (a * (powN 1 (byP x) x.pw : Nat)) ((q : Int) * (powN (byP x) 1 x.pw : Nat)) = p at hT e3 e4
  unfold toldV at hT
  rw [den_pos e2] at hT
  split at hT
  · rename_i hl
    have hX : X = decB p ∧ Y = Lib.decDigits r := by
      rw [decB_nat] at hT
      have k := Value.tuple.inj hT
      have k1 : ratV (decB p) (Lib.decDigits r) = ratV X Y := by
        have := congrArg (fun z : Array Value => z[0]?) k
        exact Option.some.inj this
      have k2 := Value.agg.inj k1
      have k3 : (some (Value.string (bstr (decB p)))) = some (Value.string (bstr X)) := congrArg (fun z : Array Value => z[0]?) k2
      have k4 : (some (Value.string (bstr (Lib.decDigits r)))) = some (Value.string (bstr Y)) := congrArg (fun z : Array Value => z[1]?) k2
      exact ⟨(bstr_inj (Value.string.inj (Option.some.inj k3))).symm, (bstr_inj (Value.string.inj (Option.some.inj k4))).symm⟩
    obtain ⟨rfl, rfl⟩ := hX
    rw [decB_nat] at hl
    have hr := readQ_int hl.1 hl.2 e2 e3
    have := mul_ok _ _ _ _ _ _ _ _ hr (readQ_fac hx) H
    have hq : (p * (powN (byP x) 1 x.pw : Nat)) * (q : Int) = a * ((r : Int) * (powN 1 (byP x) x.pw : Nat)) := by
      rw [Int.mul_assoc, Int.mul_comm ((powN (byP x) 1 x.pw : Nat) : Int) (q : Int), e4, Int.mul_assoc, Int.mul_comm ((powN 1 (byP x) x.pw : Nat) : Int)]
    obtain ⟨f1, f2⟩ := fn_ratio (Int.mul_pos (by omega) (by omega)) t3 t4 hq
    rw [f1, f2, hb] at this
    exact this
  · have k := Value.tuple.inj hT
    have k3 : (some (Value.int .i64 7)) = some (Value.int .i64 0) := congrArg (fun z : Array Value => z[1]?) k
    cases Option.some.inj k3
end Go.Proofs.YtnhbipachchlgaaGreat.HL
namespace Go.Proofs.YtnhbipachchlgaaGreat.HL
open Go
attribute [local irreducible] goFn thenS blockS bodyS CW RW DW GW QW NW SC Pick Picks SubL Rd NN ResOk SrcW subE hops hseg AW hgen HC qv bldv
set_option linter.unusedVariables false
set_option linter.unusedSimpArgs false

theorem eqP_dif {a a2 : ByteArray} (b c d : ByteArray) (f : Bool) (b2 c2 d2 : ByteArray) (f2 : Bool) (hne : a ≠ a2) : eqF Tryz.prog 10000 30 (.agg #[.string a, .string b, .string c, .string d, .bool f]) (.agg #[.string a2, .string b2, .string c2, .string d2, .bool f2]) = some false := by
  have h : ∀ (e : Nat) (c d : ByteArray), eqF Tryz.prog (e + 1) 9 (.string c) (.string d) = some (decide (c = d)) := fun e c d => eqF_str
  rw [show (10000 : Nat) = 9997 + 1 + 1 + 1 from rfl, eqF_struct Tryz.stoodInHeld30]
  have hR : eqF Tryz.prog (9997 + 1 + 1) 26 (.agg #[.string c, .string d]) (.agg #[.string c2, .string d2]) = some (decide (c = c2) && (decide (d = d2) && true)) := by
    rw [eqF_struct Tryz.stoodInHeld26]
    refine eqFs_cons (by decide) (a := .string c) (b := .string c2) (partv1 rfl rfl) (partv1 rfl rfl) (h _ c c2) ?_
    exact eqFs_cons (by decide) (a := .string d) (b := .string d2) (partv1 rfl rfl) (partv1 rfl rfl) (h _ d d2) eqFs_nil
  have h0 := h (9997 + 1) a a2
  rw [decide_eq_false hne] at h0
  refine eqFs_cons (r := false) (by decide) (a := .string a) (b := .string a2) (partv1 rfl rfl) (partv1 rfl rfl) h0 ?_ (c := decide (b = b2) && ((decide (c = c2) && (decide (d = d2) && true)) && ((f == f2) && true)))
  refine eqFs_cons (by decide) (a := .string b) (b := .string b2) (partv1 rfl rfl) (partv1 rfl rfl) (h _ b b2) ?_
  refine eqFs_cons (by decide) (a := .agg #[.string c, .string d]) (b := .agg #[.string c2, .string d2]) (partv2 rfl rfl) (partv2 rfl rfl) hR ?_
  exact eqFs_cons (by decide) (a := .bool f) (b := .bool f2) (partv1 rfl rfl) (partv1 rfl rfl) eqF_bool eqFs_nil
theorem pfx_nmne : ∀ x ∈ pfx, x.nm ≠ [] := by decide
section
variable {P : Program} {l : Ents} {H : Hp} {L : List Res} {d : Option Tmp} {T : TypeId} {pos : String} {aft : Array Edge} {gd : Option (Nat × Bool)} {t ty : TypeId} {x y : Operand}
theorem q_beT {a : Bool} [hu : Und P t .bool] (hx : evg l true x = some (.bool a)) (hy : evg l true y = some (.bool a)) : QW P l H L ⟨d, .binOp .eql t x y ty, T, pos, aft, gd⟩ (.bool true) := by
  have := q_beq (P := P) (l := l) (H := H) (L := L) (d := d) (T := T) (pos := pos) (aft := aft) (gd := gd) (t := t) (ty := ty) hx hy
  simpa using this
end
theorem told_err {p q : Int} {X Y : List UInt8} {e : Int} (h : toldV p q = .tuple #[ratV X Y, .int .i64 e]) : e = 0 ∨ e = 7 := by
  unfold toldV at h
  split at h
  · have k3 : (some (Value.int .i64 0)) = some (Value.int .i64 e) := congrArg (fun z : Array Value => z[1]?) (Value.tuple.inj h)
    have := Option.some.inj k3
    cases this; exact .inl rfl
  · have k3 : (some (Value.int .i64 7)) = some (Value.int .i64 e) := congrArg (fun z : Array Value => z[1]?) (Value.tuple.inj h)
    have := Option.some.inj k3
    cases this; exact .inr rfl
theorem pfx_bne {x : Px} (hx : x ∈ pfx) : bstr x.nm ≠ ⟨#[]⟩ := fun k => pfx_nmne x hx (bstr_inj (b := []) k)
theorem bestV_some (x : Px) (X Y : List UInt8) (e : Int) : bestV (some x) X Y e = .tuple #[.agg #[.string (bstr x.nm), .string (bstr x.sy), .string (bstr (facN x)), .string (bstr (facD x)), .bool x.bn], .agg #[.string (bstr X), .string (bstr Y)], .int .i64 e] := rfl
theorem bestV_none (X Y : List UInt8) (e : Int) : bestV none X Y e = .tuple #[.agg #[.string ⟨#[]⟩, .string ⟨#[]⟩, .string ⟨#[]⟩, .string ⟨#[]⟩, .bool false], .agg #[.string (bstr X), .string (bstr Y)], .int .i64 e] := rfl
theorem best_S (n d : List UInt8) (a : Int) (q : Nat) (bn : Bool) (h : readQ n d = some (a, q)) (H : Hp) :
    SC Tryz.prog 9 [ratV n d, .bool bn] H [] (fun v M => BestS n d a q bn v ∧ M = []) := by
  cases bn with
  | true => exact best_B n d a q h H
  | false => exact best_N n d a q h H
set_option maxHeartbeats 4000000 in
set_option maxRecDepth 100000 in
theorem scales_law (n d : List UInt8) (bn : Bool) (hn : (n.length : Int) ≤ 9223372036854775807) (hd : (d.length : Int) ≤ 9223372036854775807) (H : Hp) :
    SC Tryz.prog 4 [ratV n d, .bool bn] H [] (fun v M => v = .bool true ∧ M = []) := by
  cases h : readQ n d with
  | none =>
    have hB := fun G => best_no n d bn hn hd h G
    (refine SC_intro Tryz.func4 rfl (by kernel_rfl) (by rw [Tryz.ntmps4]; exact Nat.le_of_ble_eq_true rfl) ?_; simp only [Tryz.ntmps4, argE, Nat.reduceAdd])
    
    repeat' (first | (apply RW.q1; (first | (apply q_bld; exact rfl; first | exact bld30_) | exact qt)) | (apply RW.qg; exact gvx; intro hg; have hg' := hg; (try simp only [jC, jD, jA, jB, jE, jG, jF, jH] at hg'); (first | (apply q_bld; exact rfl; first | exact bld30_) | exact qu)) | apply RW.nil | (refine hK _ _ ?_; clear hK; refine xsg xsl ?_) | ((first | apply RW.a1 | apply RW.a0 | (apply RW.at; exact gva)); (first | (apply gw_call (f := 9); exact evx; exact go9; intro G hG; refine SC.mono (hB G) ?_; rintro v M ⟨rfl, rfl⟩; (try dsimp only [List.nil_append, List.cons_append])) | (apply gw_call (f := 8); exact evx; exact go8; intro G hG; refine SC.mono (known_spec G) ?_; rintro v M ⟨rfl, rfl⟩; (try dsimp only [List.nil_append, List.cons_append])) | (apply gw_asg; exact rfl) | (apply gw_alloc; exact rfl; intro b) | (apply gw_box; exact rfl; exact rfl; intro b) | (refine gw_stx sto ?_) | (fail))) | ((first | apply RW.s1 | apply RW.s0); exact gva) | apply CW_seq | apply CW_block | (apply CW_region; intro K hK) | ((first | apply CW_skip | apply CW_exit); refine xsg xsl ?_) | (apply CW_condT; exact rfl; first | assumption | exact rfl) | (apply CW_condF; exact rfl; first | assumption | exact rfl) | (apply CW_condX; exact rfl; exact tst; exact tst; all_goals (intro hq hc; (try contradiction); (try (exfalso; omega)))) | fail)
    (refine CW_ret ?_; refine xsg xsl ?_; refine bodyS_ret (L' := []) (rs := [.tmp 4]) (by kernel_rfl) (by (repeat (apply resok_tmp; exact rfl)); exact resok_nil) (by exact sbl) ?_)
    exact ⟨rfl, rfl⟩
  | some p =>
    obtain ⟨a, q⟩ := p
    have hB := fun G => best_S n d a q bn h G
    (refine SC_intro Tryz.func4 rfl (by kernel_rfl) (by rw [Tryz.ntmps4]; exact Nat.le_of_ble_eq_true rfl) ?_; simp only [Tryz.ntmps4, argE, Nat.reduceAdd])
    
    repeat' (first | (apply RW.q1; (first | (apply q_steq; exact rfl; exact rfl; exact guard28; exact eqP_refl 9997 _ _ _ _ _) | (apply q_steq; exact rfl; exact rfl; exact guard28; exact eqP_dif _ _ _ _ _ _ _ _ hne) | (apply q_steq; exact rfl; exact rfl; exact guard26; exact eqR_refl 9998 _ _) | (apply q_beT; exact rfl; exact rfl) | (apply q_bld; exact rfl; first | exact bld30_) | exact qt)) | (apply RW.qg; exact gvx; intro hg; have hg' := hg; (try simp only [jC, jD, jA, jB, jE, jG, jF, jH] at hg'); (first | (apply q_steq; exact evgx; exact evgx; exact guard28; exact eqP_refl 9997 _ _ _ _ _) | (apply q_steq; exact evgx; exact evgx; exact guard28; exact eqP_dif _ _ _ _ _ _ _ _ hne) | (apply q_steq; exact evgx; exact evgx; exact guard26; exact eqR_refl 9998 _ _) | (apply q_beT; exact evgx; exact evgx) | (apply q_bld; exact rfl; first | exact bld30_) | exact qu)) | apply RW.nil | (refine hK _ _ ?_; clear hK; refine xsg xsl ?_) | ((first | apply RW.a1 | apply RW.a0 | (apply RW.at; exact gva)); (first | (apply gw_call (f := 9); exact evx; exact go9; intro G hG; refine SC.mono (hB G) ?_; rintro v M ⟨hq1, rfl⟩; (try dsimp only [List.nil_append, List.cons_append]); (rcases hq1 with rfl | ⟨x, hx, hxb, X, Y, e, hT, ⟨rfl, rfl⟩ | ⟨he, rfl⟩⟩) <;> (try rw [bestV_none]) <;> (try rw [bestV_some]) <;> (try (have hne := pfx_bne hx)) <;> (try (have hbk := back_spec h hx hT)) <;> (try cases hxb) <;> (try (obtain rfl := (told_err hT).resolve_left he))) | (apply gw_call (f := 8); exact evx; exact go8; intro G hG; refine SC.mono (known_spec G) ?_; rintro v M ⟨rfl, rfl⟩; (try dsimp only [List.nil_append, List.cons_append])) | (apply gw_call (f := 10); exact evx; exact go10; intro G hG; refine SC.mono (hbk G) ?_; rintro v M ⟨rfl, rfl⟩; (try dsimp only [List.nil_append, List.cons_append])) | (apply gw_asg; exact rfl) | (apply gw_alloc; exact rfl; intro b) | (apply gw_box; exact rfl; exact rfl; intro b) | (refine gw_stx sto ?_) | (fail))) | ((first | apply RW.s1 | apply RW.s0); exact gva) | apply CW_seq | apply CW_block | (apply CW_region; intro K hK) | ((first | apply CW_skip | apply CW_exit); refine xsg xsl ?_) | (apply CW_condT; exact rfl; first | assumption | exact rfl) | (apply CW_condF; exact rfl; first | assumption | exact rfl) | (apply CW_condX; exact rfl; exact tst; exact tst; all_goals (intro hq hc; (try contradiction); (try (exfalso; omega)))) | fail)
    all_goals (refine CW_ret ?_; refine xsg xsl ?_; refine bodyS_ret (L' := []) (rs := [.tmp 4]) (by kernel_rfl) (by (repeat (apply resok_tmp; exact rfl)); exact resok_nil) (by exact sbl) ?_)
    all_goals exact ⟨rfl, rfl⟩
end Go.Proofs.YtnhbipachchlgaaGreat.HL
namespace Go.Proofs.YtnhbipachchlgaaGreat.HL
open Go
set_option linter.unusedVariables false
open Go.ChangeShapes Go.WideShapes Go.ChangeAt Go.RowKit

theorem list2r {α : Type} {l : List α} (h : l.length = 2) : ∃ y0 y1, l = [y0, y1] := by
  match l, h with
  | [y0, y1], _ => exact ⟨y0, y1, rfl⟩
theorem str1r {H : Type} {enc : TypeId × Value → H} {W : World} {m : Nat} {c : Value} {y : DataW H × List MemPlace} (h : DataW.trod enc Tryz.prog W 0 (fun _ => true) true m 9 [c] = some y) : ∃ l, c = .string (bstr l) ∧ (l.length : Int) ≤ 9223372036854775807 := by
  obtain ⟨s, h1, h2, hs⟩ := DataW.trod_string Tryz.underlying9 h
  obtain ⟨l, rfl⟩ := bstr_of s
  cases h1
  have e : (bstr l).size = l.length := rfl
  have e2 : maxLen = 9223372036854775807 := by decide
  exact ⟨l, rfl, by omega⟩
theorem cell9r : Tryz.prog.cellsOf 9 = 1 := by kernel_rfl
set_option maxRecDepth 100000 in
theorem open_rat {H : Type} {enc : TypeId × Value → H} {W : World} {v : Value} {d : DataW H} {ps : List MemPlace} (hval : Value.okWide Tryz.prog W .any 0 26 v) (h : DataW.Trod enc Tryz.prog W 0 (fun _ => true) true 26 v d ps) :
    ∃ n d : List UInt8, v = ratV n d ∧ (n.length : Int) ≤ 9223372036854775807 ∧ (d.length : Int) ≤ 9223372036854775807 := by
  unfold Value.okWide at hval
  rw [Tryz.underlying26] at hval
  obtain ⟨cs, rfl, hsz, _⟩ := hval
  have hc2 : Tryz.prog.cellsOf 26 = 2 := by kernel_rfl
  rw [hc2] at hsz
  obtain ⟨fuel, hf⟩ := h
  obtain ⟨a, b, e⟩ := list2r (l := cs.toList) (by rw [Array.length_toList]; exact hsz)
  have e1 : (Value.agg cs).cells.toList = [a, b] := e
  rw [e1] at hf
  obtain ⟨xs, k, _, hx, _, hxl, hfl⟩ := DataW.trod_struct Tryz.underlying26 hf
  obtain ⟨y0, y1, rfl⟩ := list2r (l := xs) hxl
  have f0 : DataW.trod enc Tryz.prog W 0 (fun _ => true) true k 9 (([a, b].drop 0).take (Tryz.prog.cellsOf 9)) = some y0 := hfl 0 _ rfl
  have f1 : DataW.trod enc Tryz.prog W 0 (fun _ => true) true k 9 (([a, b].drop 1).take (Tryz.prog.cellsOf 9)) = some y1 := hfl 1 _ rfl
  rw [cell9r] at f0 f1
  obtain ⟨u, h0, hu⟩ := str1r (c := a) f0
  obtain ⟨w, h1, hw⟩ := str1r (c := b) f1
  refine ⟨u, w, ?_, hu, hw⟩
  rw [h0, h1] at e
  unfold ratV
  congr 1
  exact Array.toList_inj.1 e
end Go.Proofs.YtnhbipachchlgaaGreat.HL
namespace Go.Proofs.YtnhbipachchlgaaGreat
namespace HL
open Go
open Go.ChangeShapes Go.WideShapes Go.ChangeAt Go.RowKit
open Go.ChangeMaps (open_string shut_string)
set_option linter.unusedVariables false
set_option linter.unusedSimpArgs false
set_option maxRecDepth 100000 in
theorem prefixScales_contract (H : Type) (enc : TypeId × Value → H) (W : World) (base : Nat) (args : Array Value) (ds gs : List (DataW H)) (before : List MemPlace)
    (hval : ∀ (j : Nat) t v, Tryz.f4.params[j]? = some t → args[j]? = some v → Value.okWide Tryz.prog W .any base t v)
    (hW : DataW.Whole enc Tryz.prog Tryz.f4.params.toList Rows.prefixScalesSpec.vars false W args.toList ds gs before) :
    Calls Tryz.prog 4 args W fun e W' => ∃ v, e = .returned v ∧ Rows.prefixScalesSpec.post enc Tryz.prog Tryz.f4 false true false false W args v W' := by
  have hW' := hW
  obtain ⟨p, q, hA0, hV, rfl, hfz, hnd⟩ := hW
  have hA : DataW.TrodAll enc Tryz.prog W 0 (fun _ => true) true Tryz.f4.params.toList args.toList ds p := hA0
  rw [Tryz.params4] at hA hval
  obtain ⟨v0, vs0, d0, ds0, p0, q0, hargs0, rfl, rfl, h0, r0⟩ := trodAll_cons hA
  obtain ⟨v1, vs1, d1, ds1, p1, q1, hargs1, rfl, rfl, h1, r1⟩ := trodAll_cons r0
  obtain ⟨rfl, rfl, rfl⟩ := trodAll_nil r1
  obtain rfl : args = #[v0, v1] := by cases args; simp_all
  obtain ⟨rfl, rfl⟩ := trodVars_none hV
  obtain ⟨N0, D0, rfl, hN0, hD0⟩ := open_rat (hval 0 26 v0 rfl rfl) h0
  obtain ⟨b1, rfl, rfl, rfl⟩ := open_bool Tryz.underlying4 (hval 1 4 v1 rfl rfl) h1
  clear hA0
  simp only [List.append_nil] at hW'
  have law := scales_law N0 D0 b1 hN0 hD0 (allOf W) (allOf W) (hs_nil _) W W (allOf_fit W)
  have htb : (Tryz.f4.params.toList.all fun t => (Tryz.prog).readableRec t && decide (t < (Tryz.prog).types.size)) = true := by kernel_rfl
  refine law.mono ?_
  rintro e W' ⟨v, H', he, hf, M, hM, hv⟩
  obtain rfl : v = .bool true := by first | exact hv | exact hv.1
  exact ⟨_, he, post_true laidOut htb rfl Tryz.underlying4 rfl hW' rfl rfl rfl hM.ext hf⟩

set_option maxRecDepth 100000 in
theorem prefixScales_lifted (os : Os) (started : os.Started) (H : Type) (enc : TypeId × Value → H) :
    ReturnsInHanded {} Tryz.checked os 4 .any (Rows.prefixScalesSpec.pre6 enc Tryz.prog Tryz.f4 Rows.prefixScalesRow.domain false) (Rows.prefixScalesSpec.post enc Tryz.prog Tryz.f4 false true false false) := by
  refine returnsInHanded_of_change (C := Tryz.checked) own0 started (by kernel_rfl) Tryz.func4
    (ChangeSpec.witness6 (enc := enc) (C := Tryz.checked) false ⟨#[], #[.agg #[.string ⟨#[]⟩, .string ⟨#[]⟩], .bool false], []⟩ 8 (by kernel_rfl) (by kernel_rfl) (by kernel_rfl) (by kernel_rfl)) ?_
  intro W base args ds gs before hval hW _ _
  exact prefixScales_contract H enc W base args ds gs before hval hW
end HL
/-- THE GIVEN STATEMENT -/
theorem prefixScales_said : Rows.PrefixScalesSaid :=
  OpenClaim.holds_of_wide 4 Tryz.f4 rfl rfl rfl rfl rfl rfl rfl ⟨rfl, rfl, rfl, rfl, rfl⟩ rfl rfl rfl rfl rfl (by kernel_rfl) Tryz.func4 (by kernel_rfl)
    (of_decide_eq_true (by kernel_rfl)) (by unfold Func.isWrapper; first | (rw [if_pos (by decide +kernel)]; kernel_rfl) | (rw [if_neg (by decide +kernel)]; exact ⟨rfl, rfl⟩))
    (fun os started H enc _ => HL.prefixScales_lifted os started H enc)
end Go.Proofs.YtnhbipachchlgaaGreat
