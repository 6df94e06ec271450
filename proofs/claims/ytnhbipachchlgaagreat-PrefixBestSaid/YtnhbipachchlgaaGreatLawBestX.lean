/- LawBest: PfxBf: the law PrefixBest. Condition: the texts' lengths, which Go bounds. PfxCg: the closing of the law PrefixBest: the given statement in full. No condition. -/
import Derived.Test.YtnhbipachchlgaaGreatEngX
import Derived.Test.YtnhbipachchlgaaGreatBestEX
import Derived.Test.YtnhbipachchlgaaGreatPrefsAX
import Derived.Test.YtnhbipachchlgaaGreatClose7X
import Derived.Test.YtnhbipachchlgaaGreatOpenRatX
namespace Go.Proofs.YtnhbipachchlgaaGreat.HL
open Go
attribute [local irreducible] goFn thenS blockS bodyS CW RW DW GW QW NW SC Pick Picks SubL Rd NN ResOk SrcW subE hops hseg AW hgen HC qv bldv
set_option maxHeartbeats 8000000
set_option maxRecDepth 100000
set_option linter.unusedVariables false
set_option linter.unusedSimpArgs false

section
variable {P : Program} {l : Ents} {H : Hp} {L : List Res} {d : Option Tmp} {T : TypeId} {pos : String} {aft : Array Edge} {gd : Option (Nat × Bool)} {t ty : TypeId} {x y : Operand}
theorem q_ieT7 {k : IntKind} {a : Int} (hx : evg l true x = some (.int k a)) (hy : evg l true y = some (.int k a)) : QW P l H L ⟨d, .binOp .eql t x y ty, T, pos, aft, gd⟩ (.bool true) := q_cmp hx hy (by simp [cmpI])
end
theorem rbest_X (n d : List UInt8) (a : Int) (q : Nat) (bn : Bool) (h : readQ n d = some (a, q)) (H : Hp) :
    SC Tryz.prog 11 [ratV n d, .bool bn] H [] (fun v M => BestX n d a q bn v ∧ M = []) := by
  have h3 := (readQ_txt h).2.2.1
  by_cases hA : a.natAbs = 0
  · have ha : a = 0 := by omega
    cases bn with
    | true => exact (rbest_t0 n d a q h hA H).mono fun v M g => ⟨.inl ⟨.inl ha, g.1⟩, g.2⟩
    | false => exact (rbest_f0 n d a q h hA H).mono fun v M g => ⟨.inl ⟨.inl ha, g.1⟩, g.2⟩
  have ha : a ≠ 0 := by omega
  by_cases h1 : a.natAbs < q
  · cases bn with
    | true => exact (rbest_tlo n d a q h hA h1 H).mono fun v M g => ⟨.inl ⟨.inr (.inr ⟨rfl, h1⟩), g.1⟩, g.2⟩
    | false =>
      refine (rbest_fhi n d a q h hA (.inl h1) H).mono fun v M g => ⟨.inr ⟨?_, g.1⟩, g.2⟩
      rintro (k | k | k)
      · exact ha k
      · omega
      · cases k.1
  · cases bn with
    | true =>
      by_cases h2 : a.natAbs < 1024 * q
      · exact (rbest_tin n d a q h hA h1 h2 H).mono fun v M g => ⟨.inl ⟨.inr (.inl ⟨by omega, by rw [if_pos rfl]; exact h2⟩), g.1⟩, g.2⟩
      · refine (rbest_thi n d a q h hA h1 h2 H).mono fun v M g => ⟨.inr ⟨?_, g.1⟩, g.2⟩
        rintro (k | k | k)
        · exact ha k
        · exact h2 (by have := k.2; rw [if_pos rfl] at this; exact this)
        · exact h1 k.2
    | false =>
      by_cases h2 : a.natAbs < 1000 * q
      · exact (rbest_fin n d a q h hA h1 h2 H).mono fun v M g => ⟨.inl ⟨.inr (.inl ⟨by omega, by rw [if_neg (by decide)]; exact h2⟩), g.1⟩, g.2⟩
      · refine (rbest_fhi n d a q h hA (.inr h2) H).mono fun v M g => ⟨.inr ⟨?_, g.1⟩, g.2⟩
        rintro (k | k | k)
        · exact ha k
        · exact h2 (by have := k.2; rw [if_neg (by decide)] at this; exact this)
        · cases k.1
theorem best_X (n d : List UInt8) (a : Int) (q : Nat) (bn : Bool) (h : readQ n d = some (a, q)) (H : Hp) :
    SC Tryz.prog 9 [ratV n d, .bool bn] H [] (fun v M => BestX n d a q bn v ∧ M = []) := by
  cases bn with
  | true => exact bestX_B n d a q h H
  | false => exact bestX_N n d a q h H
theorem tup_e {X Y X' Y' : List UInt8} {e e' : Int} (h : (Value.tuple #[ratV X Y, .int .i64 e]) = .tuple #[ratV X' Y', .int .i64 e']) : X = X' ∧ Y = Y' ∧ e = e' := by
  have k := Value.tuple.inj h
  have k1 : some (ratV X Y) = some (ratV X' Y') := congrArg (fun z : Array Value => z[0]?) k
  have k2 := Value.agg.inj (Option.some.inj k1)
  have k3 : (some (Value.string (bstr X))) = some (Value.string (bstr X')) := congrArg (fun z : Array Value => z[0]?) k2
  have k4 : (some (Value.string (bstr Y))) = some (Value.string (bstr Y')) := congrArg (fun z : Array Value => z[1]?) k2
  have k5 : (some (Value.int .i64 e)) = some (Value.int .i64 e') := congrArg (fun z : Array Value => z[1]?) k
  refine ⟨bstr_inj (Value.string.inj (Option.some.inj k3)), bstr_inj (Value.string.inj (Option.some.inj k4)), ?_⟩
  have := Option.some.inj k5
  cases this; rfl
theorem bestX_one {n d : List UInt8} {a : Int} {q : Nat} {bn : Bool} {v w : Value} (h : BestX n d a q bn v) (g : BestX n d a q bn w) : v = w := by
  rcases h with ⟨h1, h2⟩ | ⟨h1, x, h2, X, Y, e, h3, h4⟩
  · rcases g with ⟨_, g2⟩ | ⟨g1, _⟩
    · rw [h2, g2]
    · exact absurd h1 g1
  · rcases g with ⟨g1, _⟩ | ⟨g1, x', g2, X', Y', e', g3, g4⟩
    · exact absurd g1 h1
    · obtain rfl := pick_one h2 g2
      rw [h3] at g3
      obtain ⟨rfl, rfl, rfl⟩ := tup_e g3
      rcases h4 with ⟨p1, p2⟩ | ⟨p1, p2⟩
      · rcases g4 with ⟨r1, r2⟩ | ⟨r1, r2⟩
        · rw [p2, r2]
        · exact absurd p1 r1
      · rcases g4 with ⟨r1, r2⟩ | ⟨r1, r2⟩
        · exact absurd r1 p1
        · rw [p2, r2]
theorem bestX_tup {n d : List UInt8} {a : Int} {q : Nat} {bn : Bool} {v : Value} (h : BestX n d a q bn v) : ∃ (v1 v2 v3 v4 : ByteArray) (v5 : Bool) (x y : ByteArray) (e : Int), v = .tuple #[.agg #[.string v1, .string v2, .string v3, .string v4, .bool v5], .agg #[.string x, .string y], .int .i64 e] := by
  have key : ∀ o X Y e, ∃ (v1 v2 v3 v4 : ByteArray) (v5 : Bool) (x y : ByteArray) (e' : Int), bestV o X Y e = .tuple #[.agg #[.string v1, .string v2, .string v3, .string v4, .bool v5], .agg #[.string x, .string y], .int .i64 e'] := by
    intro o X Y e
    obtain ⟨v1, v2, v3, v4, v5, hv⟩ := preV_cells o
    exact ⟨v1, v2, v3, v4, v5, bstr X, bstr Y, e, by unfold bestV; rw [hv]⟩
  rcases h with ⟨_, h⟩ | ⟨_, x, _, X, Y, e, _, ⟨_, h⟩ | ⟨_, h⟩⟩
  · rw [h]; exact key ..
  · rw [h]; exact key ..
  · rw [h]; exact key ..
theorem best_law (n d : List UInt8) (bn : Bool) (hn : (n.length : Int) ≤ 9223372036854775807) (hd : (d.length : Int) ≤ 9223372036854775807) (H : Hp) :
    SC Tryz.prog 5 [ratV n d, .bool bn] H [] (fun v M => v = .bool true ∧ M = []) := by
  cases h : readQ n d with
  | none =>
    have hB := fun G => best_no n d bn hn hd h G
    have hR := fun G => rbest_no n d bn hn hd h G
    have e0 : bestV none [] [] 3 = .tuple #[.agg #[.string ⟨#[]⟩, .string ⟨#[]⟩, .string ⟨#[]⟩, .string ⟨#[]⟩, .bool false], .agg #[.string ⟨#[]⟩, .string ⟨#[]⟩], .int .i64 3] := rfl
    rw [e0] at hB hR
    (refine SC_intro Tryz.func5 rfl (by kernel_rfl) (by rw [Tryz.ntmps5]; exact Nat.le_of_ble_eq_true rfl) ?_; simp only [Tryz.ntmps5, argE, Nat.reduceAdd])
    
    repeat' (first | (apply RW.q1; (first | (apply q_steq; exact rfl; exact rfl; exact guard28; exact eqP_refl 9997 _ _ _ _ _) | (apply q_steq; exact rfl; exact rfl; exact guard26; exact eqR_refl 9998 _ _) | (apply q_ieT7; exact rfl; exact rfl) | exact qt)) | (apply RW.qg; exact gvx; refine hgx tst ?_; intro hg hg'; (first | (apply q_steq; exact evgx; exact evgx; exact guard28; exact eqP_refl 9997 _ _ _ _ _) | (apply q_steq; exact evgx; exact evgx; exact guard26; exact eqR_refl 9998 _ _) | (apply q_ieT7; exact evgx; exact evgx) | exact qu)) | refine xsg cts ?_ | (apply CW_condT; exact rfl; exact ar) | (apply CW_condF; exact rfl; exact ar) | ((first | apply RW.s1 | apply RW.s0); exact gva) | (refine hK _ _ ?_; clear hK; refine xsg xsl ?_) | ((first | apply RW.a1 | apply RW.a0 | (apply RW.at; exact gva)); (first | (apply gw_callE (f := 9); exact evx; exact go9; intro G hG; exact hB G) | (apply gw_callE (f := 11); exact evx; exact go11; intro G hG; exact hR G) | (apply gw_callE (f := 8); exact evx; exact go8; intro G hG; exact known_spec G) | (apply gw_asg; exact rfl) | (apply gw_alloc; exact rfl; intro b) | (apply gw_box; exact rfl; exact rfl; intro b) | (refine gw_stx sto ?_) | (fail))) | (apply CW_region; intro K hK) | (apply CW_condX; exact rfl; exact tst; exact tst; all_goals (intro hq hc; try exact no)))
    all_goals (refine CW_ret ?_; refine xsg xsl ?_; refine bR [.tmp 4] [] ?_)
    all_goals exact ⟨rfl, rfl⟩
  | some p =>
    obtain ⟨a, q⟩ := p
    have hB := fun G => best_X n d a q bn h G
    have hR := fun G => rbest_X n d a q bn h G
    (refine SC_intro Tryz.func5 rfl (by kernel_rfl) (by rw [Tryz.ntmps5]; exact Nat.le_of_ble_eq_true rfl) ?_; simp only [Tryz.ntmps5, argE, Nat.reduceAdd])
    
    repeat' (first | (apply RW.q1; (first | (apply q_steq; exact rfl; exact rfl; exact guard28; exact eqP_refl 9997 _ _ _ _ _) | (apply q_steq; exact rfl; exact rfl; exact guard26; exact eqR_refl 9998 _ _) | (apply q_ieT7; exact rfl; exact rfl) | exact qt)) | (apply RW.qg; exact gvx; refine hgx tst ?_; intro hg hg'; (first | (apply q_steq; exact evgx; exact evgx; exact guard28; exact eqP_refl 9997 _ _ _ _ _) | (apply q_steq; exact evgx; exact evgx; exact guard26; exact eqR_refl 9998 _ _) | (apply q_ieT7; exact evgx; exact evgx) | exact qu)) | refine xsg cts ?_ | (apply CW_condT; exact rfl; exact ar) | (apply CW_condF; exact rfl; exact ar) | ((first | apply RW.s1 | apply RW.s0); exact gva) | (refine hK _ _ ?_; clear hK; refine xsg xsl ?_) | ((first | apply RW.a1 | apply RW.a0 | (apply RW.at; exact gva)); (first | (apply gw_call (f := 9); exact evx; exact go9; intro G hG; refine SC.mono (hB G) ?_; rintro v M ⟨hq1, rfl⟩; (try dsimp only [jL, jM]); obtain ⟨v1, v2, v3, v4, v5, vx, vy, ve, rfl⟩ := bestX_tup hq1) | (apply gw_call (f := 11); exact evx; exact go11; intro G hG; refine SC.mono (hR G) ?_; rintro v M ⟨hq2, rfl⟩; (try dsimp only [jL, jM]); obtain rfl := bestX_one hq2 hq1) | (apply gw_callE (f := 8); exact evx; exact go8; intro G hG; exact known_spec G) | (apply gw_asg; exact rfl) | (apply gw_alloc; exact rfl; intro b) | (apply gw_box; exact rfl; exact rfl; intro b) | (refine gw_stx sto ?_) | (fail))) | (apply CW_region; intro K hK) | (apply CW_condX; exact rfl; exact tst; exact tst; all_goals (intro hq hc; try exact no)))
    all_goals (refine CW_ret ?_; refine xsg xsl ?_; refine bR [.tmp 4] [] ?_)
    all_goals exact ⟨rfl, rfl⟩
end Go.Proofs.YtnhbipachchlgaaGreat.HL
namespace Go.Proofs.YtnhbipachchlgaaGreat
namespace HL
open Go
open Go.ChangeShapes Go.WideShapes Go.ChangeAt Go.RowKit
open Go.ChangeMaps (open_string shut_string)
set_option maxHeartbeats 8000000
set_option maxRecDepth 100000
set_option linter.unusedVariables false
set_option linter.unusedSimpArgs false
theorem prefixBest_contract (H : Type) (enc : TypeId × Value → H) (W : World) (base : Nat) (args : Array Value) (ds gs : List (DataW H)) (before : List MemPlace)
    (hval : ∀ (j : Nat) t v, Tryz.f5.params[j]? = some t → args[j]? = some v → Value.okWide Tryz.prog W .any base t v)
    (hW : DataW.Whole enc Tryz.prog Tryz.f5.params.toList Rows.prefixBestSpec.vars false W args.toList ds gs before) :
    Calls Tryz.prog 5 args W fun e W' => ∃ v, e = .returned v ∧ Rows.prefixBestSpec.post enc Tryz.prog Tryz.f5 false true false false W args v W' := by
  have hW' := hW
  obtain ⟨p, q, hA0, hV, rfl, hfz, hnd⟩ := hW
  have hA : DataW.TrodAll enc Tryz.prog W 0 (fun _ => true) true Tryz.f5.params.toList args.toList ds p := hA0
  rw [Tryz.params5] at hA hval
  obtain ⟨v0, vs0, d0, ds0, p0, q0, hargs0, rfl, rfl, h0, r0⟩ := trodAll_cons hA
  obtain ⟨v1, vs1, d1, ds1, p1, q1, hargs1, rfl, rfl, h1, r1⟩ := trodAll_cons r0
  obtain ⟨rfl, rfl, rfl⟩ := trodAll_nil r1
  obtain rfl : args = #[v0, v1] := by cases args; simp_all
  obtain ⟨rfl, rfl⟩ := trodVars_none hV
  obtain ⟨N0, D0, rfl, hN0, hD0⟩ := open_rat (hval 0 26 v0 rfl rfl) h0
  obtain ⟨b1, rfl, rfl, rfl⟩ := open_bool Tryz.underlying4 (hval 1 4 v1 rfl rfl) h1
  clear hA0
  simp only [List.append_nil] at hW'
  have law := best_law N0 D0 b1 hN0 hD0 (allOf W) (allOf W) (hs_nil _) W W (allOf_fit W)
  have htb : (Tryz.f5.params.toList.all fun t => (Tryz.prog).readableRec t && decide (t < (Tryz.prog).types.size)) = true := by kernel_rfl
  refine law.mono ?_
  rintro e W' ⟨v, H', he, hf, M, hM, hv⟩
  obtain rfl : v = .bool true := by first | exact hv | exact hv.1
  exact ⟨_, he, post_true laidOut htb rfl Tryz.underlying4 rfl hW' rfl rfl rfl hM.ext hf⟩

theorem prefixBest_lifted (os : Os) (started : os.Started) (H : Type) (enc : TypeId × Value → H) :
    ReturnsInHanded {} Tryz.checked os 5 .any (Rows.prefixBestSpec.pre6 enc Tryz.prog Tryz.f5 Rows.prefixBestRow.domain false) (Rows.prefixBestSpec.post enc Tryz.prog Tryz.f5 false true false false) := by
  refine returnsInHanded_of_change (C := Tryz.checked) own0 started (by kernel_rfl) Tryz.func5
    (ChangeSpec.witness6 (enc := enc) (C := Tryz.checked) false ⟨#[], #[.agg #[.string ⟨#[]⟩, .string ⟨#[]⟩], .bool false], []⟩ 8 (by kernel_rfl) (by kernel_rfl) (by kernel_rfl) (by kernel_rfl)) ?_
  intro W base args ds gs before hval hW _ _
  exact prefixBest_contract H enc W base args ds gs before hval hW
end HL
theorem prefixBest_said : Rows.PrefixBestSaid :=
  OpenClaim.holds_of_wide 5 Tryz.f5 rfl rfl rfl rfl rfl rfl rfl ⟨rfl, rfl, rfl, rfl, rfl⟩ rfl rfl rfl rfl rfl (by kernel_rfl) Tryz.func5 (by kernel_rfl)
    (of_decide_eq_true (by kernel_rfl)) (by unfold Func.isWrapper; first | (rw [if_pos (by decide +kernel)]; kernel_rfl) | (rw [if_neg (by decide +kernel)]; exact ⟨rfl, rfl⟩))
    (fun os started H enc _ => HL.prefixBest_lifted os started H enc)
end Go.Proofs.YtnhbipachchlgaaGreat
