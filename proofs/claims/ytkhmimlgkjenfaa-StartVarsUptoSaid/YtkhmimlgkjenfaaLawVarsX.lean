/- LawVars: LwD: the law StartVars: start.Vars on a lent package answers as the document's Vars. Conditions: lengths. StaLb: the closing of the law StartVars: the given statement in full. No condition. -/
import Derived.Test.YtkhmimlgkjenfaaEngX
import Derived.Test.YtkhmimlgkjenfaaLentAX
import Derived.Test.YtkhmimlgkjenfaaRefRX
import Derived.Test.YtkhmimlgkjenfaaWalkGX
import Derived.Test.YtkhmimlgkjenfaaClose7X
import Derived.Test.YtkhmimlgkjenfaaOpen15X
namespace Go.Proofs.Ytkhmimlgkjenfaa.HL
open Go
attribute [local irreducible] goFn thenS blockS bodyS CW RW DW GW QW NW SC Pick Picks SubL Rd NN ResOk SrcW subE hops hseg AW hgen HC qv bldv
set_option maxHeartbeats 8000000
set_option maxRecDepth 100000
set_option linter.unusedVariables false
set_option linter.unusedSimpArgs false

theorem nodup_sub {α : Type} [DecidableEq α] : ∀ {l L : List α}, l.Nodup → (∀ x, x ∈ l → x ∈ L) → l.length ≤ L.length
  | [], _, _, _ => Nat.zero_le _
  | x :: l, L, h, hs => by
    have hx := hs x (by simp)
    have h' := List.nodup_cons.1 h
    have := nodup_sub (l := l) (L := L.erase x) h'.2 fun y hy => (List.mem_erase_of_ne (fun (e : y = x) => h'.1 (by rw [← e]; exact hy))).2 (hs y (List.mem_cons_of_mem _ hy))
    rw [List.length_erase_of_mem hx] at this
    have hL : 0 < L.length := List.length_pos_of_mem hx
    rw [List.length_cons]; omega
theorem told_mem {α : Type} {E : α → α → Prop} {lt : α → α → Prop} {g : α} {k : Nat} {a : α} {l : List α} (h : Told E lt g k a l) : ∀ x, x ∈ l → ∃ b, E b x := by
  induction h with
  | nil => intro x hx; cases hx
  | cons e _ _ _ ih =>
    intro x hx
    rcases List.mem_cons.1 hx with rfl | hx
    · exact ⟨_, e⟩
    · exact ih x hx
theorem cyc_len {t : List Th} {c : List Tx} (h : CycS (NT t) (VN t) ltT c) : c.length ≤ t.length := by
  have := nodup_sub (L := t.map Th.n) h.nodup fun x hx => by
    rcases h with ⟨rfl, _⟩ | ⟨a, k, l, rfl, ⟨y, h1, h2, _⟩, _, _, _, h5⟩
    · cases hx
    · rcases List.mem_cons.1 hx with rfl | hx
      · exact List.mem_map.2 ⟨y, h1, h2⟩
      · obtain ⟨b, z, hz, h6, h7, w, h8, h9⟩ := told_mem h5 x hx
        exact List.mem_map.2 ⟨w, by assumption, by assumption⟩
  rwa [List.length_map] at this
theorem flt_len {p : Pk} {q : Int × List Tx} (h : fltO p = some q) : q.2.length ≤ 1 := by
  unfold fltO at h
  cases h1 : sizeO p with
  | some x =>
    rw [h1] at h; cases h
    rw [(sizeO_some h1).2]; exact Nat.zero_le _
  | none =>
    rw [h1] at h
    cases h2 : formO [p] with
    | some s => rw [h2] at h; cases h; exact Nat.le_refl _
    | none =>
      rw [h2] at h
      cases h3 : dupP [] [p] with
      | some s => rw [h3] at h; cases h; exact Nat.le_refl _
      | none =>
        rw [h3] at h
        cases h4 : joinO p with
        | some r => rw [h4] at h; cases h; exact Nat.le_refl _
        | none => rw [h4] at h; cases h
theorem VarsR.len {p : Pk} {e : Int} {o m : List Tx} (hS : Small p) (h : VarsR p e o m) : o.length ≤ 1048576 ∧ m.length ≤ 1048576 := by
  rcases h with ⟨q, h1, rfl, rfl, rfl⟩ | ⟨h1, h2, h3, rfl, rfl⟩ | ⟨h1, h2, rfl, rfl, l, h3, h4, h5⟩
  · exact ⟨Nat.zero_le _, Nat.le_trans (flt_len h1) (by omega)⟩
  · exact ⟨Nat.zero_le _, Nat.le_trans (cyc_len h2) (all_len2 hS (dup_one h1).2.2.2.2.2)⟩
  · refine ⟨?_, Nat.zero_le _⟩
    rw [h5.2]
    have h6 := all_len2 hS (dup_one h1).2.2.2.2.2
    have h7 := (allT_perm h3).length_eq
    have h8 : (allT l).countP Th.v ≤ (allT l).length := List.countP_le_length
    omega
theorem small_er {p p' : Pk} (hS : Small p) (he : erP p' = erP p) : Small p' := by
  have hpi : p'.p = p.p ∧ p'.im = p.im ∧ p'.fl.map erF = p.fl.map erF := by
    unfold erP at he
    injection he with q1 _ _ q2 _ _ q3
    exact ⟨q1, q2, q3⟩
  obtain ⟨e1, e2, e3⟩ := hpi
  have hm : ∀ f, f ∈ p'.fl → ∃ g, g ∈ p.fl ∧ erF g = erF f := fun f hf => by
    have : erF f ∈ p.fl.map erF := by rw [← e3]; exact List.mem_map.2 ⟨f, hf, rfl⟩
    exact List.mem_map.1 this
  have hv : ∀ f g : Fl, erF g = erF f → f.n = g.n ∧ f.vs.length = g.vs.length ∧ f.fs.length = g.fs.length := fun f g h => by
    have h1 := congrArg Fl.n h
    have h2 := congrArg (fun q : Fl => q.vs.length) h
    have h3 := congrArg (fun q : Fl => q.fs.length) h
    simp only [erF, List.length_map] at h1 h2 h3
    exact ⟨h1.symm, h2.symm, h3.symm⟩
  have hal : (allT p'.fl).map erT = (allT p.fl).map erT := by rw [← er_all, ← er_all, e3]
  refine ⟨by rw [e2]; exact hS.im, ?_, fun f hf => ?_, ⟨by rw [e1]; exact hS.pp.1, fun f hf => ?_⟩, fun x hx => ?_⟩
  · have := congrArg List.length e3
    rw [List.length_map, List.length_map] at this
    rw [this]; exact hS.fl
  · obtain ⟨g, hg, h⟩ := hm f hf
    obtain ⟨_, h2, h3⟩ := hv f g h
    rw [h2, h3]; exact hS.vs g hg
  · obtain ⟨g, hg, h⟩ := hm f hf
    rw [(hv f g h).1]; exact hS.pp.2 g hg
  · have : erT x ∈ (allT p.fl).map erT := by rw [← hal]; exact List.mem_map.2 ⟨x, hx, rfl⟩
    obtain ⟨y, hy, h⟩ := List.mem_map.1 this
    have h1 : (erT y).n = (erT x).n := by rw [h]
    have h2 : (erT y).u = (erT x).u := by rw [h]
    have h1 : y.n = x.n := h1
    have h2 : y.u = x.u := h2
    rw [← h1, ← h2]; exact hS.us y hy
theorem er_one {p : Pk} {l2 : List Pk} (h : l2.map erP = [p].map erP) : ∃ p2, l2 = [p2] ∧ erP p2 = erP p := by
  match l2, h with
  | [], h => simp at h
  | [p2], h => exact ⟨p2, rfl, by simpa using h⟩
  | _ :: _ :: _, h => simp at h
section
variable {P : Program} {l : Ents} {H : Hp} {L : List Res} {d : Option Tmp} {T : TypeId} {pos : String} {aft : Array Edge} {gd : Option (Nat × Bool)}
theorem q_ixow {t e e' : TypeId} {z z' : Nat} {x i : Operand} {a : Option Addr} {n n' c c' : Nat} {cs : List Value} {k : IntKind} {j : Int} {L' : List Res} [hu : Und P t (.slice e)] [hz : Szc P e z] (hx : evg l true x = some (.slice a n c)) (hi : evg l true i = some (.int k j)) (hp : POwn L a e' z' n' c' cs L') (hn : 0 < n') (h : 0 ≤ j ∧ j < n) :
    QW P l H L ⟨d, .indexAddr t x i, T, pos, aft, gd⟩ (.pointer (pt a (j.toNat * z))) := q_ixs hx hi (nn_own hp.h hn) h.1 h.2
end
theorem copied1 (p : Pk) (aa : Option Addr) (ac : Nat) (H : Hp) (hr : Rs H 3 aa 1 ac (pkC p)) (hp : pkOk H p) (hS : Small p) :
    SC Try.prog 5 [.slice aa 1 ac] H [] (fun v M => ∃ (p2 : Pk) (a : Option Addr) (c : Nat) (L' : List Res), v = .slice a 1 c ∧ M = .own 25 3 a 2 c [.string (bstr p2.p), .slice p2.ia p2.im.length p2.ic, .slice p2.la p2.fl.length p2.lc, .string (bstr markT), .slice none 0 0, .slice none 0 0] :: L' ∧ erP p2 = erP p ∧ Held L' (fun G => pkL G p2)) :=
  SC.mono (copied_spec [p] aa ac H hr (fun q hq => by rw [List.mem_singleton.1 hq]; exact hp) (fun q hq => by rw [List.mem_singleton.1 hq]; exact hS) (by show 1 ≤ 1048576; omega)) fun v M ⟨l2, a, c, L', h1, h2, h3, h4⟩ => by
    obtain ⟨p2, rfl, he⟩ := er_one h3
    exact ⟨p2, a, c, L', h1, h2, he, h4.mono fun G h => h p2 (by simp)⟩
theorem kept1 (p p2 : Pk) (a aa : Option Addr) (c ac : Nat) (H : Hp) (h2 : Rs H 3 a 2 c [.string (bstr p2.p), .slice p2.ia p2.im.length p2.ic, .slice p2.la p2.fl.length p2.lc, .string (bstr markT), .slice none 0 0, .slice none 0 0]) (hL : pkL H p2) (hr : Rs H 3 aa 1 ac (pkC p)) (hp : pkOk H p) (hS : Small p) (he : erP p2 = erP p) :
    SC Try.prog 9 [.slice a 1 c, .slice aa 1 ac] H [] (fun v M => v = .bool true ∧ M = []) :=
  kept_spec [p] [p2] a aa c ac H h2 (fun q hq => by rw [List.mem_singleton.1 hq]; exact hL) hr (fun q hq => by rw [List.mem_singleton.1 hq]; exact hp) (fun q hq => by rw [List.mem_singleton.1 hq]; exact hS) (by rw [List.map_cons, List.map_cons, he]) (by show 1 ≤ 1048576; omega)
theorem sameT (l : List Tx) (a a' : Option Addr) (c c' : Nat) (H : Hp) (hr : Rs H 1 a l.length c (txs l)) (hr' : Rs H 1 a' l.length c' (txs l)) (hl : l.length ≤ 1048576) :
    SC Try.prog 8 [.slice a l.length c, .slice a' l.length c'] H [] (fun v M => v = .bool true ∧ M = []) := by
  have := sameTexts_spec l l a a' c c' H hr hr' (by omega) (by omega)
  rwa [decide_eq_true rfl] at this
theorem lawVars_spec (p : Pk) (H : Hp) (hp : pkOk H p) (hS : Small p) :
    SC Try.prog 3 [pkV p] H [] (fun v M => v = .bool true) := by
  (refine SC_intro Try.func3 rfl (by kernel_rfl) (by rw [Try.ntmps3]; exact Nat.le_of_ble_eq_true rfl) ?_; simp only [Try.ntmps3, argE, Nat.reduceAdd])
  
  repeat' (first | ((first | apply RW.q1 | (apply RW.qg; exact gvx; refine hgx tst ?_; intro hg hg')); (first | (apply q_ixow (n' := 2); exact evgx; exact evgx; infer_instance; decide; decide) | (apply q_lao (vs := [.string (bstr p2.p), .slice p2.ia p2.im.length p2.ic, .slice p2.la p2.fl.length p2.lc]); exact rfl; exact evgx; infer_instance; exact rfl; exact rfl; decide) | (apply q_cmp (op := .eql) (c := true); exact evgx; exact evgx; exact cmp_eqT rfl) | exact qt | exact qu)) | refine xsg cts ?_ | (apply CW_condT; exact rfl; exact ar) | (apply CW_condF; exact rfl; exact ar) | ((first | apply RW.s1 | apply RW.s0); exact gva) | (refine hK _ _ ?_; clear hK; refine xsg xsl ?_) | ((first | apply RW.a1 | apply RW.a0 | (apply RW.at; exact gva)); (first | (apply gw_box (d := some 1); exact rfl; exact rfl; intro b1) | (apply gw_lit1 (d := some 11); exact rfl; exact rfl; exact rfl; exact rfl; decide; intro pb) | (apply gw_call (f := 5); exact evx; exact go5; intro G hG; refine SC.mono (copied1 p (some ⟨pb, 0, none⟩) 1 G (sl_own (by exact pkx) hG) (pkOk_ext hp hG.ext) hS) ?_; rintro v M ⟨p2, ca, cc, L0, rfl, rfl, he, hL0⟩; (try dsimp only [jL, jM]); refine RW_drop (_ ++ (_ :: L0)) (subl_comm (M := _ :: L0) (L := [_, _])) ?_; dsimp only [jL, jM]) | (apply gw_call (f := 6); exact evx; exact go6; intro G hG; refine SC.mono (sVars_spec p2 G (hL0 H G (hG.sub (subl_tail (subl_tail (subl_tail subl_refl))))).ok (small_er hS he)) ?_; rintro v M ⟨e, out, them, oa, ta, oc, tc, hV, rfl, rfl⟩; (try dsimp only [jL, jM])) | (apply gw_call (f := 7); exact evx; exact go7; intro G hG; refine SC.mono (rVarsT_spec p G (pkOk_ext hp hG.ext) hS) ?_; rintro v M ⟨e', out', them', oa', ta', oc', tc', hV', rfl, rfl⟩; (try dsimp only [jL, jM]); obtain ⟨rfl, rfl, rfl⟩ := er_same he hV hV'; have hlen := hV'.len hS) | (apply gw_callE (f := 8); exact evx; exact go8; intro G hG; exact sameT out oa oa' oc oc' G (sl_own (by exact pkx) hG) (sl_own (by exact pkx) hG) hlen.1) | (apply gw_callE (f := 8); exact evx; exact go8; intro G hG; exact sameT them ta ta' tc tc' G (sl_own (by exact pkx) hG) (sl_own (by exact pkx) hG) hlen.2) | (apply gw_lit1 (d := some 43); exact rfl; exact rfl; exact rfl; exact rfl; decide; intro pb2) | (apply gw_callE (f := 9); exact evx; exact go9; intro G hG; exact kept1 p p2 ca (some ⟨pb2, 0, none⟩) cc 1 G (sl_own (by exact pkx) hG) (hL0 H G (hG.sub (subl_tail (subl_tail (subl_tail (subl_tail (subl_tail (subl_tail (subl_tail (subl_tail subl_refl)))))))))) (sl_own (by exact pkx) hG) (pkOk_ext hp hG.ext) hS he) | (apply gw_callE (f := 10); exact evx; exact go10; intro G hG; exact known_spec G) | (apply gw_asg; exact rfl) | (apply gw_box; exact rfl; exact rfl; intro b) | (apply gw_lit1; exact rfl; exact rfl; exact rfl; exact rfl; decide; intro b) | (apply gw_lit2; exact rfl; exact rfl; exact rfl; exact rfl; intro b) | (apply gw_lit3; exact rfl; exact rfl; exact rfl; exact rfl; exact rfl; intro b) | (fail))) | (apply CW_region; intro K hK) | (apply CW_condX; exact rfl; exact tst; exact tst; all_goals (intro hq hc; try exact no)))
  (refine CW_ret ?_; refine xsg xsl ?_; refine bR [.tmp 2] [] ?_)
  exact rfl
end Go.Proofs.Ytkhmimlgkjenfaa.HL
namespace Go.Proofs.Ytkhmimlgkjenfaa
namespace HL
open Go
open Go.ChangeShapes Go.WideShapes Go.ChangeAt Go.RowKit
open Go.ChangeMaps (open_string shut_string)
set_option maxHeartbeats 8000000
set_option maxRecDepth 100000
set_option linter.unusedVariables false
set_option linter.unusedSimpArgs false
theorem startVars_contract (H : Type) (enc : TypeId × Value → H) (W : World) (base : Nat) (args : Array Value) (ds gs : List (DataW H)) (before : List MemPlace)
    (hval : ∀ (j : Nat) t v, Try.f3.params[j]? = some t → args[j]? = some v → Value.okWide Try.prog W .any base t v)
    (hW : DataW.Whole enc Try.prog Try.f3.params.toList Rows.startVarsSpec.vars false W args.toList ds gs before) (hk : Rows.uptoSmall H (ds ++ gs) = true) :
    Calls Try.prog 3 args W fun e W' => ∃ v, e = .returned v ∧ Rows.startVarsSpec.post enc Try.prog Try.f3 false true false false W args v W' := by
  have hW' := hW
  obtain ⟨p, q, hA0, hV, rfl, hfz, hnd⟩ := hW
  have hA : DataW.TrodAll enc Try.prog W 0 (fun _ => true) true Try.f3.params.toList args.toList ds p := hA0
  rw [Try.params3] at hA hval
  obtain ⟨v0, vs0, d0, ds0, p0, q0, hargs0, rfl, rfl, h0, r0⟩ := trodAll_cons hA
  obtain ⟨rfl, rfl, rfl⟩ := trodAll_nil r0
  obtain rfl : args = #[v0] := by cases args; simp_all
  obtain ⟨rfl, rfl⟩ := trodVars_none hV
  obtain ⟨p0, rfl, hpo0, hb0⟩ := open_pkg (hval 0 25 v0 rfl rfl) h0
  clear hA0
  simp only [List.append_nil] at hW'
  simp only [List.append_nil] at hk
  have hsz := of_decide_eq_true hk
  simp only [Rows.uptoBulkAll, Rows.uptoBulk] at hsz
  have law := lawVars_spec p0 (allOf W) hpo0 (hb0.small (by omega)) (allOf W) (hs_nil _) W W (allOf_fit W)
  have htb : (Try.f3.params.toList.all fun t => (Try.prog).readableRec t && decide (t < (Try.prog).types.size)) = true := by kernel_rfl
  refine law.mono ?_
  rintro e W' ⟨v, H', he, hf, M, hM, hv⟩
  obtain rfl : v = .bool true := by first | exact hv | exact hv.1
  exact ⟨_, he, post_true laidOut htb rfl Try.underlying4 rfl hW' rfl rfl rfl hM.ext hf⟩

theorem startVars_lifted (os : Os) (started : os.Started) (H : Type) (enc : TypeId × Value → H) (F : Stop.Interp) :
    ReturnsInHanded {} Try.checked os 3 .any ((Rows.OpenSpec.upto Rows.startVarsSpec).pre6 enc Try.prog Try.f3 Rows.startVarsUptoRow.domain false) (((Rows.OpenSpec.upto Rows.startVarsSpec).at F).post enc Try.prog Try.f3 false true false false) := by
  refine returnsInHanded_of_cond (C := Try.checked) (s := Rows.OpenSpec.upto Rows.startVarsSpec) (k := Rows.uptoSmall) rfl own0 started (by kernel_rfl) Try.func3
    (OpenSpec.witness (enc := enc) (C := Try.checked) (s := Rows.OpenSpec.upto Rows.startVarsSpec) (k := Rows.uptoSmall) rfl false ⟨#[], #[.agg #[.string ⟨#[]⟩, .slice none 0 0, .slice none 0 0]], []⟩ 8 (by kernel_rfl) (by kernel_rfl) (by kernel_rfl)
      (x := ([.agg [.lit (.string []), .nil, .nil]], [], [])) (by kernel_rfl) rfl (by kernel_rfl)) ?_
  intro W base args ds gs before hval hW _ hk _
  exact startVars_contract H enc W base args ds gs before hval hW hk
end HL
theorem startVars_saidUpto : Rows.StartVarsUptoSaid :=
  OpenClaim.holds_of_cond 3 Try.f3 rfl rfl rfl rfl rfl rfl rfl ⟨rfl, rfl, rfl, rfl, rfl⟩ rfl rfl rfl rfl rfl (by kernel_rfl) Try.func3 (by kernel_rfl)
    (of_decide_eq_true (by kernel_rfl)) (by unfold Func.isWrapper; first | (rw [if_pos (by decide +kernel)]; kernel_rfl) | (rw [if_neg (by decide +kernel)]; exact ⟨rfl, rfl⟩))
    (fun os started H enc _ F => HL.startVars_lifted os started H enc F)
end Go.Proofs.Ytkhmimlgkjenfaa
