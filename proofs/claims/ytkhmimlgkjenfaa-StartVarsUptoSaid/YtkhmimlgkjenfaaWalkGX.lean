/- WalkG: StaZi: start.Vars: what is wrong, the cycle, or the variables. Conditions: the lists' lengths. StaKn: the answer to the fixed call: three variables. No condition. StaZj: the law's fixed call. No condition. -/
import Derived.Test.YtkhmimlgkjenfaaEngX
import Derived.Test.YtkhmimlgkjenfaaWalkFX
import Derived.Test.YtkhmimlgkjenfaaWalkCX
import Derived.Test.YtkhmimlgkjenfaaWalkBX
namespace Go.Proofs.Ytkhmimlgkjenfaa.HL
open Go
attribute [local irreducible] goFn thenS blockS bodyS CW RW DW GW QW NW SC Pick Picks SubL Rd NN ResOk SrcW subE hops hseg AW hgen HC qv bldv
set_option maxHeartbeats 8000000
set_option maxRecDepth 100000
set_option linter.unusedVariables false
set_option linter.unusedSimpArgs false

abbrev dwStaZi0 : List (Nat × Bool) := [(0, false), (1, false), (2, false), (3, true), (4, false), (5, false), (6, false)]
theorem sum_le {α : Type} {f : α → Nat} {B : Nat} : ∀ {l : List α}, (∀ x, x ∈ l → f x ≤ B) → (l.map f).sum ≤ l.length * B
  | [], _ => Nat.zero_le _
  | x :: l, h => by
    rw [List.map_cons, List.sum_cons, List.length_cons, Nat.add_mul, Nat.one_mul]
    have := sum_le (l := l) fun y hy => h y (List.mem_cons_of_mem _ hy)
    have := h x (List.mem_cons_self ..)
    omega
theorem len_le {α : Type} {f : α → Nat} : ∀ {l : List α}, (∀ x, x ∈ l → 1 ≤ f x) → l.length ≤ (l.map f).sum
  | [], _ => Nat.le_refl _
  | x :: l, h => by
    rw [List.map_cons, List.sum_cons, List.length_cons]
    have := len_le (l := l) fun y hy => h y (List.mem_cons_of_mem _ hy)
    have := h x (List.mem_cons_self ..)
    omega
theorem allB_small {p : Pk} (h : Small p) : allB [p] ≤ 4611686018427387904 := by
  have h1 : ∀ f, f ∈ p.fl → flB f ≤ 1024 + 2097152 * 1048577 := fun f hf => by
    have := h.vs f hf
    have hl := things_len f
    have h2 : ((things f).map tN).sum ≤ (things f).length * 1048577 := sum_le fun x hx => by
      have := (h.us x (mem_allT hf hx)).1
      show 1 + x.u.length ≤ _
      omega
    have h3 : (things f).length * 1048577 ≤ 2097152 * 1048577 := Nat.mul_le_mul_right _ (by omega)
    show 1024 + ((things f).map tN).sum ≤ _
    omega
  have h2 := sum_le h1
  have h3 : p.fl.length * (1024 + 2097152 * 1048577) ≤ 1048576 * (1024 + 2097152 * 1048577) := Nat.mul_le_mul_right _ h.fl
  have h4 := h.im
  have h5 := h.fl
  show 1 + (p.im.length + p.fl.length + (p.fl.map flB).sum + 0) ≤ _
  omega
theorem all_len : ∀ l : List Fl, (allT l).length ≤ (l.map flN).sum
  | [] => Nat.le_refl _
  | f :: l => by
    have := all_len l
    have h1 : (allT (f :: l)).length = (things f).length + (allT l).length := List.length_append ..
    have h2 : (things f).length ≤ ((things f).map tN).sum := len_le fun x _ => Nat.le_add_right _ _
    rw [h1, List.map_cons, List.sum_cons, flN_eq]
    omega
theorem all_len_le {p : Pk} (h : ¬ (badI [p] ∨ 1024 < allN [p])) : (allT p.fl).length ≤ 1024 := by
  have h1 := all_len p.fl
  have h2 : allN [p] = 1 + (p.im.length + p.fl.length + (p.fl.map flN).sum + 0) := rfl
  have h3 : ¬ 1024 < allN [p] := fun g => h (.inr g)
  omega
theorem sizeO_none {p : Pk} (h : sizeO p = none) : ¬ (badI [p] ∨ 1024 < allN [p]) := fun c => by
  unfold sizeO at h
  rw [if_pos c] at h
  cases h
theorem sizeO_some {p : Pk} {q : Int × List Tx} (h : sizeO p = some q) : (badI [p] ∨ 1024 < allN [p]) ∧ q = (4, []) := by
  unfold sizeO at h
  split at h
  · cases h; exact ⟨‹_›, rfl⟩
  · cases h
theorem useO_some {im ns : List Tx} {s : Tx} {q : Int × Tx} (h : useO im ns s = some q) : q.1 ≠ 0 ∧ q.1 ≠ 4 := by
  have h1 : useE im ns s = 0 ∨ useE im ns s = 5 ∨ useE im ns s = 151 := by
    unfold useE
    split
    · split
      · exact .inl rfl
      · exact .inr (.inl rfl)
    · split
      · exact .inl rfl
      · exact .inr (.inr rfl)
  unfold useO at h
  split at h
  · cases h
  · cases h
    show useE im ns s ≠ 0 ∧ useE im ns s ≠ 4
    rcases h1 with h1 | h1 | h1
    · exact absurd h1 ‹_›
    · rw [h1]; decide
    · rw [h1]; decide
theorem firstO_some {α β : Type} {f : α → Option β} {y : β} : ∀ {l : List α}, firstO f l = some y → ∃ x, x ∈ l ∧ f x = some y
  | [], h => by cases h
  | x :: l, h => by
    cases hx : f x with
    | some z =>
      have : firstO f (x :: l) = some z := by show orO (f x) _ = _; rw [hx]; rfl
      rw [this] at h; cases h
      exact ⟨x, by simp, hx⟩
    | none =>
      have : firstO f (x :: l) = firstO f l := by show orO (f x) _ = _; rw [hx]; rfl
      rw [this] at h
      obtain ⟨z, h1, h2⟩ := firstO_some h
      exact ⟨z, List.mem_cons_of_mem _ h1, h2⟩
theorem joinO_some {p : Pk} {q : Int × Tx} (h : joinO p = some q) : q.1 ≠ 0 ∧ q.1 ≠ 4 := by
  obtain ⟨f, _, h1⟩ := firstO_some h
  obtain ⟨x, _, h2⟩ := firstO_some h1
  obtain ⟨s, _, h3⟩ := firstO_some h2
  exact useO_some h3
theorem sVars_spec (p : Pk) (H : Hp) (hp : pkOk H p) (hS : Small p) :
    SC Try.prog 6 [pkV p] H [] (fun v M => ∃ (e : Int) (out them : List Tx) (oa ca : Option Addr) (oc cc : Nat), VarsR p e out them ∧ v = .tuple #[.slice oa out.length oc, .int .i64 e, .slice ca them.length cc] ∧ M = [.own 9 1 oa out.length oc (txs out), .own 9 1 ca them.length cc (txs them)]) := by
  have hp1 : ∀ q, q ∈ [p] → pkOk H q := fun q hq => by rw [List.mem_singleton.1 hq]; exact hp
  have hS1 : ∀ q, q ∈ [p] → Small q := fun q hq => by rw [List.mem_singleton.1 hq]; exact hS
  have hB := allB_small hS
  have hl1 : [p].length ≤ 1048576 := by show 1 ≤ 1048576; omega
  (refine SC_intro Try.func6 rfl (by kernel_rfl) (by rw [Try.ntmps6]; exact Nat.le_of_ble_eq_true rfl) ?_; simp only [Try.ntmps6, argE, Nat.reduceAdd])
  
  repeat' (first | ((first | apply RW.q1 | (apply DW.q1; exact rfl)); exact qt) | refine xsg cts ?_ | (apply CW_condT; exact rfl; exact ar) | (apply CW_condF; exact rfl; exact ar) | (refine hK _ _ ?_; clear hK; refine xsg xsl ?_) | (refine xsg ahd ?_; (first | ((first | apply gw_box (d := some 1) | apply gx_box (d := some 1)); exact rfl; exact rfl; intro b1) | (apply gw_asg; exact rfl) | ((first | apply gw_alloc | apply gx_alloc); exact rfl; intro b) | ((first | apply gw_box | apply gx_box); exact rfl; exact rfl; intro b) | (apply gw_lit1; exact rfl; exact rfl; exact rfl; exact rfl; decide; intro b) | (apply gw_lit2; exact rfl; exact rfl; exact rfl; exact rfl; intro b) | (apply gw_lit3; exact rfl; exact rfl; exact rfl; exact rfl; exact rfl; intro b) | (refine gw_stx sto ?_) | (fail))) | (apply CW_region; intro K hK) | (apply CW_condX; exact rfl; exact tst; exact tst; all_goals (intro hq hc; try exact no)) | (refine CW_draw (id := 7) [3] dwStaZi0 mixed (by kernel_rfl) (fun K hK => ?_)) | (refine CW_draw (id := 11) [3] dwStaZi0 mixed (by kernel_rfl) (fun K hK => ?_)))
  refine CW_loop (fun m ll L => ∃ (k ac fc : Nat) (aa fa : Option Addr), m = 3 - k ∧ ll = [(1, true, .pointer (some ⟨b1, 0, none⟩)), (5, true, .slice aa 1 ac), (14, true, .slice fa 3 fc), (15, true, .int .i64 3), (16, true, .int .i64 (k : Nat))] ∧
      L = [.box b1 25 (pkC p), .own 25 3 aa 1 ac (pkC p), .own 44 1 fa 3 fc [.func (.func 12) #[] #[], .func (.func 13) #[] #[], .func (.func 14) #[] #[]]] ∧ k ≤ 3 ∧ (1 ≤ k → sizeO p = none) ∧ (2 ≤ k → formO [p] = none) ∧ (3 ≤ k → dupP [] [p] = none))
    ⟨_, _, _, ⟨0, _, _, _, _, rfl, rfl, rfl, by omega, fun h => absurd h (by omega), fun h => absurd h (by omega), fun h => absurd h (by omega)⟩, by exact sbe, sblt⟩ ?_
  rintro m ll L ⟨k, ac, fc, aa, fa, rfl, rfl, rfl, hk, h1, h2, h3⟩
  have row1 : ∀ {G : Hp} {L L' : List Res} {e : TypeId} (hpk : Pick L (.own e 3 aa 1 ac (pkC p)) L') (hG : Hs H L G), Rs G 3 aa [p].length ac ([p].flatMap pkC) := fun hpk hG => sl_own hpk hG
  by_cases hk0 : k = 0
  · subst hk0
    cases hs : sizeO p with
    | none =>
      have hno := sizeO_none hs
      
      repeat' (first | ((first | apply RW.q1 | (apply DW.q1; exact rfl)); (first | (apply q_ldo; exact rfl; exact rfl; infer_instance; exact rfl) | exact qt)) | refine xsg cts ?_ | (apply CW_condT; exact rfl; exact ar) | (apply CW_condF; exact rfl; exact ar) | (refine hK _ _ ?_; clear hK; refine xsg xsl ?_) | (refine xsg ahd ?_; (first | ((first | apply gw_alloc (d := some 8) | apply gx_alloc (d := some 8)); exact rfl; intro b8) | (apply gw_callv (f := 12); exact rfl; exact rfl; exact go12; intro G hG; refine SC.mono (sized_spec [p] aa ac G (row1 (by exact pkx) hG) (fun q hq => pkOk_ext (hp1 q hq) hG.ext) hS1 hl1 hB false ⟨fun h => (by cases h), fun h => absurd h hno⟩) ?_; rintro v M ⟨rfl, rfl⟩; (try dsimp only [jL, jM])) | (apply gw_asg; exact rfl) | ((first | apply gw_alloc | apply gx_alloc); exact rfl; intro b) | ((first | apply gw_box | apply gx_box); exact rfl; exact rfl; intro b) | (apply gw_lit1; exact rfl; exact rfl; exact rfl; exact rfl; decide; intro b) | (apply gw_lit2; exact rfl; exact rfl; exact rfl; exact rfl; intro b) | (apply gw_lit3; exact rfl; exact rfl; exact rfl; exact rfl; exact rfl; intro b) | (refine gw_stx sto ?_) | (fail))) | (apply CW_region; intro K hK) | (apply CW_condX; exact rfl; exact tst; exact tst; all_goals (intro hq hc; try exact no)) | (refine CW_draw (id := 7) [3] dwStaZi0 mixed (by kernel_rfl) (fun K hK => ?_)) | (refine CW_draw (id := 11) [3] dwStaZi0 mixed (by kernel_rfl) (fun K hK => ?_)))
      exact ⟨_, _, _, ⟨1, ac, fc, aa, fa, rfl, rfl, rfl, by omega, fun _ => rfl, fun h => absurd h (by omega), fun h => absurd h (by omega)⟩, by exact sbe, sblt, by omega⟩
    | some q =>
      obtain ⟨hy, rfl⟩ := sizeO_some hs
      have hV : VarsR p 4 [] [] := .inl ⟨_, by unfold fltO; rw [hs]; rfl, rfl, rfl, rfl⟩
      
      repeat' (first | ((first | apply RW.q1 | (apply DW.q1; exact rfl)); (first | (apply q_ldo; exact rfl; exact rfl; infer_instance; exact rfl) | exact qt)) | refine xsg cts ?_ | (apply CW_condT; exact rfl; exact ar) | (apply CW_condF; exact rfl; exact ar) | (refine hK _ _ ?_; clear hK; refine xsg xsl ?_) | (refine xsg ahd ?_; (first | ((first | apply gw_alloc (d := some 8) | apply gx_alloc (d := some 8)); exact rfl; intro b8) | (apply gw_callv (f := 12); exact rfl; exact rfl; exact go12; intro G hG; refine SC.mono (sized_spec [p] aa ac G (row1 (by exact pkx) hG) (fun q hq => pkOk_ext (hp1 q hq) hG.ext) hS1 hl1 hB true ⟨fun _ => hy, fun _ => rfl⟩) ?_; rintro v M ⟨rfl, rfl⟩; (try dsimp only [jL, jM])) | ((first | apply gw_callE (f := 15) | apply gx_callE (f := 15)); exact rfl; exact go15; intro G hG; exact blame_size [] none 0 0 G) | (apply gw_asg; exact rfl) | ((first | apply gw_alloc | apply gx_alloc); exact rfl; intro b) | ((first | apply gw_box | apply gx_box); exact rfl; exact rfl; intro b) | (apply gw_lit1; exact rfl; exact rfl; exact rfl; exact rfl; decide; intro b) | (apply gw_lit2; exact rfl; exact rfl; exact rfl; exact rfl; intro b) | (apply gw_lit3; exact rfl; exact rfl; exact rfl; exact rfl; exact rfl; intro b) | (refine gw_stx sto ?_) | (fail))) | (apply CW_region; intro K hK) | (apply CW_condX; exact rfl; exact tst; exact tst; all_goals (intro hq hc; try exact no)) | (refine CW_draw (id := 7) [3] dwStaZi0 mixed (by kernel_rfl) (fun K hK => ?_)) | (refine CW_draw (id := 11) [3] dwStaZi0 mixed (by kernel_rfl) (fun K hK => ?_)))
      (refine CW_ret ?_; refine xsg xsl ?_; refine bR [.tmp 2, .tmp 3, .tmp 4] [.own 9 1 none 0 0 [], .own 9 1 none 0 0 []] ?_)
      exact ⟨4, [], [], none, none, 0, 0, hV, rfl, rfl⟩
  by_cases hk1 : k = 1
  · subst hk1
    have hs := h1 (by omega)
    cases hf : formO [p] with
    | none =>
      
      repeat' (first | ((first | apply RW.q1 | (apply DW.q1; exact rfl)); (first | (apply q_ldo; exact rfl; exact rfl; infer_instance; exact rfl) | exact qt)) | refine xsg cts ?_ | (apply CW_condT; exact rfl; exact ar) | (apply CW_condF; exact rfl; exact ar) | (refine hK _ _ ?_; clear hK; refine xsg xsl ?_) | (refine xsg ahd ?_; (first | ((first | apply gw_alloc (d := some 8) | apply gx_alloc (d := some 8)); exact rfl; intro b8) | (apply gw_callv (f := 13); exact rfl; exact rfl; exact go13; intro G hG; refine SC.mono (formed_spec [p] aa ac G (row1 (by exact pkx) hG) (fun q hq => pkOk_ext (hp1 q hq) hG.ext) hS1 hl1) ?_; rintro v M ⟨rfl, rfl⟩; (try dsimp only [jL, jM]); rw [hf]; dsimp only [Option.map, faV]) | (apply gw_asg; exact rfl) | ((first | apply gw_alloc | apply gx_alloc); exact rfl; intro b) | ((first | apply gw_box | apply gx_box); exact rfl; exact rfl; intro b) | (apply gw_lit1; exact rfl; exact rfl; exact rfl; exact rfl; decide; intro b) | (apply gw_lit2; exact rfl; exact rfl; exact rfl; exact rfl; intro b) | (apply gw_lit3; exact rfl; exact rfl; exact rfl; exact rfl; exact rfl; intro b) | (refine gw_stx sto ?_) | (fail))) | (apply CW_region; intro K hK) | (apply CW_condX; exact rfl; exact tst; exact tst; all_goals (intro hq hc; try exact no)) | (refine CW_draw (id := 7) [3] dwStaZi0 mixed (by kernel_rfl) (fun K hK => ?_)) | (refine CW_draw (id := 11) [3] dwStaZi0 mixed (by kernel_rfl) (fun K hK => ?_)))
      exact ⟨_, _, _, ⟨2, ac, fc, aa, fa, rfl, rfl, rfl, by omega, fun _ => hs, fun _ => rfl, fun h => absurd h (by omega)⟩, by exact sbe, sblt, by omega⟩
    | some s =>
      have hV : VarsR p 3 [] [s] := .inl ⟨_, by unfold fltO; rw [hs, hf]; rfl, rfl, rfl, rfl⟩
      
      repeat' (first | ((first | apply RW.q1 | (apply DW.q1; exact rfl)); (first | (apply q_ldo; exact rfl; exact rfl; infer_instance; exact rfl) | exact qt)) | refine xsg cts ?_ | (apply CW_condT; exact rfl; exact ar) | (apply CW_condF; exact rfl; exact ar) | (refine hK _ _ ?_; clear hK; refine xsg xsl ?_) | (refine xsg ahd ?_; (first | ((first | apply gw_alloc (d := some 8) | apply gx_alloc (d := some 8)); exact rfl; intro b8) | (apply gw_callv (f := 13); exact rfl; exact rfl; exact go13; intro G hG; refine SC.mono (formed_spec [p] aa ac G (row1 (by exact pkx) hG) (fun q hq => pkOk_ext (hp1 q hq) hG.ext) hS1 hl1) ?_; rintro v M ⟨rfl, rfl⟩; (try dsimp only [jL, jM]); rw [hf]; dsimp only [Option.map, faV]) | ((first | apply gw_call (f := 15) | apply gx_call (f := 15)); exact rfl; exact go15; intro G hG; refine SC.mono (blame_one 3 s none 0 G (by decide)) ?_; rintro v M ⟨bb, bd, rfl, rfl⟩; (try dsimp only [jL, jM])) | (apply gw_asg; exact rfl) | ((first | apply gw_alloc | apply gx_alloc); exact rfl; intro b) | ((first | apply gw_box | apply gx_box); exact rfl; exact rfl; intro b) | (apply gw_lit1; exact rfl; exact rfl; exact rfl; exact rfl; decide; intro b) | (apply gw_lit2; exact rfl; exact rfl; exact rfl; exact rfl; intro b) | (apply gw_lit3; exact rfl; exact rfl; exact rfl; exact rfl; exact rfl; intro b) | (refine gw_stx sto ?_) | (fail))) | (apply CW_region; intro K hK) | (apply CW_condX; exact rfl; exact tst; exact tst; all_goals (intro hq hc; try exact no)) | (refine CW_draw (id := 7) [3] dwStaZi0 mixed (by kernel_rfl) (fun K hK => ?_)) | (refine CW_draw (id := 11) [3] dwStaZi0 mixed (by kernel_rfl) (fun K hK => ?_)))
      (refine CW_ret ?_; refine xsg xsl ?_; refine bR [.tmp 2, .tmp 3, .tmp 4] [.own 9 1 none 0 0 [], .own 9 1 bb 1 bd (txs [s])] ?_)
      exact ⟨3, [], [s], none, bb, 0, bd, hV, rfl, rfl⟩
  by_cases hk2 : k = 2
  · subst hk2
    have hs := h1 (by omega)
    have hf := h2 (by omega)
    cases hd : dupP [] [p] with
    | none =>
      
      repeat' (first | ((first | apply RW.q1 | (apply DW.q1; exact rfl)); (first | (apply q_ldo; exact rfl; exact rfl; infer_instance; exact rfl) | exact qt)) | refine xsg cts ?_ | (apply CW_condT; exact rfl; exact ar) | (apply CW_condF; exact rfl; exact ar) | (refine hK _ _ ?_; clear hK; refine xsg xsl ?_) | (refine xsg ahd ?_; (first | ((first | apply gw_alloc (d := some 8) | apply gx_alloc (d := some 8)); exact rfl; intro b8) | (apply gw_callv (f := 14); exact rfl; exact rfl; exact go14; intro G hG; refine SC.mono (single_spec [p] aa ac G (row1 (by exact pkx) hG) (fun q hq => pkOk_ext (hp1 q hq) hG.ext) hS1 hl1) ?_; rintro v M ⟨rfl, rfl⟩; (try dsimp only [jL, jM]); rw [hd]; dsimp only [Option.map, faV]) | (apply gw_asg; exact rfl) | ((first | apply gw_alloc | apply gx_alloc); exact rfl; intro b) | ((first | apply gw_box | apply gx_box); exact rfl; exact rfl; intro b) | (apply gw_lit1; exact rfl; exact rfl; exact rfl; exact rfl; decide; intro b) | (apply gw_lit2; exact rfl; exact rfl; exact rfl; exact rfl; intro b) | (apply gw_lit3; exact rfl; exact rfl; exact rfl; exact rfl; exact rfl; intro b) | (refine gw_stx sto ?_) | (fail))) | (apply CW_region; intro K hK) | (apply CW_condX; exact rfl; exact tst; exact tst; all_goals (intro hq hc; try exact no)) | (refine CW_draw (id := 7) [3] dwStaZi0 mixed (by kernel_rfl) (fun K hK => ?_)) | (refine CW_draw (id := 11) [3] dwStaZi0 mixed (by kernel_rfl) (fun K hK => ?_)))
      exact ⟨_, _, _, ⟨3, ac, fc, aa, fa, rfl, rfl, rfl, by omega, fun _ => hs, fun _ => hf, fun _ => rfl⟩, by exact sbe, sblt, by omega⟩
    | some s =>
      have hV : VarsR p 6 [] [s] := .inl ⟨_, by unfold fltO; rw [hs, hf, hd]; rfl, rfl, rfl, rfl⟩
      
      repeat' (first | ((first | apply RW.q1 | (apply DW.q1; exact rfl)); (first | (apply q_ldo; exact rfl; exact rfl; infer_instance; exact rfl) | exact qt)) | refine xsg cts ?_ | (apply CW_condT; exact rfl; exact ar) | (apply CW_condF; exact rfl; exact ar) | (refine hK _ _ ?_; clear hK; refine xsg xsl ?_) | (refine xsg ahd ?_; (first | ((first | apply gw_alloc (d := some 8) | apply gx_alloc (d := some 8)); exact rfl; intro b8) | (apply gw_callv (f := 14); exact rfl; exact rfl; exact go14; intro G hG; refine SC.mono (single_spec [p] aa ac G (row1 (by exact pkx) hG) (fun q hq => pkOk_ext (hp1 q hq) hG.ext) hS1 hl1) ?_; rintro v M ⟨rfl, rfl⟩; (try dsimp only [jL, jM]); rw [hd]; dsimp only [Option.map, faV]) | ((first | apply gw_call (f := 15) | apply gx_call (f := 15)); exact rfl; exact go15; intro G hG; refine SC.mono (blame_one 6 s none 0 G (by decide)) ?_; rintro v M ⟨bb, bd, rfl, rfl⟩; (try dsimp only [jL, jM])) | (apply gw_asg; exact rfl) | ((first | apply gw_alloc | apply gx_alloc); exact rfl; intro b) | ((first | apply gw_box | apply gx_box); exact rfl; exact rfl; intro b) | (apply gw_lit1; exact rfl; exact rfl; exact rfl; exact rfl; decide; intro b) | (apply gw_lit2; exact rfl; exact rfl; exact rfl; exact rfl; intro b) | (apply gw_lit3; exact rfl; exact rfl; exact rfl; exact rfl; exact rfl; intro b) | (refine gw_stx sto ?_) | (fail))) | (apply CW_region; intro K hK) | (apply CW_condX; exact rfl; exact tst; exact tst; all_goals (intro hq hc; try exact no)) | (refine CW_draw (id := 7) [3] dwStaZi0 mixed (by kernel_rfl) (fun K hK => ?_)) | (refine CW_draw (id := 11) [3] dwStaZi0 mixed (by kernel_rfl) (fun K hK => ?_)))
      (refine CW_ret ?_; refine xsg xsl ?_; refine bR [.tmp 2, .tmp 3, .tmp 4] [.own 9 1 none 0 0 [], .own 9 1 bb 1 bd (txs [s])] ?_)
      exact ⟨6, [], [s], none, bb, 0, bd, hV, rfl, rfl⟩
  obtain rfl : k = 3 := by omega
  have hs := h1 (by omega)
  have hf := h2 (by omega)
  have hd := h3 (by omega)
  have hal := all_len_le (sizeO_none hs)
  have hnd : ((allT p.fl).map Th.n).Nodup := ((dupP_none hd).2.2 p (by simp)).2.2
  cases hj : joinO p with
  | some q =>
    obtain ⟨hq0, hq4⟩ := joinO_some hj
    have hV : VarsR p q.1 [] [q.2] := .inl ⟨_, by unfold fltO; rw [hs, hf, hd, hj]; rfl, rfl, rfl, rfl⟩
    
    repeat' (first | ((first | apply RW.q1 | (apply DW.q1; exact rfl)); exact qt) | refine xsg cts ?_ | (apply CW_condT; exact rfl; exact ar) | (apply CW_condF; exact rfl; exact ar) | (refine hK _ _ ?_; clear hK; refine xsg xsl ?_) | (refine xsg ahd ?_; (first | ((first | apply gw_alloc (d := some 9) | apply gx_alloc (d := some 9)); exact rfl; intro b9) | ((first | apply gw_callE (f := 16) | apply gx_callE (f := 16)); exact rfl; exact go16; intro G hG; exact joined_spec p G (pkOk_ext hp hG.ext) hS (by omega); rw [hj]; dsimp only [faV]) | ((first | apply gw_call (f := 15) | apply gx_call (f := 15)); exact rfl; exact go15; intro G hG; refine SC.mono (blame_one q.1 q.2 none 0 G hq4) ?_; rintro v M ⟨bb, bd, rfl, rfl⟩; (try dsimp only [jL, jM])) | (apply gw_asg; exact rfl) | ((first | apply gw_alloc | apply gx_alloc); exact rfl; intro b) | ((first | apply gw_box | apply gx_box); exact rfl; exact rfl; intro b) | (apply gw_lit1; exact rfl; exact rfl; exact rfl; exact rfl; decide; intro b) | (apply gw_lit2; exact rfl; exact rfl; exact rfl; exact rfl; intro b) | (apply gw_lit3; exact rfl; exact rfl; exact rfl; exact rfl; exact rfl; intro b) | (refine gw_stx sto ?_) | (fail))) | (apply CW_region; intro K hK) | (apply CW_condX; exact rfl; exact tst; exact tst; all_goals (intro hq hc; try exact no)) | (refine CW_draw (id := 7) [3] dwStaZi0 mixed (by kernel_rfl) (fun K hK => ?_)) | (refine CW_draw (id := 11) [3] dwStaZi0 mixed (by kernel_rfl) (fun K hK => ?_)))
    (refine CW_ret ?_; refine xsg xsl ?_; refine bR [.tmp 2, .tmp 3, .tmp 4] [.own 9 1 none 0 0 [], .own 9 1 bb 1 bd (txs [q.2])] ?_)
    exact ⟨q.1, [], [q.2], none, bb, 0, bd, hV, rfl, rfl⟩
  | none =>
    have hno : fltO p = none := by unfold fltO; rw [hs, hf, hd, hj]; rfl
    
    repeat' (first | ((first | apply RW.q1 | (apply DW.q1; exact rfl)); exact qt) | refine xsg cts ?_ | (apply CW_condT; exact rfl; exact ar) | (apply CW_condF; exact rfl; exact ar) | (refine hK _ _ ?_; clear hK; refine xsg xsl ?_) | (refine xsg ahd ?_; (first | ((first | apply gw_alloc (d := some 9) | apply gx_alloc (d := some 9)); exact rfl; intro b9) | ((first | apply gw_callE (f := 16) | apply gx_callE (f := 16)); exact rfl; exact go16; intro G hG; exact joined_spec p G (pkOk_ext hp hG.ext) hS (by omega); rw [hj]; dsimp only [faV]) | ((first | apply gw_call (f := 17) | apply gx_call (f := 17)); exact rfl; exact go17; intro G hG; refine SC.mono (vars_spec p G (pkOk_ext hp hG.ext) (by omega) hS.fl (fun x hx => (hS.us x hx).1) hnd) ?_; rintro v M ⟨out, cy, oa, ca, oc, cc, rfl, rfl, hR⟩; (try dsimp only [jL, jM])) | (apply gw_asg; exact rfl) | ((first | apply gw_alloc | apply gx_alloc); exact rfl; intro b) | ((first | apply gw_box | apply gx_box); exact rfl; exact rfl; intro b) | (apply gw_lit1; exact rfl; exact rfl; exact rfl; exact rfl; decide; intro b) | (apply gw_lit2; exact rfl; exact rfl; exact rfl; exact rfl; intro b) | (apply gw_lit3; exact rfl; exact rfl; exact rfl; exact rfl; exact rfl; intro b) | (refine gw_stx sto ?_) | (fail))) | (apply CW_region; intro K hK) | (apply CW_condX; exact rfl; exact tst; exact tst; all_goals (intro hq hc; try exact no)) | (refine CW_draw (id := 7) [3] dwStaZi0 mixed (by kernel_rfl) (fun K hK => ?_)) | (refine CW_draw (id := 11) [3] dwStaZi0 mixed (by kernel_rfl) (fun K hK => ?_)))
    · rcases hR with ⟨hcy0, hn0, hca, rfl⟩ | ⟨_, _, rfl, _⟩
      · (refine CW_ret ?_; refine xsg xsl ?_; refine bR [.tmp 2, .tmp 3, .tmp 4] [.own 9 1 none 0 0 [], .own 9 1 ca cy.length cc (txs cy)] ?_)
        exact ⟨150, [], cy, none, ca, 0, cc, .inr (.inl ⟨hno, hcy0, hn0, rfl, rfl⟩), rfl, rfl⟩
      · cases hq
    · rcases hR with ⟨hcy0, hn0, hca, rfl⟩ | ⟨hcy0, rfl, rfl, hl⟩
      · rw [hca] at hq; cases hq
      · (refine CW_ret ?_; refine xsg xsl ?_; refine bR [.tmp 2, .tmp 3, .tmp 4] [.own 9 1 oa out.length oc (txs out), .own 9 1 none 0 0 []] ?_)
        exact ⟨0, out, [], oa, none, oc, 0, .inr (.inr ⟨hno, hcy0, rfl, rfl, hl⟩), rfl, rfl⟩
end Go.Proofs.Ytkhmimlgkjenfaa.HL
namespace Go.Proofs.Ytkhmimlgkjenfaa.HL
open Go
attribute [local irreducible] goFn thenS blockS bodyS CW RW DW GW QW NW SC Pick Picks SubL Rd NN ResOk SrcW subE hops hseg AW hgen HC qv bldv
set_option maxHeartbeats 8000000
set_option maxRecDepth 100000
set_option linter.unusedVariables false
set_option linter.unusedSimpArgs false

def knF (va : Option Addr) (vc : Nat) (xa : Option Addr) (xc : Nat) (za : Option Addr) (zc : Nat) : Fl :=
  ⟨[102], va, vc, [⟨[120], xa, xc, [[121]]⟩, ⟨[121], none, 0, []⟩, ⟨[122], za, zc, [[120]]⟩], none, 0, [], 0⟩
def knP (la : Option Addr) (lc : Nat) (f : Fl) : Pk := ⟨[97], none, 0, [], la, lc, [f]⟩
section
variable {la va xa za : Option Addr} {lc vc xc zc : Nat}
theorem kn_all : allT [knF va vc xa xc za zc] = [⟨[120], true, xa, xc, [[121]]⟩, ⟨[121], true, none, 0, []⟩, ⟨[122], true, za, zc, [[120]]⟩] := rfl
theorem kn_flt : fltO (knP la lc (knF va vc xa xc za zc)) = none := by
  refine orO_none.2 ⟨?_, orO_none.2 ⟨?_, orO_none.2 ⟨rfl, rfl⟩⟩⟩
  · unfold sizeO
    rw [if_neg]
    rintro (⟨p, hp, f, hf, h⟩ | h)
    · obtain rfl := List.mem_singleton.1 hp
      obtain rfl := List.mem_singleton.1 hf
      have : (knF va vc xa xc za zc).k = 0 := rfl
      omega
    · have e : allN [knP la lc (knF va vc xa xc za zc)] = 7 := rfl
      omega
  · rw [Option.map_eq_none_iff]
    have w : ∀ (path : Bool) (c : UInt8), signP path 0 c = true → WordP path [c] := fun path c hc => ⟨Nat.le_refl _, by simp, fun i d hd => by
      cases i with
      | zero => cases hd; exact hc
      | succ i => simp at hd, .inr (by simp [initT])⟩
    refine firstO_none.2 fun p hp => ?_
    obtain rfl := List.mem_singleton.1 hp
    refine orO_none.2 ⟨wordO_none.2 (w _ _ rfl), firstO_none.2 fun f hf => ?_⟩
    obtain rfl := List.mem_singleton.1 hf
    refine orO_none.2 ⟨rfl, firstO_none.2 fun x hx => wordO_none.2 ?_⟩
    rcases List.mem_cons.1 hx with rfl | hx
    · exact w _ _ rfl
    rcases List.mem_cons.1 hx with rfl | hx
    · exact w _ _ rfl
    rcases List.mem_cons.1 hx with rfl | hx
    · exact w _ _ rfl
    cases hx
theorem kn_edge {a b : Tx} (h : NT (allT [knF va vc xa xc za zc]) a b) : (a = [120] ∧ b = [121]) ∨ (a = [122] ∧ b = [120]) := by
  obtain ⟨x, hx, rfl, hb, _⟩ := h
  rw [kn_all] at hx
  rcases List.mem_cons.1 hx with rfl | hx
  · exact .inl ⟨rfl, List.mem_singleton.1 hb⟩
  rcases List.mem_cons.1 hx with rfl | hx
  · cases hb
  rcases List.mem_cons.1 hx with rfl | hx
  · exact .inr ⟨rfl, List.mem_singleton.1 hb⟩
  cases hx
theorem kn_walk {a b : Tx} {m : Nat} (h : Walk (NT (allT [knF va vc xa xc za zc])) m a b) : (a = [120] ∧ b = [121]) ∨ (a = [122] ∧ (b = [120] ∨ b = [121])) := by
  induction h with
  | one e => rcases kn_edge e with h | ⟨h, h2⟩
             · exact .inl h
             · exact .inr ⟨h, .inl h2⟩
  | step e _ ih =>
    rcases kn_edge e with ⟨h1, h2⟩ | ⟨h1, h2⟩
    · rcases ih with ⟨h3, _⟩ | ⟨h3, _⟩ <;> rw [h2] at h3 <;> exact absurd h3 (by decide)
    · rcases ih with ⟨h3, h4⟩ | ⟨h3, _⟩
      · exact .inr ⟨h1, .inr h4⟩
      · rw [h2] at h3; exact absurd h3 (by decide)
theorem kn_vars : VarsR (knP la lc (knF va vc xa xc za zc)) 0 [[121], [120], [122]] [] := by
  refine .inr (.inr ⟨kn_flt, .inl ⟨rfl, fun a k _ hw => ?_⟩, rfl, rfl, _, List.Perm.refl _, List.pairwise_singleton _ _, ?_, rfl⟩)
  · rcases kn_walk hw with ⟨h1, h2⟩ | ⟨h1, h2 | h2⟩ <;> rw [h1] at h2 <;> exact absurd h2 (by decide)
  · show Steps _ ((allT [knF va vc xa xc za zc]).map Th.n) _
    have hL : (allT [knF va vc xa xc za zc]).map Th.n = [[120], [121], [122]] := rfl
    rw [hL]
    have v : ∀ x, x ∈ [([120] : Tx), [121], [122]] → VN (allT [knF va vc xa xc za zc]) x := by
      intro x hx
      rw [← hL] at hx
      obtain ⟨y, hy, rfl⟩ := List.mem_map.1 hx
      refine ⟨y, hy, rfl, ?_⟩
      rw [kn_all] at hy
      rcases List.mem_cons.1 hy with rfl | hy
      · rfl
      rcases List.mem_cons.1 hy with rfl | hy
      · rfl
      rcases List.mem_cons.1 hy with rfl | hy
      · rfl
      cases hy
    have s0 : Steps (RdW (NT (allT [knF va vc xa xc za zc])) (VN (allT [knF va vc xa xc za zc]))) [([120] : Tx), [121], [122]] [] := .nil
    have s1 : Steps (RdW (NT (allT [knF va vc xa xc za zc])) (VN (allT [knF va vc xa xc za zc]))) [([120] : Tx), [121], [122]] [[121]] := by
      refine .snoc s0 (A := [[120]]) (B := [[122]]) rfl ⟨v _ (by simp), by simp, fun m k hw _ => ?_⟩ fun y hy g => ?_
      · rcases kn_walk hw with ⟨h, _⟩ | ⟨h, _⟩ <;> exact absurd h (by decide)
      · obtain rfl := List.mem_singleton.1 hy
        have e : NT (allT [knF va vc xa xc za zc]) [120] [121] := ⟨⟨[120], true, xa, xc, [[121]]⟩, by rw [kn_all]; simp, rfl, by simp, ⟨[121], true, none, 0, []⟩, by rw [kn_all]; simp, rfl⟩
        exact absurd (g.2.2 _ _ (.one e) (v _ (by simp))) (by simp)
    have s2 : Steps (RdW (NT (allT [knF va vc xa xc za zc])) (VN (allT [knF va vc xa xc za zc]))) [([120] : Tx), [121], [122]] [[121], [120]] := by
      refine .snoc s1 (A := []) (B := [[121], [122]]) rfl ⟨v _ (by simp), by simp, fun m k hw _ => ?_⟩ fun y hy g => by cases hy
      rcases kn_walk hw with ⟨_, h⟩ | ⟨h, _⟩
      · rw [h]; simp
      · exact absurd h (by decide)
    refine .snoc s2 (A := [[120], [121]]) (B := []) rfl ⟨v _ (by simp), by simp, fun m k hw _ => ?_⟩ fun y hy g => ?_
    · rcases kn_walk hw with ⟨h, _⟩ | ⟨_, h | h⟩
      · exact absurd h (by decide)
      · rw [h]; simp
      · rw [h]; simp
    · refine g.2.1 ?_
      rcases List.mem_cons.1 hy with rfl | hy
      · simp
      · obtain rfl := List.mem_singleton.1 hy; simp
end
end Go.Proofs.Ytkhmimlgkjenfaa.HL
namespace Go.Proofs.Ytkhmimlgkjenfaa.HL
open Go
attribute [local irreducible] goFn thenS blockS bodyS CW RW DW GW QW NW SC Pick Picks SubL Rd NN ResOk SrcW subE hops hseg AW hgen HC qv bldv
set_option maxHeartbeats 8000000
set_option maxRecDepth 100000
set_option linter.unusedVariables false
set_option linter.unusedSimpArgs false

theorem rs_none {H : Hp} {z : Nat} : Rs H z none 0 0 [] := ⟨by simp, .inl ⟨none, 0, rfl, rfl⟩⟩
theorem kn_ok {G : Hp} {la va xa za : Option Addr} {lc vc xc zc : Nat} (h1 : Rs G 1 xa 1 xc (txs [[121]])) (h2 : Rs G 1 za 1 zc (txs [[120]])) (h3 : Rs G 2 va 3 vc ((knF va vc xa xc za zc).vs.flatMap vrC)) (h4 : Rs G 4 la 1 lc ([knF va vc xa xc za zc].flatMap flC)) :
    pkOk G (knP la lc (knF va vc xa xc za zc)) := by
  refine ⟨rs_none, h4, fun f hf => ?_⟩
  obtain rfl := List.mem_singleton.1 hf
  refine ⟨h3, rs_none, fun x hx => ?_, fun x hx => by cases hx⟩
  rcases List.mem_cons.1 hx with rfl | hx
  · exact h1
  rcases List.mem_cons.1 hx with rfl | hx
  · exact rs_none
  rcases List.mem_cons.1 hx with rfl | hx
  · exact h2
  cases hx
theorem kn_small {la va xa za : Option Addr} {lc vc xc zc : Nat} : Small (knP la lc (knF va vc xa xc za zc)) := by
  refine ⟨Nat.zero_le _, by show 1 ≤ _; omega, fun f hf => ?_, ⟨by show 1 ≤ _; omega, fun f hf => ?_⟩, fun x hx => ?_⟩
  · obtain rfl := List.mem_singleton.1 hf
    exact ⟨by show 3 ≤ _; omega, Nat.zero_le _⟩
  · obtain rfl := List.mem_singleton.1 hf
    show 1 ≤ _; omega
  · have hx : x ∈ allT [knF va vc xa xc za zc] := hx
    rw [kn_all] at hx
    rcases List.mem_cons.1 hx with rfl | hx
    · exact ⟨by show 1 ≤ _; omega, by show 1 ≤ _; omega, fun s hs => by rw [List.mem_singleton.1 hs]; show 1 ≤ _; omega⟩
    rcases List.mem_cons.1 hx with rfl | hx
    · exact ⟨Nat.zero_le _, by show 1 ≤ _; omega, fun s hs => by cases hs⟩
    rcases List.mem_cons.1 hx with rfl | hx
    · exact ⟨by show 1 ≤ _; omega, by show 1 ≤ _; omega, fun s hs => by rw [List.mem_singleton.1 hs]; show 1 ≤ _; omega⟩
    cases hx
theorem known_spec (H : Hp) : SC Try.prog 10 [] H [] (fun v M => v = .bool true ∧ M = []) := by
  (refine SC_intro Try.func10 rfl (by kernel_rfl) (by rw [Try.ntmps10]; exact Nat.le_of_ble_eq_true rfl) ?_; simp only [Try.ntmps10, argE, Nat.reduceAdd])
  
  repeat' (first | ((first | apply RW.q1 | (apply RW.qg; exact gvx; refine hgx tst ?_; intro hg hg')); (first | (apply q_ldo; exact rfl; exact evgx; infer_instance; exact rfl) | (apply q_sbeqT (a := [121]) (b := [121]); exact evgx; exact evgx; exact rfl) | (apply q_sbeqT (a := [120]) (b := [120]); exact evgx; exact evgx; exact rfl) | (apply q_sbeqT (a := [122]) (b := [122]); exact evgx; exact evgx; exact rfl) | (apply q_bld; exact rfl; first | exact bld25_0_2 _ _ _ _ | exact bld38_0_1 _ _ _ _ | exact bld40_0 _ | exact bld40_0_1 _ _ _ _) | exact qt | exact qu)) | refine xsg cts ?_ | (apply CW_condT; exact rfl; exact ar) | (apply CW_condF; exact rfl; exact ar) | ((first | apply RW.s1 | apply RW.s0); exact gva) | (refine hK _ _ ?_; clear hK; refine xsg xsl ?_) | ((first | apply RW.a1 | apply RW.a0 | (apply RW.at; exact gva)); (first | (apply gw_lit1 (d := some 5); exact rfl; exact rfl; exact rfl; exact rfl; decide; intro yb) | (apply gw_lit1 (d := some 8); exact rfl; exact rfl; exact rfl; exact rfl; decide; intro zb) | (refine gw_litn (d := some 10) (n := 3) (z := 2) rfl rfl rfl rfl rfl (by decide) (fun vb => ?_)) | (apply gw_lit1 (d := some 12); exact rfl; exact rfl; exact rfl; exact rfl; decide; intro fb) | (apply gw_call (f := 6); exact evx; exact go6; intro G hG; refine SC.mono (sVars_spec (knP (some ⟨fb, 0, none⟩) 1 (knF (some ⟨vb, 0, none⟩) 3 (some ⟨yb, 0, none⟩) 1 (some ⟨zb, 0, none⟩) 1)) G (kn_ok (sl_own (by exact pkx) hG) (sl_own (by exact pkx) hG) (sl_own (by exact pkx) hG) (sl_own (by exact pkx) hG)) kn_small) ?_; rintro v M ⟨e, out, them, oa, ca, oc, cc, hV, rfl, rfl⟩; (try dsimp only [jL, jM]); obtain ⟨rfl, rfl, rfl⟩ := hV.same kn_vars) | (apply gw_asg; exact rfl) | (apply gw_lit1; exact rfl; exact rfl; exact rfl; exact rfl; decide; intro b) | (apply gw_lit2; exact rfl; exact rfl; exact rfl; exact rfl; intro b) | (apply gw_lit3; exact rfl; exact rfl; exact rfl; exact rfl; exact rfl; intro b) | (fail))) | (apply CW_region; intro K hK) | (apply CW_condX; exact rfl; exact tst; exact tst; all_goals (intro hq hc; try exact no)))
  (refine CW_ret ?_; refine xsg xsl ?_; refine bR [.tmp 0] [] ?_)
  exact ⟨rfl, rfl⟩
end Go.Proofs.Ytkhmimlgkjenfaa.HL
