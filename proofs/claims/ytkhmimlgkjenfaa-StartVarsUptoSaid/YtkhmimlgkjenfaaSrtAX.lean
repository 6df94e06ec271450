/- SrtA: SrtS: the library's stable sort of files (slices.SortStableFunc at strings): a sorted list of the same texts. Conditions: what is asked of the comparing function; the list's length. SrtQ: the library's stable sort of files: merging in place, and the whole. Conditions: what is asked of the comparing function; the list's length. SrtR: the library's stable sort of files: merging in place in general. Conditions: what is asked of the comparing function; the list's length. SrtO: the library's stable sort of files as a whole. Conditions: what is asked of the comparing function; the list's length. -/
import Derived.Test.YtkhmimlgkjenfaaEngX
import Derived.Test.YtkhmimlgkjenfaaSortPX
import Derived.Test.YtkhmimlgkjenfaaTexAX
namespace Go.Proofs.Ytkhmimlgkjenfaa.HL
open Go
attribute [local irreducible] goFn thenS blockS bodyS CW RW DW GW QW NW SC Pick Picks SubL Rd NN ResOk SrcW subE hops hseg AW hgen HC qv bldv
set_option maxHeartbeats 8000000
set_option maxRecDepth 100000
set_option linter.unusedVariables false
set_option linter.unusedSimpArgs false

abbrev dwSrtS0 : List (Nat × Bool) := [(0, false), (1, false), (2, false), (3, false), (4, false), (5, false), (6, false), (7, false), (8, false), (9, false), (10, false), (11, false), (12, false), (13, false), (14, false), (15, false), (16, false), (17, false), (18, false), (19, false), (20, false), (21, true), (22, false), (23, true)]
abbrev dwSrtS1 : List (Nat × Bool) := [(0, false), (1, false), (2, false), (3, false), (4, false), (5, false), (6, false), (7, false), (8, false), (9, false), (10, false), (11, false), (12, false), (13, false), (14, true), (15, false), (16, false)]
abbrev dwSrtS2 : List (Nat × Bool) := [(0, false), (1, false), (2, false), (3, false), (4, false), (5, false), (6, false), (7, false), (8, false), (9, false), (10, false), (11, false), (12, false), (13, false), (14, false), (15, true), (16, false), (17, true)]
abbrev flV (f : Fl) : Value := .agg #[.string (bstr f.n), .slice f.va f.vs.length f.vc, .slice f.fa f.fs.length f.fc, .int .i64 f.k]
theorem flC_len (xs : List Fl) : (xs.flatMap flC).length = xs.length * 4 := by
  induction xs with
  | nil => rfl
  | cons x xs ih =>
    rw [List.flatMap_cons, List.length_append, ih, List.length_cons]
    show 4 + _ = _
    omega
theorem get_fl {xs : List Fl} {j : Nat} {i : Int} {x : Fl} (hx : xs[j]? = some x) (hk : i.toNat = j) : ((xs.flatMap flC).drop (i.toNat * 4)).take 4 = [.string (bstr x.n), .slice x.va x.vs.length x.vc, .slice x.fa x.fs.length x.fc, .int .i64 x.k] := ix_elem (enc := flC) hx hk
theorem gw_stf {P : Program} {l : Ents} {H : Hp} {L L' : List Res} {d : Option Tmp} {T : TypeId} {pos : String} {aft : Array Edge} {gd : Option (Nat × Bool)} {K : Value → List Res → Prop} {t e : TypeId} {m c k : Nat} {x y : Operand} {a : Option Addr} {xs : List Fl} {f : Fl} [hz : Szc P t 4]
    (hx : evg l true x = some (.pointer (pt a (k * 4)))) (hy : evg l true y = some (flV f)) (hp : POwn L a e 4 m c (xs.flatMap flC) L') (hl : k < xs.length) (h : K undef (.own e 4 a m c ((xs.set k f).flatMap flC) :: L')) : GW P l ⟨d, .store t x y, T, pos, aft, gd⟩ H L K := by
  refine gw_sto (n := 4) (vs := flC f) hx hy hp rfl rfl rfl (by decide) ?_ ?_
  · rw [flC_len]
    have := Nat.mul_le_mul_right 4 (show k + 1 ≤ xs.length from hl)
    rw [Nat.add_mul] at this
    exact this
  · rw [spl_flat hl]; exact h
theorem swap_step {P Y1 X2 M X1 Y2 S : List Fl} {x y : Fl} {k1 k2 : Nat} (h1 : (P ++ Y1).length = k1) (h2 : (P ++ (Y1 ++ (y :: (X2 ++ (M ++ X1))))).length = k2) :
    ((P ++ (Y1 ++ (x :: (X2 ++ (M ++ (X1 ++ (y :: (Y2 ++ S)))))))).set k1 y).set k2 x = P ++ ((Y1 ++ [y]) ++ (X2 ++ (M ++ ((X1 ++ [x]) ++ (Y2 ++ S))))) := by
  rw [← List.append_assoc, set_mid h1, show (P ++ Y1) ++ y :: (X2 ++ (M ++ (X1 ++ (y :: (Y2 ++ S))))) = (P ++ (Y1 ++ (y :: (X2 ++ (M ++ X1))))) ++ y :: (Y2 ++ S) by simp, set_mid h2]
  simp
theorem swapRange_spec (P X M Y S : List Fl) (a : Option Addr) (n c : Nat) (fn : Value) (H : Hp) (hxy : X.length = Y.length) (hn : n = (P ++ (X ++ (M ++ (Y ++ S)))).length) (hN : n ≤ 1099511627776)
    (i j k : Int) (hi : i = P.length) (hj : j = P.length + X.length + M.length) (hk : k = X.length) :
    SC Try.prog 81 [.slice a n c, .int .i64 i, .int .i64 j, .int .i64 k, fn] H [.own 38 4 a n c ((P ++ (X ++ (M ++ (Y ++ S)))).flatMap flC)]
      (fun v M' => M' = [.own 38 4 a n c ((P ++ (Y ++ (M ++ (X ++ S)))).flatMap flC)]) := by
  have hl : n = P.length + X.length + M.length + Y.length + S.length := by rw [hn]; simp only [List.length_append]; omega
  (refine SC_intro Try.func81 rfl (by kernel_rfl) (by rw [Try.ntmps81]; exact Nat.le_of_ble_eq_true rfl) ?_; simp only [Try.ntmps81, argE, Nat.reduceAdd])
  
  repeat' (first | ((first | apply RW.q1 | (apply DW.q1; exact rfl)); exact qt) | refine xsg cts ?_ | (apply CW_condT; exact rfl; exact ar) | (apply CW_condF; exact rfl; exact ar) | (refine hK _ _ ?_; clear hK; refine xsg xsl ?_) | (refine xsg ahd ?_; (first | (apply gw_asg; exact rfl) | (refine gw_stx sto ?_) | (fail))) | (apply CW_region; intro K hK) | (apply CW_condX; exact rfl; exact tst; exact tst; all_goals (intro hq hc; try exact no)) | (refine CW_draw (id := 3) [] dwSrtS0 mixed (by kernel_rfl) (fun K hK => ?_)))
  refine CW_loop (fun m l L => ∃ (X1 X2 Y1 Y2 xs : List Fl), m = X2.length ∧ l = [(0, true, .slice a n c), (1, true, .int .i64 i), (2, true, .int .i64 j), (3, true, .int .i64 k), (10, true, .int .i64 (X1.length : Nat))] ∧
      L = [.own 38 4 a n c (xs.flatMap flC)] ∧ X = X1 ++ X2 ∧ Y = Y1 ++ Y2 ∧ X1.length = Y1.length ∧ xs = P ++ (Y1 ++ (X2 ++ (M ++ (X1 ++ (Y2 ++ S))))))
    ⟨_, _, _, ⟨[], X, [], Y, _, rfl, rfl, rfl, rfl, rfl, rfl, rfl⟩, by exact sbe, by exact sbl⟩ ?_
  rintro m l L ⟨X1, X2, Y1, Y2, xs, rfl, rfl, rfl, rfl, rfl, h1, h2⟩
  simp only [List.length_append] at hk hxy hj hl
  cases X2 with
  | nil =>
    have hY2 : Y2 = [] := List.eq_nil_of_length_eq_zero (by simp only [List.length_nil] at hxy; omega)
    subst hY2
    simp only [List.length_nil] at hk
    repeat' (first | ((first | apply RW.q1 | (apply DW.q1; exact rfl)); exact qt) | refine xsg cts ?_ | (apply CW_condT; exact rfl; exact ar) | (apply CW_condF; exact rfl; exact ar) | (refine hK _ _ ?_; clear hK; refine xsg xsl ?_) | (refine xsg ahd ?_; (first | (apply gw_asg; exact rfl) | (refine gw_stx sto ?_) | (fail))) | (apply CW_region; intro K hK) | (apply CW_condX; exact rfl; exact tst; exact tst; all_goals (intro hq hc; try exact no)) | (refine CW_draw (id := 3) [] dwSrtS0 mixed (by kernel_rfl) (fun K hK => ?_)))
    (refine bE [] [.own 38 4 a n c _] ?_)
    rw [h2]; simp
  | cons x X2 =>
    cases Y2 with
    | nil => simp only [List.length_cons, List.length_nil] at hxy; omega
    | cons y Y2 =>
      simp only [List.length_cons] at hk hxy hj hl
      have hgx : xs[P.length + X1.length]? = some x := by
        rw [h2, ← List.append_assoc]; exact get_mid (by simp only [List.length_append]; omega)
      have hgy : xs[P.length + (X1.length + (X2.length + 1)) + M.length + X1.length]? = some y := by
        rw [h2, show P ++ (Y1 ++ (x :: X2 ++ (M ++ (X1 ++ (y :: Y2 ++ S))))) = (P ++ (Y1 ++ (x :: X2 ++ (M ++ X1)))) ++ y :: (Y2 ++ S) by simp]
        exact get_mid (by simp only [List.length_append, List.length_cons]; omega)
      have hxl : xs.length = n := by rw [h2]; simp only [List.length_append, List.length_cons]; omega
      repeat' (first | ((first | apply RW.q1 | (apply DW.q1; exact rfl)); (first | (apply q_lao; exact rfl; exact rfl; infer_instance; (first | exact get_fl hgx (by omega) | exact get_fl hgy (by omega)); exact rfl; decide) | exact qt)) | refine xsg cts ?_ | (apply CW_condT; exact rfl; exact ar) | (apply CW_condF; exact rfl; exact ar) | (refine hK _ _ ?_; clear hK; refine xsg xsl ?_) | (refine xsg ahd ?_; (first | (apply gw_stf; exact rfl; exact rfl; infer_instance; (first | omega | (simp only [List.length_set]; omega))) | (apply gw_asg; exact rfl) | (refine gw_stx sto ?_) | (fail))) | (apply CW_region; intro K hK) | (apply CW_condX; exact rfl; exact tst; exact tst; all_goals (intro hq hc; try exact no)) | (refine CW_draw (id := 3) [] dwSrtS0 mixed (by kernel_rfl) (fun K hK => ?_)))
      have e1 : (i + (X1.length : Nat)).toNat = P.length + X1.length := by omega
      have e2 : (j + (X1.length : Nat)).toNat = P.length + (X1.length + (X2.length + 1)) + M.length + X1.length := by omega
      try simp only [e1, e2]
      rw [h2, show P ++ (Y1 ++ (x :: X2 ++ (M ++ (X1 ++ (y :: Y2 ++ S))))) = P ++ (Y1 ++ (x :: (X2 ++ (M ++ (X1 ++ (y :: (Y2 ++ S))))))) by simp, swap_step (by simp only [List.length_append]; omega) (by simp only [List.length_append, List.length_cons]; omega)]
      exact ⟨_, _, _, ⟨X1 ++ [x], X2, Y1 ++ [y], Y2, _, rfl, rfl, rfl, by simp, by simp, by simp [h1], rfl⟩, by simp only [List.length_append, List.length_cons, List.length_nil]; exact sbe, by exact sbl, by simp⟩

theorem rotate_spec (P A B S : List Fl) (a : Option Addr) (n c : Nat) (fn : Value) (H : Hp) (hA : 1 ≤ A.length) (hB : 1 ≤ B.length) (hn : n = (P ++ (A ++ (B ++ S))).length) (hN : n ≤ 1099511627776)
    (i j k : Int) (hi : i = P.length) (hj : j = P.length + A.length) (hk : k = P.length + A.length + B.length) :
    SC Try.prog 80 [.slice a n c, .int .i64 i, .int .i64 j, .int .i64 k, fn] H [.own 38 4 a n c ((P ++ (A ++ (B ++ S))).flatMap flC)]
      (fun v M' => M' = [.own 38 4 a n c ((P ++ (B ++ (A ++ S))).flatMap flC)]) := by
  have hl : n = P.length + A.length + B.length + S.length := by rw [hn]; simp only [List.length_append]; omega
  (refine SC_intro Try.func80 rfl (by kernel_rfl) (by rw [Try.ntmps80]; exact Nat.le_of_ble_eq_true rfl) ?_; simp only [Try.ntmps80, argE, Nat.reduceAdd])
  
  repeat' (first | (apply RW.q1; exact qt) | refine xsg cts ?_ | (apply CW_condT; exact rfl; exact ar) | (apply CW_condF; exact rfl; exact ar) | (refine hK _ _ ?_; clear hK; refine xsg xsl ?_) | ((first | apply RW.a1 | apply RW.a0); (first | (apply gw_asg; exact rfl) | (fail))) | (apply CW_region; intro K hK) | (apply CW_condX; exact rfl; exact tst; exact tst; all_goals (intro hq hc; try exact no)))
  refine CW_loop (fun m l L => ∃ (P1 X Y S1 xs : List Fl) (x y : Int), m = X.length + Y.length ∧ l = [(0, true, .slice a n c), (2, true, .int .i64 j), (4, true, fn), (10, true, .int .i64 x), (11, true, .int .i64 y)] ∧
      L = [.own 38 4 a n c (xs.flatMap flC)] ∧ x = X.length ∧ y = Y.length ∧ xs = P1 ++ (X ++ (Y ++ S1)) ∧ P ++ (B ++ (A ++ S)) = P1 ++ (Y ++ (X ++ S1)) ∧ 1 ≤ X.length ∧ 1 ≤ Y.length ∧ j = P1.length + X.length ∧ xs.length = n)
    ⟨_, _, _, ⟨P, A, B, S, _, j - i, k - j, rfl, rfl, rfl, by omega, by omega, rfl, rfl, hA, hB, by omega, hn.symm⟩, by exact sbe, by exact sbl⟩ ?_
  rintro m l L ⟨P1, X, Y, S1, xs, x, y, rfl, rfl, rfl, hx, hy, h1, h2, h3, h4, h5, h6⟩
  have hl1 : n = P1.length + X.length + Y.length + S1.length := by rw [← h6, h1]; simp only [List.length_append]; omega
  rcases Nat.lt_trichotomy X.length Y.length with q | q | q
  · obtain ⟨Y1, Y2, rfl, hY2⟩ : ∃ Y1 Y2, Y = Y1 ++ Y2 ∧ Y2.length = X.length := ⟨Y.take (Y.length - X.length), Y.drop (Y.length - X.length), (List.take_append_drop _ _).symm, by rw [List.length_drop]; omega⟩
    simp only [List.length_append] at hy q h4 hl1
    have e : xs = P1 ++ (X ++ (Y1 ++ (Y2 ++ S1))) := by rw [h1]; simp
    rw [e]
    repeat' (first | (apply RW.q1; exact qt) | refine xsg cts ?_ | (apply CW_condT; exact rfl; exact ar) | (apply CW_condF; exact rfl; exact ar) | (refine hK _ _ ?_; clear hK; refine xsg xsl ?_) | ((first | apply RW.a1 | apply RW.a0); (first | (apply gw_callc (f := 81) (M := [.own 38 4 a n c ((P1 ++ (X ++ (Y1 ++ (Y2 ++ S1)))).flatMap flC)]); exact rfl; exact go81; exact pcs; intro G hG; refine SC.mono (swapRange_spec P1 X Y1 Y2 S1 a n c fn G hY2.symm (by rw [← e, h6]) hN _ _ _ (by omega) (by omega) (by omega)) ?_; rintro v M rfl; (try dsimp only [jL, jM])) | (apply gw_asg; exact rfl) | (fail))) | (apply CW_region; intro K hK) | (apply CW_condX; exact rfl; exact tst; exact tst; all_goals (intro hq hc; try exact no)))
    exact ⟨_, _, _, ⟨P1, Y2, Y1, X ++ S1, _, x, y - x, rfl, rfl, rfl, by omega, by omega, rfl, by rw [h2]; simp, by omega, by omega, by omega, by simp only [List.length_append]; omega⟩, by exact sbe, by exact sbl, by simp only [List.length_append]; omega⟩
  · rw [h1]
    repeat' (first | (apply RW.q1; exact qt) | refine xsg cts ?_ | (apply CW_condT; exact rfl; exact ar) | (apply CW_condF; exact rfl; exact ar) | (refine hK _ _ ?_; clear hK; refine xsg xsl ?_) | ((first | apply RW.a1 | apply RW.a0); (first | (apply gw_callc (f := 81) (M := [.own 38 4 a n c ((P1 ++ (X ++ (List.nil ++ (Y ++ S1)))).flatMap flC)]); exact rfl; exact go81; exact pcs; intro G hG; refine SC.mono (swapRange_spec P1 X [] Y S1 a n c fn G q (by rw [← h6, h1]; simp) hN _ _ _ (by omega) (by simp only [List.length_nil]; omega) (by omega)) ?_; rintro v M rfl; (try dsimp only [jL, jM])) | (apply gw_asg; exact rfl) | (fail))) | (apply CW_region; intro K hK) | (apply CW_condX; exact rfl; exact tst; exact tst; all_goals (intro hq hc; try exact no)))
    (refine bE [] [.own 38 4 a n c _] ?_)
    rw [h2]
  · obtain ⟨X1, X2, rfl, hX1⟩ : ∃ X1 X2, X = X1 ++ X2 ∧ X1.length = Y.length := ⟨X.take Y.length, X.drop Y.length, (List.take_append_drop _ _).symm, by rw [List.length_take]; omega⟩
    simp only [List.length_append] at hx q h3 hl1 h5
    have e : xs = P1 ++ (X1 ++ (X2 ++ (Y ++ S1))) := by rw [h1]; simp
    rw [e]
    repeat' (first | (apply RW.q1; exact qt) | refine xsg cts ?_ | (apply CW_condT; exact rfl; exact ar) | (apply CW_condF; exact rfl; exact ar) | (refine hK _ _ ?_; clear hK; refine xsg xsl ?_) | ((first | apply RW.a1 | apply RW.a0); (first | (apply gw_callc (f := 81) (M := [.own 38 4 a n c ((P1 ++ (X1 ++ (X2 ++ (Y ++ S1)))).flatMap flC)]); exact rfl; exact go81; exact pcs; intro G hG; refine SC.mono (swapRange_spec P1 X1 X2 Y S1 a n c fn G hX1 (by rw [← e, h6]) hN _ _ _ (by omega) (by omega) (by omega)) ?_; rintro v M rfl; (try dsimp only [jL, jM])) | (apply gw_asg; exact rfl) | (fail))) | (apply CW_region; intro K hK) | (apply CW_condX; exact rfl; exact tst; exact tst; all_goals (intro hq hc; try exact no)))
    exact ⟨_, _, _, ⟨P1 ++ Y, X2, X1, S1, P1 ++ (Y ++ (X2 ++ (X1 ++ S1))), x - y, y, rfl, rfl, rfl, by omega, by omega, by simp, by rw [h2]; simp, by omega, by omega, by simp only [List.length_append]; omega, by simp only [List.length_append]; omega⟩, by exact sbe, by exact sbl, by simp only [List.length_append]; omega⟩

/-! the comparing function -/
structure CmpOk (fn : FuncId) (H : Hp) (Z : Fl → Prop) (q : Fl → Fl → Int) (lt : Fl → Fl → Prop) : Prop where
  run : ∀ G, Ext H G → ∀ u v, Z u → Z v → SC Try.prog fn [flV u, flV v] G [] (fun w M => w = .int .i64 (q u v) ∧ M = [])
  neg : ∀ u v, q u v < 0 ↔ lt u v
  ord : Ord lt
theorem insertion_spec {Z : Fl → Prop} {q : Fl → Fl → Int} {lt : Fl → Fl → Prop} (H : Hp) (hC : CmpOk 55 H Z q lt) (P D S : List Fl) (a : Option Addr) (n c : Nat) (hn : n = (P ++ (D ++ S)).length) (hN : n ≤ 1099511627776)
    (hZ : ∀ u ∈ D, Z u) (i j : Int) (hi : i = P.length) (hj : j = P.length + D.length) :
    SC Try.prog 77 [.slice a n c, .int .i64 i, .int .i64 j, .func (.func 55) #[] #[]] H [.own 38 4 a n c ((P ++ (D ++ S)).flatMap flC)]
      (fun v M' => ∃ D', D'.Perm D ∧ Srt lt D' ∧ M' = [.own 38 4 a n c ((P ++ (D' ++ S)).flatMap flC)]) := by
  have hl : n = P.length + D.length + S.length := by rw [hn]; simp only [List.length_append]; omega
  cases D with
  | nil =>
    simp only [List.length_nil] at hj
    (refine SC_intro Try.func77 rfl (by kernel_rfl) (by rw [Try.ntmps77]; exact Nat.le_of_ble_eq_true rfl) ?_; simp only [Try.ntmps77, argE, Nat.reduceAdd])
    
    repeat' (first | ((first | apply RW.q1 | (apply DW.q1; exact rfl)); exact qt) | ((first | apply RW.qg | (apply DW.qg; exact rfl)); exact gvx; refine hgx tst ?_; intro hg hg'; exact qu) | refine xsg cts ?_ | (apply CW_condT; exact rfl; exact ar) | (apply CW_condF; exact rfl; exact ar) | ((first | apply RW.s1 | apply RW.s0 | (apply DW.sa; exact rfl)); exact gva) | (refine hK _ _ ?_; clear hK; refine xsg xsl ?_) | (refine xsg ahd ?_; (first | (apply gw_asg; exact rfl) | (refine gw_stx sto ?_) | (fail))) | (apply CW_region; intro K hK) | (apply CW_condX; exact rfl; exact tst; exact tst; all_goals (intro hq hc; try exact no)) | (refine CW_draw (id := 4) [] dwSrtS1 mixed (by kernel_rfl) (fun K hK => ?_)) | (refine CW_draw (id := 6) [] dwSrtS2 mixed (by kernel_rfl) (fun K hK => ?_)))
    refine CW_once ?_
    repeat' (first | ((first | apply RW.q1 | (apply DW.q1; exact rfl)); exact qt) | ((first | apply RW.qg | (apply DW.qg; exact rfl)); exact gvx; refine hgx tst ?_; intro hg hg'; exact qu) | refine xsg cts ?_ | (apply CW_condT; exact rfl; exact ar) | (apply CW_condF; exact rfl; exact ar) | ((first | apply RW.s1 | apply RW.s0 | (apply DW.sa; exact rfl)); exact gva) | (refine hK _ _ ?_; clear hK; refine xsg xsl ?_) | (refine xsg ahd ?_; (first | (apply gw_asg; exact rfl) | (refine gw_stx sto ?_) | (fail))) | (apply CW_region; intro K hK) | (apply CW_condX; exact rfl; exact tst; exact tst; all_goals (intro hq hc; try exact no)) | (refine CW_draw (id := 4) [] dwSrtS1 mixed (by kernel_rfl) (fun K hK => ?_)) | (refine CW_draw (id := 6) [] dwSrtS2 mixed (by kernel_rfl) (fun K hK => ?_)))
    (refine bE [] [.own 38 4 a n c _] ?_)
    exact ⟨[], .refl _, List.Pairwise.nil, rfl⟩
  | cons d D =>
    simp only [List.length_cons] at hj hl
    (refine SC_intro Try.func77 rfl (by kernel_rfl) (by rw [Try.ntmps77]; exact Nat.le_of_ble_eq_true rfl) ?_; simp only [Try.ntmps77, argE, Nat.reduceAdd])
    
    repeat' (first | ((first | apply RW.q1 | (apply DW.q1; exact rfl)); exact qt) | ((first | apply RW.qg | (apply DW.qg; exact rfl)); exact gvx; refine hgx tst ?_; intro hg hg'; exact qu) | refine xsg cts ?_ | (apply CW_condT; exact rfl; exact ar) | (apply CW_condF; exact rfl; exact ar) | ((first | apply RW.s1 | apply RW.s0 | (apply DW.sa; exact rfl)); exact gva) | (refine hK _ _ ?_; clear hK; refine xsg xsl ?_) | (refine xsg ahd ?_; (first | (apply gw_asg; exact rfl) | (refine gw_stx sto ?_) | (fail))) | (apply CW_region; intro K hK) | (apply CW_condX; exact rfl; exact tst; exact tst; all_goals (intro hq hc; try exact no)) | (refine CW_draw (id := 4) [] dwSrtS1 mixed (by kernel_rfl) (fun K hK => ?_)) | (refine CW_draw (id := 6) [] dwSrtS2 mixed (by kernel_rfl) (fun K hK => ?_)))
    refine CW_loop (fun m l L => ∃ (E R xs : List Fl), m = R.length ∧ l = [(0, true, .slice a n c), (1, true, .int .i64 i), (2, true, .int .i64 j), (3, true, .func (.func 55) #[] #[]), (8, true, .int .i64 (i + E.length))] ∧
        L = [.own 38 4 a n c (xs.flatMap flC)] ∧ xs = P ++ (E ++ (R ++ S)) ∧ (E ++ R).Perm (d :: D) ∧ Srt lt E)
      ⟨_, _, _, ⟨[d], D, _, rfl, rfl, rfl, rfl, .refl _, List.pairwise_singleton _ _⟩, by simp only [List.length_singleton]; exact sbe, by exact sbl⟩ ?_
    rintro m l L ⟨E, R, xs, rfl, rfl, rfl, h1, h2, h3⟩
    have hp := h2.length_eq
    simp only [List.length_append, List.length_cons] at hp
    cases R with
    | nil =>
      simp only [List.length_nil] at hp
      repeat' (first | ((first | apply RW.q1 | (apply DW.q1; exact rfl)); exact qt) | ((first | apply RW.qg | (apply DW.qg; exact rfl)); exact gvx; refine hgx tst ?_; intro hg hg'; exact qu) | refine xsg cts ?_ | (apply CW_condT; exact rfl; exact ar) | (apply CW_condF; exact rfl; exact ar) | ((first | apply RW.s1 | apply RW.s0 | (apply DW.sa; exact rfl)); exact gva) | (refine hK _ _ ?_; clear hK; refine xsg xsl ?_) | (refine xsg ahd ?_; (first | (apply gw_asg; exact rfl) | (refine gw_stx sto ?_) | (fail))) | (apply CW_region; intro K hK) | (apply CW_condX; exact rfl; exact tst; exact tst; all_goals (intro hq hc; try exact no)) | (refine CW_draw (id := 4) [] dwSrtS1 mixed (by kernel_rfl) (fun K hK => ?_)) | (refine CW_draw (id := 6) [] dwSrtS2 mixed (by kernel_rfl) (fun K hK => ?_)))
      (refine bE [] [.own 38 4 a n c _] ?_)
      exact ⟨E, by simpa using h2, h3, by rw [h1]; simp⟩
    | cons x R =>
      simp only [List.length_cons] at hp
      have hxZ : Z x := hZ x (h2.mem_iff.1 (by simp))
      have hEZ : ∀ u ∈ E, Z u := fun u hu => hZ u (h2.mem_iff.1 (List.mem_append.2 (.inl hu)))
      repeat' (first | ((first | apply RW.q1 | (apply DW.q1; exact rfl)); exact qt) | ((first | apply RW.qg | (apply DW.qg; exact rfl)); exact gvx; refine hgx tst ?_; intro hg hg'; exact qu) | refine xsg cts ?_ | (apply CW_condT; exact rfl; exact ar) | (apply CW_condF; exact rfl; exact ar) | ((first | apply RW.s1 | apply RW.s0 | (apply DW.sa; exact rfl)); exact gva) | (refine hK _ _ ?_; clear hK; refine xsg xsl ?_) | (refine xsg ahd ?_; (first | (apply gw_asg; exact rfl) | (refine gw_stx sto ?_) | (fail))) | (apply CW_region; intro K hK) | (apply CW_condX; exact rfl; exact tst; exact tst; all_goals (intro hq hc; try exact no)) | (refine CW_draw (id := 4) [] dwSrtS1 mixed (by kernel_rfl) (fun K hK => ?_)) | (refine CW_draw (id := 6) [] dwSrtS2 mixed (by kernel_rfl) (fun K hK => ?_)))
      refine CW_loop (fun m l L => ∃ (E1 E2 xs : List Fl), m = E1.length ∧ l = [(0, true, .slice a n c), (1, true, .int .i64 i), (2, true, .int .i64 j), (3, true, .func (.func 55) #[] #[]), (8, true, .int .i64 (i + E.length)), (9, true, .int .i64 (i + E1.length))] ∧
          L = [.own 38 4 a n c (xs.flatMap flC)] ∧ xs = P ++ (E1 ++ (x :: (E2 ++ (R ++ S)))) ∧ E = E1 ++ E2 ∧ ∀ y ∈ E2, le lt x y)
        ⟨_, _, _, ⟨E, [], xs, rfl, rfl, rfl, by rw [h1]; simp, by simp, fun y hy => by cases hy⟩, by exact sbe, by exact sbl⟩ ?_
      rintro m l L ⟨E1, E2, ys, rfl, rfl, rfl, g1, g2, g3⟩
      have hE := congrArg List.length g2
      simp only [List.length_append] at hE
      have hyl : ys.length = n := by rw [g1]; simp only [List.length_append, List.length_cons]; omega
      obtain ⟨y, hy⟩ : ∃ y, E1 = [] ∧ y = x ∨ ∃ t, E1 = t ++ [y] := by
        rcases snoc_cases E1 with he | ⟨t, y, he⟩
        · exact ⟨x, .inl ⟨he, rfl⟩⟩
        · exact ⟨y, .inr ⟨t, he⟩⟩
      have hyZ : Z y := by
        rcases hy with ⟨_, rfl⟩ | ⟨t, he⟩
        · exact hxZ
        · exact hEZ y (by rw [g2, he]; simp)
      have gx : ys[P.length + E1.length]? = some x := by rw [g1, ← List.append_assoc]; exact get_mid (by simp)
      have gy : 1 ≤ E1.length → ys[P.length + E1.length - 1]? = some y := by
        intro h
        rcases hy with ⟨he, _⟩ | ⟨t, he⟩
        · rw [he] at h; simp at h
        · rw [g1, he, show P ++ ((t ++ [y]) ++ (x :: (E2 ++ (R ++ S)))) = (P ++ t) ++ y :: (x :: (E2 ++ (R ++ S))) by simp]
          exact get_mid (by simp only [List.length_append, List.length_singleton]; omega)
      have hneg := hC.neg x y
      repeat' (first | ((first | apply RW.q1 | (apply DW.q1; exact rfl) | ((first | apply RW.qg | (apply DW.qg; exact rfl)); exact gvx; refine hgx tst ?_; intro hg hg')); (first | (apply q_lao; exact rfl; exact evgx; infer_instance; (first | exact get_fl gx (by omega) | exact get_fl (gy (by omega)) (by omega)); exact rfl; decide) | exact qt | exact qu)) | refine xsg cts ?_ | (apply CW_condT; exact rfl; exact ar) | (apply CW_condF; exact rfl; exact ar) | ((first | apply RW.s1 | apply RW.s0 | (apply DW.sa; exact rfl)); exact gva) | (refine hK _ _ ?_; clear hK; refine xsg xsl ?_) | ((first | apply RW.c1 | (apply DW.c1; exact rfl; exact rfl) | (apply DW.c1t; exact rfl)); (first | (apply nw_callv (f := 55); exact rfl; exact rfl; exact go55; (intro G hG; exact (hC.run G hG.ext x y hxZ hyZ).mono (fun v M h => h.1))))) | (refine xsg ahd ?_; (first | (apply gw_stf; exact rfl; exact rfl; infer_instance; (first | omega | (simp only [List.length_set]; omega))) | (apply gw_asg; exact rfl) | (refine gw_stx sto ?_) | (fail))) | ((first | apply RW.cg | (apply DW.cg; exact rfl; exact rfl) | (apply DW.cgt; exact rfl)); exact gvx; refine hgx tst ?_; intro hg hg'; first | (apply nw_callv (f := 55); exact evgx; exact evx; exact go55; (intro G hG; exact (hC.run G hG.ext x y hxZ hyZ).mono (fun v M h => h.1)))) | (apply CW_region; intro K hK) | (apply CW_condX; exact rfl; exact tst; exact tst; all_goals (intro hq hc; try exact no)) | (refine CW_draw (id := 4) [] dwSrtS1 mixed (by kernel_rfl) (fun K hK => ?_)) | (refine CW_draw (id := 6) [] dwSrtS2 mixed (by kernel_rfl) (fun K hK => ?_)))
      · have hE1 : ∃ t, E1 = t ++ [y] := by
          rcases hy with ⟨he, _⟩ | h
          · rw [he] at hc; simp only [List.length_nil] at hc; omega
          · exact h
        obtain ⟨t, rfl⟩ := hE1
        simp only [List.length_append, List.length_singleton] at hc hE ⊢
        have e1 : (i + ((t.length + 1 : Nat) : Int)).toNat = P.length + t.length + 1 := by omega
        have e2 : (i + ((t.length + 1 : Nat) : Int) - 1).toNat = P.length + t.length := by omega
        try simp only [e1, e2]
        rw [g1, show P ++ ((t ++ [y]) ++ (x :: (E2 ++ (R ++ S)))) = P ++ (t ++ (y :: (x :: (E2 ++ (R ++ S))))) by simp, swap_dn rfl rfl]
        refine ⟨_, _, _, ⟨t, y :: E2, P ++ (t ++ (x :: (y :: (E2 ++ (R ++ S))))), rfl, rfl, rfl, by simp, by rw [g2]; simp, ?_⟩, by exact sbe, by exact sbl, by omega⟩
        intro z hz
        rcases List.mem_cons.1 hz with rfl | hz
        · exact hC.ord.le_of (hneg.1 hc.2)
        · exact g3 z hz
      · refine ⟨_, _, _, ⟨E1 ++ x :: E2, R, ys, rfl, rfl, rfl, by rw [g1]; simp, ?_, ?_⟩, by simp only [List.length_append, List.length_cons]; exact sbe, by exact sbl, by simp⟩
        · refine List.Perm.trans ?_ h2
          rw [g2]
          refine List.Perm.trans ?_ (List.perm_middle.symm)
          rw [List.append_assoc, jM]
          exact List.perm_middle.trans (by rw [List.append_assoc])
        · refine srt_ins hC.ord (by rw [← g2]; exact h3) (fun t z he => ?_) g3
          rcases hy with ⟨h, _⟩ | ⟨t', h⟩
          · rw [h] at he; simp at he
          · rw [h] at he
            have : y = z := by have := List.append_inj_right' he rfl; simpa using this
            subst this
            intro hlt
            have := hneg.2 hlt
            rw [h] at hc; simp only [List.length_append, List.length_singleton] at hc
            omega
end Go.Proofs.Ytkhmimlgkjenfaa.HL
namespace Go.Proofs.Ytkhmimlgkjenfaa.HL
open Go
attribute [local irreducible] goFn thenS blockS bodyS CW RW DW GW QW NW SC Pick Picks SubL Rd NN ResOk SrcW subE hops hseg AW hgen HC qv bldv
set_option maxHeartbeats 8000000
set_option maxRecDepth 100000
set_option linter.unusedVariables false
set_option linter.unusedSimpArgs false

abbrev dwSrtQ0 : List (Nat × Bool) := [(0, false), (1, false), (2, false), (3, false), (4, false), (5, false), (6, false), (7, false), (8, false), (9, true), (10, false)]
abbrev dwSrtQ1 : List (Nat × Bool) := [(0, false), (1, false), (2, false), (3, false), (4, false), (5, false), (6, false), (7, false), (8, false), (9, false), (10, false), (11, false), (12, false), (13, false), (14, false), (15, true), (16, false), (17, true)]
abbrev dwSrtQ2 : List (Nat × Bool) := [(0, false), (1, false), (2, false), (3, false), (4, false), (5, false), (6, false), (7, false), (8, false), (9, true), (10, false), (11, false)]
abbrev dwSrtQ3 : List (Nat × Bool) := [(0, false), (1, false), (2, false), (3, false), (4, false), (5, false), (6, false), (7, false), (8, false), (9, false), (10, false), (11, true), (12, false), (13, false)]
theorem shr_one {a : Int} (h : 0 ≤ a) : a.fdiv (2 ^ (min (1 : Int).toNat IntKind.u64.bits)) = a / 2 := by
  show a.fdiv (2 ^ 1) = _
  rw [Int.fdiv_eq_ediv_of_nonneg _ (by decide)]; rfl

theorem sym_one {Z : Fl → Prop} {q : Fl → Fl → Int} {lt : Fl → Fl → Prop} (H : Hp) (hC : CmpOk 55 H Z q lt) (P B S : List Fl) (x : Fl) (a : Option Addr) (n c : Nat) (hn : n = (P ++ (x :: (B ++ S))).length) (hN : n ≤ 1099511627776)
    (hxZ : Z x) (hZ : ∀ u ∈ B, Z u) (hB : Srt lt B) (i j k : Int) (hi : i = P.length) (hj : j = P.length + 1) (hk : k = P.length + 1 + B.length) :
    SC Try.prog 78 [.slice a n c, .int .i64 i, .int .i64 j, .int .i64 k, .func (.func 55) #[] #[]] H [.own 38 4 a n c ((P ++ (x :: (B ++ S))).flatMap flC)]
      (fun v M' => ∃ D', D'.Perm (x :: B) ∧ Srt lt D' ∧ M' = [.own 38 4 a n c ((P ++ (D' ++ S)).flatMap flC)]) := by
  have hl : n = P.length + 1 + B.length + S.length := by rw [hn]; simp only [List.length_append, List.length_cons]; omega
  have gx : (P ++ (x :: (B ++ S)))[P.length]? = some x := get_mid rfl
  have gB : ∀ t y, B[t]? = some y → (P ++ (x :: (B ++ S)))[P.length + 1 + t]? = some y := by
    intro t y h
    rw [show P ++ (x :: (B ++ S)) = (P ++ [x]) ++ (B ++ S) by simp]
    exact get_app (by simp) (get_appl h)
  (refine SC_intro Try.func78 rfl (by kernel_rfl) (by rw [Try.ntmps78]; exact Nat.le_of_ble_eq_true rfl) ?_; simp only [Try.ntmps78, argE, Nat.reduceAdd])
  
  repeat' (first | ((first | apply RW.q1 | (apply DW.q1; exact rfl)); exact qt) | ((first | apply RW.qg | (apply DW.qg; exact rfl)); exact gvx; refine hgx tst ?_; intro hg hg'; exact qu) | refine xsg cts ?_ | (apply CW_condT; exact rfl; exact ar) | (apply CW_condF; exact rfl; exact ar) | ((first | apply RW.s1 | apply RW.s0 | (apply DW.sa; exact rfl)); exact gva) | (refine hK _ _ ?_; clear hK; refine xsg xsl ?_) | (refine xsg ahd ?_; (first | (apply gw_asg; exact rfl) | (refine gw_stx sto ?_) | (fail))) | (apply CW_region; intro K hK) | (apply CW_condX; exact rfl; exact tst; exact tst; all_goals (intro hq hc; try exact no)) | (refine CW_draw (id := 5) [] dwSrtQ0 mixed (by kernel_rfl) (fun K hK => ?_)) | (refine CW_draw (id := 11) [] dwSrtQ1 mixed (by kernel_rfl) (fun K hK => ?_)) | (refine CW_draw (id := 17) [] dwSrtQ2 mixed (by kernel_rfl) (fun K hK => ?_)) | (refine CW_draw (id := 23) [] dwSrtQ1 mixed (by kernel_rfl) (fun K hK => ?_)) | (refine CW_draw (id := 35) [] dwSrtQ3 mixed (by kernel_rfl) (fun K hK => ?_)))
  refine CW_loop (fun m l L => ∃ (s t : Nat), m = t - s ∧ l = [(0, true, .slice a n c), (1, true, .int .i64 i), (4, true, .func (.func 55) #[] #[]), (10, true, .int .i64 (P.length + 1 + s : Nat)), (11, true, .int .i64 (P.length + 1 + t : Nat))] ∧
      L = [.own 38 4 a n c ((P ++ (x :: (B ++ S))).flatMap flC)] ∧ s ≤ t ∧ t ≤ B.length ∧ (∀ e y, e < s → B[e]? = some y → lt y x) ∧ (∀ e y, t ≤ e → B[e]? = some y → ¬ lt y x))
    ⟨_, _, _, ⟨0, B.length, rfl, rfl, rfl, by omega, by omega, fun e y h => by omega, fun e y h h' => by rw [List.getElem?_eq_none h] at h'; cases h'⟩, by exact sbe, by exact sbl⟩ ?_
  rintro m l L ⟨s, t, rfl, rfl, rfl, h1, h2, h3, h4⟩
  by_cases hst : s < t
  · obtain ⟨y, hy⟩ : ∃ y, B[(s + t) / 2]? = some y := ⟨_, List.getElem?_eq_getElem (by omega)⟩
    have gy := gB _ _ hy
    have hyZ := hZ y (List.mem_of_getElem? hy)
    have hneg := hC.neg y x
    repeat' (first | ((first | apply RW.q1 | (apply DW.q1; exact rfl) | ((first | apply RW.qg | (apply DW.qg; exact rfl)); exact gvx; refine hgx tst ?_; intro hg hg')); (first | (apply q_shr; exact rfl; exact rfl; omega; exact shr_one (by omega)) | (apply q_lao; exact rfl; exact evgx; infer_instance; (first | exact get_fl gy (by omega) | exact get_fl gx (by omega)); exact rfl; decide) | exact qt | exact qu)) | refine xsg cts ?_ | (apply CW_condT; exact rfl; exact ar) | (apply CW_condF; exact rfl; exact ar) | ((first | apply RW.s1 | apply RW.s0 | (apply DW.sa; exact rfl)); exact gva) | (refine hK _ _ ?_; clear hK; refine xsg xsl ?_) | ((first | apply RW.c1 | (apply DW.c1; exact rfl; exact rfl) | (apply DW.c1t; exact rfl)); (first | (apply nw_callv (f := 55); exact rfl; exact rfl; exact go55; (intro G hG; exact (hC.run G hG.ext y x hyZ hxZ).mono (fun v M h => h.1))))) | (refine xsg ahd ?_; (first | (apply gw_stf; exact rfl; exact rfl; infer_instance; (first | omega | (simp only [List.length_set]; omega))) | (apply gw_asg; exact rfl) | (refine gw_stx sto ?_) | (fail))) | ((first | apply RW.cg | (apply DW.cg; exact rfl; exact rfl) | (apply DW.cgt; exact rfl)); exact gvx; refine hgx tst ?_; intro hg hg'; first | (apply nw_callv (f := 55); exact evgx; exact evx; exact go55; (intro G hG; exact (hC.run G hG.ext y x hyZ hxZ).mono (fun v M h => h.1)))) | (apply CW_region; intro K hK) | (apply CW_condX; exact rfl; exact tst; exact tst; all_goals (intro hq hc; try exact no)) | (refine CW_draw (id := 5) [] dwSrtQ0 mixed (by kernel_rfl) (fun K hK => ?_)) | (refine CW_draw (id := 11) [] dwSrtQ1 mixed (by kernel_rfl) (fun K hK => ?_)) | (refine CW_draw (id := 17) [] dwSrtQ2 mixed (by kernel_rfl) (fun K hK => ?_)) | (refine CW_draw (id := 23) [] dwSrtQ1 mixed (by kernel_rfl) (fun K hK => ?_)) | (refine CW_draw (id := 35) [] dwSrtQ3 mixed (by kernel_rfl) (fun K hK => ?_)))
    · refine ⟨_, _, _, ⟨(s + t) / 2 + 1, t, rfl, rfl, rfl, by omega, h2, fun e z he hz => ?_, h4⟩, by exact sbe, by exact sbl, by omega⟩
      by_cases hee : e = (s + t) / 2
      · subst hee; rw [hy] at hz; cases hz; exact hneg.1 hc
      · exact hC.ord.le_lt (srt_get hB hz hy (by omega)) (hneg.1 hc)
    · refine ⟨_, _, _, ⟨s, (s + t) / 2, rfl, rfl, rfl, by omega, by omega, h3, fun e z he hz => ?_⟩, by exact sbe, by exact sbl, by omega⟩
      by_cases hee : e = (s + t) / 2
      · subst hee; rw [hy] at hz; cases hz; exact fun h => by have := hneg.2 h; omega
      · exact hC.ord.le_tr (fun h => by have := hneg.2 h; omega) (srt_get hB hy hz (by omega))
  · obtain rfl : t = s := by omega
    have hBs : B = B.take t ++ B.drop t := (List.take_append_drop _ _).symm
    generalize hB1 : B.take t = B1 at hBs
    generalize hB2 : B.drop t = B2 at hBs
    have hl1 : B1.length = t := by rw [← hB1, List.length_take]; omega
    have k1 : ∀ w z, B1 = w ++ [z] → le lt z x := by
      intro w z e
      rw [← hB1] at e
      have := take_last e
      exact hC.ord.le_of (h3 w.length z (by omega) this.1)
    have k2 : ∀ z ∈ B2, le lt x z := by
      intro z hz
      rw [← hB2] at hz
      obtain ⟨e, he⟩ := List.mem_iff_getElem?.1 hz
      rw [List.getElem?_drop] at he
      exact h4 _ z (by omega) he
    repeat' (first | ((first | apply RW.q1 | (apply DW.q1; exact rfl)); exact qt) | ((first | apply RW.qg | (apply DW.qg; exact rfl)); exact gvx; refine hgx tst ?_; intro hg hg'; exact qu) | refine xsg cts ?_ | (apply CW_condT; exact rfl; exact ar) | (apply CW_condF; exact rfl; exact ar) | ((first | apply RW.s1 | apply RW.s0 | (apply DW.sa; exact rfl)); exact gva) | (refine hK _ _ ?_; clear hK; refine xsg xsl ?_) | (refine xsg ahd ?_; (first | (apply gw_asg; exact rfl) | (refine gw_stx sto ?_) | (fail))) | (apply CW_region; intro K hK) | (apply CW_condX; exact rfl; exact tst; exact tst; all_goals (intro hq hc; try exact no)) | (refine CW_draw (id := 5) [] dwSrtQ0 mixed (by kernel_rfl) (fun K hK => ?_)) | (refine CW_draw (id := 11) [] dwSrtQ1 mixed (by kernel_rfl) (fun K hK => ?_)) | (refine CW_draw (id := 17) [] dwSrtQ2 mixed (by kernel_rfl) (fun K hK => ?_)) | (refine CW_draw (id := 23) [] dwSrtQ1 mixed (by kernel_rfl) (fun K hK => ?_)) | (refine CW_draw (id := 35) [] dwSrtQ3 mixed (by kernel_rfl) (fun K hK => ?_)))
    refine CW_loop (fun m l L => ∃ (U V xs : List Fl), m = V.length ∧ l = [(0, true, .slice a n c), (10, true, .int .i64 (P.length + 1 + t : Nat)), (13, true, .int .i64 (P.length + U.length : Nat))] ∧
        L = [.own 38 4 a n c (xs.flatMap flC)] ∧ xs = P ++ (U ++ (x :: (V ++ (B2 ++ S)))) ∧ B1 = U ++ V)
      ⟨_, _, _, ⟨[], B1, P ++ (x :: (B ++ S)), rfl, rfl, rfl, by rw [hBs]; simp, rfl⟩, by simp only [List.length_nil]; exact sbe, by exact sbl⟩ ?_
    rintro m l L ⟨U, V, xs, rfl, rfl, rfl, g1, g2⟩
    have hUV := congrArg List.length g2
    rw [List.length_append] at hUV
    have hBl := congrArg List.length hBs
    rw [List.length_append] at hBl
    cases V with
    | nil =>
      simp only [List.length_nil] at hUV
      repeat' (first | ((first | apply RW.q1 | (apply DW.q1; exact rfl)); exact qt) | ((first | apply RW.qg | (apply DW.qg; exact rfl)); exact gvx; refine hgx tst ?_; intro hg hg'; exact qu) | refine xsg cts ?_ | (apply CW_condT; exact rfl; exact ar) | (apply CW_condF; exact rfl; exact ar) | ((first | apply RW.s1 | apply RW.s0 | (apply DW.sa; exact rfl)); exact gva) | (refine hK _ _ ?_; clear hK; refine xsg xsl ?_) | (refine xsg ahd ?_; (first | (apply gw_asg; exact rfl) | (refine gw_stx sto ?_) | (fail))) | (apply CW_region; intro K hK) | (apply CW_condX; exact rfl; exact tst; exact tst; all_goals (intro hq hc; try exact no)) | (refine CW_draw (id := 5) [] dwSrtQ0 mixed (by kernel_rfl) (fun K hK => ?_)) | (refine CW_draw (id := 11) [] dwSrtQ1 mixed (by kernel_rfl) (fun K hK => ?_)) | (refine CW_draw (id := 17) [] dwSrtQ2 mixed (by kernel_rfl) (fun K hK => ?_)) | (refine CW_draw (id := 23) [] dwSrtQ1 mixed (by kernel_rfl) (fun K hK => ?_)) | (refine CW_draw (id := 35) [] dwSrtQ3 mixed (by kernel_rfl) (fun K hK => ?_)))
      all_goals (refine CW_ret ?_; refine xsg xsl ?_; refine bR [] [.own 38 4 a n c _] ?_)
      refine ⟨B1 ++ x :: B2, by rw [hBs]; exact List.perm_middle, srt_ins hC.ord (by rw [← hBs]; exact hB) k1 k2, ?_⟩
      rw [g1, g2]; simp
    | cons y V =>
      simp only [List.length_cons] at hUV
      have hxl : xs.length = n := by rw [g1]; simp only [List.length_append, List.length_cons]; omega
      have gx2 : xs[P.length + U.length]? = some x := by rw [g1, ← List.append_assoc]; exact get_mid (by simp)
      have gy2 : xs[P.length + U.length + 1]? = some y := by
        rw [g1, show P ++ (U ++ (x :: (y :: V ++ (B2 ++ S)))) = (P ++ (U ++ [x])) ++ y :: (V ++ (B2 ++ S)) by simp]
        exact get_mid (by simp only [List.length_append, List.length_singleton]; omega)
      repeat' (first | ((first | apply RW.q1 | (apply DW.q1; exact rfl) | ((first | apply RW.qg | (apply DW.qg; exact rfl)); exact gvx; refine hgx tst ?_; intro hg hg')); (first | (apply q_lao; exact rfl; exact evgx; infer_instance; (first | exact get_fl gx2 (by omega) | exact get_fl gy2 (by omega)); exact rfl; decide) | exact qt | exact qu)) | refine xsg cts ?_ | (apply CW_condT; exact rfl; exact ar) | (apply CW_condF; exact rfl; exact ar) | ((first | apply RW.s1 | apply RW.s0 | (apply DW.sa; exact rfl)); exact gva) | (refine hK _ _ ?_; clear hK; refine xsg xsl ?_) | (refine xsg ahd ?_; (first | (apply gw_stf; exact rfl; exact rfl; infer_instance; (first | omega | (simp only [List.length_set]; omega))) | (apply gw_asg; exact rfl) | (refine gw_stx sto ?_) | (fail))) | (apply CW_region; intro K hK) | (apply CW_condX; exact rfl; exact tst; exact tst; all_goals (intro hq hc; try exact no)) | (refine CW_draw (id := 5) [] dwSrtQ0 mixed (by kernel_rfl) (fun K hK => ?_)) | (refine CW_draw (id := 11) [] dwSrtQ1 mixed (by kernel_rfl) (fun K hK => ?_)) | (refine CW_draw (id := 17) [] dwSrtQ2 mixed (by kernel_rfl) (fun K hK => ?_)) | (refine CW_draw (id := 23) [] dwSrtQ1 mixed (by kernel_rfl) (fun K hK => ?_)) | (refine CW_draw (id := 35) [] dwSrtQ3 mixed (by kernel_rfl) (fun K hK => ?_)))
      have e1 : (((P.length + U.length : Nat) : Int)).toNat = P.length + U.length := by omega
      have e2 : (((P.length + U.length : Nat) : Int) + 1).toNat = P.length + U.length + 1 := by omega
      try simp only [e1, e2]
      rw [g1, show P ++ (U ++ (x :: (y :: V ++ (B2 ++ S)))) = P ++ (U ++ (x :: (y :: (V ++ (B2 ++ S))))) by simp, swap_up rfl rfl]
      exact ⟨_, _, _, ⟨U ++ [y], V, P ++ (U ++ (y :: (x :: (V ++ (B2 ++ S))))), rfl, rfl, rfl, by simp, by rw [g2]; simp⟩, by simp only [List.length_append, List.length_singleton]; exact sbe, by exact sbl, by simp⟩

theorem sym_last {Z : Fl → Prop} {q : Fl → Fl → Int} {lt : Fl → Fl → Prop} (H : Hp) (hC : CmpOk 55 H Z q lt) (P A S : List Fl) (x : Fl) (a : Option Addr) (n c : Nat) (hn : n = (P ++ (A ++ (x :: S))).length) (hN : n ≤ 1099511627776)
    (hxZ : Z x) (hZ : ∀ u ∈ A, Z u) (hA : Srt lt A) (hA1 : A.length ≠ 1) (i j k : Int) (hi : i = P.length) (hj : j = P.length + A.length) (hk : k = P.length + A.length + 1) :
    SC Try.prog 78 [.slice a n c, .int .i64 i, .int .i64 j, .int .i64 k, .func (.func 55) #[] #[]] H [.own 38 4 a n c ((P ++ (A ++ (x :: S))).flatMap flC)]
      (fun v M' => ∃ D', D'.Perm (A ++ [x]) ∧ Srt lt D' ∧ M' = [.own 38 4 a n c ((P ++ (D' ++ S)).flatMap flC)]) := by
  have hl : n = P.length + A.length + 1 + S.length := by rw [hn]; simp only [List.length_append, List.length_cons]; omega
  have gx : (P ++ (A ++ (x :: S)))[P.length + A.length]? = some x := by rw [← List.append_assoc]; exact get_mid (by simp)
  have gA : ∀ t y, A[t]? = some y → (P ++ (A ++ (x :: S)))[P.length + t]? = some y := fun t y h => get_app rfl (get_appl h)
  (refine SC_intro Try.func78 rfl (by kernel_rfl) (by rw [Try.ntmps78]; exact Nat.le_of_ble_eq_true rfl) ?_; simp only [Try.ntmps78, argE, Nat.reduceAdd])
  
  repeat' (first | ((first | apply RW.q1 | (apply DW.q1; exact rfl)); exact qt) | ((first | apply RW.qg | (apply DW.qg; exact rfl)); exact gvx; refine hgx tst ?_; intro hg hg'; exact qu) | refine xsg cts ?_ | (apply CW_condT; exact rfl; exact ar) | (apply CW_condF; exact rfl; exact ar) | ((first | apply RW.s1 | apply RW.s0 | (apply DW.sa; exact rfl)); exact gva) | (refine hK _ _ ?_; clear hK; refine xsg xsl ?_) | (refine xsg ahd ?_; (first | (apply gw_asg; exact rfl) | (refine gw_stx sto ?_) | (fail))) | (apply CW_region; intro K hK) | (apply CW_condX; exact rfl; exact tst; exact tst; all_goals (intro hq hc; try exact no)) | (refine CW_draw (id := 5) [] dwSrtQ0 mixed (by kernel_rfl) (fun K hK => ?_)) | (refine CW_draw (id := 11) [] dwSrtQ1 mixed (by kernel_rfl) (fun K hK => ?_)) | (refine CW_draw (id := 17) [] dwSrtQ2 mixed (by kernel_rfl) (fun K hK => ?_)) | (refine CW_draw (id := 23) [] dwSrtQ1 mixed (by kernel_rfl) (fun K hK => ?_)) | (refine CW_draw (id := 35) [] dwSrtQ3 mixed (by kernel_rfl) (fun K hK => ?_)))
  refine CW_loop (fun m l L => ∃ (s t : Nat), m = t - s ∧ l = [(0, true, .slice a n c), (2, true, .int .i64 j), (4, true, .func (.func 55) #[] #[]), (14, true, .int .i64 (P.length + s : Nat)), (15, true, .int .i64 (P.length + t : Nat))] ∧
      L = [.own 38 4 a n c ((P ++ (A ++ (x :: S))).flatMap flC)] ∧ s ≤ t ∧ t ≤ A.length ∧ (∀ e y, e < s → A[e]? = some y → ¬ lt x y) ∧ (∀ e y, t ≤ e → A[e]? = some y → lt x y))
    ⟨_, _, _, ⟨0, A.length, rfl, rfl, rfl, by omega, by omega, fun e y h => by omega, fun e y h h' => by rw [List.getElem?_eq_none h] at h'; cases h'⟩, by exact sbe, by exact sbl⟩ ?_
  rintro m l L ⟨s, t, rfl, rfl, rfl, h1, h2, h3, h4⟩
  by_cases hst : s < t
  · obtain ⟨y, hy⟩ : ∃ y, A[(s + t) / 2]? = some y := ⟨_, List.getElem?_eq_getElem (by omega)⟩
    have gy := gA _ _ hy
    have hyZ := hZ y (List.mem_of_getElem? hy)
    have hneg := hC.neg x y
    repeat' (first | ((first | apply RW.q1 | (apply DW.q1; exact rfl) | ((first | apply RW.qg | (apply DW.qg; exact rfl)); exact gvx; refine hgx tst ?_; intro hg hg')); (first | (apply q_shr; exact rfl; exact rfl; omega; exact shr_one (by omega)) | (apply q_lao; exact rfl; exact evgx; infer_instance; (first | exact get_fl gx (by omega) | exact get_fl gy (by omega)); exact rfl; decide) | exact qt | exact qu)) | refine xsg cts ?_ | (apply CW_condT; exact rfl; exact ar) | (apply CW_condF; exact rfl; exact ar) | ((first | apply RW.s1 | apply RW.s0 | (apply DW.sa; exact rfl)); exact gva) | (refine hK _ _ ?_; clear hK; refine xsg xsl ?_) | ((first | apply RW.c1 | (apply DW.c1; exact rfl; exact rfl) | (apply DW.c1t; exact rfl)); (first | (apply nw_callv (f := 55); exact rfl; exact rfl; exact go55; (intro G hG; exact (hC.run G hG.ext x y hxZ hyZ).mono (fun v M h => h.1))))) | (refine xsg ahd ?_; (first | (apply gw_stf; exact rfl; exact rfl; infer_instance; (first | omega | (simp only [List.length_set]; omega))) | (apply gw_asg; exact rfl) | (refine gw_stx sto ?_) | (fail))) | ((first | apply RW.cg | (apply DW.cg; exact rfl; exact rfl) | (apply DW.cgt; exact rfl)); exact gvx; refine hgx tst ?_; intro hg hg'; first | (apply nw_callv (f := 55); exact evgx; exact evx; exact go55; (intro G hG; exact (hC.run G hG.ext x y hxZ hyZ).mono (fun v M h => h.1)))) | (apply CW_region; intro K hK) | (apply CW_condX; exact rfl; exact tst; exact tst; all_goals (intro hq hc; try exact no)) | (refine CW_draw (id := 5) [] dwSrtQ0 mixed (by kernel_rfl) (fun K hK => ?_)) | (refine CW_draw (id := 11) [] dwSrtQ1 mixed (by kernel_rfl) (fun K hK => ?_)) | (refine CW_draw (id := 17) [] dwSrtQ2 mixed (by kernel_rfl) (fun K hK => ?_)) | (refine CW_draw (id := 23) [] dwSrtQ1 mixed (by kernel_rfl) (fun K hK => ?_)) | (refine CW_draw (id := 35) [] dwSrtQ3 mixed (by kernel_rfl) (fun K hK => ?_)))
    · refine ⟨_, _, _, ⟨(s + t) / 2 + 1, t, rfl, rfl, rfl, by omega, h2, fun e z he hz => ?_, h4⟩, by exact sbe, by exact sbl, by omega⟩
      by_cases hee : e = (s + t) / 2
      · subst hee; rw [hy] at hz; cases hz; exact fun h => by have := hneg.2 h; omega
      · exact hC.ord.le_tr (srt_get hA hz hy (by omega)) (fun h => by have := hneg.2 h; omega)
    · refine ⟨_, _, _, ⟨s, (s + t) / 2, rfl, rfl, rfl, by omega, by omega, h3, fun e z he hz => ?_⟩, by exact sbe, by exact sbl, by omega⟩
      by_cases hee : e = (s + t) / 2
      · subst hee; rw [hy] at hz; cases hz; exact hneg.1 (by omega)
      · exact hC.ord.lt_le (hneg.1 (by omega)) (srt_get hA hy hz (by omega))
  · obtain rfl : t = s := by omega
    have hAs : A = A.take t ++ A.drop t := (List.take_append_drop _ _).symm
    generalize hA1' : A.take t = A1 at hAs
    generalize hA2' : A.drop t = A2 at hAs
    have hl1 : A1.length = t := by rw [← hA1', List.length_take]; omega
    have k1 : ∀ w z, A1 = w ++ [z] → le lt z x := by
      intro w z e
      rw [← hA1'] at e
      have := take_last e
      exact h3 w.length z (by omega) this.1
    have k2 : ∀ z ∈ A2, le lt x z := by
      intro z hz
      rw [← hA2'] at hz
      obtain ⟨e, he⟩ := List.mem_iff_getElem?.1 hz
      rw [List.getElem?_drop] at he
      exact hC.ord.le_of (h4 _ z (by omega) he)
    have hAl := congrArg List.length hAs
    rw [List.length_append] at hAl
    repeat' (first | ((first | apply RW.q1 | (apply DW.q1; exact rfl)); exact qt) | ((first | apply RW.qg | (apply DW.qg; exact rfl)); exact gvx; refine hgx tst ?_; intro hg hg'; exact qu) | refine xsg cts ?_ | (apply CW_condT; exact rfl; exact ar) | (apply CW_condF; exact rfl; exact ar) | ((first | apply RW.s1 | apply RW.s0 | (apply DW.sa; exact rfl)); exact gva) | (refine hK _ _ ?_; clear hK; refine xsg xsl ?_) | (refine xsg ahd ?_; (first | (apply gw_asg; exact rfl) | (refine gw_stx sto ?_) | (fail))) | (apply CW_region; intro K hK) | (apply CW_condX; exact rfl; exact tst; exact tst; all_goals (intro hq hc; try exact no)) | (refine CW_draw (id := 5) [] dwSrtQ0 mixed (by kernel_rfl) (fun K hK => ?_)) | (refine CW_draw (id := 11) [] dwSrtQ1 mixed (by kernel_rfl) (fun K hK => ?_)) | (refine CW_draw (id := 17) [] dwSrtQ2 mixed (by kernel_rfl) (fun K hK => ?_)) | (refine CW_draw (id := 23) [] dwSrtQ1 mixed (by kernel_rfl) (fun K hK => ?_)) | (refine CW_draw (id := 35) [] dwSrtQ3 mixed (by kernel_rfl) (fun K hK => ?_)))
    refine CW_loop (fun m l L => ∃ (U V xs : List Fl), m = U.length ∧ l = [(0, true, .slice a n c), (14, true, .int .i64 (P.length + t : Nat)), (17, true, .int .i64 (P.length + A1.length + U.length : Nat))] ∧
        L = [.own 38 4 a n c (xs.flatMap flC)] ∧ xs = P ++ (A1 ++ (U ++ (x :: (V ++ S)))) ∧ A2 = U ++ V)
      ⟨_, _, _, ⟨A2, [], P ++ (A ++ (x :: S)), rfl, rfl, rfl, by rw [hAs]; simp, by simp⟩, by exact sbe, by exact sbl⟩ ?_
    rintro m l L ⟨U, V, xs, rfl, rfl, rfl, g1, g2⟩
    have hUV := congrArg List.length g2
    rw [List.length_append] at hUV
    rcases snoc_cases U with hU | ⟨U', y, hU⟩
    · subst hU
      simp only [List.length_nil] at hUV ⊢
      repeat' (first | ((first | apply RW.q1 | (apply DW.q1; exact rfl)); exact qt) | ((first | apply RW.qg | (apply DW.qg; exact rfl)); exact gvx; refine hgx tst ?_; intro hg hg'; exact qu) | refine xsg cts ?_ | (apply CW_condT; exact rfl; exact ar) | (apply CW_condF; exact rfl; exact ar) | ((first | apply RW.s1 | apply RW.s0 | (apply DW.sa; exact rfl)); exact gva) | (refine hK _ _ ?_; clear hK; refine xsg xsl ?_) | (refine xsg ahd ?_; (first | (apply gw_asg; exact rfl) | (refine gw_stx sto ?_) | (fail))) | (apply CW_region; intro K hK) | (apply CW_condX; exact rfl; exact tst; exact tst; all_goals (intro hq hc; try exact no)) | (refine CW_draw (id := 5) [] dwSrtQ0 mixed (by kernel_rfl) (fun K hK => ?_)) | (refine CW_draw (id := 11) [] dwSrtQ1 mixed (by kernel_rfl) (fun K hK => ?_)) | (refine CW_draw (id := 17) [] dwSrtQ2 mixed (by kernel_rfl) (fun K hK => ?_)) | (refine CW_draw (id := 23) [] dwSrtQ1 mixed (by kernel_rfl) (fun K hK => ?_)) | (refine CW_draw (id := 35) [] dwSrtQ3 mixed (by kernel_rfl) (fun K hK => ?_)))
      all_goals (refine CW_ret ?_; refine xsg xsl ?_; refine bR [] [.own 38 4 a n c _] ?_)
      refine ⟨A1 ++ x :: A2, ?_, srt_ins hC.ord (by rw [← hAs]; exact hA) k1 k2, ?_⟩
      · rw [hAs]; exact List.perm_middle.trans (List.perm_append_singleton x (A1 ++ A2)).symm
      · rw [g1, g2]; simp
    · subst hU
      simp only [List.length_append, List.length_singleton] at hUV ⊢
      have hxl : xs.length = n := by rw [g1]; simp only [List.length_append, List.length_cons, List.length_nil]; omega
      have gx2 : xs[P.length + A1.length + (U'.length + 1)]? = some x := by
        rw [g1, show P ++ (A1 ++ ((U' ++ [y]) ++ (x :: (V ++ S)))) = (P ++ (A1 ++ (U' ++ [y]))) ++ x :: (V ++ S) by simp]
        exact get_mid (by simp only [List.length_append, List.length_singleton]; omega)
      have gy2 : xs[P.length + A1.length + U'.length]? = some y := by
        rw [g1, show P ++ (A1 ++ ((U' ++ [y]) ++ (x :: (V ++ S)))) = (P ++ (A1 ++ U')) ++ y :: (x :: (V ++ S)) by simp]
        exact get_mid (by simp only [List.length_append]; omega)
      repeat' (first | ((first | apply RW.q1 | (apply DW.q1; exact rfl) | ((first | apply RW.qg | (apply DW.qg; exact rfl)); exact gvx; refine hgx tst ?_; intro hg hg')); (first | (apply q_lao; exact rfl; exact evgx; infer_instance; (first | exact get_fl gx2 (by omega) | exact get_fl gy2 (by omega)); exact rfl; decide) | exact qt | exact qu)) | refine xsg cts ?_ | (apply CW_condT; exact rfl; exact ar) | (apply CW_condF; exact rfl; exact ar) | ((first | apply RW.s1 | apply RW.s0 | (apply DW.sa; exact rfl)); exact gva) | (refine hK _ _ ?_; clear hK; refine xsg xsl ?_) | (refine xsg ahd ?_; (first | (apply gw_stf; exact rfl; exact rfl; infer_instance; (first | omega | (simp only [List.length_set]; omega))) | (apply gw_asg; exact rfl) | (refine gw_stx sto ?_) | (fail))) | (apply CW_region; intro K hK) | (apply CW_condX; exact rfl; exact tst; exact tst; all_goals (intro hq hc; try exact no)) | (refine CW_draw (id := 5) [] dwSrtQ0 mixed (by kernel_rfl) (fun K hK => ?_)) | (refine CW_draw (id := 11) [] dwSrtQ1 mixed (by kernel_rfl) (fun K hK => ?_)) | (refine CW_draw (id := 17) [] dwSrtQ2 mixed (by kernel_rfl) (fun K hK => ?_)) | (refine CW_draw (id := 23) [] dwSrtQ1 mixed (by kernel_rfl) (fun K hK => ?_)) | (refine CW_draw (id := 35) [] dwSrtQ3 mixed (by kernel_rfl) (fun K hK => ?_)))
      have e1 : (((P.length + A1.length + (U'.length + 1) : Nat) : Int)).toNat = (P ++ A1).length + U'.length + 1 := by simp only [List.length_append]; omega
      have e2 : (((P.length + A1.length + (U'.length + 1) : Nat) : Int) - 1).toNat = (P ++ A1).length + U'.length := by simp only [List.length_append]; omega
      try simp only [e1, e2]
      rw [g1, show P ++ (A1 ++ ((U' ++ [y]) ++ (x :: (V ++ S)))) = (P ++ A1) ++ (U' ++ (y :: (x :: (V ++ S)))) by simp, swap_dn rfl rfl]
      exact ⟨_, _, _, ⟨U', y :: V, (P ++ A1) ++ (U' ++ (x :: (y :: (V ++ S)))), rfl, rfl, rfl, by simp, by rw [g2]; simp⟩, by exact sbe, by exact sbl, by omega⟩
end Go.Proofs.Ytkhmimlgkjenfaa.HL
namespace Go.Proofs.Ytkhmimlgkjenfaa.HL
open Go
attribute [local irreducible] goFn thenS blockS bodyS CW RW DW GW QW NW SC Pick Picks SubL Rd NN ResOk SrcW subE hops hseg AW hgen HC qv bldv
set_option maxHeartbeats 8000000
set_option maxRecDepth 100000
set_option linter.unusedVariables false
set_option linter.unusedSimpArgs false

abbrev dwSrtR0 : List (Nat × Bool) := [(0, false), (1, false), (2, false), (3, false), (4, false), (5, false), (6, false), (7, false), (8, false), (9, true), (10, false)]
abbrev dwSrtR1 : List (Nat × Bool) := [(0, false), (1, false), (2, false), (3, false), (4, false), (5, false), (6, false), (7, false), (8, false), (9, false), (10, false), (11, false), (12, false), (13, false), (14, false), (15, true), (16, false), (17, true)]
abbrev dwSrtR2 : List (Nat × Bool) := [(0, false), (1, false), (2, false), (3, false), (4, false), (5, false), (6, false), (7, false), (8, false), (9, true), (10, false), (11, false)]
abbrev dwSrtR3 : List (Nat × Bool) := [(0, false), (1, false), (2, false), (3, false), (4, false), (5, false), (6, false), (7, false), (8, false), (9, false), (10, false), (11, true), (12, false), (13, false)]
theorem sym_gen {Z : Fl → Prop} {q : Fl → Fl → Int} {lt : Fl → Fl → Prop} (H : Hp) (hC : CmpOk 55 H Z q lt) : ∀ (N : Nat) (P A B S : List Fl) (a : Option Addr) (n c : Nat), A.length + B.length ≤ N →
    n = (P ++ (A ++ (B ++ S))).length → n ≤ 1099511627776 → (∀ u ∈ A, Z u) → (∀ u ∈ B, Z u) → Srt lt A → Srt lt B → 1 ≤ A.length → 1 ≤ B.length → ∀ (i j k : Int), i = P.length → j = P.length + A.length → k = P.length + A.length + B.length →
    ∀ G0, Ext H G0 → SC Try.prog 78 [.slice a n c, .int .i64 i, .int .i64 j, .int .i64 k, .func (.func 55) #[] #[]] G0 [.own 38 4 a n c ((P ++ (A ++ (B ++ S))).flatMap flC)]
      (fun v M' => ∃ D', D'.Perm (A ++ B) ∧ Srt lt D' ∧ M' = [.own 38 4 a n c ((P ++ (D' ++ S)).flatMap flC)]) := by
  intro N
  induction N with
  | zero => intro P A B S a n c h; intros; omega
  | succ N ih =>
    intro P A B S a n c hN hn hN2 hZA hZB hA hB hA1 hB1 i j k hi hj hk G0 hG0
    have hC0 : CmpOk 55 G0 Z q lt := ⟨fun G hG => hC.run G (hG0.trans hG), hC.neg, hC.ord⟩
    have hl : n = P.length + A.length + B.length + S.length := by rw [hn]; simp only [List.length_append]; omega
    by_cases ha : A.length = 1
    · match A, ha with
      | [x], _ =>
        have := sym_one G0 hC0 P B S x a n c (by rw [hn]; simp) hN2 (hZA x (by simp)) hZB hB i j k hi hj hk
        exact this
    · by_cases hb : B.length = 1
      · match B, hb with
        | [x], _ => exact sym_last G0 hC0 P A S x a n c (by rw [hn]; simp) hN2 (hZB x (by simp)) hZA hA ha i j k hi hj hk
      · generalize hh : (A.length + B.length) / 2 = h
        generalize hs0 : (if h < A.length then h - B.length else 0) = s0
        generalize hr0 : min h A.length = r0
        have hs0' : (h < A.length → s0 = h - B.length) ∧ (¬ h < A.length → s0 = 0) := by rw [← hs0]; constructor <;> intro hx; rw [if_pos hx]; rw [if_neg hx]
        have gA : ∀ t y, A[t]? = some y → (P ++ (A ++ (B ++ S)))[P.length + t]? = some y := fun t y h => get_app rfl (get_appl h)
        have gB : ∀ t y, B[t]? = some y → (P ++ (A ++ (B ++ S)))[P.length + A.length + t]? = some y := fun t y h => by
          rw [← List.append_assoc]; exact get_app (by simp) (get_appl h)
        have hinv : ∀ (s t : Nat), s = t → s0 ≤ s → s ≤ r0 → (s0 < s → ∀ u v, A[s - 1]? = some u → B[h - s]? = some v → le lt u v) → (t < r0 → ∀ u v, A[t]? = some u → B[h - 1 - t]? = some v → lt v u) →
            (∀ w y z r, A.take s = w ++ [y] → B.drop (h - s) = z :: r → le lt y z) ∧ (∀ w y z r, B.take (h - s) = w ++ [y] → A.drop s = z :: r → le lt y z) := by
          rintro s _ rfl q1 q2 q3 q4
          constructor
          · intro w y z r e1 e2
            have t1 := take_last e1
            have t2 := drop_head e2
            have t3 := congrArg List.length e2
            rw [List.length_drop, List.length_cons] at t3
            refine q3 (by omega) y z ?_ t2
            rw [show s - 1 = w.length by omega]; exact t1.1
          · intro w y z r e1 e2
            have t1 := take_last e1
            have t2 := drop_head e2
            have t3 := congrArg List.length e2
            rw [List.length_drop, List.length_cons] at t3
            refine hC0.ord.le_of (q4 (by omega) z y t2 ?_)
            rw [show h - 1 - s = w.length by omega]; exact t1.1
        (refine SC_intro Try.func78 rfl (by kernel_rfl) (by rw [Try.ntmps78]; exact Nat.le_of_ble_eq_true rfl) ?_; simp only [Try.ntmps78, argE, Nat.reduceAdd])
        
        have hmid : (i + k) / 2 = P.length + h := by omega
        repeat' (first | ((first | apply RW.q1 | (apply DW.q1; exact rfl) | ((first | apply RW.qg | (apply DW.qg; exact rfl)); exact gvx; refine hgx tst ?_; intro hg hg')); (first | (apply q_shr; exact rfl; exact rfl; omega; exact shr_one (by omega)) | exact qt | exact qu)) | refine xsg cts ?_ | (apply CW_condT; exact rfl; exact ar) | (apply CW_condF; exact rfl; exact ar) | ((first | apply RW.s1 | apply RW.s0 | (apply DW.sa; exact rfl)); exact gva) | (refine hK _ _ ?_; clear hK; refine xsg xsl ?_) | (refine xsg ahd ?_; (first | (apply gw_asg; exact rfl) | (refine gw_stx sto ?_) | (fail))) | (apply CW_region; intro K hK) | (apply CW_condF; exact rfl; exact sbx) | (apply CW_condT; exact rfl; exact sbx) | (refine CW_draw (id := 5) [] dwSrtR0 mixed (by kernel_rfl) (fun K hK => ?_)) | (refine CW_draw (id := 11) [] dwSrtR1 mixed (by kernel_rfl) (fun K hK => ?_)) | (refine CW_draw (id := 17) [] dwSrtR2 mixed (by kernel_rfl) (fun K hK => ?_)) | (refine CW_draw (id := 23) [] dwSrtR1 mixed (by kernel_rfl) (fun K hK => ?_)) | (refine CW_draw (id := 35) [] dwSrtR3 mixed (by kernel_rfl) (fun K hK => ?_)))
        rw [hmid]
        refine CW_join (fun l L => l = [(0, true, .slice a n c), (1, true, .int .i64 i), (2, true, .int .i64 j), (3, true, .int .i64 k), (4, true, .func (.func 55) #[] #[]), (18, true, .int .i64 (P.length + h : Nat)), (19, true, .int .i64 (2 * P.length + h + A.length : Nat)), (20, true, .int .i64 (P.length + s0 : Nat)), (21, true, .int .i64 (P.length + r0 : Nat))] ∧
            L = [.own 38 4 a n c ((P ++ (A ++ (B ++ S))).flatMap flC)]) ?_ ?_
        · repeat' (first | ((first | apply RW.q1 | (apply DW.q1; exact rfl)); exact qt) | ((first | apply RW.qg | (apply DW.qg; exact rfl)); exact gvx; refine hgx tst ?_; intro hg hg'; exact qu) | refine xsg cts ?_ | (apply CW_condT; exact rfl; exact ar) | (apply CW_condF; exact rfl; exact ar) | ((first | apply RW.s1 | apply RW.s0 | (apply DW.sa; exact rfl)); exact gva) | (refine hK _ _ ?_; clear hK; refine xsg xsl ?_) | (refine xsg ahd ?_; (first | (apply gw_asg; exact rfl) | (refine gw_stx sto ?_) | (fail))) | (apply CW_region; intro K hK) | (apply CW_condX; exact rfl; exact tst; exact tst; all_goals (intro hq hc; try exact no)) | (refine CW_draw (id := 5) [] dwSrtR0 mixed (by kernel_rfl) (fun K hK => ?_)) | (refine CW_draw (id := 11) [] dwSrtR1 mixed (by kernel_rfl) (fun K hK => ?_)) | (refine CW_draw (id := 17) [] dwSrtR2 mixed (by kernel_rfl) (fun K hK => ?_)) | (refine CW_draw (id := 23) [] dwSrtR1 mixed (by kernel_rfl) (fun K hK => ?_)) | (refine CW_draw (id := 35) [] dwSrtR3 mixed (by kernel_rfl) (fun K hK => ?_)))
          all_goals exact ⟨_, _, ⟨rfl, rfl⟩, by exact sbe, by exact sbl⟩
        rintro l L ⟨rfl, rfl⟩
        clear hmid
        have hb0 : s0 ≤ r0 ∧ r0 ≤ h ∧ r0 ≤ A.length ∧ h ≤ s0 + B.length := by omega
        have hs1 : 2 ≤ A.length ∧ 2 ≤ B.length ∧ h < A.length + B.length ∧ 1 ≤ h ∧ h - s0 ≤ B.length := by omega
        have hNN : h ≤ N ∧ A.length + B.length - h ≤ N := by omega
        clear hs0 hr0 hs0' hh ha hb hN hA1 hB1
        obtain ⟨nm, hnm⟩ : ∃ nm : Nat, nm = 2 * P.length + h + A.length := ⟨_, rfl⟩
        rw [← hnm]
        repeat' (first | ((first | apply RW.q1 | (apply DW.q1; exact rfl)); exact qt) | ((first | apply RW.qg | (apply DW.qg; exact rfl)); exact gvx; refine hgx tst ?_; intro hg hg'; exact qu) | refine xsg cts ?_ | (apply CW_condT; exact rfl; exact ar) | (apply CW_condF; exact rfl; exact ar) | ((first | apply RW.s1 | apply RW.s0 | (apply DW.sa; exact rfl)); exact gva) | (refine hK _ _ ?_; clear hK; refine xsg xsl ?_) | (refine xsg ahd ?_; (first | (apply gw_asg; exact rfl) | (refine gw_stx sto ?_) | (fail))) | (apply CW_region; intro K hK) | (apply CW_condF; exact rfl; exact sbx) | (apply CW_condT; exact rfl; exact sbx) | (refine CW_draw (id := 5) [] dwSrtR0 mixed (by kernel_rfl) (fun K hK => ?_)) | (refine CW_draw (id := 11) [] dwSrtR1 mixed (by kernel_rfl) (fun K hK => ?_)) | (refine CW_draw (id := 17) [] dwSrtR2 mixed (by kernel_rfl) (fun K hK => ?_)) | (refine CW_draw (id := 23) [] dwSrtR1 mixed (by kernel_rfl) (fun K hK => ?_)) | (refine CW_draw (id := 35) [] dwSrtR3 mixed (by kernel_rfl) (fun K hK => ?_)))
        refine CW_loop (fun m l L => ∃ (s t : Nat), m = t - s ∧ l = [(0, true, .slice a n c), (1, true, .int .i64 i), (2, true, .int .i64 j), (3, true, .int .i64 k), (4, true, .func (.func 55) #[] #[]), (18, true, .int .i64 (P.length + h : Nat)), (19, true, .int .i64 (nm : Nat)), (20, true, .int .i64 (P.length + s : Nat)), (21, true, .int .i64 (P.length + t : Nat)), (22, true, .int .i64 ((nm : Nat) - 1))] ∧
            L = [.own 38 4 a n c ((P ++ (A ++ (B ++ S))).flatMap flC)] ∧ s ≤ t ∧ s0 ≤ s ∧ t ≤ r0 ∧ (s0 < s → ∀ u v, A[s - 1]? = some u → B[h - s]? = some v → le lt u v) ∧ (t < r0 → ∀ u v, A[t]? = some u → B[h - 1 - t]? = some v → lt v u))
          ⟨_, _, _, ⟨s0, r0, rfl, rfl, rfl, by omega, by omega, by omega, fun h => by omega, fun h => by omega⟩, by exact sbe, by exact sbl⟩ ?_
        rintro m l L ⟨s, t, rfl, rfl, rfl, h1, h2, h3, h4, h5⟩
        by_cases hst : s < t
        · obtain ⟨u, hu⟩ : ∃ y, A[(s + t) / 2]? = some y := ⟨_, List.getElem?_eq_getElem (by omega)⟩
          obtain ⟨v, hv⟩ : ∃ y, B[h - 1 - (s + t) / 2]? = some y := ⟨_, List.getElem?_eq_getElem (by omega)⟩
          have gu := gA _ _ hu
          have gv := gB _ _ hv
          have huZ := hZA u (List.mem_of_getElem? hu)
          have hvZ := hZB v (List.mem_of_getElem? hv)
          have hneg := hC0.neg v u
          repeat' (first | ((first | apply RW.q1 | (apply DW.q1; exact rfl) | ((first | apply RW.qg | (apply DW.qg; exact rfl)); exact gvx; refine hgx tst ?_; intro hg hg')); (first | (apply q_shr; exact rfl; exact rfl; omega; exact shr_one (by omega)) | (apply q_lao; exact rfl; exact evgx; infer_instance; (first | exact get_fl gu (by omega) | exact get_fl gv (by omega)); exact rfl; decide) | exact qt | exact qu)) | refine xsg cts ?_ | (apply CW_condT; exact rfl; exact ar) | (apply CW_condF; exact rfl; exact ar) | ((first | apply RW.s1 | apply RW.s0 | (apply DW.sa; exact rfl)); exact gva) | (refine hK _ _ ?_; clear hK; refine xsg xsl ?_) | ((first | apply RW.c1 | (apply DW.c1; exact rfl; exact rfl) | (apply DW.c1t; exact rfl)); (first | (apply nw_callv (f := 55); exact rfl; exact rfl; exact go55; (intro G hG; exact (hC0.run G hG.ext v u hvZ huZ).mono (fun v M h => h.1))))) | (refine xsg ahd ?_; (first | (apply gw_stf; exact rfl; exact rfl; infer_instance; (first | omega | (simp only [List.length_set]; omega))) | (apply gw_asg; exact rfl) | (refine gw_stx sto ?_) | (fail))) | ((first | apply RW.cg | (apply DW.cg; exact rfl; exact rfl) | (apply DW.cgt; exact rfl)); exact gvx; refine hgx tst ?_; intro hg hg'; first | (apply nw_callv (f := 55); exact evgx; exact evx; exact go55; (intro G hG; exact (hC0.run G hG.ext v u hvZ huZ).mono (fun v M h => h.1)))) | (apply CW_region; intro K hK) | (apply CW_condX; exact rfl; exact tst; exact tst; all_goals (intro hq hc; try exact no)) | (refine CW_draw (id := 5) [] dwSrtR0 mixed (by kernel_rfl) (fun K hK => ?_)) | (refine CW_draw (id := 11) [] dwSrtR1 mixed (by kernel_rfl) (fun K hK => ?_)) | (refine CW_draw (id := 17) [] dwSrtR2 mixed (by kernel_rfl) (fun K hK => ?_)) | (refine CW_draw (id := 23) [] dwSrtR1 mixed (by kernel_rfl) (fun K hK => ?_)) | (refine CW_draw (id := 35) [] dwSrtR3 mixed (by kernel_rfl) (fun K hK => ?_)))
          · refine ⟨_, _, _, ⟨(s + t) / 2 + 1, t, rfl, rfl, rfl, by omega, by omega, h3, fun _ u' v' hu' hv' => ?_, h5⟩, by exact sbe, by exact sbl, by omega⟩
            rw [show (s + t) / 2 + 1 - 1 = (s + t) / 2 by omega, hu] at hu'
            rw [show h - ((s + t) / 2 + 1) = h - 1 - (s + t) / 2 by omega, hv] at hv'
            cases hu'; cases hv'
            exact fun k => by have := hneg.2 k; omega
          · refine ⟨_, _, _, ⟨s, (s + t) / 2, rfl, rfl, rfl, by omega, by omega, by omega, h4, fun _ u' v' hu' hv' => ?_⟩, by exact sbe, by exact sbl, by omega⟩
            rw [hu] at hu'; rw [hv] at hv'; cases hu'; cases hv'
            exact hneg.1 (by omega)
        obtain rfl : t = s := by omega
        obtain ⟨k1, k2⟩ := hinv t t rfl h2 (by omega) h4 h5
        have hr0' : t ≤ h ∧ t ≤ A.length ∧ h - t ≤ B.length := by omega
        have hAs : A = A.take t ++ A.drop t := (List.take_append_drop _ _).symm
        have hBs : B = B.take (h - t) ++ B.drop (h - t) := (List.take_append_drop _ _).symm
        have lA1 : (A.take t).length = t := by rw [List.length_take]; omega
        have lA2 : (A.drop t).length = A.length - t := List.length_drop
        have lB1 : (B.take (h - t)).length = h - t := by rw [List.length_take]; omega
        have lB2 : (B.drop (h - t)).length = B.length - (h - t) := List.length_drop
        generalize A.take t = A1 at hAs lA1 k1 k2
        generalize A.drop t = A2 at hAs lA2 k1 k2
        generalize B.take (h - t) = B1 at hBs lB1 k1 k2
        generalize B.drop (h - t) = B2 at hBs lB2 k1 k2
        have hsA : Srt lt (A1 ++ A2) := hAs ▸ hA
        have hsB : Srt lt (B1 ++ B2) := hBs ▸ hB
        have sA := srt_app.1 hsA
        have sB := srt_app.1 hsB
        have zA1 : ∀ u ∈ A1, Z u := fun u hu => hZA u (by rw [hAs]; simp [hu])
        have zA2 : ∀ u ∈ A2, Z u := fun u hu => hZA u (by rw [hAs]; simp [hu])
        have zB1 : ∀ u ∈ B1, Z u := fun u hu => hZB u (by rw [hBs]; simp [hu])
        have zB2 : ∀ u ∈ B2, Z u := fun u hu => hZB u (by rw [hBs]; simp [hu])
        have e0 : P ++ (A ++ (B ++ S)) = (P ++ A1) ++ (A2 ++ (B1 ++ (B2 ++ S))) := by rw [hAs, hBs]; simp
        have e1 : (P ++ A1) ++ (B1 ++ (A2 ++ (B2 ++ S))) = P ++ (A1 ++ (B1 ++ (A2 ++ (B2 ++ S)))) := by simp
        have e2 : ∀ D1, P ++ (D1 ++ (A2 ++ (B2 ++ S))) = (P ++ D1) ++ (A2 ++ (B2 ++ S)) := fun D1 => by simp
        have e1c : P ++ (A1 ++ (B1 ++ (A2 ++ (B2 ++ S)))) = (P ++ (A1 ++ B1)) ++ (A2 ++ (B2 ++ S)) := by simp
        have e3 : ∀ D1, (P ++ D1) ++ (A2 ++ (B2 ++ S)) = (P ++ D1) ++ ((A2 ++ B2) ++ S) := fun D1 => by simp
        have lP1 : (P ++ A1).length = P.length + t := by rw [List.length_append]; omega
        have e0' : ¬ (t < A.length ∧ t < h) → (P ++ A1) ++ (A2 ++ (B1 ++ (B2 ++ S))) = P ++ (A1 ++ (B1 ++ (A2 ++ (B2 ++ S)))) := by
          intro hx
          rcases Nat.lt_or_ge t A.length with hq | hq
          · rw [List.eq_nil_of_length_eq_zero (l := B1) (by omega)]; simp
          · rw [List.eq_nil_of_length_eq_zero (l := A2) (by omega)]; simp
        have hn0 : n = ((P ++ A1) ++ (A2 ++ (B1 ++ (B2 ++ S)))).length := by simp only [List.length_append]; omega
        have hn1 : n = (P ++ (A1 ++ (B1 ++ (A2 ++ (B2 ++ S))))).length := by simp only [List.length_append]; omega
        have d1 : ¬ (0 < t ∧ t < h) → Srt lt (A1 ++ B1) := by
          intro hx
          rcases Nat.eq_zero_or_pos t with hq | hq
          · rw [List.eq_nil_of_length_eq_zero (l := A1) (by omega)]; exact sB.1
          · rw [List.eq_nil_of_length_eq_zero (l := B1) (by omega), List.append_nil]; exact sA.1
        have d2 : ¬ (t < A.length ∧ h - t < B.length) → Srt lt (A2 ++ B2) := by
          intro hx
          rcases Nat.lt_or_ge t A.length with hq | hq
          · rw [List.eq_nil_of_length_eq_zero (l := B2) (by omega), List.append_nil]; exact sA.2.1
          · rw [List.eq_nil_of_length_eq_zero (l := A2) (by omega)]; exact sB.2.1
        have cl : ∀ (D1 D2 : List Fl), D1.Perm (A1 ++ B1) → D2.Perm (A2 ++ B2) → Srt lt D1 → Srt lt D2 → ∃ D', D'.Perm (A ++ B) ∧ Srt lt D' ∧ [Res.own 38 4 a n c (((P ++ D1) ++ (D2 ++ S)).flatMap flC)] = [Res.own 38 4 a n c ((P ++ (D' ++ S)).flatMap flC)] := by
          intro D1 D2 p1 p2 s1 s2
          refine ⟨D1 ++ D2, by rw [hAs, hBs]; exact perm_halves p1 p2, srt_halves hC0.ord hsA hsB p1 p2 s1 s2 k1 k2, ?_⟩
          simp
        have hnD : ∀ D1 : List Fl, D1.Perm (A1 ++ B1) → n = ((P ++ D1) ++ (A2 ++ (B2 ++ S))).length ∧ (P ++ D1).length = P.length + h := by
          intro D1 hp
          have := hp.length_eq
          simp only [List.length_append] at this ⊢
          omega
        have hNa : A1.length + B1.length ≤ N := by omega
        have hNb : A2.length + B2.length ≤ N := by omega
        rw [e0]
        generalize hla : A.length = la at *
        generalize hlb : B.length = lb at *
        clear hinv gA gB h1 h2 h3 h4 h5 hst hZA hZB hA hB hn hNN hb0 hs1 hAs hBs k1 k2 hsA hsB e0
        repeat' (first | ((first | apply RW.q1 | (apply DW.q1; exact rfl)); exact qt) | ((first | apply RW.qg | (apply DW.qg; exact rfl)); exact gvx; refine hgx tst ?_; intro hg hg'; exact qu) | refine xsg cts ?_ | (apply CW_condT; exact rfl; exact ar) | (apply CW_condF; exact rfl; exact ar) | ((first | apply RW.s1 | apply RW.s0 | (apply DW.sa; exact rfl)); exact gva) | (refine hK _ _ ?_; clear hK; refine xsg xsl ?_) | (refine xsg ahd ?_; (first | (apply gw_asg; exact rfl) | (refine gw_stx sto ?_) | (fail))) | (apply CW_region; intro K hK) | (apply CW_condF; exact rfl; exact sbx) | (apply CW_condT; exact rfl; exact sbx) | (refine CW_draw (id := 5) [] dwSrtR0 mixed (by kernel_rfl) (fun K hK => ?_)) | (refine CW_draw (id := 11) [] dwSrtR1 mixed (by kernel_rfl) (fun K hK => ?_)) | (refine CW_draw (id := 17) [] dwSrtR2 mixed (by kernel_rfl) (fun K hK => ?_)) | (refine CW_draw (id := 23) [] dwSrtR1 mixed (by kernel_rfl) (fun K hK => ?_)) | (refine CW_draw (id := 35) [] dwSrtR3 mixed (by kernel_rfl) (fun K hK => ?_)))
        refine CW_join (fun l L => l = [(0, true, .slice a n c), (1, true, .int .i64 i), (3, true, .int .i64 k), (4, true, .func (.func 55) #[] #[]), (18, true, .int .i64 (P.length + h : Nat)), (20, true, .int .i64 (P.length + t : Nat)), (24, true, .int .i64 ((nm : Nat) - (P.length + t : Nat)))] ∧
            L = [.own 38 4 a n c ((P ++ (A1 ++ (B1 ++ (A2 ++ (B2 ++ S))))).flatMap flC)]) ?_ ?_
        · repeat' (first | ((first | apply RW.q1 | (apply DW.q1; exact rfl)); exact qt) | ((first | apply RW.qg | (apply DW.qg; exact rfl)); exact gvx; refine hgx tst ?_; intro hg hg'; exact qu) | refine xsg cts ?_ | (apply CW_condT; exact rfl; exact ar) | (apply CW_condF; exact rfl; exact ar) | ((first | apply RW.s1 | apply RW.s0 | (apply DW.sa; exact rfl)); exact gva) | (refine hK _ _ ?_; clear hK; refine xsg xsl ?_) | (refine xsg ahd ?_; (first | (apply gw_callc (f := 80) (M := [.own 38 4 a n c (((P ++ A1) ++ (A2 ++ (B1 ++ (B2 ++ S)))).flatMap flC)]); exact evx; exact go80; exact pcs; intro G hG; refine SC.mono (rotate_spec (P ++ A1) A2 B1 (B2 ++ S) a n c _ G (by omega) (by omega) hn0 hN2 _ _ _ (by omega) (by omega) (by omega)) ?_; rintro v M rfl; rw [e1]; (try dsimp only [jL, jM])) | (apply gw_asg; exact rfl) | (refine gw_stx sto ?_) | (fail))) | (apply CW_region; intro K hK) | (apply CW_condX; exact rfl; exact tst; exact tst; all_goals (intro hq hc; try exact no)) | (refine CW_draw (id := 5) [] dwSrtR0 mixed (by kernel_rfl) (fun K hK => ?_)) | (refine CW_draw (id := 11) [] dwSrtR1 mixed (by kernel_rfl) (fun K hK => ?_)) | (refine CW_draw (id := 17) [] dwSrtR2 mixed (by kernel_rfl) (fun K hK => ?_)) | (refine CW_draw (id := 23) [] dwSrtR1 mixed (by kernel_rfl) (fun K hK => ?_)) | (refine CW_draw (id := 35) [] dwSrtR3 mixed (by kernel_rfl) (fun K hK => ?_)))
          · exact ⟨_, _, ⟨rfl, rfl⟩, by exact sbe, by exact sbl⟩
          · rw [e0' (by omega)]
            exact ⟨_, _, ⟨rfl, rfl⟩, by exact sbe, by exact sbl⟩
        rintro l L ⟨rfl, rfl⟩
        clear e0' hn0 lP1
        repeat' (first | ((first | apply RW.q1 | (apply DW.q1; exact rfl)); exact qt) | ((first | apply RW.qg | (apply DW.qg; exact rfl)); exact gvx; refine hgx tst ?_; intro hg hg'; exact qu) | refine xsg cts ?_ | (apply CW_condT; exact rfl; exact ar) | (apply CW_condF; exact rfl; exact ar) | ((first | apply RW.s1 | apply RW.s0 | (apply DW.sa; exact rfl)); exact gva) | (refine hK _ _ ?_; clear hK; refine xsg xsl ?_) | (refine xsg ahd ?_; (first | (apply gw_asg; exact rfl) | (refine gw_stx sto ?_) | (fail))) | (apply CW_region; intro K hK) | (apply CW_condF; exact rfl; exact sbx) | (apply CW_condT; exact rfl; exact sbx) | (refine CW_draw (id := 5) [] dwSrtR0 mixed (by kernel_rfl) (fun K hK => ?_)) | (refine CW_draw (id := 11) [] dwSrtR1 mixed (by kernel_rfl) (fun K hK => ?_)) | (refine CW_draw (id := 17) [] dwSrtR2 mixed (by kernel_rfl) (fun K hK => ?_)) | (refine CW_draw (id := 23) [] dwSrtR1 mixed (by kernel_rfl) (fun K hK => ?_)) | (refine CW_draw (id := 35) [] dwSrtR3 mixed (by kernel_rfl) (fun K hK => ?_)))
        refine CW_join (fun l L => ∃ D1, l = [(0, true, .slice a n c), (3, true, .int .i64 k), (4, true, .func (.func 55) #[] #[]), (18, true, .int .i64 (P.length + h : Nat)), (24, true, .int .i64 ((nm : Nat) - (P.length + t : Nat)))] ∧
            L = [.own 38 4 a n c (((P ++ D1) ++ (A2 ++ (B2 ++ S))).flatMap flC)] ∧ D1.Perm (A1 ++ B1) ∧ Srt lt D1) ?_ ?_
        · repeat' (first | ((first | apply RW.q1 | (apply DW.q1; exact rfl)); exact qt) | ((first | apply RW.qg | (apply DW.qg; exact rfl)); exact gvx; refine hgx tst ?_; intro hg hg'; exact qu) | refine xsg cts ?_ | (apply CW_condT; exact rfl; exact ar) | (apply CW_condF; exact rfl; exact ar) | ((first | apply RW.s1 | apply RW.s0 | (apply DW.sa; exact rfl)); exact gva) | (refine hK _ _ ?_; clear hK; refine xsg xsl ?_) | (refine xsg ahd ?_; (first | (apply gw_callc (f := 78) (M := [.own 38 4 a n c ((P ++ (A1 ++ (B1 ++ (A2 ++ (B2 ++ S))))).flatMap flC)]); exact evx; exact go78; exact pcs; intro G hG; refine SC.mono (ih P A1 B1 (A2 ++ (B2 ++ S)) a n c hNa hn1 hN2 zA1 zB1 sA.1 sB.1 (by omega) (by omega) _ _ _ (by omega) (by omega) (by omega) G (hG0.trans hG.ext)) ?_; rintro v M ⟨D1, p1, s1, rfl⟩; rw [e2 D1]; (try dsimp only [jL, jM])) | (apply gw_asg; exact rfl) | (refine gw_stx sto ?_) | (fail))) | (apply CW_region; intro K hK) | (apply CW_condX; exact rfl; exact tst; exact tst; all_goals (intro hq hc; try exact no)) | (refine CW_draw (id := 5) [] dwSrtR0 mixed (by kernel_rfl) (fun K hK => ?_)) | (refine CW_draw (id := 11) [] dwSrtR1 mixed (by kernel_rfl) (fun K hK => ?_)) | (refine CW_draw (id := 17) [] dwSrtR2 mixed (by kernel_rfl) (fun K hK => ?_)) | (refine CW_draw (id := 23) [] dwSrtR1 mixed (by kernel_rfl) (fun K hK => ?_)) | (refine CW_draw (id := 35) [] dwSrtR3 mixed (by kernel_rfl) (fun K hK => ?_)))
          · exact ⟨_, _, ⟨D1, rfl, rfl, p1, s1⟩, by exact sbe, by exact sbl⟩
          · rw [e1c]
            exact ⟨_, _, ⟨A1 ++ B1, rfl, rfl, .refl _, d1 (by omega)⟩, by exact sbe, by exact sbl⟩
        rintro l L ⟨D1, rfl, rfl, p1, s1⟩
        obtain ⟨hn2, lD1⟩ := hnD D1 p1
        clear hn1 e1 e2 e1c d1 hnD
        repeat' (first | ((first | apply RW.q1 | (apply DW.q1; exact rfl)); exact qt) | ((first | apply RW.qg | (apply DW.qg; exact rfl)); exact gvx; refine hgx tst ?_; intro hg hg'; exact qu) | refine xsg cts ?_ | (apply CW_condT; exact rfl; exact ar) | (apply CW_condF; exact rfl; exact ar) | ((first | apply RW.s1 | apply RW.s0 | (apply DW.sa; exact rfl)); exact gva) | (refine hK _ _ ?_; clear hK; refine xsg xsl ?_) | (refine xsg ahd ?_; (first | (apply gw_asg; exact rfl) | (refine gw_stx sto ?_) | (fail))) | (apply CW_region; intro K hK) | (apply CW_condF; exact rfl; exact sbx) | (apply CW_condT; exact rfl; exact sbx) | (refine CW_draw (id := 5) [] dwSrtR0 mixed (by kernel_rfl) (fun K hK => ?_)) | (refine CW_draw (id := 11) [] dwSrtR1 mixed (by kernel_rfl) (fun K hK => ?_)) | (refine CW_draw (id := 17) [] dwSrtR2 mixed (by kernel_rfl) (fun K hK => ?_)) | (refine CW_draw (id := 23) [] dwSrtR1 mixed (by kernel_rfl) (fun K hK => ?_)) | (refine CW_draw (id := 35) [] dwSrtR3 mixed (by kernel_rfl) (fun K hK => ?_)))
        repeat' (first | ((first | apply RW.q1 | (apply DW.q1; exact rfl)); exact qt) | ((first | apply RW.qg | (apply DW.qg; exact rfl)); exact gvx; refine hgx tst ?_; intro hg hg'; exact qu) | refine xsg cts ?_ | (apply CW_condT; exact rfl; exact ar) | (apply CW_condF; exact rfl; exact ar) | ((first | apply RW.s1 | apply RW.s0 | (apply DW.sa; exact rfl)); exact gva) | (refine hK _ _ ?_; clear hK; refine xsg xsl ?_) | (refine xsg ahd ?_; (first | (apply gw_callc (f := 78) (M := [.own 38 4 a n c (((P ++ D1) ++ (A2 ++ (B2 ++ S))).flatMap flC)]); exact evx; exact go78; exact pcs; intro G hG; refine SC.mono (ih (P ++ D1) A2 B2 S a n c hNb hn2 hN2 zA2 zB2 sA.2.1 sB.2.1 (by omega) (by omega) _ _ _ (by omega) (by omega) (by omega) G (hG0.trans hG.ext)) ?_; rintro v M ⟨D2, p2, s2, rfl⟩; (try dsimp only [jL, jM])) | (apply gw_asg; exact rfl) | (refine gw_stx sto ?_) | (fail))) | (apply CW_region; intro K hK) | (apply CW_condX; exact rfl; exact tst; exact tst; all_goals (intro hq hc; try exact no)) | (refine CW_draw (id := 5) [] dwSrtR0 mixed (by kernel_rfl) (fun K hK => ?_)) | (refine CW_draw (id := 11) [] dwSrtR1 mixed (by kernel_rfl) (fun K hK => ?_)) | (refine CW_draw (id := 17) [] dwSrtR2 mixed (by kernel_rfl) (fun K hK => ?_)) | (refine CW_draw (id := 23) [] dwSrtR1 mixed (by kernel_rfl) (fun K hK => ?_)) | (refine CW_draw (id := 35) [] dwSrtR3 mixed (by kernel_rfl) (fun K hK => ?_)))
        all_goals (refine bE [] [.own 38 4 a n c _] ?_)
        · exact cl D1 D2 p1 p2 s1 s2
        · rw [e3]; exact cl D1 _ p1 (.refl _) s1 (d2 (by omega))
end Go.Proofs.Ytkhmimlgkjenfaa.HL
namespace Go.Proofs.Ytkhmimlgkjenfaa.HL
open Go
attribute [local irreducible] goFn thenS blockS bodyS CW RW DW GW QW NW SC Pick Picks SubL Rd NN ResOk SrcW subE hops hseg AW hgen HC qv bldv
set_option maxHeartbeats 8000000
set_option maxRecDepth 100000
set_option linter.unusedVariables false
set_option linter.unusedSimpArgs false

theorem stable_spec {Z : Fl → Prop} {q : Fl → Fl → Int} {lt : Fl → Fl → Prop} (H : Hp) (hC : CmpOk 55 H Z q lt) (D : List Fl) (a : Option Addr) (n c : Nat) (hn : n = D.length) (hN : n ≤ 1099511627776) (hZ : ∀ u ∈ D, Z u) :
    SC Try.prog 70 [.slice a n c, .int .i64 (n : Nat), .func (.func 55) #[] #[]] H [.own 38 4 a n c (D.flatMap flC)]
      (fun v M' => ∃ D', D'.Perm D ∧ Srt lt D' ∧ M' = [.own 38 4 a n c (D'.flatMap flC)]) := by
  have hC1 : ∀ G, Ext H G → CmpOk 55 G Z q lt := fun G0 hG0 => ⟨fun G hG => hC.run G (hG0.trans hG), hC.neg, hC.ord⟩
  (refine SC_intro Try.func70 rfl (by kernel_rfl) (by rw [Try.ntmps70]; exact Nat.le_of_ble_eq_true rfl) ?_; simp only [Try.ntmps70, argE, Nat.reduceAdd])
  
  repeat' (first | (apply RW.q1; exact qt) | refine xsg cts ?_ | (apply CW_condT; exact rfl; exact ar) | (apply CW_condF; exact rfl; exact ar) | (refine hK _ _ ?_; clear hK; refine xsg xsl ?_) | ((first | apply RW.a1 | apply RW.a0); (first | (apply gw_asg; exact rfl) | (fail))) | (apply CW_region; intro K hK) | (apply CW_condF; exact rfl; exact sbx) | (apply CW_condT; exact rfl; exact sbx))
  refine CW_loop (fun m l L => ∃ (k : Nat) (P R : List Fl), m = R.length ∧ l = [(0, true, .slice a n c), (1, true, .int .i64 (n : Nat)), (2, true, .func (.func 55) #[] #[]), (6, true, .int .i64 20), (7, true, .int .i64 (P.length : Nat)), (8, true, .int .i64 ((P.length : Nat) + 20))] ∧
      L = [.own 38 4 a n c ((P ++ R).flatMap flC)] ∧ P.length = k * 20 ∧ Blk lt 20 P ∧ (P ++ R).Perm D)
    ⟨_, _, _, ⟨0, [], D, rfl, rfl, rfl, by simp, blk_nil _, .refl _⟩, by simp only [List.length_nil]; exact sbe, by exact sbl⟩ ?_
  rintro m l L ⟨k, P, R, rfl, rfl, rfl, h1, h2, h3⟩
  have hl := h3.length_eq
  rw [← hn, List.length_append] at hl
  have hZR : ∀ u ∈ R, Z u := fun u hu => hZ u (h3.mem_iff.1 (by simp [hu]))
  by_cases hb : P.length + 20 ≤ n
  · obtain ⟨X, Y, rfl, hX⟩ : ∃ X Y, R = X ++ Y ∧ X.length = 20 := ⟨R.take 20, R.drop 20, (List.take_append_drop _ _).symm, by rw [List.length_take]; omega⟩
    have hl2 : n = (P ++ (X ++ Y)).length := by simp only [List.length_append] at hl ⊢; omega
    simp only [List.length_append] at hl ⊢
    repeat' (first | (apply RW.q1; exact qt) | refine xsg cts ?_ | (apply CW_condT; exact rfl; exact ar) | (apply CW_condF; exact rfl; exact ar) | (refine hK _ _ ?_; clear hK; refine xsg xsl ?_) | ((first | apply RW.a1 | apply RW.a0); (first | (apply gw_callc (f := 77) (M := [.own 38 4 a n c ((P ++ (X ++ Y)).flatMap flC)]); exact rfl; exact go77; exact pcs; intro G hG; refine SC.mono (insertion_spec G (hC1 G hG.ext) P X Y a n c hl2 hN (fun u hu => hZR u (by simp [hu])) _ _ rfl (by omega)) ?_; rintro v M ⟨X', p1, s1, rfl⟩; (try dsimp only [jL, jM])) | (apply gw_asg; exact rfl) | (fail))) | (apply CW_region; intro K hK) | (apply CW_condX; exact rfl; exact tst; exact tst; all_goals (intro hq hc; try exact no)))
    have pl := p1.length_eq
    rw [← List.append_assoc]
    exact ⟨_, _, _, ⟨k + 1, P ++ X', Y, rfl, rfl, rfl, by rw [List.length_append]; omega, blk_snoc h2 h1 s1 (by omega), by rw [List.append_assoc]; exact (List.Perm.append_left P (p1.append_right Y)).trans h3⟩, by simp only [List.length_append]; exact sbe, by exact sbl, by omega⟩
  · have hl2 : n = (P ++ (R ++ [])).length := by simp only [List.length_append, List.append_nil]; omega
    have er : P ++ R = P ++ (R ++ []) := by simp
    rw [er]
    repeat' (first | (apply RW.q1; exact qt) | refine xsg cts ?_ | (apply CW_condT; exact rfl; exact ar) | (apply CW_condF; exact rfl; exact ar) | (refine hK _ _ ?_; clear hK; refine xsg xsl ?_) | ((first | apply RW.a1 | apply RW.a0); (first | (apply gw_callc (f := 77) (M := [.own 38 4 a n c ((P ++ (R ++ List.nil)).flatMap flC)]); exact rfl; exact go77; exact pcs; intro G hG; refine SC.mono (insertion_spec G (hC1 G hG.ext) P R [] a n c hl2 hN hZR _ _ rfl (by omega)) ?_; rintro v M ⟨X', p1, s1, rfl⟩; (try dsimp only [jL, jM])) | (apply gw_asg; exact rfl) | (fail))) | (apply CW_region; intro K hK) | (apply CW_condX; exact rfl; exact tst; exact tst; all_goals (intro hq hc; try exact no)))
    have pl := p1.length_eq
    have hperm : (P ++ X').Perm D := (List.Perm.append_left P p1).trans h3
    have hblk : Blk lt 20 (P ++ X') := blk_snoc h2 h1 s1 (by omega)
    rw [List.append_nil]
    generalize P ++ X' = W at hperm hblk
    clear p1 s1 h1 h2 h3 hZR er hl2 hb hl pl
    refine CW_loop (fun m l L => ∃ (w : Nat) (W : List Fl), m = n - w ∧ l = [(0, true, .slice a n c), (1, true, .int .i64 (n : Nat)), (2, true, .func (.func 55) #[] #[]), (6, true, .int .i64 (w : Nat))] ∧
        L = [.own 38 4 a n c (W.flatMap flC)] ∧ 20 ≤ w ∧ w ≤ 2 * n + 20 ∧ Blk lt w W ∧ W.Perm D)
      ⟨_, _, _, ⟨20, W, rfl, rfl, rfl, by omega, by omega, hblk, hperm⟩, by exact sbe, by exact sbl⟩ ?_
    clear hblk hperm
    rintro m l L ⟨w, W, rfl, rfl, rfl, h0, h00, h1, h2⟩
    have hl := h2.length_eq
    rw [← hn] at hl
    by_cases hw : w < n
    · repeat' (first | (apply RW.q1; exact qt) | refine xsg cts ?_ | (apply CW_condT; exact rfl; exact ar) | (apply CW_condF; exact rfl; exact ar) | (refine hK _ _ ?_; clear hK; refine xsg xsl ?_) | ((first | apply RW.a1 | apply RW.a0); (first | (apply gw_asg; exact rfl) | (fail))) | (apply CW_region; intro K hK) | (apply CW_condX; exact rfl; exact tst; exact tst; all_goals (intro hq hc; try exact no)))
      refine CW_loop (fun m l L => ∃ (k : Nat) (P R : List Fl), m = R.length ∧ l = [(0, true, .slice a n c), (1, true, .int .i64 (n : Nat)), (2, true, .func (.func 55) #[] #[]), (6, true, .int .i64 (w : Nat)), (7, true, .int .i64 (P.length : Nat)), (8, true, .int .i64 ((P.length : Nat) + 2 * (w : Nat)))] ∧
          L = [.own 38 4 a n c ((P ++ R).flatMap flC)] ∧ P.length = k * (2 * w) ∧ Blk lt (2 * w) P ∧ Blk lt w R ∧ (P ++ R).Perm D)
        ⟨_, _, _, ⟨0, [], W, rfl, rfl, rfl, by simp, blk_nil _, h1, h2⟩, by simp only [List.length_nil]; exact sbe, by exact sbl⟩ ?_
      clear hl h1 h2
      rintro m l L ⟨k, P, R, rfl, rfl, rfl, h1, h2, h3, h4⟩
      have hl := h4.length_eq
      rw [← hn, List.length_append] at hl
      have hZR : ∀ u ∈ R, Z u := fun u hu => hZ u (h4.mem_iff.1 (by simp [hu]))
      have sX : Srt lt (R.take w) := blk_take h3
      have hRs : R = R.take w ++ R.drop w := (List.take_append_drop _ _).symm
      have lX : (R.take w).length = min w R.length := List.length_take
      have h3' : Blk lt w (R.drop w) := by have := blk_drop (n := 1) h3; rwa [Nat.one_mul] at this
      generalize R.take w = X at hRs sX lX
      generalize R.drop w = Y at hRs h3'
      subst hRs
      rw [List.length_append] at lX hl
      by_cases hb : P.length + 2 * w ≤ n
      · have sY : Srt lt (Y.take w) := blk_take h3'
        have hYs : Y = Y.take w ++ Y.drop w := (List.take_append_drop _ _).symm
        have lY : (Y.take w).length = min w Y.length := List.length_take
        have h3'' : Blk lt w (Y.drop w) := by have := blk_drop (n := 1) h3'; rwa [Nat.one_mul] at this
        generalize Y.take w = U at hYs sY lY
        generalize Y.drop w = V at hYs h3''
        subst hYs
        rw [List.length_append] at lY hl lX
        simp only [List.length_append] at hl ⊢
        have hl2 : n = (P ++ (X ++ (U ++ V))).length := by simp only [List.length_append]; omega
        repeat' (first | (apply RW.q1; exact qt) | refine xsg cts ?_ | (apply CW_condT; exact rfl; exact ar) | (apply CW_condF; exact rfl; exact ar) | (refine hK _ _ ?_; clear hK; refine xsg xsl ?_) | ((first | apply RW.a1 | apply RW.a0); (first | (apply gw_callc (f := 78) (M := [.own 38 4 a n c ((P ++ (X ++ (U ++ V))).flatMap flC)]); exact rfl; exact go78; exact pcs; intro G hG; refine SC.mono (sym_gen H hC _ P X U V a n c (Nat.le_refl _) hl2 hN (fun u hu => hZR u (by simp [hu])) (fun u hu => hZR u (by simp [hu])) sX sY (by omega) (by omega) _ _ _ rfl (by omega) (by omega) G hG.ext) ?_; rintro v M ⟨X', p1, s1, rfl⟩; (try dsimp only [jL, jM])) | (apply gw_asg; exact rfl) | (fail))) | (apply CW_region; intro K hK) | (apply CW_condX; exact rfl; exact tst; exact tst; all_goals (intro hq hc; try exact no)))
        have pl := p1.length_eq
        rw [List.length_append] at pl
        rw [← List.append_assoc]
        refine ⟨_, _, _, ⟨k + 1, P ++ X', V, rfl, rfl, rfl, by rw [List.length_append, Nat.succ_mul]; omega, blk_snoc h2 h1 s1 (by omega), h3'', ?_⟩, by simp only [List.length_append]; exact sbe, by exact sbl, by omega⟩
        rw [List.append_assoc]
        exact (List.Perm.append_left P ((p1.append_right V).trans (by rw [List.append_assoc]))).trans h4
      · by_cases hm : P.length + w < n
        · have hl2 : n = (P ++ (X ++ (Y ++ []))).length := by simp only [List.length_append, List.append_nil]; omega
          have er : P ++ (X ++ Y) = P ++ (X ++ (Y ++ [])) := by simp
          rw [er]
          repeat' (first | (apply RW.q1; exact qt) | refine xsg cts ?_ | (apply CW_condT; exact rfl; exact ar) | (apply CW_condF; exact rfl; exact ar) | (refine hK _ _ ?_; clear hK; refine xsg xsl ?_) | ((first | apply RW.a1 | apply RW.a0); (first | (apply gw_callc (f := 78) (M := [.own 38 4 a n c ((P ++ (X ++ (Y ++ List.nil))).flatMap flC)]); exact rfl; exact go78; exact pcs; intro G hG; refine SC.mono (sym_gen H hC _ P X Y [] a n c (Nat.le_refl _) hl2 hN (fun u hu => hZR u (by simp [hu])) (fun u hu => hZR u (by simp [hu])) sX (blk_whole h3' (by omega)) (by omega) (by omega) _ _ _ rfl (by omega) (by omega) G hG.ext) ?_; rintro v M ⟨X', p1, s1, rfl⟩; (try dsimp only [jL, jM])) | (apply gw_asg; exact rfl) | (fail))) | (apply CW_region; intro K hK) | (apply CW_condX; exact rfl; exact tst; exact tst; all_goals (intro hq hc; try exact no)))
          have pl := p1.length_eq
          rw [List.length_append] at pl
          rw [List.append_nil]
          exact ⟨_, _, _, ⟨2 * w, P ++ X', rfl, rfl, rfl, by omega, by omega, blk_snoc h2 h1 s1 (by omega), (List.Perm.append_left P p1).trans h4⟩, by exact sbe, by exact sbl, by omega⟩
        · have hY : Y = [] := List.eq_nil_of_length_eq_zero (by omega)
          subst hY
          rw [List.append_nil] at h4 ⊢
          repeat' (first | (apply RW.q1; exact qt) | refine xsg cts ?_ | (apply CW_condT; exact rfl; exact ar) | (apply CW_condF; exact rfl; exact ar) | (refine hK _ _ ?_; clear hK; refine xsg xsl ?_) | ((first | apply RW.a1 | apply RW.a0); (first | (apply gw_asg; exact rfl) | (fail))) | (apply CW_region; intro K hK) | (apply CW_condX; exact rfl; exact tst; exact tst; all_goals (intro hq hc; try exact no)))
          exact ⟨_, _, _, ⟨2 * w, P ++ X, rfl, rfl, rfl, by omega, by omega, blk_snoc h2 h1 sX (by omega), h4⟩, by exact sbe, by exact sbl, by omega⟩
    · repeat' (first | (apply RW.q1; exact qt) | refine xsg cts ?_ | (apply CW_condT; exact rfl; exact ar) | (apply CW_condF; exact rfl; exact ar) | (refine hK _ _ ?_; clear hK; refine xsg xsl ?_) | ((first | apply RW.a1 | apply RW.a0); (first | (apply gw_asg; exact rfl) | (fail))) | (apply CW_region; intro K hK) | (apply CW_condX; exact rfl; exact tst; exact tst; all_goals (intro hq hc; try exact no)))
      (refine bE [] [.own 38 4 a n c _] ?_)
      exact ⟨W, h2, blk_whole h1 (by omega), rfl⟩

theorem sortStable_spec {Z : Fl → Prop} {q : Fl → Fl → Int} {lt : Fl → Fl → Prop} (H : Hp) (hC : CmpOk 55 H Z q lt) (D : List Fl) (a : Option Addr) (n c : Nat) (hn : n = D.length) (hN : n ≤ 1099511627776) (hZ : ∀ u ∈ D, Z u) :
    SC Try.prog 54 [.slice a n c, .func (.func 55) #[] #[]] H [.own 38 4 a n c (D.flatMap flC)]
      (fun v M' => ∃ D', D'.Perm D ∧ Srt lt D' ∧ M' = [.own 38 4 a n c (D'.flatMap flC)]) := by
  have hC1 : ∀ G, Ext H G → CmpOk 55 G Z q lt := fun G0 hG0 => ⟨fun G hG => hC.run G (hG0.trans hG), hC.neg, hC.ord⟩
  (refine SC_intro Try.func54 rfl (by kernel_rfl) (by rw [Try.ntmps54]; exact Nat.le_of_ble_eq_true rfl) ?_; simp only [Try.ntmps54, argE, Nat.reduceAdd])
  repeat' (first | (apply RW.q1; exact qt) | refine xsg cts ?_ | (apply CW_condT; exact rfl; exact ar) | (apply CW_condF; exact rfl; exact ar) | (refine hK _ _ ?_; clear hK; refine xsg xsl ?_) | ((first | apply RW.a1 | apply RW.a0); (first | (apply gw_callc (f := 70) (M := [.own 38 4 a n c (D.flatMap flC)]); exact rfl; exact go70; exact pcs; intro G hG; refine SC.mono (stable_spec G (hC1 G hG.ext) D a n c hn hN hZ) ?_; rintro v M ⟨D', p1, s1, rfl⟩; (try dsimp only [jL, jM])) | (apply gw_asg; exact rfl) | (fail))) | (apply CW_region; intro K hK) | (apply CW_condX; exact rfl; exact tst; exact tst; all_goals (intro hq hc; try exact no)))
  (refine bE [] [.own 38 4 a n c _] ?_)
  exact ⟨D', p1, s1, rfl⟩
end Go.Proofs.Ytkhmimlgkjenfaa.HL
