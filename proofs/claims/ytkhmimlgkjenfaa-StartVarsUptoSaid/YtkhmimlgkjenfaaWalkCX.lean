/- WalkC: StaYd: start.sized: is there too much? Conditions: lengths. StaYe: start.formed: the first name that can not be. Conditions: lengths. StaYf: start.seen: a set of texts that tells whether one was there. Condition: the text's length. StaYg: start.single: the first name that was met already. Conditions: lengths. -/
import Derived.Test.YtkhmimlgkjenfaaEngX
import Derived.Test.YtkhmimlgkjenfaaWalkBX
namespace Go.Proofs.Ytkhmimlgkjenfaa.HL
open Go
attribute [local irreducible] goFn thenS blockS bodyS CW RW DW GW QW NW SC Pick Picks SubL Rd NN ResOk SrcW subE hops hseg AW hgen HC qv bldv
set_option maxHeartbeats 8000000
set_option maxRecDepth 100000
set_option linter.unusedVariables false
set_option linter.unusedSimpArgs false

theorem sum_snoc {α : Type} {f : α → Nat} {l : List α} {k : Nat} {x : α} (hx : l[k]? = some x) : ((l.take (k + 1)).map f).sum = ((l.take k).map f).sum + f x := by
  rw [List.take_add_one, hx]; simp
theorem sum_take_le {α : Type} (f : α → Nat) (l : List α) (k : Nat) : ((l.take k).map f).sum ≤ (l.map f).sum := by
  have : (l.map f).sum = ((l.take k).map f).sum + ((l.drop k).map f).sum := by rw [← List.sum_append, ← List.map_append, List.take_append_drop]
  omega
def tN (x : Th) : Nat := 1 + x.u.length
theorem things_sum (f : Fl) : ((things f).map tN).sum = (f.vs.map thN).sum + (f.fs.map thN).sum := by
  unfold things
  rw [List.map_append, List.sum_append, List.map_map, List.map_map]; rfl
def flB (f : Fl) : Nat := 1024 + ((things f).map tN).sum
def pkB (p : Pk) : Nat := p.im.length + p.fl.length + (p.fl.map flB).sum
def allB (l : List Pk) : Nat := l.length + (l.map pkB).sum
theorem flN_eq (f : Fl) : flN f = f.k.toNat + ((things f).map tN).sum := by unfold flN; rw [things_sum]; omega
theorem pk_pk {l : List Pk} {k : Nat} {x : Pk} (hx : l[k]? = some x) : ((l.flatMap pkC).drop (k * 3)).take 3 = [.string (bstr x.p), .slice x.ia x.im.length x.ic, .slice x.la x.fl.length x.lc] := ix_elem (enc := pkC) (i := (k : Int)) hx (by omega)
theorem sized_spec (l : List Pk) (a : Option Addr) (c : Nat) (H : Hp) (hr : Rs H 3 a l.length c (l.flatMap pkC)) (hp : ∀ p, p ∈ l → pkOk H p) (hS : ∀ p, p ∈ l → Small p) (hl : l.length ≤ 1048576) (hB : allB l ≤ 4611686018427387904) (w : Bool) (hw : w = true ↔ badI l ∨ 1024 < allN l) :
    SC Try.prog 12 [.slice a l.length c] H [] (fun v M => v = fltV (if w then 4 else 0) [] none 0 0 ∧ M = []) := by
  have hBd : l.length + (l.map pkB).sum ≤ 4611686018427387904 := hB
  (refine SC_intro Try.func12 rfl (by kernel_rfl) (by rw [Try.ntmps12]; exact Nat.le_of_ble_eq_true rfl) ?_; simp only [Try.ntmps12, argE, Nat.reduceAdd])
  
  repeat' (first | ((first | apply RW.q1 | (apply RW.qg; exact gvx; refine hgx tst ?_; intro hg hg')); (first | (apply q_bld; exact rfl; first | exact bld47_ | exact bld47_0 _) | exact qt | exact qu)) | refine xsg cts ?_ | (apply CW_condT; exact rfl; exact ar) | (apply CW_condF; exact rfl; exact ar) | ((first | apply RW.s1 | apply RW.s0); exact gva) | (refine hK _ _ ?_; clear hK; refine xsg xsl ?_) | ((first | apply RW.a1 | apply RW.a0 | (apply RW.at; exact gva)); (first | (apply gw_alloc (d := some 2); exact rfl; intro b2) | (apply gw_asg; exact rfl) | (apply gw_alloc; exact rfl; intro b) | (refine gw_stx sto ?_) | (fail))) | (apply CW_region; intro K hK) | (apply CW_condX; exact rfl; exact tst; exact tst; all_goals (intro hq hc; try exact no)))
  refine CW_loop (fun m ll L => ∃ k n : Nat, m = l.length - k ∧ ll = [(2, true, .pointer (some ⟨b2, 0, none⟩)), (3, true, .int .i64 (n : Nat)), (12, true, .slice a l.length c), (13, true, .int .i64 l.length), (14, true, .int .i64 (k : Nat))] ∧
      L = [.box b2 47 [.int .i64 0, .string { data := #[] }, .slice none 0 0]] ∧ k ≤ l.length ∧ n = l.length + ((l.take k).map pkN).sum ∧ n ≤ l.length + ((l.take k).map pkB).sum ∧ ∀ p, p ∈ l.take k → ∀ f, f ∈ p.fl → ¬ (f.k < 0 ∨ 1024 < f.k))
    ⟨_, _, _, ⟨0, l.length, rfl, rfl, rfl, by omega, rfl, Nat.le_add_right _ _, fun p hp => by simp at hp⟩, by exact sbe, by exact sbl⟩ ?_
  rintro m ll L ⟨k, n, rfl, rfl, rfl, hk, hn, hnB, hgood⟩
  by_cases hlt : k < l.length
  · obtain ⟨p, hx⟩ : ∃ x, l[k]? = some x := ⟨_, List.getElem?_eq_getElem (by omega)⟩
    have hpm := List.mem_of_getElem? hx
    have hpf : Rs H 4 p.la p.fl.length p.lc (p.fl.flatMap flC) := (hp p hpm).2.1
    obtain ⟨hS1, hS2, hS3, _, hS4⟩ := hS p hpm
    have s1 := sum_snoc (f := pkN) hx
    have s2 := sum_snoc (f := pkB) hx
    have s3 := sum_take_le pkB l (k + 1)
    have e1 : pkN p = p.im.length + p.fl.length + (p.fl.map flN).sum := rfl
    have e2 : pkB p = p.im.length + p.fl.length + (p.fl.map flB).sum := rfl
    
    repeat' (first | ((first | apply RW.q1 | (apply RW.qg; exact gvx; refine hgx tst ?_; intro hg hg')); (first | (apply q_lar; exact rfl; exact evgx; exact hr; exact ix_elem hx (by omega); exact rfl; decide) | (apply q_bld; exact rfl; first | exact bld47_ | exact bld47_0 _) | exact qt | exact qu)) | refine xsg cts ?_ | (apply CW_condT; exact rfl; exact ar) | (apply CW_condF; exact rfl; exact ar) | ((first | apply RW.s1 | apply RW.s0); exact gva) | (refine hK _ _ ?_; clear hK; refine xsg xsl ?_) | ((first | apply RW.a1 | apply RW.a0 | (apply RW.at; exact gva)); (first | (apply gw_alloc (d := some 5); exact rfl; intro b5) | (apply gw_asg; exact rfl) | (apply gw_alloc; exact rfl; intro b) | (refine gw_stx sto ?_) | (fail))) | (apply CW_region; intro K hK) | (apply CW_condX; exact rfl; exact tst; exact tst; all_goals (intro hq hc; try exact no)))
    refine CW_loop (fun m ll L => ∃ j n' : Nat, m = p.fl.length - j ∧ ll = [(2, true, .pointer (some ⟨b2, 0, none⟩)), (3, true, .int .i64 (n' : Nat)), (12, true, .slice a l.length c), (13, true, .int .i64 l.length), (14, true, .int .i64 (k : Nat)), (28, true, .slice p.la p.fl.length p.lc), (29, true, .int .i64 p.fl.length), (30, true, .int .i64 (j : Nat))] ∧
        L = [.box b2 47 [.int .i64 0, .string { data := #[] }, .slice none 0 0]] ∧ j ≤ p.fl.length ∧ n' = n + p.im.length + p.fl.length + ((p.fl.take j).map flN).sum ∧ n' ≤ n + p.im.length + p.fl.length + ((p.fl.take j).map flB).sum ∧ ∀ f, f ∈ p.fl.take j → ¬ (f.k < 0 ∨ 1024 < f.k))
      ⟨_, _, _, ⟨0, n + p.im.length + p.fl.length, rfl, rfl, rfl, by omega, rfl, Nat.le_add_right _ _, fun p hp => by simp at hp⟩, by exact sbe, by exact sbl⟩ ?_
    rintro m ll L ⟨j, n', rfl, rfl, rfl, hj, hn', hnB', hgood'⟩
    by_cases hjl : j < p.fl.length
    · obtain ⟨f, hfx⟩ : ∃ x, p.fl[j]? = some x := ⟨_, List.getElem?_eq_getElem (by omega)⟩
      have hfm := List.mem_of_getElem? hfx
      have hfl := hS3 f hfm
      have htl := things_len f
      by_cases hbad : f.k < 0 ∨ 1024 < f.k
      · obtain rfl : w = true := hw.2 (.inl ⟨p, hpm, f, hfm, hbad⟩)
        by_cases hneg : f.k < 0
        · 
          repeat' (first | ((first | apply RW.q1 | (apply RW.qg; exact gvx; refine hgx tst ?_; intro hg hg')); (first | (apply q_lar; exact rfl; exact evgx; exact hpf; exact ix_elem hfx (by omega); exact rfl; decide) | (apply q_bld; exact rfl; first | exact bld47_ | exact bld47_0 _) | exact qt | exact qu)) | refine xsg cts ?_ | (apply CW_condT; exact rfl; exact ar) | (apply CW_condF; exact rfl; exact ar) | ((first | apply RW.s1 | apply RW.s0); exact gva) | (refine hK _ _ ?_; clear hK; refine xsg xsl ?_) | ((first | apply RW.a1 | apply RW.a0 | (apply RW.at; exact gva)); (first | (apply gw_alloc (d := some 7); exact rfl; intro b7) | (apply gw_asg; exact rfl) | (apply gw_alloc; exact rfl; intro b) | (refine gw_stx sto ?_) | (fail))) | (apply CW_region; intro K hK) | (apply CW_condX; exact rfl; exact tst; exact tst; all_goals (intro hq hc; try exact no)))
          (refine CW_ret ?_; refine xsg xsl ?_; refine bodyS_ret (L' := []) (rs := [.cell 2 47]) (by kernel_rfl) (by (repeat (first | (apply resok_tmp; exact rfl) | (apply resok_cell; exact rfl; exact rfl; (focus ((iterate 16 (try (first | exact pick0 | apply pickS))); done)); (first | exact rfl | assumption | (simp only [List.length_map]; omega)); decide))); exact resok_nil) (by exact sbl) ?_)
          exact ⟨rfl, rfl⟩
        · 
          repeat' (first | ((first | apply RW.q1 | (apply RW.qg; exact gvx; refine hgx tst ?_; intro hg hg')); (first | (apply q_lar; exact rfl; exact evgx; exact hpf; exact ix_elem hfx (by omega); exact rfl; decide) | (apply q_bld; exact rfl; first | exact bld47_ | exact bld47_0 _) | exact qt | exact qu)) | refine xsg cts ?_ | (apply CW_condT; exact rfl; exact ar) | (apply CW_condF; exact rfl; exact ar) | ((first | apply RW.s1 | apply RW.s0); exact gva) | (refine hK _ _ ?_; clear hK; refine xsg xsl ?_) | ((first | apply RW.a1 | apply RW.a0 | (apply RW.at; exact gva)); (first | (apply gw_alloc (d := some 7); exact rfl; intro b7) | (apply gw_asg; exact rfl) | (apply gw_alloc; exact rfl; intro b) | (refine gw_stx sto ?_) | (fail))) | (apply CW_region; intro K hK) | (apply CW_condX; exact rfl; exact tst; exact tst; all_goals (intro hq hc; try exact no)))
          (refine CW_ret ?_; refine xsg xsl ?_; refine bodyS_ret (L' := []) (rs := [.cell 2 47]) (by kernel_rfl) (by (repeat (first | (apply resok_tmp; exact rfl) | (apply resok_cell; exact rfl; exact rfl; (focus ((iterate 16 (try (first | exact pick0 | apply pickS))); done)); (first | exact rfl | assumption | (simp only [List.length_map]; omega)); decide))); exact resok_nil) (by exact sbl) ?_)
          exact ⟨rfl, rfl⟩
      · have t1 := sum_snoc (f := flN) hfx
        have t2 := sum_snoc (f := flB) hfx
        have t3 := sum_take_le flB p.fl (j + 1)
        have e3 := flN_eq f
        have e4 : flB f = 1024 + ((things f).map tN).sum := rfl
        obtain ⟨kn, hkn⟩ : ∃ kn : Nat, f.k = (kn : Int) := ⟨f.k.toNat, by omega⟩
        rw [hkn] at e3
        have hk2 : kn ≤ 1024 := by omega
        have e5 : ((kn : Int)).toNat = kn := rfl
        have hk0 : ¬ (f.k < 0) := by omega
        have hk1 : ¬ (1024 < f.k) := by omega
        
        repeat' (first | ((first | apply RW.q1 | (apply RW.qg; exact gvx; refine hgx tst ?_; intro hg hg')); (first | (apply q_lar; exact rfl; exact evgx; exact hpf; exact ix_elem hfx (by omega); exact rfl; decide) | (apply q_bld; exact rfl; first | exact bld47_ | exact bld47_0 _) | exact qt | exact qu)) | refine xsg cts ?_ | (apply CW_condT; exact rfl; exact ar) | (apply CW_condF; exact rfl; exact ar) | ((first | apply RW.s1 | apply RW.s0); exact gva) | (refine hK _ _ ?_; clear hK; refine xsg xsl ?_) | ((first | apply RW.a1 | apply RW.a0 | (apply RW.at; exact gva)); (first | (apply gw_alloc (d := some 7); exact rfl; intro b7) | (apply gw_call (f := 25); exact evx; exact go25; intro G hG; refine SC.mono (things_spec f G (flOk_ext ((hp p hpm).2.2 f hfm) hG.ext) (by omega)) ?_; rintro v M ⟨ta, tc, rfl, rfl⟩; (try dsimp only [jL, jM])) | (apply gw_asg; exact rfl) | (apply gw_alloc; exact rfl; intro b) | (refine gw_stx sto ?_) | (fail))) | (apply CW_region; intro K hK) | (apply CW_condX; exact rfl; exact tst; exact tst; all_goals (intro hq hc; try exact no)))
        refine CW_loop (fun m ll L => ∃ i n'' : Nat, m = (things f).length - i ∧ ll = [(2, true, .pointer (some ⟨b2, 0, none⟩)), (3, true, .int .i64 (n'' : Nat)), (12, true, .slice a l.length c), (13, true, .int .i64 l.length), (14, true, .int .i64 (k : Nat)), (28, true, .slice p.la p.fl.length p.lc), (29, true, .int .i64 p.fl.length), (30, true, .int .i64 (j : Nat)), (48, true, .slice ta (things f).length tc), (49, true, .int .i64 (things f).length), (50, true, .int .i64 (i : Nat))] ∧
            L = [.box b2 47 [.int .i64 0, .string { data := #[] }, .slice none 0 0], .own 65 3 ta (things f).length tc ((things f).flatMap thC)] ∧ i ≤ (things f).length ∧ n'' = n' + kn + (((things f).take i).map tN).sum)
          ⟨_, _, _, ⟨0, n' + kn, rfl, rfl, rfl, by omega, rfl⟩, by exact sbe, by exact sbl⟩ ?_
        rintro m ll L ⟨i, n'', rfl, rfl, rfl, hi, hn''⟩
        by_cases hil : i < (things f).length
        · obtain ⟨x, hxx⟩ : ∃ x, (things f)[i]? = some x := ⟨_, List.getElem?_eq_getElem (by omega)⟩
          have u1 := sum_snoc (f := tN) hxx
          have u2 := sum_take_le tN (things f) (i + 1)
          have e6 : tN x = 1 + x.u.length := rfl
          
          repeat' (first | ((first | apply RW.q1 | (apply RW.qg; exact gvx; refine hgx tst ?_; intro hg hg')); (first | (apply q_lao; exact rfl; exact evgx; infer_instance; exact ix_elem hxx (by omega); exact rfl; decide) | (apply q_bld; exact rfl; first | exact bld47_ | exact bld47_0 _) | exact qt | exact qu)) | refine xsg cts ?_ | (apply CW_condT; exact rfl; exact ar) | (apply CW_condF; exact rfl; exact ar) | ((first | apply RW.s1 | apply RW.s0); exact gva) | (refine hK _ _ ?_; clear hK; refine xsg xsl ?_) | ((first | apply RW.a1 | apply RW.a0 | (apply RW.at; exact gva)); (first | (apply gw_alloc (d := some 9); exact rfl; intro b9) | (apply gw_asg; exact rfl) | (apply gw_alloc; exact rfl; intro b) | (refine gw_stx sto ?_) | (fail))) | (apply CW_region; intro K hK) | (apply CW_condX; exact rfl; exact tst; exact tst; all_goals (intro hq hc; try exact no)))
          exact ⟨_, _, _, ⟨i + 1, n'' + (1 + x.u.length), rfl, rfl, rfl, by omega, by omega⟩, by exact sbe, by exact sbl, by omega⟩
        obtain rfl : i = (things f).length := by omega
        rw [List.take_length] at hn''
        
        repeat' (first | ((first | apply RW.q1 | (apply RW.qg; exact gvx; refine hgx tst ?_; intro hg hg')); (first | (apply q_bld; exact rfl; first | exact bld47_ | exact bld47_0 _) | exact qt | exact qu)) | refine xsg cts ?_ | (apply CW_condT; exact rfl; exact ar) | (apply CW_condF; exact rfl; exact ar) | ((first | apply RW.s1 | apply RW.s0); exact gva) | (refine hK _ _ ?_; clear hK; refine xsg xsl ?_) | ((first | apply RW.a1 | apply RW.a0 | (apply RW.at; exact gva)); (first | (apply gw_asg; exact rfl) | (apply gw_alloc; exact rfl; intro b) | (refine gw_stx sto ?_) | (fail))) | (apply CW_region; intro K hK) | (apply CW_condX; exact rfl; exact tst; exact tst; all_goals (intro hq hc; try exact no)))
        refine ⟨_, _, _, ⟨j + 1, n'', rfl, rfl, rfl, by omega, by omega, by omega, fun g hg => ?_⟩, by exact sbe, by exact sbl, by omega⟩
        rw [List.take_add_one, hfx] at hg
        rcases List.mem_append.1 hg with h | h
        · exact hgood' g h
        · obtain rfl : g = f := by simpa using h
          exact hbad
    obtain rfl : j = p.fl.length := by omega
    rw [List.take_length] at hn' hnB' hgood'
    
    repeat' (first | ((first | apply RW.q1 | (apply RW.qg; exact gvx; refine hgx tst ?_; intro hg hg')); (first | (apply q_bld; exact rfl; first | exact bld47_ | exact bld47_0 _) | exact qt | exact qu)) | refine xsg cts ?_ | (apply CW_condT; exact rfl; exact ar) | (apply CW_condF; exact rfl; exact ar) | ((first | apply RW.s1 | apply RW.s0); exact gva) | (refine hK _ _ ?_; clear hK; refine xsg xsl ?_) | ((first | apply RW.a1 | apply RW.a0 | (apply RW.at; exact gva)); (first | (apply gw_asg; exact rfl) | (apply gw_alloc; exact rfl; intro b) | (refine gw_stx sto ?_) | (fail))) | (apply CW_region; intro K hK) | (apply CW_condX; exact rfl; exact tst; exact tst; all_goals (intro hq hc; try exact no)))
    refine ⟨_, _, _, ⟨k + 1, n', rfl, rfl, rfl, by omega, by omega, by omega, fun q hq => ?_⟩, by exact sbe, by exact sbl, by omega⟩
    rw [List.take_add_one, hx] at hq
    rcases List.mem_append.1 hq with h | h
    · exact hgood q h
    · obtain rfl : q = p := by simpa using h
      exact hgood'
  obtain rfl : k = l.length := by omega
  rw [List.take_length] at hn hnB hgood
  have hnb : ¬ badI l := fun ⟨p, hp, f, hf, h⟩ => hgood p hp f hf h
  have hna : n = allN l := hn
  cases w with
  | true =>
    have := (hw.1 rfl).resolve_left hnb
    
    repeat' (first | ((first | apply RW.q1 | (apply RW.qg; exact gvx; refine hgx tst ?_; intro hg hg')); (first | (apply q_bld; exact rfl; first | exact bld47_ | exact bld47_0 _) | exact qt | exact qu)) | refine xsg cts ?_ | (apply CW_condT; exact rfl; exact ar) | (apply CW_condF; exact rfl; exact ar) | ((first | apply RW.s1 | apply RW.s0); exact gva) | (refine hK _ _ ?_; clear hK; refine xsg xsl ?_) | ((first | apply RW.a1 | apply RW.a0 | (apply RW.at; exact gva)); (first | (apply gw_asg; exact rfl) | (apply gw_alloc; exact rfl; intro b) | (refine gw_stx sto ?_) | (fail))) | (apply CW_region; intro K hK) | (apply CW_condX; exact rfl; exact tst; exact tst; all_goals (intro hq hc; try exact no)))
    (refine CW_ret ?_; refine xsg xsl ?_; refine bodyS_ret (L' := []) (rs := [.cell 2 47]) (by kernel_rfl) (by (repeat (first | (apply resok_tmp; exact rfl) | (apply resok_cell; exact rfl; exact rfl; (focus ((iterate 16 (try (first | exact pick0 | apply pickS))); done)); (first | exact rfl | assumption | (simp only [List.length_map]; omega)); decide))); exact resok_nil) (by exact sbl) ?_)
    exact ⟨rfl, rfl⟩
  | false =>
    have : ¬ 1024 < allN l := fun h => by cases hw.2 (.inr h)
    
    repeat' (first | ((first | apply RW.q1 | (apply RW.qg; exact gvx; refine hgx tst ?_; intro hg hg')); (first | (apply q_bld; exact rfl; first | exact bld47_ | exact bld47_0 _) | exact qt | exact qu)) | refine xsg cts ?_ | (apply CW_condT; exact rfl; exact ar) | (apply CW_condF; exact rfl; exact ar) | ((first | apply RW.s1 | apply RW.s0); exact gva) | (refine hK _ _ ?_; clear hK; refine xsg xsl ?_) | ((first | apply RW.a1 | apply RW.a0 | (apply RW.at; exact gva)); (first | (apply gw_asg; exact rfl) | (apply gw_alloc; exact rfl; intro b) | (refine gw_stx sto ?_) | (fail))) | (apply CW_region; intro K hK) | (apply CW_condX; exact rfl; exact tst; exact tst; all_goals (intro hq hc; try exact no)))
    (refine CW_ret ?_; refine xsg xsl ?_; refine bodyS_ret (L' := []) (rs := [.cell 2 47]) (by kernel_rfl) (by (repeat (first | (apply resok_tmp; exact rfl) | (apply resok_cell; exact rfl; exact rfl; (focus ((iterate 16 (try (first | exact pick0 | apply pickS))); done)); (first | exact rfl | assumption | (simp only [List.length_map]; omega)); decide))); exact resok_nil) (by exact sbl) ?_)
    exact ⟨rfl, rfl⟩
end Go.Proofs.Ytkhmimlgkjenfaa.HL
namespace Go.Proofs.Ytkhmimlgkjenfaa.HL
open Go
attribute [local irreducible] goFn thenS blockS bodyS CW RW DW GW QW NW SC Pick Picks SubL Rd NN ResOk SrcW subE hops hseg AW hgen HC qv bldv
set_option maxHeartbeats 8000000
set_option maxRecDepth 100000
set_option linter.unusedVariables false
set_option linter.unusedSimpArgs false

theorem wordO_some {path : Bool} {s y : Tx} (h : wordO path s = some y) : y = s ∧ ¬ WordP path s := by
  unfold wordO at h
  split at h
  · cases h
  · cases h; exact ⟨rfl, ‹_›⟩
theorem lenO_some {s y : Tx} (h : lenO s = some y) : y = s ∧ ¬ (1 ≤ s.length ∧ s.length ≤ 40) := by
  unfold lenO at h
  split at h
  · cases h
  · cases h; exact ⟨rfl, ‹_›⟩
theorem lenO_none {s : Tx} (h : lenO s = none) : 1 ≤ s.length ∧ s.length ≤ 40 := by
  unfold lenO at h
  split at h
  · assumption
  · cases h
noncomputable def wN (x : Th) : Option Tx := wordO false x.n
theorem formed_spec (l : List Pk) (a : Option Addr) (c : Nat) (H : Hp) (hr : Rs H 3 a l.length c (l.flatMap pkC)) (hp : ∀ p, p ∈ l → pkOk H p) (hS : ∀ p, p ∈ l → Small p) (hl : l.length ≤ 1048576) :
    SC Try.prog 13 [.slice a l.length c] H [] (fun v M => v = faV ((formO l).map fun s => (3, s)) ∧ M = []) := by
  (refine SC_intro Try.func13 rfl (by kernel_rfl) (by rw [Try.ntmps13]; exact Nat.le_of_ble_eq_true rfl) ?_; simp only [Try.ntmps13, argE, Nat.reduceAdd])
  
  repeat' (first | ((first | apply RW.q1 | (apply RW.qg; exact gvx; refine hgx tst ?_; intro hg hg')); (first | (apply q_bld; exact rfl; first | exact bld47_) | exact qt | exact qu)) | refine xsg cts ?_ | (apply CW_condT; exact rfl; exact ar) | (apply CW_condF; exact rfl; exact ar) | ((first | apply RW.s1 | apply RW.s0); exact gva) | (refine hK _ _ ?_; clear hK; refine xsg xsl ?_) | ((first | apply RW.a1 | apply RW.a0 | (apply RW.at; exact gva)); (first | (apply gw_alloc (d := some 2); exact rfl; intro b2) | (apply gw_asg; exact rfl) | (apply gw_alloc; exact rfl; intro b) | (refine gw_stx sto ?_) | (fail))) | (apply CW_region; intro K hK) | (apply CW_condX; exact rfl; exact tst; exact tst; all_goals (intro hq hc; try exact no)))
  refine CW_loop (fun m ll L => ∃ k : Nat, m = l.length - k ∧ ll = [(2, true, .pointer (some ⟨b2, 0, none⟩)), (9, true, .slice a l.length c), (10, true, .int .i64 l.length), (11, true, .int .i64 (k : Nat))] ∧
      L = [.box b2 47 [.int .i64 0, .string { data := #[] }, .slice none 0 0]] ∧ k ≤ l.length ∧ firstO formPk (l.drop k) = formO l)
    ⟨_, _, _, ⟨0, rfl, rfl, rfl, by omega, rfl⟩, by exact sbe, by exact sbl⟩ ?_
  rintro m ll L ⟨k, rfl, rfl, rfl, hk, hA⟩
  by_cases hlt : k < l.length
  · obtain ⟨p, hx⟩ : ∃ x, l[k]? = some x := ⟨_, List.getElem?_eq_getElem (by omega)⟩
    have hpm := List.mem_of_getElem? hx
    have hpf : Rs H 4 p.la p.fl.length p.lc (p.fl.flatMap flC) := (hp p hpm).2.1
    obtain ⟨hS1, hS2, hS3, ⟨hS5, hS6⟩, hS4⟩ := hS p hpm
    rw [firstO_drop hx] at hA
    cases hW : wordO true p.p with
    | some y =>
      obtain ⟨rfl, hnw⟩ := wordO_some hW
      have hq : formO l = some p.p := by rw [← hA]; unfold formPk; rw [hW]; rfl
      rw [hq]
      
      repeat' (first | ((first | apply RW.q1 | (apply RW.qg; exact gvx; refine hgx tst ?_; intro hg hg')); (first | (apply q_lar; exact rfl; exact evgx; exact hr; exact ix_elem hx (by omega); exact rfl; decide) | (apply q_bld; exact rfl; first | exact bld47_) | exact qt | exact qu)) | refine xsg cts ?_ | (apply CW_condT; exact rfl; exact ar) | (apply CW_condF; exact rfl; exact ar) | ((first | apply RW.s1 | apply RW.s0); exact gva) | (refine hK _ _ ?_; clear hK; refine xsg xsl ?_) | ((first | apply RW.a1 | apply RW.a0 | (apply RW.at; exact gva)); (first | (apply gw_alloc (d := some 4); exact rfl; intro b4) | (apply gw_callE (f := 26); exact evx; exact go26; intro G hG; exact wordP_spec p.p G (by omega) false ⟨fun h => (by cases h), fun h => absurd h hnw⟩) | (apply gw_callE (f := 27); exact evx; exact go27; intro G hG; exact bad_spec 3 p.p G) | (apply gw_asg; exact rfl) | (apply gw_alloc; exact rfl; intro b) | (refine gw_stx sto ?_) | (fail))) | (apply CW_region; intro K hK) | (apply CW_condX; exact rfl; exact tst; exact tst; all_goals (intro hq hc; try exact no)))
      (refine CW_ret ?_; refine xsg xsl ?_; refine bodyS_ret (L' := []) (rs := [.cell 2 47]) (by kernel_rfl) (by (repeat (first | (apply resok_tmp; exact rfl) | (apply resok_cell; exact rfl; exact rfl; (focus ((iterate 16 (try (first | exact pick0 | apply pickS))); done)); (first | exact rfl | assumption | (simp only [List.length_map]; omega)); decide))); exact resok_nil) (by exact sbl) ?_)
      exact ⟨rfl, rfl⟩
    | none =>
      have hw := wordO_none.1 hW
      have hA1 : orO (firstO formFl (p.fl.drop 0)) (firstO formPk (l.drop (k + 1))) = formO l := by rw [← hA]; unfold formPk; rw [hW]; rfl
      
      repeat' (first | ((first | apply RW.q1 | (apply RW.qg; exact gvx; refine hgx tst ?_; intro hg hg')); (first | (apply q_lar; exact rfl; exact evgx; exact hr; exact ix_elem hx (by omega); exact rfl; decide) | (apply q_bld; exact rfl; first | exact bld47_) | exact qt | exact qu)) | refine xsg cts ?_ | (apply CW_condT; exact rfl; exact ar) | (apply CW_condF; exact rfl; exact ar) | ((first | apply RW.s1 | apply RW.s0); exact gva) | (refine hK _ _ ?_; clear hK; refine xsg xsl ?_) | ((first | apply RW.a1 | apply RW.a0 | (apply RW.at; exact gva)); (first | (apply gw_alloc (d := some 4); exact rfl; intro b4) | (apply gw_callE (f := 26); exact evx; exact go26; intro G hG; exact wordP_spec p.p G (by omega) true ⟨fun _ => hw, fun _ => rfl⟩) | (apply gw_asg; exact rfl) | (apply gw_alloc; exact rfl; intro b) | (refine gw_stx sto ?_) | (fail))) | (apply CW_region; intro K hK) | (apply CW_condX; exact rfl; exact tst; exact tst; all_goals (intro hq hc; try exact no)))
      refine CW_loop (fun m ll L => ∃ j : Nat, m = p.fl.length - j ∧ ll = [(2, true, .pointer (some ⟨b2, 0, none⟩)), (9, true, .slice a l.length c), (10, true, .int .i64 l.length), (11, true, .int .i64 (k : Nat)), (23, true, .slice p.la p.fl.length p.lc), (24, true, .int .i64 p.fl.length), (25, true, .int .i64 (j : Nat))] ∧
          L = [.box b2 47 [.int .i64 0, .string { data := #[] }, .slice none 0 0]] ∧ j ≤ p.fl.length ∧ orO (firstO formFl (p.fl.drop j)) (firstO formPk (l.drop (k + 1))) = formO l)
        ⟨_, _, _, ⟨0, rfl, rfl, rfl, by omega, hA1⟩, by exact sbe, by exact sbl⟩ ?_
      rintro m ll L ⟨j, rfl, rfl, rfl, hj, hB⟩
      by_cases hjl : j < p.fl.length
      · obtain ⟨f, hfx⟩ : ∃ x, p.fl[j]? = some x := ⟨_, List.getElem?_eq_getElem (by omega)⟩
        have hfm := List.mem_of_getElem? hfx
        have hfl := hS3 f hfm
        have hfn := hS6 f hfm
        have htl := things_len f
        rw [firstO_drop hfx] at hB
        cases hL : lenO f.n with
        | some y =>
          obtain ⟨rfl, hnw⟩ := lenO_some hL
          have hq : formO l = some f.n := by rw [← hB]; unfold formFl; rw [hL]; rfl
          rw [hq]
          by_cases hz : f.n.length < 1
          · 
            repeat' (first | ((first | apply RW.q1 | (apply RW.qg; exact gvx; refine hgx tst ?_; intro hg hg')); (first | (apply q_lar; exact rfl; exact evgx; exact hpf; exact ix_elem hfx (by omega); exact rfl; decide) | (apply q_lenb; exact evgx) | (apply q_bld; exact rfl; first | exact bld47_) | exact qt | exact qu)) | refine xsg cts ?_ | (apply CW_condT; exact rfl; exact ar) | (apply CW_condF; exact rfl; exact ar) | ((first | apply RW.s1 | apply RW.s0); exact gva) | (refine hK _ _ ?_; clear hK; refine xsg xsl ?_) | ((first | apply RW.a1 | apply RW.a0 | (apply RW.at; exact gva)); (first | (apply gw_alloc (d := some 6); exact rfl; intro b6) | (apply gw_callE (f := 27); exact evx; exact go27; intro G hG; exact bad_spec 3 f.n G) | (apply gw_asg; exact rfl) | (apply gw_alloc; exact rfl; intro b) | (refine gw_stx sto ?_) | (fail))) | (apply CW_region; intro K hK) | (apply CW_condX; exact rfl; exact tst; exact tst; all_goals (intro hq hc; try exact no)))
            (refine CW_ret ?_; refine xsg xsl ?_; refine bodyS_ret (L' := []) (rs := [.cell 2 47]) (by kernel_rfl) (by (repeat (first | (apply resok_tmp; exact rfl) | (apply resok_cell; exact rfl; exact rfl; (focus ((iterate 16 (try (first | exact pick0 | apply pickS))); done)); (first | exact rfl | assumption | (simp only [List.length_map]; omega)); decide))); exact resok_nil) (by exact sbl) ?_)
            exact ⟨rfl, rfl⟩
          · have hz2 : 40 < f.n.length := by omega
            
            repeat' (first | ((first | apply RW.q1 | (apply RW.qg; exact gvx; refine hgx tst ?_; intro hg hg')); (first | (apply q_lar; exact rfl; exact evgx; exact hpf; exact ix_elem hfx (by omega); exact rfl; decide) | (apply q_lenb; exact evgx) | (apply q_bld; exact rfl; first | exact bld47_) | exact qt | exact qu)) | refine xsg cts ?_ | (apply CW_condT; exact rfl; exact ar) | (apply CW_condF; exact rfl; exact ar) | ((first | apply RW.s1 | apply RW.s0); exact gva) | (refine hK _ _ ?_; clear hK; refine xsg xsl ?_) | ((first | apply RW.a1 | apply RW.a0 | (apply RW.at; exact gva)); (first | (apply gw_alloc (d := some 6); exact rfl; intro b6) | (apply gw_callE (f := 27); exact evx; exact go27; intro G hG; exact bad_spec 3 f.n G) | (apply gw_asg; exact rfl) | (apply gw_alloc; exact rfl; intro b) | (refine gw_stx sto ?_) | (fail))) | (apply CW_region; intro K hK) | (apply CW_condX; exact rfl; exact tst; exact tst; all_goals (intro hq hc; try exact no)))
            (refine CW_ret ?_; refine xsg xsl ?_; refine bodyS_ret (L' := []) (rs := [.cell 2 47]) (by kernel_rfl) (by (repeat (first | (apply resok_tmp; exact rfl) | (apply resok_cell; exact rfl; exact rfl; (focus ((iterate 16 (try (first | exact pick0 | apply pickS))); done)); (first | exact rfl | assumption | (simp only [List.length_map]; omega)); decide))); exact resok_nil) (by exact sbl) ?_)
            exact ⟨rfl, rfl⟩
        | none =>
          obtain ⟨hz1, hz2⟩ := lenO_none hL
          have hB1 : orO (orO (firstO wN ((things f).drop 0)) (firstO formFl (p.fl.drop (j + 1)))) (firstO formPk (l.drop (k + 1))) = formO l := by rw [← hB]; unfold formFl; rw [hL]; rfl
          
          repeat' (first | ((first | apply RW.q1 | (apply RW.qg; exact gvx; refine hgx tst ?_; intro hg hg')); (first | (apply q_lar; exact rfl; exact evgx; exact hpf; exact ix_elem hfx (by omega); exact rfl; decide) | (apply q_lenb; exact evgx) | (apply q_bld; exact rfl; first | exact bld47_) | exact qt | exact qu)) | refine xsg cts ?_ | (apply CW_condT; exact rfl; exact ar) | (apply CW_condF; exact rfl; exact ar) | ((first | apply RW.s1 | apply RW.s0); exact gva) | (refine hK _ _ ?_; clear hK; refine xsg xsl ?_) | ((first | apply RW.a1 | apply RW.a0 | (apply RW.at; exact gva)); (first | (apply gw_alloc (d := some 6); exact rfl; intro b6) | (apply gw_call (f := 25); exact evx; exact go25; intro G hG; refine SC.mono (things_spec f G (flOk_ext ((hp p hpm).2.2 f hfm) hG.ext) (by omega)) ?_; rintro v M ⟨ta, tc, rfl, rfl⟩; (try dsimp only [jL, jM])) | (apply gw_asg; exact rfl) | (apply gw_alloc; exact rfl; intro b) | (refine gw_stx sto ?_) | (fail))) | (apply CW_region; intro K hK) | (apply CW_condX; exact rfl; exact tst; exact tst; all_goals (intro hq hc; try exact no)))
          refine CW_loop (fun m ll L => ∃ i : Nat, m = (things f).length - i ∧ ll = [(2, true, .pointer (some ⟨b2, 0, none⟩)), (9, true, .slice a l.length c), (10, true, .int .i64 l.length), (11, true, .int .i64 (k : Nat)), (23, true, .slice p.la p.fl.length p.lc), (24, true, .int .i64 p.fl.length), (25, true, .int .i64 (j : Nat)), (43, true, .slice ta (things f).length tc), (44, true, .int .i64 (things f).length), (45, true, .int .i64 (i : Nat))] ∧
              L = [.box b2 47 [.int .i64 0, .string { data := #[] }, .slice none 0 0], .own 65 3 ta (things f).length tc ((things f).flatMap thC)] ∧ i ≤ (things f).length ∧
              orO (orO (firstO wN ((things f).drop i)) (firstO formFl (p.fl.drop (j + 1)))) (firstO formPk (l.drop (k + 1))) = formO l)
            ⟨_, _, _, ⟨0, rfl, rfl, rfl, by omega, hB1⟩, by exact sbe, by exact sbl⟩ ?_
          rintro m ll L ⟨i, rfl, rfl, rfl, hi, hC⟩
          by_cases hil : i < (things f).length
          · obtain ⟨x, hxx⟩ : ∃ x, (things f)[i]? = some x := ⟨_, List.getElem?_eq_getElem (by omega)⟩
            have hxs := hS4 x (mem_allT hfm (List.mem_of_getElem? hxx))
            rw [firstO_drop hxx] at hC
            cases hV : wordO false x.n with
            | some y =>
              obtain ⟨rfl, hnw⟩ := wordO_some hV
              have hq : formO l = some x.n := by rw [← hC]; unfold wN; rw [hV]; rfl
              rw [hq]
              
              repeat' (first | ((first | apply RW.q1 | (apply RW.qg; exact gvx; refine hgx tst ?_; intro hg hg')); (first | (apply q_lao; exact rfl; exact evgx; infer_instance; exact ix_elem hxx (by omega); exact rfl; decide) | (apply q_bld; exact rfl; first | exact bld47_) | exact qt | exact qu)) | refine xsg cts ?_ | (apply CW_condT; exact rfl; exact ar) | (apply CW_condF; exact rfl; exact ar) | ((first | apply RW.s1 | apply RW.s0); exact gva) | (refine hK _ _ ?_; clear hK; refine xsg xsl ?_) | ((first | apply RW.a1 | apply RW.a0 | (apply RW.at; exact gva)); (first | (apply gw_alloc (d := some 8); exact rfl; intro b8) | (apply gw_callE (f := 26); exact evx; exact go26; intro G hG; exact wordN_spec x.n G (by omega) false ⟨fun h => (by cases h), fun h => absurd h hnw⟩) | (apply gw_callE (f := 27); exact evx; exact go27; intro G hG; exact bad_spec 3 x.n G) | (apply gw_asg; exact rfl) | (apply gw_alloc; exact rfl; intro b) | (refine gw_stx sto ?_) | (fail))) | (apply CW_region; intro K hK) | (apply CW_condX; exact rfl; exact tst; exact tst; all_goals (intro hq hc; try exact no)))
              (refine CW_ret ?_; refine xsg xsl ?_; refine bodyS_ret (L' := []) (rs := [.cell 2 47]) (by kernel_rfl) (by (repeat (first | (apply resok_tmp; exact rfl) | (apply resok_cell; exact rfl; exact rfl; (focus ((iterate 16 (try (first | exact pick0 | apply pickS))); done)); (first | exact rfl | assumption | (simp only [List.length_map]; omega)); decide))); exact resok_nil) (by exact sbl) ?_)
              exact ⟨rfl, rfl⟩
            | none =>
              have hw2 := wordO_none.1 hV
              have hC1 : orO (orO (firstO wN ((things f).drop (i + 1))) (firstO formFl (p.fl.drop (j + 1)))) (firstO formPk (l.drop (k + 1))) = formO l := by
                rw [← hC, show wN x = none from hV]; rfl
              
              repeat' (first | ((first | apply RW.q1 | (apply RW.qg; exact gvx; refine hgx tst ?_; intro hg hg')); (first | (apply q_lao; exact rfl; exact evgx; infer_instance; exact ix_elem hxx (by omega); exact rfl; decide) | (apply q_bld; exact rfl; first | exact bld47_) | exact qt | exact qu)) | refine xsg cts ?_ | (apply CW_condT; exact rfl; exact ar) | (apply CW_condF; exact rfl; exact ar) | ((first | apply RW.s1 | apply RW.s0); exact gva) | (refine hK _ _ ?_; clear hK; refine xsg xsl ?_) | ((first | apply RW.a1 | apply RW.a0 | (apply RW.at; exact gva)); (first | (apply gw_alloc (d := some 8); exact rfl; intro b8) | (apply gw_callE (f := 26); exact evx; exact go26; intro G hG; exact wordN_spec x.n G (by omega) true ⟨fun _ => hw2, fun _ => rfl⟩) | (apply gw_asg; exact rfl) | (apply gw_alloc; exact rfl; intro b) | (refine gw_stx sto ?_) | (fail))) | (apply CW_region; intro K hK) | (apply CW_condX; exact rfl; exact tst; exact tst; all_goals (intro hq hc; try exact no)))
              exact ⟨_, _, _, ⟨i + 1, rfl, rfl, rfl, by omega, hC1⟩, by exact sbe, by exact sbl, by omega⟩
          obtain rfl : i = (things f).length := by omega
          rw [firstO_end, orO_nil] at hC
          
          repeat' (first | ((first | apply RW.q1 | (apply RW.qg; exact gvx; refine hgx tst ?_; intro hg hg')); (first | (apply q_bld; exact rfl; first | exact bld47_) | exact qt | exact qu)) | refine xsg cts ?_ | (apply CW_condT; exact rfl; exact ar) | (apply CW_condF; exact rfl; exact ar) | ((first | apply RW.s1 | apply RW.s0); exact gva) | (refine hK _ _ ?_; clear hK; refine xsg xsl ?_) | ((first | apply RW.a1 | apply RW.a0 | (apply RW.at; exact gva)); (first | (apply gw_asg; exact rfl) | (apply gw_alloc; exact rfl; intro b) | (refine gw_stx sto ?_) | (fail))) | (apply CW_region; intro K hK) | (apply CW_condX; exact rfl; exact tst; exact tst; all_goals (intro hq hc; try exact no)))
          exact ⟨_, _, _, ⟨j + 1, rfl, rfl, rfl, by omega, hC⟩, by exact sbe, by exact sbl, by omega⟩
      obtain rfl : j = p.fl.length := by omega
      rw [firstO_end, orO_nil] at hB
      
      repeat' (first | ((first | apply RW.q1 | (apply RW.qg; exact gvx; refine hgx tst ?_; intro hg hg')); (first | (apply q_bld; exact rfl; first | exact bld47_) | exact qt | exact qu)) | refine xsg cts ?_ | (apply CW_condT; exact rfl; exact ar) | (apply CW_condF; exact rfl; exact ar) | ((first | apply RW.s1 | apply RW.s0); exact gva) | (refine hK _ _ ?_; clear hK; refine xsg xsl ?_) | ((first | apply RW.a1 | apply RW.a0 | (apply RW.at; exact gva)); (first | (apply gw_asg; exact rfl) | (apply gw_alloc; exact rfl; intro b) | (refine gw_stx sto ?_) | (fail))) | (apply CW_region; intro K hK) | (apply CW_condX; exact rfl; exact tst; exact tst; all_goals (intro hq hc; try exact no)))
      exact ⟨_, _, _, ⟨k + 1, rfl, rfl, rfl, by omega, hB⟩, by exact sbe, by exact sbl, by omega⟩
  obtain rfl : k = l.length := by omega
  rw [firstO_end] at hA
  rw [← hA]
  
  repeat' (first | ((first | apply RW.q1 | (apply RW.qg; exact gvx; refine hgx tst ?_; intro hg hg')); (first | (apply q_bld; exact rfl; first | exact bld47_) | exact qt | exact qu)) | refine xsg cts ?_ | (apply CW_condT; exact rfl; exact ar) | (apply CW_condF; exact rfl; exact ar) | ((first | apply RW.s1 | apply RW.s0); exact gva) | (refine hK _ _ ?_; clear hK; refine xsg xsl ?_) | ((first | apply RW.a1 | apply RW.a0 | (apply RW.at; exact gva)); (first | (apply gw_asg; exact rfl) | (apply gw_alloc; exact rfl; intro b) | (refine gw_stx sto ?_) | (fail))) | (apply CW_region; intro K hK) | (apply CW_condX; exact rfl; exact tst; exact tst; all_goals (intro hq hc; try exact no)))
  (refine CW_ret ?_; refine xsg xsl ?_; refine bodyS_ret (L' := []) (rs := [.cell 2 47]) (by kernel_rfl) (by (repeat (first | (apply resok_tmp; exact rfl) | (apply resok_cell; exact rfl; exact rfl; (focus ((iterate 16 (try (first | exact pick0 | apply pickS))); done)); (first | exact rfl | assumption | (simp only [List.length_map]; omega)); decide))); exact resok_nil) (by exact sbl) ?_)
  exact ⟨rfl, rfl⟩
end Go.Proofs.Ytkhmimlgkjenfaa.HL
namespace Go.Proofs.Ytkhmimlgkjenfaa.HL
open Go
attribute [local irreducible] goFn thenS blockS bodyS CW RW DW GW QW NW SC Pick Picks SubL Rd NN ResOk SrcW subE hops hseg AW hgen HC qv bldv
set_option maxHeartbeats 8000000
set_option maxRecDepth 100000
set_option linter.unusedVariables false
set_option linter.unusedSimpArgs false

theorem seen_spec (H : Hp) : SC Try.prog 28 [] H [] (fun v M => ∃ b m, v = .func (.func 51) #[] #[.pointer (some ⟨b, 0, none⟩)] ∧ M = [.box b 97 [.map (some m)], .obj m (seenO [])]) := by
  (refine SC_intro Try.func28 rfl (by kernel_rfl) (by rw [Try.ntmps28]; exact Nat.le_of_ble_eq_true rfl) ?_; simp only [Try.ntmps28, argE, Nat.reduceAdd])
  repeat' (first | (apply RW.q1; exact qt) | refine xsg cts ?_ | (apply CW_condT; exact rfl; exact ar) | (apply CW_condF; exact rfl; exact ar) | (refine hK _ _ ?_; clear hK; refine xsg xsl ?_) | ((first | apply RW.a1 | apply RW.a0); (first | (apply gw_alloc (d := some 1); exact rfl; intro b1) | (apply gw_mkmap; intro mb) | (apply gw_asg; exact rfl) | (apply gw_alloc; exact rfl; intro b) | (refine gw_stx sto ?_) | (fail))) | (apply CW_region; intro K hK) | (apply CW_condX; exact rfl; exact tst; exact tst; all_goals (intro hq hc; try exact nx)))
  (refine CW_ret ?_; refine xsg xsl ?_; refine bR [.tmp 0] [.box b1 97 [.map (some mb)], .obj mb (.map #[] 0)] ?_)
  exact ⟨b1, mb, rfl, rfl⟩
theorem seen_new (s : Tx) (ks : List Tx) (b mb : Nat) (H : Hp) (hs : s ∉ ks) : SC Try.prog 51 [.string (bstr s), .pointer (some ⟨b, 0, none⟩)] H [.box b 97 [.map (some mb)], .obj mb (seenO ks)]
    (fun v M => v = .bool false ∧ M = [.box b 97 [.map (some mb)], .obj mb (seenO (ks ++ [s]))]) := by
  have h1 : Instr.findNow .string (.string (bstr s)) (seenE 0 ks).toArray.toList 0 = some none := seen_no 0 0 hs
  have e2 : (Obj.map ((seenE 0 ks).toArray.push { key := .string (bstr s), val := .int .i64 1, born := ks.length }) (ks.length + 1)) = seenO (ks ++ [s]) := by
    show _ = Obj.map (seenE 0 (ks ++ [s])).toArray (ks ++ [s]).length
    rw [seenE_app, List.length_append]; simp
  obtain ⟨i, e, h2, _, _, _⟩ := seen_yes (l := ks ++ [s]) (s := s) 0 0 (by simp)
  have h3 : Instr.findNow .string (.string (bstr s)) (seenE 0 (ks ++ [s])).toArray.toList 0 = some (some (0 + i, .int .i64 1)) := h2
  (refine SC_intro Try.func51 rfl (by kernel_rfl) (by rw [Try.ntmps51]; exact Nat.le_of_ble_eq_true rfl) ?_; simp only [Try.ntmps51, argE, Nat.reduceAdd])
  
  repeat' (first | (apply RW.q1; exact qt) | refine xsg cts ?_ | (apply CW_condT; exact rfl; exact ar) | (apply CW_condF; exact rfl; exact ar) | (refine hK _ _ ?_; clear hK; refine xsg xsl ?_) | ((first | apply RW.a1 | apply RW.a0); (first | (refine gw_lookup1 (key := bstr s) (b := mb) (es := (seenE 0 ks).toArray) (ck := ks.length) rfl rfl inferInstance h1 ?_) | (refine gw_mapup (key := bstr s) (v := .int .i64 1) (b := mb) (es := (seenE 0 ks).toArray) (ck := ks.length) rfl rfl rfl inferInstance h1 ?_; rw [e2]) | (refine gw_lookup1 (key := bstr s) (b := mb) (es := (seenE 0 (ks ++ [s])).toArray) (ck := (ks ++ [s]).length) rfl rfl inferInstance h3 ?_) | (apply gw_asg; exact rfl) | (fail))) | (apply CW_region; intro K hK) | (apply CW_condX; exact rfl; exact tst; exact tst; all_goals (intro hq hc; try exact no)))
  (refine CW_ret ?_; refine xsg xsl ?_; refine bR [.tmp 3] [.box b 97 [.map (some mb)], .obj mb (seenO (ks ++ [s]))] ?_)
  exact ⟨rfl, rfl⟩
theorem seen_old (s : Tx) (ks : List Tx) (b mb : Nat) (H : Hp) (hs : s ∈ ks) : SC Try.prog 51 [.string (bstr s), .pointer (some ⟨b, 0, none⟩)] H [.box b 97 [.map (some mb)], .obj mb (seenO ks)]
    (fun v M => v = .bool true ∧ M = []) := by
  obtain ⟨i, e, h2, h4, h5, h6⟩ := seen_yes (l := ks) (s := s) 0 0 hs
  have h3 : Instr.findNow .string (.string (bstr s)) (seenE 0 ks).toArray.toList 0 = some (some (0 + i, .int .i64 1)) := h2
  have h7 : (seenE 0 ks).toArray[0 + i]? = some e := by rw [Nat.zero_add]; simpa using h4
  have h8 : Instr.findNow .string (.string (bstr s)) ((seenE 0 ks).toArray.modify (0 + i) (reE (bstr s) (.int .i64 2))).toList 0 = some (some (0 + i, .int .i64 2)) := by
    have := h6 (.int .i64 2)
    rw [Nat.zero_add] at *
    simpa using this
  (refine SC_intro Try.func51 rfl (by kernel_rfl) (by rw [Try.ntmps51]; exact Nat.le_of_ble_eq_true rfl) ?_; simp only [Try.ntmps51, argE, Nat.reduceAdd])
  
  repeat' (first | (apply RW.q1; exact qt) | refine xsg cts ?_ | (apply CW_condT; exact rfl; exact ar) | (apply CW_condF; exact rfl; exact ar) | (refine hK _ _ ?_; clear hK; refine xsg xsl ?_) | ((first | apply RW.a1 | apply RW.a0); (first | (refine gw_lookup1 (key := bstr s) (b := mb) (es := (seenE 0 ks).toArray) (ck := ks.length) rfl rfl inferInstance h3 ?_) | (refine gw_remapup (key := bstr s) (v := .int .i64 2) (b := mb) (es := (seenE 0 ks).toArray) (ck := ks.length) rfl rfl rfl inferInstance h3 h7 h5 ?_) | (refine gw_lookup1 (key := bstr s) (b := mb) (es := (seenE 0 ks).toArray.modify (0 + i) (reE (bstr s) (.int .i64 2))) (ck := ks.length) rfl rfl inferInstance h8 ?_) | (apply gw_asg; exact rfl) | (fail))) | (apply CW_region; intro K hK) | (apply CW_condX; exact rfl; exact tst; exact tst; all_goals (intro hq hc; try exact no)))
  (refine CW_ret ?_; refine xsg xsl ?_; refine bR [.tmp 3] [] ?_)
  exact ⟨rfl, rfl⟩
end Go.Proofs.Ytkhmimlgkjenfaa.HL
namespace Go.Proofs.Ytkhmimlgkjenfaa.HL
open Go
attribute [local irreducible] goFn thenS blockS bodyS CW RW DW GW QW NW SC Pick Picks SubL Rd NN ResOk SrcW subE hops hseg AW hgen HC qv bldv
set_option maxHeartbeats 8000000
set_option maxRecDepth 100000
set_option linter.unusedVariables false
set_option linter.unusedSimpArgs false

theorem take_snoc {α : Type} {l : List α} {k : Nat} {x : α} (hx : l[k]? = some x) : l.take (k + 1) = l.take k ++ [x] := by rw [List.take_add_one, hx]; rfl
theorem drop_at {α : Type} {l : List α} {k : Nat} {x : α} (hx : l[k]? = some x) : l.drop k = x :: l.drop (k + 1) := by
  obtain ⟨hl, rfl⟩ := List.getElem?_eq_some_iff.1 hx
  rw [List.drop_eq_getElem_cons hl]
theorem mtake_snoc {α β : Type} {f : α → β} {l : List α} {k : Nat} {x : α} (hx : l[k]? = some x) : (l.take (k + 1)).map f = (l.take k).map f ++ [f x] := by rw [take_snoc hx, List.map_append]; rfl
theorem dupO_hit {s l : List Tx} {x : Tx} (h : x ∈ s) : dupO s (x :: l) = some x := by unfold dupO; rw [if_pos h]
theorem dupO_go {s l : List Tx} {x : Tx} (h : x ∉ s) : dupO s (x :: l) = dupO (s ++ [x]) l := by
  show (if x ∈ s then some x else dupO (s ++ [x]) l) = _
  rw [if_neg h]
theorem dupF_hit {fs ns : List Tx} {l : List Fl} {f : Fl} (h : f.n ∈ fs) : dupF fs ns (f :: l) = some f.n := by
  show (if f.n ∈ fs then some f.n else _) = _
  rw [if_pos h]
theorem dupF_go {fs ns : List Tx} {l : List Fl} {f : Fl} (h : f.n ∉ fs) : dupF fs ns (f :: l) = orO (dupO ns ((things f).map Th.n)) (dupF (fs ++ [f.n]) (ns ++ (things f).map Th.n) l) := by
  show (if f.n ∈ fs then some f.n else _) = _
  rw [if_neg h]
theorem dupP_hit {ps : List Tx} {l : List Pk} {p : Pk} (h : p.p ∈ ps) : dupP ps (p :: l) = some p.p := by
  show (if p.p ∈ ps then some p.p else _) = _
  rw [if_pos h]
theorem dupP_go {ps : List Tx} {l : List Pk} {p : Pk} (h : p.p ∉ ps) : dupP ps (p :: l) = orO (dupO [] p.im) (orO (dupF [] [] p.fl) (dupP (ps ++ [p.p]) l)) := by
  show (if p.p ∈ ps then some p.p else _) = _
  rw [if_neg h]
theorem single_spec (l : List Pk) (a : Option Addr) (c : Nat) (H : Hp) (hr : Rs H 3 a l.length c (l.flatMap pkC)) (hp : ∀ p, p ∈ l → pkOk H p) (hS : ∀ p, p ∈ l → Small p) (hl : l.length ≤ 1048576) :
    SC Try.prog 14 [.slice a l.length c] H [] (fun v M => v = faV ((dupP [] l).map fun s => (6, s)) ∧ M = []) := by
  (refine SC_intro Try.func14 rfl (by kernel_rfl) (by rw [Try.ntmps14]; exact Nat.le_of_ble_eq_true rfl) ?_; simp only [Try.ntmps14, argE, Nat.reduceAdd])
  
  repeat' (first | (apply RW.q1; (first | (apply q_bld; exact rfl; first | exact bld47_) | exact qt)) | refine xsg cts ?_ | (apply CW_condT; exact rfl; exact ar) | (apply CW_condF; exact rfl; exact ar) | (refine hK _ _ ?_; clear hK; refine xsg xsl ?_) | ((first | apply RW.a1 | apply RW.a0); (first | (apply gw_alloc (d := some 2); exact rfl; intro b2) | (apply gw_call (f := 28); exact rfl; exact go28; intro G hG; refine SC.mono (seen_spec G) ?_; rintro v M ⟨pb, pm, rfl, rfl⟩; (try dsimp only [jL, jM])) | (apply gw_asg; exact rfl) | (apply gw_alloc; exact rfl; intro b) | (refine gw_stx sto ?_) | (fail))) | (apply CW_region; intro K hK) | (apply CW_condX; exact rfl; exact tst; exact tst; all_goals (intro hq hc; try exact no)))
  refine CW_loop (fun m ll L => ∃ k : Nat, m = l.length - k ∧ ll = [(2, true, .pointer (some ⟨b2, 0, none⟩)), (3, true, .func (.func 51) #[] #[.pointer (some ⟨pb, 0, none⟩)]), (16, true, .slice a l.length c), (17, true, .int .i64 l.length), (18, true, .int .i64 (k : Nat))] ∧
      L = [.box b2 47 [.int .i64 0, .string { data := #[] }, .slice none 0 0], .box pb 97 [.map (some pm)], .obj pm (seenO ((l.take k).map Pk.p))] ∧ k ≤ l.length ∧ dupP ((l.take k).map Pk.p) (l.drop k) = dupP [] l)
    ⟨_, _, _, ⟨0, rfl, rfl, rfl, by omega, rfl⟩, by exact sbe, by exact sbl⟩ ?_
  rintro m ll L ⟨k, rfl, rfl, rfl, hk, hA⟩
  by_cases hlt : k < l.length
  · obtain ⟨p, hx⟩ : ∃ x, l[k]? = some x := ⟨_, List.getElem?_eq_getElem (by omega)⟩
    have hpm := List.mem_of_getElem? hx
    have hpi : Rs H 1 p.ia p.im.length p.ic (txs p.im) := (hp p hpm).1
    have hpf : Rs H 4 p.la p.fl.length p.lc (p.fl.flatMap flC) := (hp p hpm).2.1
    obtain ⟨hS1, hS2, hS3, ⟨hS5, hS6⟩, hS4⟩ := hS p hpm
    rw [drop_at hx] at hA
    by_cases hin : p.p ∈ (l.take k).map Pk.p
    · rw [← hA, dupP_hit hin]
      
      repeat' (first | (apply RW.q1; (first | (apply q_lar; exact rfl; exact rfl; exact hr; exact ix_elem hx (by omega); exact rfl; decide) | (apply q_bld; exact rfl; first | exact bld47_) | exact qt)) | refine xsg cts ?_ | (apply CW_condT; exact rfl; exact ar) | (apply CW_condF; exact rfl; exact ar) | (refine hK _ _ ?_; clear hK; refine xsg xsl ?_) | ((first | apply RW.a1 | apply RW.a0); (first | (apply gw_alloc (d := some 5); exact rfl; intro b5) | (apply gw_callvc (f := 51) (M := [.box pb 97 [.map (some pm)], .obj pm (seenO ((l.take k).map Pk.p))]); exact rfl; exact rfl; exact go51; exact pcs; intro G hG; refine SC.mono (seen_old p.p ((l.take k).map Pk.p) pb pm G hin) ?_; rintro v M ⟨rfl, rfl⟩; (try dsimp only [jL, jM])) | (apply gw_callE (f := 27); exact rfl; exact go27; intro G hG; exact bad_spec 6 p.p G) | (apply gw_asg; exact rfl) | (apply gw_alloc; exact rfl; intro b) | (refine gw_stx sto ?_) | (fail))) | (apply CW_region; intro K hK) | (apply CW_condX; exact rfl; exact tst; exact tst; all_goals (intro hq hc; try exact no)))
      (refine CW_ret ?_; refine xsg xsl ?_; refine bodyS_ret (L' := []) (rs := [.cell 2 47]) (by kernel_rfl) (by (repeat (first | (apply resok_tmp; exact rfl) | (apply resok_cell; exact rfl; exact rfl; (focus ((iterate 16 (try (first | exact pick0 | apply pickS))); done)); (first | exact rfl | assumption | (simp only [List.length_map]; omega)); decide))); exact resok_nil) (by exact sbl) ?_)
      exact ⟨rfl, rfl⟩
    rw [dupP_go hin, ← mtake_snoc hx] at hA
    have hA1 : orO (dupO (p.im.take 0) (p.im.drop 0)) (orO (dupF [] [] p.fl) (dupP ((l.take (k + 1)).map Pk.p) (l.drop (k + 1)))) = dupP [] l := hA
    
    repeat' (first | (apply RW.q1; (first | (apply q_lar; exact rfl; exact rfl; exact hr; exact ix_elem hx (by omega); exact rfl; decide) | (apply q_bld; exact rfl; first | exact bld47_) | exact qt)) | refine xsg cts ?_ | (apply CW_condT; exact rfl; exact ar) | (apply CW_condF; exact rfl; exact ar) | (refine hK _ _ ?_; clear hK; refine xsg xsl ?_) | ((first | apply RW.a1 | apply RW.a0); (first | (apply gw_alloc (d := some 5); exact rfl; intro b5) | (apply gw_callvc (f := 51) (M := [.box pb 97 [.map (some pm)], .obj pm (seenO ((l.take k).map Pk.p))]); exact rfl; exact rfl; exact go51; exact pcs; intro G hG; refine SC.mono (seen_new p.p ((l.take k).map Pk.p) pb pm G hin) ?_; rintro v M ⟨rfl, rfl⟩; rw [← mtake_snoc hx]; (try dsimp only [jL, jM])) | (apply gw_call (d := some 29) (f := 28); exact rfl; exact go28; intro G hG; refine SC.mono (seen_spec G) ?_; rintro v M ⟨ib, im, rfl, rfl⟩; (try dsimp only [jL, jM])) | (apply gw_call (d := some 30) (f := 28); exact rfl; exact go28; intro G hG; refine SC.mono (seen_spec G) ?_; rintro v M ⟨fb, fm, rfl, rfl⟩; (try dsimp only [jL, jM])) | (apply gw_call (d := some 31) (f := 28); exact rfl; exact go28; intro G hG; refine SC.mono (seen_spec G) ?_; rintro v M ⟨nb, nm, rfl, rfl⟩; (try dsimp only [jL, jM])) | (apply gw_asg; exact rfl) | (apply gw_alloc; exact rfl; intro b) | (refine gw_stx sto ?_) | (fail))) | (apply CW_region; intro K hK) | (apply CW_condX; exact rfl; exact tst; exact tst; all_goals (intro hq hc; try exact no)))
    refine CW_loop (fun m ll L => ∃ j : Nat, m = p.im.length - j ∧ ll = [(2, true, .pointer (some ⟨b2, 0, none⟩)), (3, true, .func (.func 51) #[] #[.pointer (some ⟨pb, 0, none⟩)]), (16, true, .slice a l.length c), (17, true, .int .i64 l.length), (18, true, .int .i64 (k : Nat)), (5, true, .pointer (some ⟨b5, 0, none⟩)),
        (6, true, .func (.func 51) #[] #[.pointer (some ⟨ib, 0, none⟩)]), (7, true, .func (.func 51) #[] #[.pointer (some ⟨fb, 0, none⟩)]), (8, true, .func (.func 51) #[] #[.pointer (some ⟨nb, 0, none⟩)]), (33, true, .slice p.ia p.im.length p.ic), (34, true, .int .i64 p.im.length), (35, true, .int .i64 (j : Nat))] ∧
        L = [.box b2 47 [.int .i64 0, .string { data := #[] }, .slice none 0 0], .box pb 97 [.map (some pm)], .obj pm (seenO ((l.take (k + 1)).map Pk.p)), .box b5 25 (pkC p), .box ib 97 [.map (some im)], .obj im (seenO (p.im.take j)), .box fb 97 [.map (some fm)], .obj fm (seenO []), .box nb 97 [.map (some nm)], .obj nm (seenO [])] ∧
        j ≤ p.im.length ∧ orO (dupO (p.im.take j) (p.im.drop j)) (orO (dupF [] [] p.fl) (dupP ((l.take (k + 1)).map Pk.p) (l.drop (k + 1)))) = dupP [] l)
      ⟨_, _, _, ⟨0, rfl, rfl, rfl, by omega, hA1⟩, by exact sbe, by exact sbl⟩ ?_
    rintro m ll L ⟨j, rfl, rfl, rfl, hj, hB⟩
    by_cases hjl : j < p.im.length
    · obtain ⟨s, hs⟩ : ∃ x, p.im[j]? = some x := ⟨_, List.getElem?_eq_getElem (by omega)⟩
      rw [drop_at hs] at hB
      by_cases hsn : s ∈ p.im.take j
      · rw [← hB, dupO_hit hsn]
        
        repeat' (first | (apply RW.q1; (first | (apply q_ldr; exact rfl; exact rfl; exact hpi; exact txs_at hs (by omega)) | (apply q_bld; exact rfl; first | exact bld47_) | exact qt)) | refine xsg cts ?_ | (apply CW_condT; exact rfl; exact ar) | (apply CW_condF; exact rfl; exact ar) | (refine hK _ _ ?_; clear hK; refine xsg xsl ?_) | ((first | apply RW.a1 | apply RW.a0); (first | (apply gw_callvc (f := 51) (M := [.box ib 97 [.map (some im)], .obj im (seenO (p.im.take j))]); exact rfl; exact rfl; exact go51; exact pcs; intro G hG; refine SC.mono (seen_old s (p.im.take j) ib im G hsn) ?_; rintro v M ⟨rfl, rfl⟩; (try dsimp only [jL, jM])) | (apply gw_callE (f := 27); exact rfl; exact go27; intro G hG; exact bad_spec 6 s G) | (apply gw_asg; exact rfl) | (apply gw_alloc; exact rfl; intro b) | (refine gw_stx sto ?_) | (fail))) | (apply CW_region; intro K hK) | (apply CW_condX; exact rfl; exact tst; exact tst; all_goals (intro hq hc; try exact no)))
        (refine CW_ret ?_; refine xsg xsl ?_; refine bodyS_ret (L' := []) (rs := [.cell 2 47]) (by kernel_rfl) (by (repeat (first | (apply resok_tmp; exact rfl) | (apply resok_cell; exact rfl; exact rfl; (focus ((iterate 16 (try (first | exact pick0 | apply pickS))); done)); (first | exact rfl | assumption | (simp only [List.length_map]; omega)); decide))); exact resok_nil) (by exact sbl) ?_)
        exact ⟨rfl, rfl⟩
      rw [dupO_go hsn, ← take_snoc hs] at hB
      
      repeat' (first | (apply RW.q1; (first | (apply q_ldr; exact rfl; exact rfl; exact hpi; exact txs_at hs (by omega)) | (apply q_bld; exact rfl; first | exact bld47_) | exact qt)) | refine xsg cts ?_ | (apply CW_condT; exact rfl; exact ar) | (apply CW_condF; exact rfl; exact ar) | (refine hK _ _ ?_; clear hK; refine xsg xsl ?_) | ((first | apply RW.a1 | apply RW.a0); (first | (apply gw_callvc (f := 51) (M := [.box ib 97 [.map (some im)], .obj im (seenO (p.im.take j))]); exact rfl; exact rfl; exact go51; exact pcs; intro G hG; refine SC.mono (seen_new s (p.im.take j) ib im G hsn) ?_; rintro v M ⟨rfl, rfl⟩; rw [← take_snoc hs]; (try dsimp only [jL, jM])) | (apply gw_asg; exact rfl) | (apply gw_alloc; exact rfl; intro b) | (refine gw_stx sto ?_) | (fail))) | (apply CW_region; intro K hK) | (apply CW_condX; exact rfl; exact tst; exact tst; all_goals (intro hq hc; try exact no)))
      exact ⟨_, _, _, ⟨j + 1, rfl, rfl, rfl, by omega, hB⟩, by exact sbe, by exact sbl, by omega⟩
    obtain rfl : j = p.im.length := by omega
    rw [List.drop_length] at hB
    have hB1 : orO (dupF ((p.fl.take 0).map Fl.n) ((allT (p.fl.take 0)).map Th.n) (p.fl.drop 0)) (dupP ((l.take (k + 1)).map Pk.p) (l.drop (k + 1))) = dupP [] l := hB
    
    repeat' (first | (apply RW.q1; (first | (apply q_bld; exact rfl; first | exact bld47_) | exact qt)) | refine xsg cts ?_ | (apply CW_condT; exact rfl; exact ar) | (apply CW_condF; exact rfl; exact ar) | (refine hK _ _ ?_; clear hK; refine xsg xsl ?_) | ((first | apply RW.a1 | apply RW.a0); (first | (apply gw_asg; exact rfl) | (apply gw_alloc; exact rfl; intro b) | (refine gw_stx sto ?_) | (fail))) | (apply CW_region; intro K hK) | (apply CW_condX; exact rfl; exact tst; exact tst; all_goals (intro hq hc; try exact no)))
    refine CW_loop (fun m ll L => ∃ j : Nat, m = p.fl.length - j ∧ ll = [(2, true, .pointer (some ⟨b2, 0, none⟩)), (3, true, .func (.func 51) #[] #[.pointer (some ⟨pb, 0, none⟩)]), (16, true, .slice a l.length c), (17, true, .int .i64 l.length), (18, true, .int .i64 (k : Nat)),
        (7, true, .func (.func 51) #[] #[.pointer (some ⟨fb, 0, none⟩)]), (8, true, .func (.func 51) #[] #[.pointer (some ⟨nb, 0, none⟩)]), (46, true, .slice p.la p.fl.length p.lc), (47, true, .int .i64 p.fl.length), (48, true, .int .i64 (j : Nat))] ∧
        L = [.box b2 47 [.int .i64 0, .string { data := #[] }, .slice none 0 0], .box pb 97 [.map (some pm)], .obj pm (seenO ((l.take (k + 1)).map Pk.p)), .box fb 97 [.map (some fm)], .obj fm (seenO ((p.fl.take j).map Fl.n)), .box nb 97 [.map (some nm)], .obj nm (seenO ((allT (p.fl.take j)).map Th.n))] ∧
        j ≤ p.fl.length ∧ orO (dupF ((p.fl.take j).map Fl.n) ((allT (p.fl.take j)).map Th.n) (p.fl.drop j)) (dupP ((l.take (k + 1)).map Pk.p) (l.drop (k + 1))) = dupP [] l)
      ⟨_, _, _, ⟨0, rfl, rfl, rfl, by omega, hB1⟩, by exact sbe, by exact sbl⟩ ?_
    rintro m ll L ⟨j, rfl, rfl, rfl, hj, hC⟩
    by_cases hjl2 : j < p.fl.length
    · obtain ⟨f, hfx⟩ : ∃ x, p.fl[j]? = some x := ⟨_, List.getElem?_eq_getElem (by omega)⟩
      have hfm := List.mem_of_getElem? hfx
      have hfl := hS3 f hfm
      have htl := things_len f
      rw [drop_at hfx] at hC
      by_cases hfn : f.n ∈ (p.fl.take j).map Fl.n
      · rw [← hC, dupF_hit hfn]
        
        repeat' (first | (apply RW.q1; (first | (apply q_lar; exact rfl; exact rfl; exact hpf; exact ix_elem hfx (by omega); exact rfl; decide) | (apply q_bld; exact rfl; first | exact bld47_) | exact qt)) | refine xsg cts ?_ | (apply CW_condT; exact rfl; exact ar) | (apply CW_condF; exact rfl; exact ar) | (refine hK _ _ ?_; clear hK; refine xsg xsl ?_) | ((first | apply RW.a1 | apply RW.a0); (first | (apply gw_alloc (d := some 12); exact rfl; intro b12) | (apply gw_callvc (f := 51) (M := [.box fb 97 [.map (some fm)], .obj fm (seenO ((p.fl.take j).map Fl.n))]); exact rfl; exact rfl; exact go51; exact pcs; intro G hG; refine SC.mono (seen_old f.n ((p.fl.take j).map Fl.n) fb fm G hfn) ?_; rintro v M ⟨rfl, rfl⟩; (try dsimp only [jL, jM])) | (apply gw_callE (f := 27); exact rfl; exact go27; intro G hG; exact bad_spec 6 f.n G) | (apply gw_asg; exact rfl) | (apply gw_alloc; exact rfl; intro b) | (refine gw_stx sto ?_) | (fail))) | (apply CW_region; intro K hK) | (apply CW_condX; exact rfl; exact tst; exact tst; all_goals (intro hq hc; try exact no)))
        (refine CW_ret ?_; refine xsg xsl ?_; refine bodyS_ret (L' := []) (rs := [.cell 2 47]) (by kernel_rfl) (by (repeat (first | (apply resok_tmp; exact rfl) | (apply resok_cell; exact rfl; exact rfl; (focus ((iterate 16 (try (first | exact pick0 | apply pickS))); done)); (first | exact rfl | assumption | (simp only [List.length_map]; omega)); decide))); exact resok_nil) (by exact sbl) ?_)
        exact ⟨rfl, rfl⟩
      rw [dupF_go hfn, ← mtake_snoc hfx] at hC
      have hC1 : orO (orO (dupO ((allT (p.fl.take j)).map Th.n ++ ((things f).take 0).map Th.n) (((things f).drop 0).map Th.n)) (dupF ((p.fl.take (j + 1)).map Fl.n) ((allT (p.fl.take j)).map Th.n ++ (things f).map Th.n) (p.fl.drop (j + 1)))) (dupP ((l.take (k + 1)).map Pk.p) (l.drop (k + 1))) = dupP [] l := by
        rw [List.take_zero, List.map_nil, List.append_nil]; exact hC
      have hnn : (allT (p.fl.take j)).map Th.n = (allT (p.fl.take j)).map Th.n ++ ((things f).take 0).map Th.n := by simp
      
      repeat' (first | (apply RW.q1; (first | (apply q_lar; exact rfl; exact rfl; exact hpf; exact ix_elem hfx (by omega); exact rfl; decide) | (apply q_bld; exact rfl; first | exact bld47_) | exact qt)) | refine xsg cts ?_ | (apply CW_condT; exact rfl; exact ar) | (apply CW_condF; exact rfl; exact ar) | (refine hK _ _ ?_; clear hK; refine xsg xsl ?_) | ((first | apply RW.a1 | apply RW.a0); (first | (apply gw_alloc (d := some 12); exact rfl; intro b12) | (apply gw_callvc (f := 51) (M := [.box fb 97 [.map (some fm)], .obj fm (seenO ((p.fl.take j).map Fl.n))]); exact rfl; exact rfl; exact go51; exact pcs; intro G hG; refine SC.mono (seen_new f.n ((p.fl.take j).map Fl.n) fb fm G hfn) ?_; rintro v M ⟨rfl, rfl⟩; rw [← mtake_snoc hfx]; (try dsimp only [jL, jM])) | (apply gw_call (f := 25); exact rfl; exact go25; intro G hG; refine SC.mono (things_spec f G (flOk_ext ((hp p hpm).2.2 f hfm) hG.ext) (by omega)) ?_; rintro v M ⟨ta, tc, rfl, rfl⟩; (try dsimp only [jL, jM])) | (apply gw_asg; exact rfl) | (apply gw_alloc; exact rfl; intro b) | (refine gw_stx sto ?_) | (fail))) | (apply CW_region; intro K hK) | (apply CW_condX; exact rfl; exact tst; exact tst; all_goals (intro hq hc; try exact no)))
      rw [hnn]
      refine CW_loop (fun m ll L => ∃ i : Nat, m = (things f).length - i ∧ ll = [(2, true, .pointer (some ⟨b2, 0, none⟩)), (3, true, .func (.func 51) #[] #[.pointer (some ⟨pb, 0, none⟩)]), (16, true, .slice a l.length c), (17, true, .int .i64 l.length), (18, true, .int .i64 (k : Nat)),
          (7, true, .func (.func 51) #[] #[.pointer (some ⟨fb, 0, none⟩)]), (8, true, .func (.func 51) #[] #[.pointer (some ⟨nb, 0, none⟩)]), (46, true, .slice p.la p.fl.length p.lc), (47, true, .int .i64 p.fl.length), (48, true, .int .i64 (j : Nat)), (60, true, .slice ta (things f).length tc), (61, true, .int .i64 (things f).length), (62, true, .int .i64 (i : Nat))] ∧
          L = [.box b2 47 [.int .i64 0, .string { data := #[] }, .slice none 0 0], .box pb 97 [.map (some pm)], .obj pm (seenO ((l.take (k + 1)).map Pk.p)), .box fb 97 [.map (some fm)], .obj fm (seenO ((p.fl.take (j + 1)).map Fl.n)), .box nb 97 [.map (some nm)], .obj nm (seenO ((allT (p.fl.take j)).map Th.n ++ ((things f).take i).map Th.n)), .own 65 3 ta (things f).length tc ((things f).flatMap thC)] ∧
          i ≤ (things f).length ∧ orO (orO (dupO ((allT (p.fl.take j)).map Th.n ++ ((things f).take i).map Th.n) (((things f).drop i).map Th.n)) (dupF ((p.fl.take (j + 1)).map Fl.n) ((allT (p.fl.take j)).map Th.n ++ (things f).map Th.n) (p.fl.drop (j + 1)))) (dupP ((l.take (k + 1)).map Pk.p) (l.drop (k + 1))) = dupP [] l)
        ⟨_, _, _, ⟨0, rfl, rfl, rfl, by omega, hC1⟩, by exact sbe, by exact sbl⟩ ?_
      rintro m ll L ⟨i, rfl, rfl, rfl, hi, hD⟩
      by_cases hil : i < (things f).length
      · obtain ⟨x, hxx⟩ : ∃ x, (things f)[i]? = some x := ⟨_, List.getElem?_eq_getElem (by omega)⟩
        rw [drop_at hxx, List.map_cons] at hD
        by_cases hxn : x.n ∈ (allT (p.fl.take j)).map Th.n ++ ((things f).take i).map Th.n
        · rw [← hD, dupO_hit hxn]
          
          repeat' (first | (apply RW.q1; (first | (apply q_lao; exact rfl; exact rfl; infer_instance; exact ix_elem hxx (by omega); exact rfl; decide) | (apply q_bld; exact rfl; first | exact bld47_) | exact qt)) | refine xsg cts ?_ | (apply CW_condT; exact rfl; exact ar) | (apply CW_condF; exact rfl; exact ar) | (refine hK _ _ ?_; clear hK; refine xsg xsl ?_) | ((first | apply RW.a1 | apply RW.a0); (first | (apply gw_alloc (d := some 14); exact rfl; intro b14) | (apply gw_callvc (f := 51) (M := [.box nb 97 [.map (some nm)], .obj nm (seenO ((allT (p.fl.take j)).map Th.n ++ ((things f).take i).map Th.n))]); exact rfl; exact rfl; exact go51; exact pcs; intro G hG; refine SC.mono (seen_old x.n ((allT (p.fl.take j)).map Th.n ++ ((things f).take i).map Th.n) nb nm G hxn) ?_; rintro v M ⟨rfl, rfl⟩; (try dsimp only [jL, jM])) | (apply gw_callE (f := 27); exact rfl; exact go27; intro G hG; exact bad_spec 6 x.n G) | (apply gw_asg; exact rfl) | (apply gw_alloc; exact rfl; intro b) | (refine gw_stx sto ?_) | (fail))) | (apply CW_region; intro K hK) | (apply CW_condX; exact rfl; exact tst; exact tst; all_goals (intro hq hc; try exact no)))
          (refine CW_ret ?_; refine xsg xsl ?_; refine bodyS_ret (L' := []) (rs := [.cell 2 47]) (by kernel_rfl) (by (repeat (first | (apply resok_tmp; exact rfl) | (apply resok_cell; exact rfl; exact rfl; (focus ((iterate 16 (try (first | exact pick0 | apply pickS))); done)); (first | exact rfl | assumption | (simp only [List.length_map]; omega)); decide))); exact resok_nil) (by exact sbl) ?_)
          exact ⟨rfl, rfl⟩
        rw [dupO_go hxn, List.append_assoc, ← mtake_snoc hxx] at hD
        
        repeat' (first | (apply RW.q1; (first | (apply q_lao; exact rfl; exact rfl; infer_instance; exact ix_elem hxx (by omega); exact rfl; decide) | (apply q_bld; exact rfl; first | exact bld47_) | exact qt)) | refine xsg cts ?_ | (apply CW_condT; exact rfl; exact ar) | (apply CW_condF; exact rfl; exact ar) | (refine hK _ _ ?_; clear hK; refine xsg xsl ?_) | ((first | apply RW.a1 | apply RW.a0); (first | (apply gw_alloc (d := some 14); exact rfl; intro b14) | (apply gw_callvc (f := 51) (M := [.box nb 97 [.map (some nm)], .obj nm (seenO ((allT (p.fl.take j)).map Th.n ++ ((things f).take i).map Th.n))]); exact rfl; exact rfl; exact go51; exact pcs; intro G hG; refine SC.mono (seen_new x.n ((allT (p.fl.take j)).map Th.n ++ ((things f).take i).map Th.n) nb nm G hxn) ?_; rintro v M ⟨rfl, rfl⟩; rw [List.append_assoc, ← mtake_snoc hxx]; (try dsimp only [jL, jM])) | (apply gw_asg; exact rfl) | (apply gw_alloc; exact rfl; intro b) | (refine gw_stx sto ?_) | (fail))) | (apply CW_region; intro K hK) | (apply CW_condX; exact rfl; exact tst; exact tst; all_goals (intro hq hc; try exact no)))
        exact ⟨_, _, _, ⟨i + 1, rfl, rfl, rfl, by omega, hD⟩, by exact sbe, by exact sbl, by omega⟩
      obtain rfl : i = (things f).length := by omega
      rw [List.drop_length, List.take_length] at hD
      have hD1 : orO (dupF ((p.fl.take (j + 1)).map Fl.n) ((allT (p.fl.take (j + 1))).map Th.n) (p.fl.drop (j + 1))) (dupP ((l.take (k + 1)).map Pk.p) (l.drop (k + 1))) = dupP [] l := by
        rw [allT_snoc hfx, List.map_append]; exact hD
      have hnn2 : (allT (p.fl.take j)).map Th.n ++ ((things f).take (things f).length).map Th.n = (allT (p.fl.take (j + 1))).map Th.n := by rw [List.take_length, allT_snoc hfx, List.map_append]
      rw [hnn2]
      
      repeat' (first | (apply RW.q1; (first | (apply q_bld; exact rfl; first | exact bld47_) | exact qt)) | refine xsg cts ?_ | (apply CW_condT; exact rfl; exact ar) | (apply CW_condF; exact rfl; exact ar) | (refine hK _ _ ?_; clear hK; refine xsg xsl ?_) | ((first | apply RW.a1 | apply RW.a0); (first | (apply gw_asg; exact rfl) | (apply gw_alloc; exact rfl; intro b) | (refine gw_stx sto ?_) | (fail))) | (apply CW_region; intro K hK) | (apply CW_condX; exact rfl; exact tst; exact tst; all_goals (intro hq hc; try exact no)))
      exact ⟨_, _, _, ⟨j + 1, rfl, rfl, rfl, by omega, hD1⟩, by exact sbe, by exact sbl, by omega⟩
    obtain rfl : j = p.fl.length := by omega
    rw [List.drop_length] at hC
    have hC2 : dupP ((l.take (k + 1)).map Pk.p) (l.drop (k + 1)) = dupP [] l := hC
    
    repeat' (first | (apply RW.q1; (first | (apply q_bld; exact rfl; first | exact bld47_) | exact qt)) | refine xsg cts ?_ | (apply CW_condT; exact rfl; exact ar) | (apply CW_condF; exact rfl; exact ar) | (refine hK _ _ ?_; clear hK; refine xsg xsl ?_) | ((first | apply RW.a1 | apply RW.a0); (first | (apply gw_asg; exact rfl) | (apply gw_alloc; exact rfl; intro b) | (refine gw_stx sto ?_) | (fail))) | (apply CW_region; intro K hK) | (apply CW_condX; exact rfl; exact tst; exact tst; all_goals (intro hq hc; try exact no)))
    exact ⟨_, _, _, ⟨k + 1, rfl, rfl, rfl, by omega, hC2⟩, by exact sbe, by exact sbl, by omega⟩
  obtain rfl : k = l.length := by omega
  rw [List.drop_length] at hA
  rw [← hA]
  
  repeat' (first | (apply RW.q1; (first | (apply q_bld; exact rfl; first | exact bld47_) | exact qt)) | refine xsg cts ?_ | (apply CW_condT; exact rfl; exact ar) | (apply CW_condF; exact rfl; exact ar) | (refine hK _ _ ?_; clear hK; refine xsg xsl ?_) | ((first | apply RW.a1 | apply RW.a0); (first | (apply gw_asg; exact rfl) | (apply gw_alloc; exact rfl; intro b) | (refine gw_stx sto ?_) | (fail))) | (apply CW_region; intro K hK) | (apply CW_condX; exact rfl; exact tst; exact tst; all_goals (intro hq hc; try exact no)))
  (refine CW_ret ?_; refine xsg xsl ?_; refine bodyS_ret (L' := []) (rs := [.cell 2 47]) (by kernel_rfl) (by (repeat (first | (apply resok_tmp; exact rfl) | (apply resok_cell; exact rfl; exact rfl; (focus ((iterate 16 (try (first | exact pick0 | apply pickS))); done)); (first | exact rfl | assumption | (simp only [List.length_map]; omega)); decide))); exact resok_nil) (by exact sbl) ?_)
  exact ⟨rfl, rfl⟩
end Go.Proofs.Ytkhmimlgkjenfaa.HL
