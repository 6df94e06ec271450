/- BestB: PfxZa: choice, where the flag is not set. No condition. PieZ: pieces of one's own row, of elements of several cells: rules. No condition. PfxZb: choice: the prefixes of which one is the best. No condition. PfxZc: Best: what it answers, but for which prefix. Condition: the texts' lengths. PfxZe: Best, where the flag is set. Condition: a right number. -/
import Derived.Test.YtnhbipachchlgaaGreatBestAX
import Derived.Test.YtnhbipachchlgaaGreatPartsBX
import Derived.Test.YtnhbipachchlgaaGreatEngX
namespace Go.Proofs.YtnhbipachchlgaaGreat.HL
open Go
attribute [local irreducible] goFn thenS blockS bodyS CW RW DW GW QW NW SC Pick Picks SubL Rd NN ResOk SrcW subE hops hseg AW hgen HC qv bldv
set_option maxHeartbeats 8000000
set_option maxRecDepth 100000
set_option linter.unusedVariables false
set_option linter.unusedSimpArgs false

def chF (k : Nat) : List Px := ((pfx.drop (24 - k)).take k).reverse
theorem chF_step {k : Nat} {x : Px} (hk : k < 24) (hx : pfx[23 - k]? = some x) : chF (k + 1) = chF k ++ [x] := by
  unfold chF
  have e : 24 - (k + 1) = 23 - k := by omega
  have e2 : 24 - k = 23 - k + 1 := by omega
  have hlt : 23 - k < pfx.length := by rw [pfx_len]; omega
  rw [e, e2, List.drop_eq_getElem_cons hlt, List.take_succ_cons, List.reverse_cons]
  rw [List.getElem?_eq_getElem hlt] at hx
  rw [Option.some.inj hx]
theorem pf_len (l : List Px) : (l.flatMap encP).length = l.length * 5 := by
  induction l with
  | nil => rfl
  | cons x l ih =>
    rw [List.flatMap_cons, List.length_append, ih, show (encP x).length = 5 from rfl, List.length_cons]
    omega
theorem pf_ones (l : List Px) : (l.flatMap encP).all isOne = true := by
  induction l with
  | nil => rfl
  | cons x l ih =>
    rw [List.flatMap_cons, List.all_append, ih]; rfl
end Go.Proofs.YtnhbipachchlgaaGreat.HL
namespace Go.Proofs.YtnhbipachchlgaaGreat.HL
open Go
set_option linter.unusedSimpArgs false
set_option linter.unusedVariables false

section
variable {P : Program} {l : Ents} {H : Hp} {L L' : List Res} {d : Option Tmp} {T : TypeId} {pos : String} {aft : Array Edge} {gd : Option (Nat × Bool)}
theorem own_pt {G : Hp} {e : TypeId} {z n c : Nat} {a : Option Addr} {cs : List Value} (hp : Pick L (.own e z a n c cs) L') (hn : 0 < n) (hG : Hs H L G) (k : Nat) : a.map (·.add k) = pt a k := by
  obtain ⟨b, off, rfl⟩ := nn_own hp hn G hG
  simp only [pt, Option.map_some, add_none]
theorem q_slz {t e e' : TypeId} {n c z z' : Nat} {x lo : Operand} {a : Option Addr} {kl : IntKind} {i : Int} {cs : List Value} (p : Nat) [hu : Und P t (.slice e)] [hz : Szc P e z] (hx : evg l true x = some (.slice a n c)) (hl : evg l true lo = some (.int kl i)) (hp : POwn L a e' z' n c cs L') (hii : i = (p : Int)) (h : p < n) :
    QW P l H L ⟨d, .slice t x (some lo) none none, T, pos, aft, gd⟩ (.slice (pt a (p * z)) (n - p) (c - p)) := fun G hg => by
  have hc := own_cap hg hp.h
  have e0 : evo l true none = some none := rfl
  have e1 : evo l true (some lo) = some (some (.int kl i)) := by simp [evo, hl]
  have h3 := q_sls (P := P) (l := l) (t := t) (e := e) (z := z) (d := d) (T := T) (pos := pos) (aft := aft) (gd := gd) hx e1 e0 e0 (bnd_lo (by omega) (by omega) hc) G hg
  have h4 : i.toNat = p := by omega
  rw [h4, if_neg (by omega), own_pt hp.h (by omega) hg] at h3
  exact h3
theorem q_slhz {t e e' : TypeId} {n c z z' : Nat} {x lo hi : Operand} {a : Option Addr} {kl kh : IntKind} {i j : Int} {cs : List Value} (p m : Nat) [hu : Und P t (.slice e)] [hz : Szc P e z] (hx : evg l true x = some (.slice a n c)) (hl : evg l true lo = some (.int kl i)) (hh : evg l true hi = some (.int kh j)) (hp : POwn L a e' z' n c cs L') (hii : i = (p : Int)) (hjj : j = ((p + m : Nat) : Int)) (h : p < n ∧ p + m ≤ n) :
    QW P l H L ⟨d, .slice t x (some lo) (some hi) none, T, pos, aft, gd⟩ (.slice (pt a (p * z)) m (c - p)) := fun G hg => by
  have hc := own_cap hg hp.h
  have e0 : evo l true none = some none := rfl
  have e1 : evo l true (some lo) = some (some (.int kl i)) := by simp [evo, hl]
  have e2 : evo l true (some hi) = some (some (.int kh j)) := by simp [evo, hh]
  have h3 := q_sls (P := P) (l := l) (t := t) (e := e) (z := z) (d := d) (T := T) (pos := pos) (aft := aft) (gd := gd) hx e1 e2 e0 (bnd_lh (by omega) (by omega) (by omega)) G hg
  have h4 : i.toNat = p := by omega
  have h5 : j.toNat - p = m := by omega
  rw [h4, h5, if_neg (by omega), own_pt hp.h (by omega) hg] at h3
  exact h3
theorem src_mid {e : TypeId} {z n c : Nat} {a : Option Addr} {cs : List Value} (k m : Nat) (hp : Pick L (.own e z a n c cs) L') (hk : k + m ≤ n) (h0 : 0 < m) : SrcW H L z (.slice (pt a (k * z)) m (c - k)) m ((cs.drop (k * z)).take (m * z)) := fun G hg => by
  have hc := own_cap hg hp
  have h := sl_drop (sl_owns hp hg).1 (k := k) (by omega) hc
  rw [if_neg (by omega), own_pt hp (by omega) hg] at h
  exact .inl (rs_take h (by omega))
end
end Go.Proofs.YtnhbipachchlgaaGreat.HL
namespace Go.Proofs.YtnhbipachchlgaaGreat.HL
open Go
attribute [local irreducible] goFn thenS blockS bodyS CW RW DW GW QW NW SC Pick Picks SubL Rd NN ResOk SrcW subE hops hseg AW hgen HC qv bldv
set_option linter.unusedVariables false
set_option linter.unusedSimpArgs false

theorem pf_drop (l : List Px) (k : Nat) : (l.flatMap encP).drop (k * 5) = (l.drop k).flatMap encP := by
  induction l generalizing k with
  | nil => simp
  | cons x l ih =>
    cases k with
    | zero => simp
    | succ k =>
      rw [List.drop_succ_cons, ← ih k, List.flatMap_cons, show (k + 1) * 5 = 5 + k * 5 by omega, ← List.drop_drop]
      rfl
theorem pf_take (l : List Px) (k : Nat) : (l.flatMap encP).take (k * 5) = (l.take k).flatMap encP := by
  induction l generalizing k with
  | nil => simp
  | cons x l ih =>
    cases k with
    | zero => simp
    | succ k =>
      rw [List.take_succ_cons, List.flatMap_cons, List.flatMap_cons, ← ih k, show (k + 1) * 5 = 5 + k * 5 by omega, List.take_add]
      rfl
def chN : List Px := chF 10 ++ (pfx.drop 2).take 10
def chB : List Px := pfx.drop 24
theorem chN_ok : ∀ x ∈ chN, x ∈ pfx ∧ x.bn = false := by decide +kernel
theorem chB_ok : ∀ x ∈ chB, x ∈ pfx ∧ x.bn = true := by decide +kernel
theorem choiceB_spec (H : Hp) : SC Tryz.prog 22 [.bool true] H [] (fun v M => ∃ a c, v = .slice (pt a 120) 8 c ∧ ∃ N C, M = [.own 30 5 a N C (pfx.flatMap encP)] ∧ 0 < N) := by
  (refine SC_intro Tryz.func22 rfl (by kernel_rfl) (by rw [Tryz.ntmps22]; exact Nat.le_of_ble_eq_true rfl) ?_; simp only [Tryz.ntmps22, argE, Nat.reduceAdd])
  
  repeat' (first | (apply RW.q1; (first | (apply q_slz 24; exact rfl; exact rfl; infer_instance; exact rfl; omega) | exact qt)) | refine xsg cts ?_ | (apply CW_condT; exact rfl; exact ar) | (apply CW_condF; exact rfl; exact ar) | (refine hK _ _ ?_; clear hK; refine xsg xsl ?_) | ((first | apply RW.a1 | apply RW.a0); (first | (apply gw_call (f := 12); exact rfl; exact go12; intro G hG; refine SC.mono (all_spec G) ?_; rintro v M ⟨a, c, rfl, rfl⟩; (try dsimp only [jL, jM])) | (apply gw_asg; exact rfl) | (apply gw_lit1; exact rfl; exact rfl; exact rfl; exact rfl; decide; intro b) | (apply gw_lit2; exact rfl; exact rfl; exact rfl; exact rfl; intro b) | (apply gw_lit3; exact rfl; exact rfl; exact rfl; exact rfl; exact rfl; intro b) | (apply gw_ap1; exact rfl; exact rfl; infer_instance; infer_instance; exact rfl; exact rfl; exact rfl; exact rfl; omega; intro a c) | (apply gw_ap1n; exact rfl; exact rfl; infer_instance; exact rfl; exact rfl; exact rfl; exact rfl; omega; intro a c) | (fail))) | (apply CW_region; intro K hK) | (apply CW_condX; exact rfl; exact tst; exact tst; all_goals (intro hq hc; try exact no)))
  (refine CW_ret ?_; refine xsg xsl ?_; refine bR [.tmp 2] [.own 30 5 a 32 c (pfx.flatMap encP)] ?_)
  exact ⟨a, _, rfl, 32, c, rfl, by omega⟩
theorem choiceN_spec (H : Hp) : SC Tryz.prog 22 [.bool false] H [] (fun v M => ∃ a c, v = .slice a 20 c ∧ M = [.own 30 5 a 20 c (chN.flatMap encP)]) := by
  have hel : ∀ (i : Nat) (x : Px), pfx[i]? = some x → ∀ j : Nat, j = i * 5 → ((pfx.flatMap encP).drop j).take 5 = encP x := by
    rintro i x hx j rfl
    have := ix_elem (enc := encP) (i := (i : Int)) hx (Int.toNat_natCast i)
    rwa [Int.toNat_natCast] at this
  (refine SC_intro Tryz.func22 rfl (by kernel_rfl) (by rw [Tryz.ntmps22]; exact Nat.le_of_ble_eq_true rfl) ?_; simp only [Tryz.ntmps22, argE, Nat.reduceAdd])
  
  repeat' (first | (apply RW.q1; exact qt) | refine xsg cts ?_ | (apply CW_condT; exact rfl; exact ar) | (apply CW_condF; exact rfl; exact ar) | (refine hK _ _ ?_; clear hK; refine xsg xsl ?_) | ((first | apply RW.a1 | apply RW.a0); (first | (apply gw_call (f := 12); exact rfl; exact go12; intro G hG; refine SC.mono (all_spec G) ?_; rintro v M ⟨a, c, rfl, rfl⟩; (try dsimp only [jL, jM])) | (apply gw_asg; exact rfl) | (apply gw_lit1; exact rfl; exact rfl; exact rfl; exact rfl; decide; intro b) | (apply gw_lit2; exact rfl; exact rfl; exact rfl; exact rfl; intro b) | (apply gw_lit3; exact rfl; exact rfl; exact rfl; exact rfl; exact rfl; intro b) | (apply gw_ap1; exact rfl; exact rfl; infer_instance; infer_instance; exact rfl; exact rfl; exact rfl; exact rfl; omega; intro a c) | (apply gw_ap1n; exact rfl; exact rfl; infer_instance; exact rfl; exact rfl; exact rfl; exact rfl; omega; intro a c) | (fail))) | (apply CW_region; intro K hK) | (apply CW_condX; exact rfl; exact tst; exact tst; all_goals (intro hq hc; try exact no)))
  refine CW_loop (fun m l L => ∃ (k : Nat) (oa : Option Addr) (on oc : Nat) (os : List Value), m = 9 - k ∧ l = [(3, true, .slice a 32 c), (4, true, .slice oa on oc), (5, true, .int .i64 (23 - k))] ∧
      L = [.own 30 5 oa on oc os, .own 30 5 a 32 c (pfx.flatMap encP)] ∧ k ≤ 9 ∧ on = k ∧ os = (chF k).flatMap encP)
    ⟨_, _, _, ⟨0, none, 0, 0, [], rfl, rfl, rfl, by omega, rfl, rfl⟩, by exact sbe, by exact sbl⟩ ?_
  rintro m l L ⟨k, oa, on, oc, os, rfl, rfl, rfl, hk, rfl, rfl⟩
  by_cases hi : on < 9
  · obtain ⟨x, hx⟩ : ∃ x, pfx[23 - on]? = some x := ⟨_, List.getElem?_eq_getElem (by rw [pfx_len]; omega)⟩
    have hs := chF_step (by omega) hx
    have htk : (chF (on + 1)).flatMap encP = (chF on).flatMap encP ++ encP x := by
      rw [hs, List.flatMap_append]; simp
    repeat' (first | (apply RW.q1; (first | (apply q_lao; exact rfl; exact rfl; infer_instance; exact hel _ _ hx _ (by omega); exact rfl; decide) | exact qt)) | refine xsg cts ?_ | (apply CW_condT; exact rfl; exact ar) | (apply CW_condF; exact rfl; exact ar) | (refine hK _ _ ?_; clear hK; refine xsg xsl ?_) | ((first | apply RW.a1 | apply RW.a0); (first | (apply gw_asg; exact rfl) | (apply gw_lit1; exact rfl; exact rfl; exact rfl; exact rfl; decide; intro b) | (apply gw_lit2; exact rfl; exact rfl; exact rfl; exact rfl; intro b) | (apply gw_lit3; exact rfl; exact rfl; exact rfl; exact rfl; exact rfl; intro b) | (apply gw_ap1; exact rfl; exact rfl; infer_instance; infer_instance; exact rfl; exact rfl; exact rfl; exact rfl; omega; intro a c) | (apply gw_ap1n; exact rfl; exact rfl; infer_instance; exact rfl; exact rfl; exact rfl; exact rfl; omega; intro a c) | (fail))) | (apply CW_region; intro K hK) | (apply CW_condX; exact rfl; exact tst; exact tst; all_goals (intro hq hc; try exact no)))
    all_goals exact ⟨_, _, _, ⟨on + 1, _, _, _, _, rfl, rfl, rfl, by omega, rfl, htk.symm⟩, by exact sbe, by exact sbl, by omega⟩
  · obtain rfl : on = 9 := by omega
    obtain ⟨x, hx⟩ : ∃ x, pfx[14]? = some x := ⟨_, rfl⟩
    have hs := chF_step (k := 9) (by omega) hx
    have htk : (chF 10).flatMap encP = (chF 9).flatMap encP ++ encP x := by
      rw [hs, List.flatMap_append]; simp
    have hend : (chF 9).flatMap encP ++ encP x ++ (((pfx.flatMap encP).drop (2 * 5)).take (10 * 5)) = chN.flatMap encP := by
      rw [← htk, pf_drop, pf_take, ← List.flatMap_append]; rfl
    repeat' (first | (apply RW.q1; (first | (apply q_lao; exact rfl; exact rfl; infer_instance; exact hel _ _ hx _ (by omega); exact rfl; decide) | (apply q_slhz 2 10; exact rfl; exact rfl; exact rfl; infer_instance; exact rfl; exact rfl; omega) | exact qt)) | refine xsg cts ?_ | (apply CW_condT; exact rfl; exact ar) | (apply CW_condF; exact rfl; exact ar) | (refine hK _ _ ?_; clear hK; refine xsg xsl ?_) | ((first | apply RW.a1 | apply RW.a0); (first | (refine gw_append (e := 30) (z := 5) (n := 10) (m := 10) (ys := ((pfx.flatMap encP).drop (2 * 5)).take (10 * 5)) rfl rfl rfl rfl (by exact pkx) (src_mid 2 10 (by exact pkx) (by omega) (by omega)) subl_refl (by rw [pf_drop, pf_take, pf_len]; rfl) (by rw [pf_drop, pf_take, pf_ones]) (by omega) (by omega) (fun a2 c2 => ?_); rw [hend]) | (apply gw_asg; exact rfl) | (apply gw_lit1; exact rfl; exact rfl; exact rfl; exact rfl; decide; intro b) | (apply gw_lit2; exact rfl; exact rfl; exact rfl; exact rfl; intro b) | (apply gw_lit3; exact rfl; exact rfl; exact rfl; exact rfl; exact rfl; intro b) | (apply gw_ap1; exact rfl; exact rfl; infer_instance; infer_instance; exact rfl; exact rfl; exact rfl; exact rfl; omega; intro a c) | (apply gw_ap1n; exact rfl; exact rfl; infer_instance; exact rfl; exact rfl; exact rfl; exact rfl; omega; intro a c) | (fail))) | (apply CW_region; intro K hK) | (apply CW_condX; exact rfl; exact tst; exact tst; all_goals (intro hq hc; try exact no)))
    (refine CW_ret ?_; refine xsg xsl ?_; refine bR [.tmp 2] [.own 30 5 a2 20 c2 (chN.flatMap encP)] ?_)
    exact ⟨a2, c2, rfl, rfl⟩
end Go.Proofs.YtnhbipachchlgaaGreat.HL
namespace Go.Proofs.YtnhbipachchlgaaGreat.HL
open Go
attribute [local irreducible] goFn thenS blockS bodyS CW RW DW GW QW NW SC Pick Picks SubL Rd NN ResOk SrcW subE hops hseg AW hgen HC qv bldv
set_option linter.unusedVariables false
set_option linter.unusedSimpArgs false

def bestV (o : Option Px) (x y : List UInt8) (e : Int) : Value := .tuple #[preV o, ratV x y, .int .i64 e]
theorem told_any (p q : Int) : ∃ x y e, toldV p q = .tuple #[ratV x y, .int .i64 e] := by
  obtain ⟨x, y, e, h, _⟩ := told_len p q
  exact ⟨x, y, e, h⟩
theorem quoP_spec {n d : List UInt8} {a : Int} {q : Nat} (h : readQ n d = some (a, q)) {x : Px} (hx : x ∈ pfx) {X Y : List UInt8} {e : Int} (hT : toldV (fn (a * (powN 1 (byP x) x.pw : Nat)) ((q : Int) * (powN (byP x) 1 x.pw : Nat))) (fd (a * (powN 1 (byP x) x.pw : Nat)) ((q : Int) * (powN (byP x) 1 x.pw : Nat))) = .tuple #[ratV X Y, .int .i64 e]) (H : Hp) :
    SC Tryz.prog 24 [ratV n d, ratV (facN x) (facD x)] H [] (fun v M => v = .tuple #[ratV X Y, .int .i64 e] ∧ M = []) := by
  have h0 : 0 < byP x := by have := (byP_le x).2; omega
  have hp := powN_pos (n := x.pw) h0 (by decide : 0 < 1)
  have := quo_ok _ _ _ _ _ _ _ _ h (readQ_fac hx) (by omega) H
  rw [hT] at this
  exact this
theorem best_no (n d : List UInt8) (bn : Bool) (hn : (n.length : Int) ≤ 9223372036854775807) (hd : (d.length : Int) ≤ 9223372036854775807) (h : readQ n d = none) (H : Hp) :
    SC Tryz.prog 9 [ratV n d, .bool bn] H [] (fun v M => v = bestV none [] [] 3 ∧ M = []) := by
  have hR := fun G => right_no n d hn hd h G
  (refine SC_intro Tryz.func9 rfl (by kernel_rfl) (by rw [Tryz.ntmps9]; exact Nat.le_of_ble_eq_true rfl) ?_; simp only [Tryz.ntmps9, argE, Nat.reduceAdd])
  
  repeat' (first | ((first | apply RW.q1 | (apply DW.q1; exact rfl)); (first | (apply q_bld; exact rfl; first | exact bld26_ | exact bld30_) | exact qt)) | ((first | apply RW.qg | (apply DW.qg; exact rfl)); exact gvx; refine hgx tst ?_; intro hg hg'; (first | (apply q_bld; exact rfl; first | exact bld26_ | exact bld30_) | exact qu)) | refine xsg cts ?_ | (apply CW_condT; exact rfl; exact ar) | (apply CW_condF; exact rfl; exact ar) | ((first | apply RW.s1 | apply RW.s0 | (apply DW.sa; exact rfl)); exact gva) | (refine hK _ _ ?_; clear hK; refine xsg xsl ?_) | (refine xsg ahd ?_; (first | ((first | apply gw_callE (f := 19) | apply gx_callE (f := 19)); exact evx; exact go19; intro G hG; exact hR G) | (apply gw_asg; exact rfl) | ((first | apply gw_alloc | apply gx_alloc); exact rfl; intro b) | ((first | apply gw_box | apply gx_box); exact rfl; exact rfl; intro b) | (refine gw_stx sto ?_) | (fail))) | (apply CW_region; intro K hK) | (apply CW_condX; exact rfl; exact tst; exact tst; all_goals (intro hq hc; try exact no)) | (refine CW_drawS (id := 8) [1, 2, 3] [([1, 2, 3], [], [(0, false), (1, false), (2, true), (3, true), (4, false)]), ([2, 1, 3], [], [(0, false), (2, true), (1, false), (3, true), (4, false)])] mixed (by kernel_rfl) ⟨fun K hK => ?_, fun K hK => ?_, trivial⟩) | (refine CW_drawS (id := 19) [1, 2, 3] [([1, 2, 3], [], [(0, false), (1, false), (2, true), (3, true), (4, false)]), ([2, 1, 3], [], [(0, false), (2, true), (1, false), (3, true), (4, false)])] mixed (by kernel_rfl) ⟨fun K hK => ?_, fun K hK => ?_, trivial⟩))
  (refine CW_ret ?_; refine xsg xsl ?_; refine bodyS_ret (L' := []) (rs := [.cell 4 30, .cell 5 26, .tmp 6]) (by kernel_rfl) (by (repeat (first | (apply resok_tmp; exact rfl) | (apply resok_cell; exact rfl; exact rfl; (focus ((iterate 16 (try (first | exact pick0 | apply pickS))); done)); (first | exact rfl | assumption | (simp only [List.length_map]; omega)); decide))); exact resok_nil) (by exact sbl) ?_)
  exact ⟨rfl, rfl⟩
theorem lim_ok {k : Nat} (hk : k ≤ 1024) : readQ (decB (k : Int)) [49] = some ((k : Int), 1) := by
  have hl : (Lib.decDigits k).length ≤ 600 := by have := pow_small (k := 1) hk (by decide); rwa [Nat.pow_one] at this
  have e49 : ([49] : List UInt8) = Lib.decDigits 1 := by rw [dec_small (by decide)]; rfl
  rw [decB_nat, e49]
  exact readQ_dec hl one_dec (by decide) (Nat.gcd_one_right _)
end Go.Proofs.YtnhbipachchlgaaGreat.HL
namespace Go.Proofs.YtnhbipachchlgaaGreat.HL
open Go
attribute [local irreducible] goFn thenS blockS bodyS CW RW DW GW QW NW SC Pick Picks SubL Rd NN ResOk SrcW subE hops hseg AW hgen HC qv bldv
set_option linter.unusedVariables false
set_option linter.unusedSimpArgs false

end Go.Proofs.YtnhbipachchlgaaGreat.HL
