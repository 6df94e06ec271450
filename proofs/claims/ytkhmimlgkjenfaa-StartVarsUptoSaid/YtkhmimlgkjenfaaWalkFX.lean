/- WalkF: StaZe: the walk in depth of leans: what it marks and lists. Conditions: lengths; the rows hold numbers of places. StaZf: leans: the variables on which each thing leans. Conditions: lengths; single names. StaZg: is one of these not yet taken? Conditions: lengths. StaZh: start.vars: the cycle told first, or the variables in their order. Conditions: lengths; single names. -/
import Derived.Test.YtkhmimlgkjenfaaEngX
import Derived.Test.YtkhmimlgkjenfaaWalkDX
import Derived.Test.YtkhmimlgkjenfaaWalkEX
import Derived.Test.YtkhmimlgkjenfaaWalkBX
namespace Go.Proofs.Ytkhmimlgkjenfaa.HL
open Go
attribute [local irreducible] goFn thenS blockS bodyS CW RW DW GW QW NW SC Pick Picks SubL Rd NN ResOk SrcW subE hops hseg AW hgen HC qv bldv
set_option maxHeartbeats 8000000
set_option maxRecDepth 100000
set_option linter.unusedVariables false
set_option linter.unusedSimpArgs false

abbrev dwStaZe0 : List (List Nat × List Nat × List (Nat × Bool)) := [([0, 1, 7, 8, 10], [7], [(0, false), (1, false), (2, false), (3, false), (4, false), (5, false), (6, false), (7, true), (8, true), (9, false), (10, true)]), ([0, 7, 1, 8, 10], [7], [(0, false), (2, false), (3, false), (4, false), (5, false), (6, false), (7, true), (1, false), (8, true), (9, false), (10, true)]), ([0, 7, 8, 1, 10], [7], [(0, false), (2, false), (3, false), (4, false), (5, false), (6, false), (7, true), (8, true), (1, false), (9, false), (10, true)]), ([1, 0, 7, 8, 10], [7], [(1, false), (0, false), (2, false), (3, false), (4, false), (5, false), (6, false), (7, true), (8, true), (9, false), (10, true)]), ([1, 7, 0, 8, 10], [7], [(1, false), (2, false), (3, false), (4, false), (5, false), (6, false), (7, true), (0, false), (8, true), (9, false), (10, true)]), ([1, 7, 8, 0, 10], [7], [(1, false), (2, false), (3, false), (4, false), (5, false), (6, false), (7, true), (8, true), (0, false), (9, false), (10, true)]), ([7, 0, 1, 8, 10], [7], [(2, false), (3, false), (4, false), (5, false), (6, false), (7, true), (0, false), (1, false), (8, true), (9, false), (10, true)]), ([7, 0, 8, 1, 10], [7], [(2, false), (3, false), (4, false), (5, false), (6, false), (7, true), (0, false), (8, true), (1, false), (9, false), (10, true)]), ([7, 1, 0, 8, 10], [7], [(2, false), (3, false), (4, false), (5, false), (6, false), (7, true), (1, false), (0, false), (8, true), (9, false), (10, true)]), ([7, 1, 8, 0, 10], [7], [(2, false), (3, false), (4, false), (5, false), (6, false), (7, true), (1, false), (8, true), (0, false), (9, false), (10, true)]), ([7, 8, 0, 1, 10], [7], [(2, false), (3, false), (4, false), (5, false), (6, false), (7, true), (8, true), (0, false), (1, false), (9, false), (10, true)]), ([7, 8, 1, 0, 10], [7], [(2, false), (3, false), (4, false), (5, false), (6, false), (7, true), (8, true), (1, false), (0, false), (9, false), (10, true)])]
theorem bools_len (d : List Bool) : (bools d).length = d.length := List.length_map _
theorem rwvs_len (d : List Rw) : (rwvs d).length = d.length := List.length_map _
section
variable {P : Program} {l : Ents} {H : Hp} {L L' : List Res} {K : Value → List Res → Prop} {dd : Option Tmp} {T : TypeId} {pos : String} {aft : Array Edge} {gd : Option (Nat × Bool)}
theorem gw_soB {t e : TypeId} {m c k : Nat} {x y : Operand} {a : Option Addr} {d : List Bool} {w : Bool} (i : Nat) [hz : Szc P t 1] (hx : evg l true x = some (.pointer (pt a k))) (hy : evg l true y = some (.bool w)) (hp : POwn L a e 1 m c (bools d) L')
    (hk : k = i) (hl : i < d.length) (h : K undef (.own e 1 a m c (bools (d.set i w)) :: L')) : GW P l ⟨dd, .store t x y, T, pos, aft, gd⟩ H L K := by
  subst hk
  exact gw_so1 hx hy hp rfl rfl (by rw [bools_len]; exact hl) (by rw [show (bools d).set k (.bool w) = bools (d.set k w) by simp [bools, List.map_set]]; exact h)
theorem gw_soR {t e : TypeId} {m c k n : Nat} {x y : Operand} {a : Option Addr} {d : List Rw} {ra : Option Addr} {rc : Nat} (i : Nat) (r : List Nat) [hz : Szc P t 1] (hx : evg l true x = some (.pointer (pt a k))) (hy : evg l true y = some (.slice ra n rc)) (hp : POwn L a e 1 m c (rwvs d) L')
    (hk : k = i) (hl : i < d.length) (hn : n = r.length) (h : K undef (.own e 1 a m c (rwvs (d.set i ⟨ra, rc, r⟩)) :: L')) : GW P l ⟨dd, .store t x y, T, pos, aft, gd⟩ H L K := by
  subst hk
  subst hn
  exact gw_so1 hx hy hp rfl rfl (by rw [rwvs_len]; exact hl) (by rw [show (rwvs d).set k (.slice ra r.length rc) = rwvs (d.set k ⟨ra, rc, r⟩) by simp [rwvs, rwV, List.map_set]]; exact h)
end
theorem th_v {l : List Th} {k j : Nat} {x : Th} (hx : l[k]? = some x) (hj : j = k * 3 + 1) : ((l.flatMap thC).drop j).take 1 = [.bool x.v] := by
  subst hj
  exact ix_fld (enc := thC) (off := 1) (n := 1) (i := (k : Int)) hx (by omega) (by omega)
theorem rwv_at3 {d : List Rw} {k j : Nat} {a : Option Addr} {c : Nat} {l : List Nat} (hx : d[k]? = some ⟨a, c, l⟩) (hj : j = k) : ((rwvs d).drop j).take 1 = [.slice a l.length c] := rwv_at hx hj
def left0 (d : List Bool) : Nat := d.countP (fun b => !b)
theorem left_set {d : List Bool} {x : Nat} (hx : d[x]? = some false) : left0 (d.set x true) + 1 = left0 d := by
  induction d generalizing x with
  | nil => cases hx
  | cons a d ih =>
    cases x with
    | zero =>
      obtain rfl : a = false := by simpa using hx
      unfold left0
      rw [List.set_cons_zero, List.countP_cons, List.countP_cons]; simp
    | succ x =>
      have := ih (x := x) hx
      unfold left0 at *
      rw [List.set_cons_succ, List.countP_cons, List.countP_cons]
      omega
theorem set_same {α : Type} {l : List α} {i : Nat} {x : α} (h : l[i]? = some x) : l.set i x = l := by
  obtain ⟨hl, rfl⟩ := List.getElem?_eq_some_iff.1 h
  exact List.set_getElem_self hl
theorem left_le (d : List Bool) : left0 d ≤ d.length := List.countP_le_length
abbrev wkV (b3 b6 b1 b4 b5 b7 : Nat) : Value := .func (.func 61) #[] #[.pointer (some ⟨b3, 0, none⟩), .pointer (some ⟨b6, 0, none⟩), .pointer (some ⟨b1, 0, none⟩), .pointer (some ⟨b4, 0, none⟩), .pointer (some ⟨b5, 0, none⟩), .pointer (some ⟨b7, 0, none⟩)]
theorem walk_spec (t : List Th) (rows : List Rw) (na xa ma ta : Option Addr) (nc xc mc tc : Nat) (b3 b6 b1 b4 b5 b7 i : Nat) (hr : NetRows t rows) (hl : t.length ≤ 1048576) (hu : ∀ x, x ∈ t → x.u.length ≤ 1048576) (hi : i < t.length) : ∀ (N : Nat) (k : Nat) (r : Rw) (d : List Bool) (o : List Nat) (da oa ra : Option Addr) (dc oc rc : Nat) (outs : List Rw) (H : Hp),
    left0 d ≤ N → o.length + left0 d ≤ 1048576 → rows[k]? = some r → d.length = t.length → outs.length = t.length → outs[i]? = some ⟨ra, rc, o⟩ → Rs H 3 ta t.length tc (t.flatMap thC) → Rs H 1 xa t.length xc (rwvs rows) → (∀ r, r ∈ rows → rwOk H r) →
    SC Try.prog 61 [.int .i64 (k : Nat), .pointer (some ⟨b3, 0, none⟩), .pointer (some ⟨b6, 0, none⟩), .pointer (some ⟨b1, 0, none⟩), .pointer (some ⟨b4, 0, none⟩), .pointer (some ⟨b5, 0, none⟩), .pointer (some ⟨b7, 0, none⟩)] H
      [.box b3 76 [.slice na t.length nc, .slice xa t.length xc, .slice ma t.length mc], .box b6 74 [.slice da t.length dc], .own 4 1 da t.length dc (bools d), .box b1 62 [.slice ta t.length tc], .box b4 73 [.slice oa t.length oc], .own 80 1 oa t.length oc (rwvs outs), .own 3 1 ra o.length rc (nums o), .box b5 3 [.int .i64 (i : Nat)], .box b7 107 [wkV b3 b6 b1 b4 b5 b7]]
      (fun v M => ∃ d2 o2 ra2 rc2, Dfs (rows.map Rw.l) (VI t) k r.l.length r.l d d2 o o2 ∧ o2.length + left0 d2 ≤ 1048576 ∧ left0 d2 ≤ left0 d ∧
        M = [.box b3 76 [.slice na t.length nc, .slice xa t.length xc, .slice ma t.length mc], .box b6 74 [.slice da t.length dc], .own 4 1 da t.length dc (bools d2), .box b1 62 [.slice ta t.length tc], .box b4 73 [.slice oa t.length oc], .own 80 1 oa t.length oc (rwvs (outs.set i ⟨ra2, rc2, o2⟩)), .own 3 1 ra2 o2.length rc2 (nums o2), .box b5 3 [.int .i64 (i : Nat)], .box b7 107 [wkV b3 b6 b1 b4 b5 b7]]) := by
  have hrl := hr.1
  have hNet := hr.net
  intro N
  induction N using Nat.strongRecOn with
  | ind N ih =>
    intro k r d o da oa ra dc oc rc outs H hN hB hk hdl hol ho hrt hrx hro
    have hkl := (List.getElem?_eq_some_iff.1 hk).1
    obtain ⟨x0, hx0⟩ : ∃ x, t[k]? = some x := ⟨_, List.getElem?_eq_getElem (by omega)⟩
    have hrr : Rs H 1 r.a r.l.length r.c (nums r.l) := hro r (List.mem_of_getElem? hk)
    have hrxl := (hr.2 k r x0 hk hx0).2
    have hx0u := hu x0 (List.mem_of_getElem? hx0)
    have hnk : (rows.map Rw.l)[k]? = some r.l := by rw [List.getElem?_map, hk]; rfl
    (refine SC_intro Try.func61 rfl (by kernel_rfl) (by rw [Try.ntmps61]; exact Nat.le_of_ble_eq_true rfl) ?_; simp only [Try.ntmps61, argE, Nat.reduceAdd])
    
    repeat' (first | ((first | apply RW.q1 | (apply DW.q1; exact rfl)); (first | (apply q_ldr; exact rfl; exact rfl; exact hrx; exact rwv_at hk (by omega)) | exact qt)) | refine xsg cts ?_ | (apply CW_condT; exact rfl; exact ar) | (apply CW_condF; exact rfl; exact ar) | (refine hK _ _ ?_; clear hK; refine xsg xsl ?_) | (refine xsg ahd ?_; (first | (apply gw_asg; exact rfl) | (apply gw_lit1; exact rfl; exact rfl; exact rfl; exact rfl; decide; intro b) | (apply gw_lit2; exact rfl; exact rfl; exact rfl; exact rfl; intro b) | (apply gw_lit3; exact rfl; exact rfl; exact rfl; exact rfl; exact rfl; intro b) | (apply gw_ap1; exact rfl; exact rfl; infer_instance; infer_instance; exact rfl; exact rfl; exact rfl; exact rfl; omega; intro a c) | (apply gw_ap1n; exact rfl; exact rfl; infer_instance; exact rfl; exact rfl; exact rfl; exact rfl; omega; intro a c) | (refine gw_stx sto ?_) | (fail))) | (apply CW_region; intro K hK) | (apply CW_condX; exact rfl; exact tst; exact tst; all_goals (intro hq hc; try exact no)) | (refine CW_drawS (id := 6) [0, 1, 7, 8, 10] dwStaZe0 mixed (by kernel_rfl) ⟨fun K hK => ?_, fun K hK => ?_, fun K hK => ?_, fun K hK => ?_, fun K hK => ?_, fun K hK => ?_, fun K hK => ?_, fun K hK => ?_, fun K hK => ?_, fun K hK => ?_, fun K hK => ?_, fun K hK => ?_, trivial⟩))
    refine CW_loop (fun m ll L => ∃ (j : Nat) (d2 : List Bool) (o2 : List Nat) (ra2 : Option Addr) (rc2 : Nat) (outs2 : List Rw), m = r.l.length - j ∧ ll = [(1, true, .pointer (some ⟨b3, 0, none⟩)), (2, true, .pointer (some ⟨b6, 0, none⟩)), (3, true, .pointer (some ⟨b1, 0, none⟩)), (4, true, .pointer (some ⟨b4, 0, none⟩)), (5, true, .pointer (some ⟨b5, 0, none⟩)), (6, true, .pointer (some ⟨b7, 0, none⟩)), (14, true, .slice r.a r.l.length r.c), (15, true, .int .i64 r.l.length), (16, true, .int .i64 (j : Nat))] ∧
        L = [.box b3 76 [.slice na t.length nc, .slice xa t.length xc, .slice ma t.length mc], .box b6 74 [.slice da t.length dc], .own 4 1 da t.length dc (bools d2), .box b1 62 [.slice ta t.length tc], .box b4 73 [.slice oa t.length oc], .own 80 1 oa t.length oc (rwvs outs2), .own 3 1 ra2 o2.length rc2 (nums o2), .box b5 3 [.int .i64 (i : Nat)], .box b7 107 [wkV b3 b6 b1 b4 b5 b7]] ∧
        j ≤ r.l.length ∧ Dfs (rows.map Rw.l) (VI t) k j r.l d d2 o o2 ∧ o2.length + left0 d2 ≤ 1048576 ∧ left0 d2 ≤ left0 d ∧ outs2 = outs.set i ⟨ra2, rc2, o2⟩)
      ⟨_, _, _, ⟨0, d, o, ra, rc, outs, rfl, rfl, rfl, by omega, Dfs.start, hB, Nat.le_refl _, (set_same ho).symm⟩, by exact sbe, sblt⟩ ?_
    rintro m ll L ⟨j, d2, o2, ra2, rc2, outs2, rfl, rfl, rfl, hj, hD, hB2, hL2, hO2⟩
    have hd2l : d2.length = t.length := hD.len.trans hdl
    have ho2l : outs2.length = t.length := by rw [hO2, List.length_set]; exact hol
    have ho2i : outs2[i]? = some ⟨ra2, rc2, o2⟩ := by rw [hO2, List.getElem?_set_self (by omega)]
    by_cases hjl : j < r.l.length
    · obtain ⟨x, hxj⟩ : ∃ x, r.l[j]? = some x := ⟨_, List.getElem?_eq_getElem hjl⟩
      have hnx : Nx (rows.map Rw.l) k x := (nx_at hk).2 (List.mem_of_getElem? hxj)
      have hxl := hNet.lt k x hnx
      obtain ⟨y, hy⟩ : ∃ y, t[x]? = some y := ⟨_, List.getElem?_eq_getElem hxl⟩
      obtain ⟨bx, hbx⟩ : ∃ b, d2[x]? = some b := ⟨_, List.getElem?_eq_getElem (by omega)⟩
      cases bx with
      | true =>
        have hskip := hD.skip hxj hbx
        
        repeat' (first | ((first | apply RW.q1 | (apply DW.q1; exact rfl)); (first | (apply q_ldr; exact rfl; exact rfl; exact hrr; exact nums_at hxj (by omega)) | (apply q_ldo; exact rfl; exact rfl; infer_instance; exact bools_at hbx (by omega)) | exact qt)) | refine xsg cts ?_ | (apply CW_condT; exact rfl; exact ar) | (apply CW_condF; exact rfl; exact ar) | (refine hK _ _ ?_; clear hK; refine xsg xsl ?_) | (refine xsg ahd ?_; (first | (apply gw_asg; exact rfl) | (apply gw_lit1; exact rfl; exact rfl; exact rfl; exact rfl; decide; intro b) | (apply gw_lit2; exact rfl; exact rfl; exact rfl; exact rfl; intro b) | (apply gw_lit3; exact rfl; exact rfl; exact rfl; exact rfl; exact rfl; intro b) | (apply gw_ap1; exact rfl; exact rfl; infer_instance; infer_instance; exact rfl; exact rfl; exact rfl; exact rfl; omega; intro a c) | (apply gw_ap1n; exact rfl; exact rfl; infer_instance; exact rfl; exact rfl; exact rfl; exact rfl; omega; intro a c) | (refine gw_stx sto ?_) | (fail))) | (apply CW_region; intro K hK) | (apply CW_condX; exact rfl; exact tst; exact tst; all_goals (intro hq hc; try exact no)) | (refine CW_drawS (id := 6) [0, 1, 7, 8, 10] dwStaZe0 mixed (by kernel_rfl) ⟨fun K hK => ?_, fun K hK => ?_, fun K hK => ?_, fun K hK => ?_, fun K hK => ?_, fun K hK => ?_, fun K hK => ?_, fun K hK => ?_, fun K hK => ?_, fun K hK => ?_, fun K hK => ?_, fun K hK => ?_, trivial⟩))
        exact ⟨_, _, _, ⟨j + 1, d2, o2, ra2, rc2, outs2, rfl, rfl, rfl, by omega, hskip, hB2, hL2, hO2⟩, by exact sbe, sblt, by omega⟩
      | false =>
        obtain ⟨r2, hr2⟩ : ∃ r, rows[x]? = some r := ⟨_, List.getElem?_eq_getElem (by omega)⟩
        have hnk2 : (rows.map Rw.l)[x]? = some r2.l := by rw [List.getElem?_map, hr2]; rfl
        have hls := left_set hbx
        have hdsl : (d2.set x true).length = t.length := by rw [List.length_set]; exact hd2l
        have hnd : ¬ Dn d2 x := fun h => by unfold Dn at h; rw [hbx] at h; cases h
        cases hyv : y.v with
        | true =>
          have hV : VI t x := ⟨y, hy, hyv⟩
          have hlen : o2.length + 1 = (o2 ++ [x]).length := by simp
          
          repeat' (first | ((first | apply RW.q1 | (apply DW.q1; exact rfl)); (first | (apply q_ldr; exact rfl; exact rfl; exact hrr; exact nums_at hxj (by omega)) | (apply q_ldo; exact rfl; exact rfl; infer_instance; first | exact bools_at hbx (by omega) | exact rwv_at3 ho2i (by omega)) | (apply q_ldr; exact rfl; exact rfl; exact hrt; (rw [← hyv]; exact th_v hy (by omega))) | exact qt)) | refine xsg cts ?_ | (apply CW_condT; exact rfl; exact ar) | (apply CW_condF; exact rfl; exact ar) | (refine hK _ _ ?_; clear hK; refine xsg xsl ?_) | (refine xsg ahd ?_; (first | (apply gw_soB x; exact rfl; exact rfl; infer_instance; omega; omega) | (apply gx_lit1; exact rfl; exact rfl; exact rfl; exact rfl; decide; intro b) | (apply gw_ap1; exact rfl; exact rfl; infer_instance; infer_instance; exact rfl; exact rfl; exact rfl; exact rfl; omega; intro xa2 xc2; rw [nums_snoc, hlen]) | (apply gw_soR i (o2 ++ [x]); exact rfl; exact rfl; infer_instance; omega; omega; exact rfl) | (apply gw_callvc (f := 61) (M := [.box b3 76 [.slice na t.length nc, .slice xa t.length xc, .slice ma t.length mc], .box b6 74 [.slice da t.length dc], .own 4 1 da t.length dc (bools (d2.set x true)), .box b1 62 [.slice ta t.length tc], .box b4 73 [.slice oa t.length oc], .own 80 1 oa t.length oc (rwvs (outs2.set i ⟨xa2, xc2, o2 ++ [x]⟩)), .own 3 1 xa2 (o2 ++ [x]).length xc2 (nums (o2 ++ [x])), .box b5 3 [.int .i64 (i : Nat)], .box b7 107 [wkV b3 b6 b1 b4 b5 b7]]); exact rfl; exact rfl; exact go61; exact pcs; intro G hG; refine SC.mono (ih (left0 (d2.set x true)) (by omega) x r2 (d2.set x true) (o2 ++ [x]) da oa xa2 dc oc xc2 (outs2.set i ⟨xa2, xc2, o2 ++ [x]⟩) G (Nat.le_refl _) (by omega) hr2 hdsl (by rw [List.length_set]; exact ho2l) (by rw [List.getElem?_set_self (by omega)]) (hrt.ext hG.ext) (hrx.ext hG.ext) (fun r h => (hro r h).ext hG.ext)) ?_; rintro v M ⟨d3, o3, ra3, rc3, hD3, hB3, hL3, rfl⟩; (try dsimp only [jL, jM])) | (apply gw_asg; exact rfl) | (apply gw_lit1; exact rfl; exact rfl; exact rfl; exact rfl; decide; intro b) | (apply gw_lit2; exact rfl; exact rfl; exact rfl; exact rfl; intro b) | (apply gw_lit3; exact rfl; exact rfl; exact rfl; exact rfl; exact rfl; intro b) | (apply gw_ap1; exact rfl; exact rfl; infer_instance; infer_instance; exact rfl; exact rfl; exact rfl; exact rfl; omega; intro a c) | (apply gw_ap1n; exact rfl; exact rfl; infer_instance; exact rfl; exact rfl; exact rfl; exact rfl; omega; intro a c) | (refine gw_stx sto ?_) | (fail))) | (apply CW_region; intro K hK) | (apply CW_condX; exact rfl; exact tst; exact tst; all_goals (intro hq hc; try exact no)) | (refine CW_drawS (id := 6) [0, 1, 7, 8, 10] dwStaZe0 mixed (by kernel_rfl) ⟨fun K hK => ?_, fun K hK => ?_, fun K hK => ?_, fun K hK => ?_, fun K hK => ?_, fun K hK => ?_, fun K hK => ?_, fun K hK => ?_, fun K hK => ?_, fun K hK => ?_, fun K hK => ?_, fun K hK => ?_, trivial⟩))
          all_goals have hD4 := hD.walk (m := 0) hnk hnk2 hxj (by omega) hnd (o1 := o2 ++ [x]) (fun z => by rw [List.mem_append, List.mem_singleton]; exact or_congr Iff.rfl ⟨fun h => ⟨h, h ▸ hV⟩, fun h => h.1⟩) hD3
          all_goals exact ⟨_, _, _, ⟨j + 1, d3, o3, ra3, rc3, (outs2.set i ⟨xa2, xc2, o2 ++ [x]⟩).set i ⟨ra3, rc3, o3⟩, rfl, rfl, rfl, by omega, hD4, hB3, by omega, by rw [List.set_set, hO2, List.set_set]⟩, by exact sbe, sblt, by omega⟩
        | false =>
          have hV : ¬ VI t x := fun ⟨z, hz, hv⟩ => by rw [hy] at hz; cases hz; rw [hyv] at hv; cases hv
          
          repeat' (first | ((first | apply RW.q1 | (apply DW.q1; exact rfl)); (first | (apply q_ldr; exact rfl; exact rfl; exact hrr; exact nums_at hxj (by omega)) | (apply q_ldo; exact rfl; exact rfl; infer_instance; exact bools_at hbx (by omega)) | (apply q_ldr; exact rfl; exact rfl; exact hrt; (rw [← hyv]; exact th_v hy (by omega))) | exact qt)) | refine xsg cts ?_ | (apply CW_condT; exact rfl; exact ar) | (apply CW_condF; exact rfl; exact ar) | (refine hK _ _ ?_; clear hK; refine xsg xsl ?_) | (refine xsg ahd ?_; (first | (apply gw_soB x; exact rfl; exact rfl; infer_instance; omega; omega) | (apply gw_callvc (f := 61) (M := [.box b3 76 [.slice na t.length nc, .slice xa t.length xc, .slice ma t.length mc], .box b6 74 [.slice da t.length dc], .own 4 1 da t.length dc (bools (d2.set x true)), .box b1 62 [.slice ta t.length tc], .box b4 73 [.slice oa t.length oc], .own 80 1 oa t.length oc (rwvs outs2), .own 3 1 ra2 o2.length rc2 (nums o2), .box b5 3 [.int .i64 (i : Nat)], .box b7 107 [wkV b3 b6 b1 b4 b5 b7]]); exact rfl; exact rfl; exact go61; exact pcs; intro G hG; refine SC.mono (ih (left0 (d2.set x true)) (by omega) x r2 (d2.set x true) o2 da oa ra2 dc oc rc2 outs2 G (Nat.le_refl _) (by omega) hr2 hdsl ho2l ho2i (hrt.ext hG.ext) (hrx.ext hG.ext) (fun r h => (hro r h).ext hG.ext)) ?_; rintro v M ⟨d3, o3, ra3, rc3, hD3, hB3, hL3, rfl⟩; (try dsimp only [jL, jM])) | (apply gw_asg; exact rfl) | (apply gw_lit1; exact rfl; exact rfl; exact rfl; exact rfl; decide; intro b) | (apply gw_lit2; exact rfl; exact rfl; exact rfl; exact rfl; intro b) | (apply gw_lit3; exact rfl; exact rfl; exact rfl; exact rfl; exact rfl; intro b) | (apply gw_ap1; exact rfl; exact rfl; infer_instance; infer_instance; exact rfl; exact rfl; exact rfl; exact rfl; omega; intro a c) | (apply gw_ap1n; exact rfl; exact rfl; infer_instance; exact rfl; exact rfl; exact rfl; exact rfl; omega; intro a c) | (refine gw_stx sto ?_) | (fail))) | (apply CW_region; intro K hK) | (apply CW_condX; exact rfl; exact tst; exact tst; all_goals (intro hq hc; try exact no)) | (refine CW_drawS (id := 6) [0, 1, 7, 8, 10] dwStaZe0 mixed (by kernel_rfl) ⟨fun K hK => ?_, fun K hK => ?_, fun K hK => ?_, fun K hK => ?_, fun K hK => ?_, fun K hK => ?_, fun K hK => ?_, fun K hK => ?_, fun K hK => ?_, fun K hK => ?_, fun K hK => ?_, fun K hK => ?_, trivial⟩))
          have hD4 := hD.walk (m := 0) hnk hnk2 hxj (by omega) hnd (o1 := o2) (fun z => ⟨.inl, fun h => h.elim id fun h => absurd h.2 hV⟩) hD3
          exact ⟨_, _, _, ⟨j + 1, d3, o3, ra3, rc3, outs2.set i ⟨ra3, rc3, o3⟩, rfl, rfl, rfl, by omega, hD4, hB3, by omega, by rw [hO2, List.set_set]⟩, by exact sbe, sblt, by omega⟩
    obtain rfl : j = r.l.length := by omega
    
    repeat' (first | ((first | apply RW.q1 | (apply DW.q1; exact rfl)); exact qt) | refine xsg cts ?_ | (apply CW_condT; exact rfl; exact ar) | (apply CW_condF; exact rfl; exact ar) | (refine hK _ _ ?_; clear hK; refine xsg xsl ?_) | (refine xsg ahd ?_; (first | (apply gw_asg; exact rfl) | (apply gw_lit1; exact rfl; exact rfl; exact rfl; exact rfl; decide; intro b) | (apply gw_lit2; exact rfl; exact rfl; exact rfl; exact rfl; intro b) | (apply gw_lit3; exact rfl; exact rfl; exact rfl; exact rfl; exact rfl; intro b) | (apply gw_ap1; exact rfl; exact rfl; infer_instance; infer_instance; exact rfl; exact rfl; exact rfl; exact rfl; omega; intro a c) | (apply gw_ap1n; exact rfl; exact rfl; infer_instance; exact rfl; exact rfl; exact rfl; exact rfl; omega; intro a c) | (refine gw_stx sto ?_) | (fail))) | (apply CW_region; intro K hK) | (apply CW_condX; exact rfl; exact tst; exact tst; all_goals (intro hq hc; try exact no)) | (refine CW_drawS (id := 6) [0, 1, 7, 8, 10] dwStaZe0 mixed (by kernel_rfl) ⟨fun K hK => ?_, fun K hK => ?_, fun K hK => ?_, fun K hK => ?_, fun K hK => ?_, fun K hK => ?_, fun K hK => ?_, fun K hK => ?_, fun K hK => ?_, fun K hK => ?_, fun K hK => ?_, fun K hK => ?_, trivial⟩))
    (refine bE [] [.box b3 76 [.slice na t.length nc, .slice xa t.length xc, .slice ma t.length mc], .box b6 74 [.slice da t.length dc], .own 4 1 da t.length dc (bools d2), .box b1 62 [.slice ta t.length tc], .box b4 73 [.slice oa t.length oc], .own 80 1 oa t.length oc (rwvs outs2), .own 3 1 ra2 o2.length rc2 (nums o2), .box b5 3 [.int .i64 (i : Nat)], .box b7 107 [wkV b3 b6 b1 b4 b5 b7]] ?_)
    exact ⟨d2, o2, ra2, rc2, hD, hB2, hL2, by rw [hO2]⟩
end Go.Proofs.Ytkhmimlgkjenfaa.HL
namespace Go.Proofs.Ytkhmimlgkjenfaa.HL
open Go
attribute [local irreducible] goFn thenS blockS bodyS CW RW DW GW QW NW SC Pick Picks SubL Rd NN ResOk SrcW subE hops hseg AW hgen HC qv bldv
set_option maxHeartbeats 8000000
set_option maxRecDepth 100000
set_option linter.unusedVariables false
set_option linter.unusedSimpArgs false

theorem zrow_bools (n : Nat) : zrow [Value.bool false] n = bools (List.replicate n false) := by
  rw [zrow_one]; simp [bools]
theorem zrow_rwvs (n : Nat) : zrow [Value.slice none 0 0] n = rwvs (List.replicate n ⟨none, 0, []⟩) := by
  rw [zrow_one]; simp [rwvs, rwV]
theorem not_dn (n x : Nat) : ¬ Dn (List.replicate n false) x := fun h => by
  unfold Dn at h
  rw [List.getElem?_replicate] at h
  split at h <;> cases h
def LeanOk (t : List Th) (rows : List Rw) (i : Nat) (r : List Nat) : Prop := (∀ y, y ∈ r ↔ VI t y ∧ ∃ m, Walk (Nx (rows.map Rw.l)) m i y) ∧ r.length ≤ 1048576
theorem rows_push {L : List Res} {rows : List Rw} {e : TypeId} {a : Option Addr} {n c : Nat} {l : List Nat} (hn : n = l.length) (h : RowsIn L rows) : RowsIn (.own e 1 a n c (nums l) :: L) (rows ++ [⟨a, c, l⟩]) := by
  subst hn
  exact rows_snoc ⟨a, c, l⟩ h
theorem take_set {α : Type} {l : List α} {i : Nat} {x : α} (hi : i < l.length) : (l.set i x).take (i + 1) = l.take i ++ [x] := by
  rw [take_snoc' (l := l.set i x) (List.getElem?_set_self hi), List.take_set_of_le (Nat.le_refl _)]
theorem leans_spec (t : List Th) (ta : Option Addr) (tc : Nat) (H : Hp) (hr : Rs H 3 ta t.length tc (t.flatMap thC)) (hok : ∀ x, x ∈ t → thOk H x) (hd : (t.map Th.n).Nodup) (hl : t.length ≤ 1048576) (hu : ∀ x, x ∈ t → x.u.length ≤ 1048576) :
    SC Try.prog 36 [.slice ta t.length tc] H [] (fun v M => ∃ rows outs oa oc L', NetRows t rows ∧ v = .slice oa t.length oc ∧ M = .own 80 1 oa t.length oc (rwvs outs) :: L' ∧ RowsIn L' outs ∧ outs.length = t.length ∧ ∀ (i : Nat) (r : Rw), outs[i]? = some r → LeanOk t rows i r.l) := by
  (refine SC_intro Try.func36 rfl (by kernel_rfl) (by rw [Try.ntmps36]; exact Nat.le_of_ble_eq_true rfl) ?_; simp only [Try.ntmps36, argE, Nat.reduceAdd])
  
  repeat' (first | (apply RW.q1; exact qt) | refine xsg cts ?_ | (apply CW_condT; exact rfl; exact ar) | (apply CW_condF; exact rfl; exact ar) | (refine hK _ _ ?_; clear hK; refine xsg xsl ?_) | ((first | apply RW.a1 | apply RW.a0); (first | (apply gw_box (d := some 1); exact rfl; exact rfl; intro b1) | (apply gw_alloc (d := some 3); exact rfl; intro b3) | (apply gw_alloc (d := some 4); exact rfl; intro b4) | (apply gw_call (f := 34); exact rfl; exact go34; intro G hG; refine SC.mono (inner_spec t ta tc G (hr.ext hG.ext) (fun x hx => (hok x hx).ext hG.ext) hd hl hu) ?_; rintro v M ⟨rows, na, nc, xa, xc, ma, mc, L0, rfl, rfl, hL0, hNR⟩; (try dsimp only [jL, jM]); refine RW_drop (_ ++ (_ :: _ :: _ :: L0)) (subl_comm (M := _ :: _ :: _ :: L0) (L := [_])) ?_; dsimp only [jL, jM]) | (apply gw_asg; exact rfl) | (apply gw_alloc; exact rfl; intro b) | (apply gw_box; exact rfl; exact rfl; intro b) | (apply gw_make; exact rfl; exact rfl; exact rfl; exact rfl; omega; omega; omega; omega; intro b) | (refine gw_stx sto ?_) | (fail))) | (apply CW_region; intro K hK) | (apply CW_condX; exact rfl; exact tst; exact tst; all_goals (intro hq hc; try exact no)))
  have hrl := hNR.1
  refine CW_loop (fun m ll L => ∃ (i oc : Nat) (oa : Option Addr) (outs : List Rw) (cs : List Value) (L' : List Res), m = t.length - i ∧ ll = [(1, true, .pointer (some ⟨b1, 0, none⟩)), (3, true, .pointer (some ⟨b3, 0, none⟩)), (4, true, .pointer (some ⟨b4, 0, none⟩)), (14, true, .int .i64 t.length), (15, true, .int .i64 (i : Nat))] ∧
      L = .box b1 62 [.slice ta t.length tc] :: .box b3 76 [.slice na t.length nc, .slice xa t.length xc, .slice ma t.length mc] :: .box b4 73 [.slice oa t.length oc] :: .own 80 1 oa t.length oc cs :: .own 80 1 xa t.length xc (rwvs rows) :: L' ∧
      i ≤ t.length ∧ cs = rwvs outs ∧ outs.length = t.length ∧ RowsIn L' rows ∧ RowsIn L' (outs.take i) ∧ (∀ (j : Nat) (r : Rw), j < i → outs[j]? = some r → LeanOk t rows j r.l) ∧ ∀ j : Nat, i ≤ j → j < t.length → outs[j]? = some ⟨none, 0, []⟩)
    ⟨_, _, _, ⟨0, _, _, List.replicate t.length ⟨none, 0, []⟩, _, L0, rfl, rfl, rfl, by omega, zrow_rwvs _, List.length_replicate, hL0, fun _ _ _ r hr => (by cases hr), fun j r h => absurd h (by omega), fun j _ hj => by rw [List.getElem?_replicate, if_pos hj]⟩, by exact sbe, sblt⟩ ?_
  rintro m ll L ⟨i, oc, oa, outs, cs, L', rfl, rfl, rfl, hi, hcs, hol, hL1, hL2, hO, hR⟩
  subst hcs
  by_cases hlt : i < t.length
  · obtain ⟨r0, hr0⟩ : ∃ r, rows[i]? = some r := ⟨_, List.getElem?_eq_getElem (by omega)⟩
    have hoi := hR i (Nat.le_refl _) hlt
    
    repeat' (first | (apply RW.q1; exact qt) | refine xsg cts ?_ | (apply CW_condT; exact rfl; exact ar) | (apply CW_condF; exact rfl; exact ar) | (refine hK _ _ ?_; clear hK; refine xsg xsl ?_) | ((first | apply RW.a1 | apply RW.a0); (first | (apply gw_alloc (d := some 5); exact rfl; intro b5) | (apply gw_alloc (d := some 6); exact rfl; intro b6) | (apply gw_alloc (d := some 7); exact rfl; intro b7) | (apply gw_make; exact rfl; exact rfl; exact rfl; exact rfl; omega; omega; omega; omega; intro db; rw [zrow_bools]) | (refine GW.nilown (e := 3) (z := 1) ?_; apply gw_callvc (f := 61) (M := [.box b3 76 [.slice na t.length nc, .slice xa t.length xc, .slice ma t.length mc], .box b6 74 [.slice (some ⟨db, 0, none⟩) t.length t.length], .own 4 1 (some ⟨db, 0, none⟩) t.length t.length (bools (List.replicate t.length false)), .box b1 62 [.slice ta t.length tc], .box b4 73 [.slice oa t.length oc], .own 80 1 oa t.length oc (rwvs outs), .own 3 1 none 0 0 (nums []), .box b5 3 [.int .i64 (i : Nat)], .box b7 107 [wkV b3 b6 b1 b4 b5 b7]]); exact rfl; exact rfl; exact go61; exact pcs; intro G hG; refine SC.mono (walk_spec t rows na xa ma ta nc xc mc tc b3 b6 b1 b4 b5 b7 i hNR hl hu hlt t.length i r0 (List.replicate t.length false) [] (some ⟨db, 0, none⟩) oa none t.length oc 0 outs G (by have := left_le (List.replicate t.length false); rw [List.length_replicate] at this; exact this) (by have := left_le (List.replicate t.length false); rw [List.length_replicate] at this; rw [List.length_nil]; omega) hr0 List.length_replicate hol hoi (hr.ext hG.ext) (sl_own pick0 hG) (fun r h => hL1 H G (hG.sub (subl_tail subl_refl)) r h)) ?_; rintro v M ⟨d3, o3, ra3, rc3, hD3, hB3, hL3, rfl⟩; (try dsimp only [jL, jM])) | (apply gw_asg; exact rfl) | (apply gw_alloc; exact rfl; intro b) | (apply gw_box; exact rfl; exact rfl; intro b) | (apply gw_make; exact rfl; exact rfl; exact rfl; exact rfl; omega; omega; omega; omega; intro b) | (refine gw_stx sto ?_) | (fail))) | (apply CW_region; intro K hK) | (apply CW_condX; exact rfl; exact tst; exact tst; all_goals (intro hq hc; try exact no)))
    have hnk : (rows.map Rw.l)[i]? = some r0.l := by rw [List.getElem?_map, hr0]; rfl
    have hall := fun y => hD3.all hnk (fun x => not_dn t.length x) y
    refine ⟨_, _, _, ⟨i + 1, oc, oa, outs.set i ⟨ra3, rc3, o3⟩, _, .own 3 1 ra3 o3.length rc3 (nums o3) :: L', rfl, rfl, rfl, by omega, rfl, by rw [List.length_set]; exact hol, rows_tail hL1, ?_, fun j r hj hjr => ?_, fun j hj hjl => ?_⟩, by exact sbe, sblt, by omega⟩
    · rw [take_set (by omega)]
      exact rows_push rfl hL2
    · by_cases hji : j = i
      · subst hji
        rw [List.getElem?_set_self (by omega)] at hjr
        cases hjr
        exact ⟨hall, by show o3.length ≤ _; omega⟩
      · rw [List.getElem?_set_ne (fun h => hji h.symm)] at hjr
        exact hO j r (by omega) hjr
    · rw [List.getElem?_set_ne (by omega)]
      exact hR j (by omega) hjl
  obtain rfl : i = t.length := by omega
  
  repeat' (first | (apply RW.q1; exact qt) | refine xsg cts ?_ | (apply CW_condT; exact rfl; exact ar) | (apply CW_condF; exact rfl; exact ar) | (refine hK _ _ ?_; clear hK; refine xsg xsl ?_) | ((first | apply RW.a1 | apply RW.a0); (first | (apply gw_asg; exact rfl) | (apply gw_alloc; exact rfl; intro b) | (apply gw_box; exact rfl; exact rfl; intro b) | (apply gw_make; exact rfl; exact rfl; exact rfl; exact rfl; omega; omega; omega; omega; intro b) | (refine gw_stx sto ?_) | (fail))) | (apply CW_region; intro K hK) | (apply CW_condX; exact rfl; exact tst; exact tst; all_goals (intro hq hc; try exact no)))
  (refine CW_ret ?_; refine xsg xsl ?_; refine bR [.tmp 2] (.own 80 1 oa t.length oc (rwvs outs) :: .box b1 62 _ :: .box b3 76 _ :: .box b4 73 _ :: .own 80 1 xa t.length xc _ :: L') ?_)
  refine ⟨rows, outs, oa, oc, _, hNR, rfl, rfl, rows_tail (rows_tail (rows_tail (rows_tail ?_))), hol, fun i r hr => hO i r (by have := (List.getElem?_eq_some_iff.1 hr).1; omega) hr⟩
  rw [← hol, List.take_length] at hL2
  exact hL2
end Go.Proofs.Ytkhmimlgkjenfaa.HL
namespace Go.Proofs.Ytkhmimlgkjenfaa.HL
open Go
attribute [local irreducible] goFn thenS blockS bodyS CW RW DW GW QW NW SC Pick Picks SubL Rd NN ResOk SrcW subE hops hseg AW hgen HC qv bldv
set_option maxHeartbeats 8000000
set_option maxRecDepth 100000
set_option linter.unusedVariables false
set_option linter.unusedSimpArgs false

theorem vars1_spec (k b7 n dc : Nat) (da : Option Addr) (d : List Bool) (w : Bool) (H : Hp) (hk : d[k]? = some w) (hn : d.length = n) (hl : n ≤ 1048576) :
    SC Try.prog 38 [.int .i64 (k : Nat), .pointer (some ⟨b7, 0, none⟩)] H [.box b7 74 [.slice da n dc], .own 4 1 da n dc (bools d)]
      (fun v M => v = .bool (!w) ∧ M = [.box b7 74 [.slice da n dc], .own 4 1 da n dc (bools d)]) := by
  have hkl := (List.getElem?_eq_some_iff.1 hk).1
  (refine SC_intro Try.func38 rfl (by kernel_rfl) (by rw [Try.ntmps38]; exact Nat.le_of_ble_eq_true rfl) ?_; simp only [Try.ntmps38, argE, Nat.reduceAdd])
  
  repeat' (first | (apply RW.q1; (first | (apply q_ldo; exact rfl; exact rfl; infer_instance; exact bools_at hk (by omega)) | exact qt)) | refine xsg cts ?_ | (apply CW_condT; exact rfl; exact ar) | (apply CW_condF; exact rfl; exact ar) | (refine hK _ _ ?_; clear hK; refine xsg xsl ?_) | ((first | apply RW.a1 | apply RW.a0); (first | (apply gw_asg; exact rfl) | (fail))) | (apply CW_region; intro K hK) | (apply CW_condX; exact rfl; exact tst; exact tst; all_goals (intro hq hc; try exact no)))
  (refine CW_ret ?_; refine xsg xsl ?_; refine bR [.tmp 3] [.box b7 74 [.slice da n dc], .own 4 1 da n dc (bools d)] ?_)
  exact ⟨rfl, rfl⟩
theorem indexI_spec (r : List Nat) (ra : Option Addr) (rc b7 n dc : Nat) (da : Option Addr) (d : List Bool) (H : Hp) (hr : Rs H 1 ra r.length rc (nums r)) (hk : ∀ k, k ∈ r → k < n) (hn : d.length = n) (hl : n ≤ 1048576) (hrl : r.length ≤ 1048576) :
    SC Try.prog 62 [.slice ra r.length rc, .func (.func 38) #[] #[.pointer (some ⟨b7, 0, none⟩)]] H [.box b7 74 [.slice da n dc], .own 4 1 da n dc (bools d)]
      (fun v M => ∃ i : Int, (0 ≤ i ↔ ∃ k, k ∈ r ∧ d[k]? = some false) ∧ v = .int .i64 i ∧ M = [.box b7 74 [.slice da n dc], .own 4 1 da n dc (bools d)]) := by
  (refine SC_intro Try.func62 rfl (by kernel_rfl) (by rw [Try.ntmps62]; exact Nat.le_of_ble_eq_true rfl) ?_; simp only [Try.ntmps62, argE, Nat.reduceAdd])
  
  repeat' (first | (apply RW.q1; exact qt) | refine xsg cts ?_ | (apply CW_condT; exact rfl; exact ar) | (apply CW_condF; exact rfl; exact ar) | (refine hK _ _ ?_; clear hK; refine xsg xsl ?_) | ((first | apply RW.a1 | apply RW.a0); (first | (apply gw_asg; exact rfl) | (fail))) | (apply CW_region; intro K hK) | (apply CW_condX; exact rfl; exact tst; exact tst; all_goals (intro hq hc; try exact no)))
  refine CW_loop (fun m ll L => ∃ j : Nat, m = r.length - j ∧ ll = [(0, true, .slice ra r.length rc), (1, true, .func (.func 38) #[] #[.pointer (some ⟨b7, 0, none⟩)]), (7, true, .int .i64 r.length), (8, true, .int .i64 (j : Nat))] ∧ L = [.box b7 74 [.slice da n dc], .own 4 1 da n dc (bools d)] ∧ j ≤ r.length ∧ ∀ k, k ∈ r.take j → ¬ d[k]? = some false)
    ⟨_, _, _, ⟨0, rfl, rfl, rfl, by omega, fun k hk => by simp at hk⟩, by exact sbe, sblt⟩ ?_
  rintro m ll L ⟨j, rfl, rfl, rfl, hj, hs⟩
  by_cases hlt : j < r.length
  · obtain ⟨k, hkj⟩ : ∃ x, r[j]? = some x := ⟨_, List.getElem?_eq_getElem (by omega)⟩
    have hkn := hk k (List.mem_of_getElem? hkj)
    obtain ⟨w, hw⟩ : ∃ w, d[k]? = some w := ⟨_, List.getElem?_eq_getElem (by omega)⟩
    cases w with
    | false =>
      
      repeat' (first | (apply RW.q1; (first | (apply q_ldr; exact rfl; exact rfl; exact hr; exact nums_at hkj (by omega)) | exact qt)) | refine xsg cts ?_ | (apply CW_condT; exact rfl; exact ar) | (apply CW_condF; exact rfl; exact ar) | (refine hK _ _ ?_; clear hK; refine xsg xsl ?_) | ((first | apply RW.a1 | apply RW.a0); (first | (apply gw_callvc (f := 38) (M := [.box b7 74 [.slice da n dc], .own 4 1 da n dc (bools d)]); exact rfl; exact rfl; exact go38; exact pcs; intro G hG; refine SC.mono (vars1_spec k b7 n dc da d false G hw hn hl) ?_; rintro v M ⟨rfl, rfl⟩; (try dsimp only [jL, jM])) | (apply gw_asg; exact rfl) | (fail))) | (apply CW_region; intro K hK) | (apply CW_condX; exact rfl; exact tst; exact tst; all_goals (intro hq hc; try exact no)))
      (refine CW_ret ?_; refine xsg xsl ?_; refine bR [.tmp 4] [.box b7 74 [.slice da n dc], .own 4 1 da n dc (bools d)] ?_)
      exact ⟨j, ⟨fun _ => ⟨k, List.mem_of_getElem? hkj, hw⟩, fun _ => by omega⟩, rfl, rfl⟩
    | true =>
      
      repeat' (first | (apply RW.q1; (first | (apply q_ldr; exact rfl; exact rfl; exact hr; exact nums_at hkj (by omega)) | exact qt)) | refine xsg cts ?_ | (apply CW_condT; exact rfl; exact ar) | (apply CW_condF; exact rfl; exact ar) | (refine hK _ _ ?_; clear hK; refine xsg xsl ?_) | ((first | apply RW.a1 | apply RW.a0); (first | (apply gw_callvc (f := 38) (M := [.box b7 74 [.slice da n dc], .own 4 1 da n dc (bools d)]); exact rfl; exact rfl; exact go38; exact pcs; intro G hG; refine SC.mono (vars1_spec k b7 n dc da d true G hw hn hl) ?_; rintro v M ⟨rfl, rfl⟩; (try dsimp only [jL, jM])) | (apply gw_asg; exact rfl) | (fail))) | (apply CW_region; intro K hK) | (apply CW_condX; exact rfl; exact tst; exact tst; all_goals (intro hq hc; try exact no)))
      refine ⟨_, _, _, ⟨j + 1, rfl, rfl, rfl, by omega, fun z hz => ?_⟩, by exact sbe, sblt, by omega⟩
      rw [take_snoc' hkj] at hz
      rcases List.mem_append.1 hz with h | h
      · exact hs z h
      · rw [List.mem_singleton.1 h, hw]; simp
  obtain rfl : j = r.length := by omega
  rw [List.take_length] at hs
  
  repeat' (first | (apply RW.q1; exact qt) | refine xsg cts ?_ | (apply CW_condT; exact rfl; exact ar) | (apply CW_condF; exact rfl; exact ar) | (refine hK _ _ ?_; clear hK; refine xsg xsl ?_) | ((first | apply RW.a1 | apply RW.a0); (first | (apply gw_asg; exact rfl) | (fail))) | (apply CW_region; intro K hK) | (apply CW_condX; exact rfl; exact tst; exact tst; all_goals (intro hq hc; try exact no)))
  (refine CW_ret ?_; refine xsg xsl ?_; refine bR [.tmp 4] [.box b7 74 [.slice da n dc], .own 4 1 da n dc (bools d)] ?_)
  exact ⟨-1, ⟨fun h => absurd h (by decide), fun ⟨k, h1, h2⟩ => absurd h2 (hs k h1)⟩, rfl, rfl⟩
theorem contI_spec (r : List Nat) (ra : Option Addr) (rc b7 n dc : Nat) (da : Option Addr) (d : List Bool) (w : Bool) (H : Hp) (hr : Rs H 1 ra r.length rc (nums r)) (hk : ∀ k, k ∈ r → k < n) (hn : d.length = n) (hl : n ≤ 1048576) (hrl : r.length ≤ 1048576) (hw : w = true ↔ ∃ k, k ∈ r ∧ d[k]? = some false) :
    SC Try.prog 37 [.slice ra r.length rc, .func (.func 38) #[] #[.pointer (some ⟨b7, 0, none⟩)]] H [.box b7 74 [.slice da n dc], .own 4 1 da n dc (bools d)]
      (fun v M => v = .bool w ∧ M = [.box b7 74 [.slice da n dc], .own 4 1 da n dc (bools d)]) := by
  (refine SC_intro Try.func37 rfl (by kernel_rfl) (by rw [Try.ntmps37]; exact Nat.le_of_ble_eq_true rfl) ?_; simp only [Try.ntmps37, argE, Nat.reduceAdd])
  
  repeat' (first | (apply RW.q1; exact qt) | refine xsg cts ?_ | (apply CW_condT; exact rfl; exact ar) | (apply CW_condF; exact rfl; exact ar) | (refine hK _ _ ?_; clear hK; refine xsg xsl ?_) | ((first | apply RW.a1 | apply RW.a0); (first | (apply gw_callc (f := 62) (M := [.box b7 74 [.slice da n dc], .own 4 1 da n dc (bools d)]); exact rfl; exact go62; exact pcs; intro G hG; refine SC.mono (indexI_spec r ra rc b7 n dc da d G (hr.ext hG.ext) hk hn hl hrl) ?_; rintro v M ⟨i, hi, rfl, rfl⟩; (try dsimp only [jL, jM])) | (apply gw_asg; exact rfl) | (fail))) | (apply CW_region; intro K hK) | (apply CW_condX; exact rfl; exact tst; exact tst; all_goals (intro hq hc; try exact no)))
  (refine CW_ret ?_; refine xsg xsl ?_; refine bR [.tmp 4] [.box b7 74 [.slice da n dc], .own 4 1 da n dc (bools d)] ?_)
  exact ⟨ret_bool (by rw [Bool.eq_iff_iff, hw]; simp [hi]), rfl⟩
end Go.Proofs.Ytkhmimlgkjenfaa.HL
namespace Go.Proofs.Ytkhmimlgkjenfaa.HL
open Go
attribute [local irreducible] goFn thenS blockS bodyS CW RW DW GW QW NW SC Pick Picks SubL Rd NN ResOk SrcW subE hops hseg AW hgen HC qv bldv
set_option maxHeartbeats 8000000
set_option maxRecDepth 100000
set_option linter.unusedVariables false
set_option linter.unusedSimpArgs false

theorem allT_ok {H : Hp} {p : Pk} (h : pkOk H p) : ∀ x, x ∈ allT p.fl → thOk H x := fun x hx => by
  obtain ⟨f, hf, hx⟩ := List.mem_flatMap.1 hx
  exact things_ok (h.2.2 f hf) x hx
theorem vn_perm {t t' : List Th} (h : ∀ x, x ∈ t ↔ x ∈ t') : VN t = VN t' := by
  funext a
  unfold VN
  simp only [h]
structure VarsI (p : Pk) (l' : List Fl) (rows outs : List Rw) (L' : List Res) (d : List Bool) (o : List Nat) : Prop where
  pm : l'.Perm p.fl
  st : Srt flLt l'
  nr : NetRows (allT l') rows
  ri : RowsIn L' outs
  ol : outs.length = (allT l').length
  ok : ∀ (i : Nat) (r : Rw), outs[i]? = some r → LeanOk (allT l') rows i r.l
  dl : d.length = (allT l').length
  dk : ∀ k, k < (allT l').length → d[k]? = some (decide (k ∈ o))
  sp : Steps (RdW (Nx (rows.map Rw.l)) (VI (allT l'))) (List.range (allT l').length) o
  cy : CycS (NT (allT p.fl)) (VN (allT p.fl)) ltT []
theorem range_split {n i : Nat} (h : i < n) : ∃ B, List.range n = List.range i ++ i :: B := by
  refine ⟨(List.range n).drop (i + 1), ?_⟩
  have h1 := (List.take_append_drop i (List.range n)).symm
  rw [List.drop_eq_getElem_cons (by simpa using h), List.getElem_range, List.take_range, Nat.min_eq_left (Nat.le_of_lt h)] at h1
  exact h1
theorem VarsI.lt {p : Pk} {l' : List Fl} {rows outs : List Rw} {L' : List Res} {d : List Bool} {o : List Nat} (h : VarsI p l' rows outs L' d o) {i : Nat} (hi : i < (allT l').length) (ho : i ∉ o) : o.length < (allT l').length := by
  have hm := steps_mem h.sp
  have := nodup_le (n := (allT l').length) (l := i :: o) (List.nodup_cons.2 ⟨ho, hm.1⟩) fun x hx => by
    rcases List.mem_cons.1 hx with rfl | hx
    · exact hi
    · exact List.mem_range.1 (hm.2 x hx).1
  rw [List.length_cons] at this
  omega
theorem VarsI.take {p : Pk} {l' : List Fl} {rows outs : List Rw} {L' : List Res} {d : List Bool} {o : List Nat} (h : VarsI p l' rows outs L' d o) {i : Nat} (hi : i < (allT l').length) (hb : ∀ j, j < i → ¬ RdW (Nx (rows.map Rw.l)) (VI (allT l')) o j) (hR : RdW (Nx (rows.map Rw.l)) (VI (allT l')) o i) : VarsI p l' rows outs L' (d.set i true) (o ++ [i]) := by
  obtain ⟨B, hB⟩ := range_split hi
  refine ⟨h.pm, h.st, h.nr, h.ri, h.ol, h.ok, by rw [List.length_set]; exact h.dl, fun k hk => ?_, .snoc h.sp hB hR fun y hy => hb y (List.mem_range.1 hy), h.cy⟩
  by_cases hki : k = i
  · subst hki
    rw [List.getElem?_set_self (by rw [h.dl]; exact hi)]
    simp
  · rw [List.getElem?_set_ne (fun e => hki e.symm), h.dk k hk]
    simp [hki]
theorem VarsI.ord {p : Pk} {l' : List Fl} {rows outs : List Rw} {L' : List Res} {d : List Bool} {o : List Nat} (h : VarsI p l' rows outs L' d o) (hd : ((allT p.fl).map Th.n).Nodup) (hb : ∀ j, j < (allT l').length → ¬ RdW (Nx (rows.map Rw.l)) (VI (allT l')) o j) : OrdR (allT l') (o.map (nmA (allT l'))) := by
  have hm : ∀ x, x ∈ allT l' ↔ x ∈ allT p.fl := fun x => (allT_perm h.pm).mem_iff
  have hd' : ((allT l').map Th.n).Nodup := ((allT_perm h.pm).map Th.n).nodup_iff.2 hd
  have hN := h.nr.net
  refine ordR_of hN hd' h.sp fun i hi hv => Classical.byContradiction fun ho => ?_
  have hc : ∀ a, VI (allT l') a → ∀ m, ¬ Walk (Nx (rows.map Rw.l)) m a a := by
    rintro a ⟨x, hx, hxv⟩ m hw
    have h1 := (hN.walk hd' hx hx).1 hw
    have e1 : NE Th.n Th.u (allT l') = NT (allT p.fl) := ne_perm hm
    rw [e1] at h1
    rcases h.cy with ⟨_, h2⟩ | ⟨_, _, _, h2, _⟩
    · exact h2 x.n m ⟨x, (hm x).1 (List.mem_of_getElem? hx), rfl, hxv⟩ h1
    · cases h2
  obtain ⟨y, hy, hR⟩ := rdW_ex (n := (allT l').length) hc (fun i k hk => hN.lt i k hk) hi hv ho
  exact hb y hy hR
theorem CW_join0 {P : Program} {n : Nat} {c : Code} {l : Ents} {H : Hp} {L : List Res} {Q : Exit → Ents → List Res → Prop} (I : Ents → List Res → Prop) (h : ∃ l' L', I l' L' ∧ subE l' l ∧ SubL L' L) (k : ∀ l L, I l L → CW P n c l H L Q) : CW P n c l H L Q := by
  obtain ⟨l', L', h1, h2, h3⟩ := h
  exact (k l' L' h1).weaken h2 h3
theorem vars_spec (p : Pk) (H : Hp) (hp : pkOk H p) (hn : (allT p.fl).length ≤ 1048576) (hf : p.fl.length ≤ 1048576) (hu : ∀ x, x ∈ allT p.fl → x.u.length ≤ 1048576) (hd : ((allT p.fl).map Th.n).Nodup) :
    SC Try.prog 17 [pkV p] H [] (fun v M => ∃ (out cy : List Tx) (oa ca : Option Addr) (oc cc : Nat), v = .tuple #[.slice oa out.length oc, .slice ca cy.length cc] ∧ M = [.own 9 1 oa out.length oc (txs out), .own 9 1 ca cy.length cc (txs cy)] ∧
      ((CycS (NT (allT p.fl)) (VN (allT p.fl)) ltT cy ∧ cy ≠ [] ∧ ca.isNone = false ∧ out = []) ∨ (CycS (NT (allT p.fl)) (VN (allT p.fl)) ltT [] ∧ cy = [] ∧ ca = none ∧ ∃ l', l'.Perm p.fl ∧ Srt flLt l' ∧ OrdR (allT l') out))) := by
  (refine SC_intro Try.func17 rfl (by kernel_rfl) (by rw [Try.ntmps17]; exact Nat.le_of_ble_eq_true rfl) ?_; simp only [Try.ntmps17, argE, Nat.reduceAdd])
  
  repeat' (first | (apply RW.q1; exact qt) | (apply RW.qg; exact gvx; refine hgx tst ?_; intro hg hg'; exact qu) | refine xsg cts ?_ | (apply CW_condT; exact rfl; exact ar) | (apply CW_condF; exact rfl; exact ar) | ((first | apply RW.s1 | apply RW.s0); exact gva) | (refine hK _ _ ?_; clear hK; refine xsg xsl ?_) | ((first | apply RW.a1 | apply RW.a0 | (apply RW.at; exact gva)); (first | (apply gw_box (d := some 1); exact rfl; exact rfl; intro b1) | (apply gw_asg; exact rfl) | (apply gw_alloc; exact rfl; intro b) | (apply gw_box; exact rfl; exact rfl; intro b) | (apply gw_make; exact rfl; exact rfl; exact rfl; exact rfl; omega; omega; omega; omega; intro b) | (apply gw_lit1; exact rfl; exact rfl; exact rfl; exact rfl; decide; intro b) | (apply gw_lit2; exact rfl; exact rfl; exact rfl; exact rfl; intro b) | (apply gw_lit3; exact rfl; exact rfl; exact rfl; exact rfl; exact rfl; intro b) | (apply gw_ap1; exact rfl; exact rfl; infer_instance; infer_instance; exact rfl; exact rfl; exact rfl; exact rfl; omega; intro a c) | (apply gw_ap1n; exact rfl; exact rfl; infer_instance; exact rfl; exact rfl; exact rfl; exact rfl; omega; intro a c) | (refine gw_stx sto ?_) | (fail))) | (apply CW_region; intro K hK) | (apply CW_condX; exact rfl; exact tst; exact tst; all_goals (intro hq hc; try exact no)))
  refine CW_scope 0 rfl rfl (fun m ll L => ∃ (l' : List Fl) (rows outs : List Rw) (L' : List Res) (d : List Bool) (o : List Nat) (sa oa ua da : Option Addr) (sc oc uc dc b7 : Nat), m = (allT l').length - o.length ∧ ll = [(4, true, .slice sa (allT l').length sc), (6, true, .slice oa (allT l').length oc), (7, true, .pointer (some ⟨b7, 0, none⟩)), (8, true, .slice ua o.length uc)] ∧
      L = .own 65 3 sa (allT l').length sc ((allT l').flatMap thC) :: .box b7 74 [.slice da (allT l').length dc] :: .own 4 1 da (allT l').length dc (bools d) :: .own 9 1 ua o.length uc (txs (o.map (nmA (allT l')))) :: .own 80 1 oa (allT l').length oc (rwvs outs) :: L' ∧ VarsI p l' rows outs L' d o) ?_ ?_
  · repeat' (first | (apply RW.q1; exact qt) | (apply RW.qg; exact gvx; refine hgx tst ?_; intro hg hg'; exact qu) | refine xsg cts ?_ | (apply CW_condT; exact rfl; exact ar) | (apply CW_condF; exact rfl; exact ar) | ((first | apply RW.s1 | apply RW.s0); exact gva) | (refine hK _ _ ?_; clear hK; refine xsg xsl ?_) | ((first | apply RW.a1 | apply RW.a0 | (apply RW.at; exact gva)); (first | (apply gw_alloc (d := some 7); exact rfl; intro b7) | (apply gw_make; exact rfl; exact rfl; exact rfl; exact rfl; omega; omega; omega; omega; intro db; rw [zrow_bools]) | (apply gw_call (f := 32); exact evx; exact go32; intro G hG; refine SC.mono (all_spec p G (pkOk_ext hp hG.ext) hn hf) ?_; rintro v M ⟨l', sa, sc, hpm, hst, rfl, rfl⟩; (try dsimp only [jL, jM]); have hal := (allT_perm hpm).length_eq; have hm : ∀ x, x ∈ allT l' ↔ x ∈ allT p.fl := fun x ↦ (allT_perm hpm).mem_iff; have hd' : ((allT l').map Th.n).Nodup := ((allT_perm hpm).map Th.n).nodup_iff.2 hd; have hu' : ∀ x, x ∈ allT l' → x.u.length ≤ 1048576 := fun x hx ↦ hu x ((hm x).1 hx)) | (apply gw_call (f := 34); exact evx; exact go34; intro G hG; refine SC.mono (inner_spec (allT l') sa sc G (sl_own (by exact pkx) hG) (fun x hx => (allT_ok hp x ((hm x).1 hx)).ext hG.ext) hd' (by omega) hu') ?_; rintro v M ⟨rows1, na, nc, xa, xc, ma, mc, L0, rfl, rfl, hL0, hNR1⟩; (try dsimp only [jL, jM]); refine RW_drop (_ ++ (_ :: _ :: _ :: L0)) (subl_comm (M := _ :: _ :: _ :: L0) (L := [_, _])) ?_; dsimp only [jL, jM]) | (apply gw_call (f := 35); exact evx; exact go35; intro G hG; refine SC.mono (cycle_spec (allT l') rows1 na xa ma nc xc mc G ⟨sl_own (by exact pkx) hG, sl_own (by exact pkx) hG, sl_own (by exact pkx) hG, hL0 H G (hG.sub (subl_tail (subl_tail (subl_tail (subl_tail (subl_tail subl_refl)))))), hNR1⟩ hd' (by omega) hu') ?_; rintro v M ⟨cy, ca, cc, hcy, rfl, rfl, hc1, hc2⟩; (try dsimp only [jL, jM])) | (apply gw_call (f := 36); exact evx; exact go36; intro G hG; refine SC.mono (leans_spec (allT l') sa sc G (sl_own (by exact pkx) hG) (fun x hx => (allT_ok hp x ((hm x).1 hx)).ext hG.ext) hd' (by omega) hu') ?_; rintro v M ⟨rows, outs, oa, oc, L1, hNR, rfl, rfl, hL1, hol, hO⟩; (try dsimp only [jL, jM]); refine RW_drop (.own 65 3 sa (allT l').length sc ((allT l').flatMap thC) :: .own 80 1 oa (allT l').length oc (rwvs outs) :: L1) (subl_cons (pickS (pickA (by exact pkx) L1)) (subl_cons pick0 subl_app)) ?_) | (apply gw_asg; exact rfl) | (apply gw_alloc; exact rfl; intro b) | (apply gw_box; exact rfl; exact rfl; intro b) | (apply gw_make; exact rfl; exact rfl; exact rfl; exact rfl; omega; omega; omega; omega; intro b) | (apply gw_lit1; exact rfl; exact rfl; exact rfl; exact rfl; decide; intro b) | (apply gw_lit2; exact rfl; exact rfl; exact rfl; exact rfl; intro b) | (apply gw_lit3; exact rfl; exact rfl; exact rfl; exact rfl; exact rfl; intro b) | (apply gw_ap1; exact rfl; exact rfl; infer_instance; infer_instance; exact rfl; exact rfl; exact rfl; exact rfl; omega; intro a c) | (apply gw_ap1n; exact rfl; exact rfl; infer_instance; exact rfl; exact rfl; exact rfl; exact rfl; omega; intro a c) | (refine gw_stx sto ?_) | (fail))) | (apply CW_region; intro K hK) | (apply CW_condX; exact rfl; exact tst; exact tst; all_goals (intro hq hc; try exact no)))
    all_goals have e1 : NT (allT l') = NT (allT p.fl) := ne_perm hm
    all_goals have e2 : VN (allT l') = VN (allT p.fl) := vn_perm hm
    all_goals rw [e1, e2] at hcy
    · have hn0 : cy ≠ [] := fun h => by
        have := hc1 h
        rw [this] at hq
        cases hq
      have hcf := hc2 hn0
      refine CW_ret ?_
      refine xsg xsl ?_
      refine jumpS_r ?_
      refine xsg xsl ?_
      refine bR [.tmp 2, .tmp 3] [.own 9 1 none 0 0 [], .own 9 1 ca cy.length cc (txs cy)] ?_
      exact ⟨[], cy, none, ca, 0, cc, rfl, rfl, .inl ⟨hcy, hn0, hcf, rfl⟩⟩
    · have hy0 : cy = [] := Classical.byContradiction fun h => by
        rw [hc2 h] at hq
        cases hq
      subst hy0
      obtain ⟨o, ho⟩ : ∃ o : List Nat, o = [] := ⟨_, rfl⟩
      obtain ⟨d, hd0⟩ : ∃ d : List Bool, d = List.replicate (allT l').length false := ⟨_, rfl⟩
      have hI : VarsI p l' rows outs L1 d o := by
        subst ho
        subst hd0
        exact ⟨hpm, hst, hNR, hL1, hol, hO, List.length_replicate, fun k hk => by rw [List.getElem?_replicate, if_pos hk]; rfl, .nil, hcy⟩
      refine CW_label ?_
      refine xsg xsl ?_
      refine CW_join0 (fun ll L => ∃ (ua da : Option Addr) (uc dc : Nat), ll = [(4, true, .slice sa (allT l').length sc), (6, true, .slice oa (allT l').length oc), (7, true, .pointer (some ⟨b7, 0, none⟩)), (8, true, .slice ua o.length uc)] ∧
        L = .own 65 3 sa (allT l').length sc ((allT l').flatMap thC) :: .box b7 74 [.slice da (allT l').length dc] :: .own 4 1 da (allT l').length dc (bools d) :: .own 9 1 ua o.length uc (txs (o.map (nmA (allT l')))) :: .own 80 1 oa (allT l').length oc (rwvs outs) :: L1)
        ⟨_, _, ⟨none, _, 0, _, rfl, rfl⟩, by subst ho; exact sbe, by subst ho; subst hd0; exact sblt⟩ ?_
      rintro ll L ⟨ua, da, uc, dc, rfl, rfl⟩
      
      repeat' (first | (apply RW.q1; exact qt) | (apply RW.qg; exact gvx; refine hgx tst ?_; intro hg hg'; exact qu) | refine xsg cts ?_ | (apply CW_condT; exact rfl; exact ar) | (apply CW_condF; exact rfl; exact ar) | ((first | apply RW.s1 | apply RW.s0); exact gva) | (refine hK _ _ ?_; clear hK; refine xsg xsl ?_) | ((first | apply RW.a1 | apply RW.a0 | (apply RW.at; exact gva)); (first | (apply gw_asg; exact rfl) | (apply gw_alloc; exact rfl; intro b) | (apply gw_box; exact rfl; exact rfl; intro b) | (apply gw_make; exact rfl; exact rfl; exact rfl; exact rfl; omega; omega; omega; omega; intro b) | (apply gw_lit1; exact rfl; exact rfl; exact rfl; exact rfl; decide; intro b) | (apply gw_lit2; exact rfl; exact rfl; exact rfl; exact rfl; intro b) | (apply gw_lit3; exact rfl; exact rfl; exact rfl; exact rfl; exact rfl; intro b) | (apply gw_ap1; exact rfl; exact rfl; infer_instance; infer_instance; exact rfl; exact rfl; exact rfl; exact rfl; omega; intro a c) | (apply gw_ap1n; exact rfl; exact rfl; infer_instance; exact rfl; exact rfl; exact rfl; exact rfl; omega; intro a c) | (refine gw_stx sto ?_) | (fail))) | (apply CW_region; intro K hK) | (apply CW_condX; exact rfl; exact tst; exact tst; all_goals (intro hq hc; try exact no)))
      refine CW_loop (fun m ll L => ∃ i : Nat, m = (allT l').length - i ∧ ll = [(4, true, .slice sa (allT l').length sc), (6, true, .slice oa (allT l').length oc), (7, true, .pointer (some ⟨b7, 0, none⟩)), (8, true, .slice ua o.length uc), (24, true, .slice sa (allT l').length sc), (25, true, .int .i64 (allT l').length), (26, true, .int .i64 (i : Nat))] ∧
            L = .own 65 3 sa (allT l').length sc ((allT l').flatMap thC) :: .box b7 74 [.slice da (allT l').length dc] :: .own 4 1 da (allT l').length dc (bools d) :: .own 9 1 ua o.length uc (txs (o.map (nmA (allT l')))) :: .own 80 1 oa (allT l').length oc (rwvs outs) :: L1 ∧ i ≤ (allT l').length ∧ ∀ j, j < i → ¬ RdW (Nx (rows.map Rw.l)) (VI (allT l')) o j)
          ⟨_, _, _, ⟨0, rfl, rfl, rfl, by omega, fun j h => absurd h (by omega)⟩, by exact sbe, sblt⟩ ?_
      rintro m ll L ⟨i, rfl, rfl, rfl, hi, hb⟩
      by_cases hlt : i < (allT l').length
      · obtain ⟨x, hx⟩ : ∃ x, (allT l')[i]? = some x := ⟨_, List.getElem?_eq_getElem hlt⟩
        obtain ⟨r, hri⟩ : ∃ r, outs[i]? = some r := ⟨_, List.getElem?_eq_getElem (by omega)⟩
        have hdi := hI.dk i hlt
        have hxn := nmA_at hx
        have hskip : ∀ (h : ¬ RdW (Nx (rows.map Rw.l)) (VI (allT l')) o i) (j : Nat), j < i + 1 → ¬ RdW (Nx (rows.map Rw.l)) (VI (allT l')) o j := fun h j hj => by
          rcases lt_succ_cases hj with g | rfl
          · exact hb j g
          · exact h
        cases hxv : x.v with
        | false =>
          have hthc : thC x = [.string (bstr x.n), .bool false, .slice x.a x.u.length x.c] := by rw [← hxv]; rfl
          have hno := hskip fun h => by
            obtain ⟨⟨y, hy, hyv⟩, _⟩ := h
            rw [hx] at hy; cases hy
            rw [hxv] at hyv; cases hyv
          
          repeat' (first | ((first | apply RW.q1 | (apply RW.qg; exact gvx; refine hgx tst ?_; intro hg hg')); (first | (apply q_lao; exact rfl; exact evgx; infer_instance; exact (ix_elem hx (by omega)).trans hthc; exact rfl; decide) | exact qt | exact qu)) | refine xsg cts ?_ | (apply CW_condT; exact rfl; exact ar) | (apply CW_condF; exact rfl; exact ar) | ((first | apply RW.s1 | apply RW.s0); exact gva) | (refine hK _ _ ?_; clear hK; refine xsg xsl ?_) | ((first | apply RW.a1 | apply RW.a0 | (apply RW.at; exact gva)); (first | (apply gw_alloc (d := some 10); exact rfl; intro b10) | (apply gw_asg; exact rfl) | (apply gw_alloc; exact rfl; intro b) | (apply gw_box; exact rfl; exact rfl; intro b) | (apply gw_make; exact rfl; exact rfl; exact rfl; exact rfl; omega; omega; omega; omega; intro b) | (apply gw_lit1; exact rfl; exact rfl; exact rfl; exact rfl; decide; intro b) | (apply gw_lit2; exact rfl; exact rfl; exact rfl; exact rfl; intro b) | (apply gw_lit3; exact rfl; exact rfl; exact rfl; exact rfl; exact rfl; intro b) | (apply gw_ap1; exact rfl; exact rfl; infer_instance; infer_instance; exact rfl; exact rfl; exact rfl; exact rfl; omega; intro a c) | (apply gw_ap1n; exact rfl; exact rfl; infer_instance; exact rfl; exact rfl; exact rfl; exact rfl; omega; intro a c) | (refine gw_stx sto ?_) | (fail))) | (apply CW_region; intro K hK) | (apply CW_condX; exact rfl; exact tst; exact tst; all_goals (intro hq hc; try exact no)))
          all_goals exact ⟨_, _, _, ⟨i + 1, rfl, rfl, rfl, by omega, hno⟩, by exact sbe, sblt, by omega⟩
        | true =>
          have hthc : thC x = [.string (bstr x.n), .bool true, .slice x.a x.u.length x.c] := by rw [← hxv]; rfl
          by_cases hio : i ∈ o
          · have hno := hskip fun h => h.2.1 hio
            rw [decide_eq_true hio] at hdi
            
            repeat' (first | ((first | apply RW.q1 | (apply RW.qg; exact gvx; refine hgx tst ?_; intro hg hg')); (first | (apply q_lao; exact rfl; exact evgx; infer_instance; exact (ix_elem hx (by omega)).trans hthc; exact rfl; decide) | (apply q_ldo; exact rfl; exact evgx; infer_instance; exact bools_at hdi (by omega)) | exact qt | exact qu)) | refine xsg cts ?_ | (apply CW_condT; exact rfl; exact ar) | (apply CW_condF; exact rfl; exact ar) | ((first | apply RW.s1 | apply RW.s0); exact gva) | (refine hK _ _ ?_; clear hK; refine xsg xsl ?_) | ((first | apply RW.a1 | apply RW.a0 | (apply RW.at; exact gva)); (first | (apply gw_alloc (d := some 10); exact rfl; intro b10) | (apply gw_asg; exact rfl) | (apply gw_alloc; exact rfl; intro b) | (apply gw_box; exact rfl; exact rfl; intro b) | (apply gw_make; exact rfl; exact rfl; exact rfl; exact rfl; omega; omega; omega; omega; intro b) | (apply gw_lit1; exact rfl; exact rfl; exact rfl; exact rfl; decide; intro b) | (apply gw_lit2; exact rfl; exact rfl; exact rfl; exact rfl; intro b) | (apply gw_lit3; exact rfl; exact rfl; exact rfl; exact rfl; exact rfl; intro b) | (apply gw_ap1; exact rfl; exact rfl; infer_instance; infer_instance; exact rfl; exact rfl; exact rfl; exact rfl; omega; intro a c) | (apply gw_ap1n; exact rfl; exact rfl; infer_instance; exact rfl; exact rfl; exact rfl; exact rfl; omega; intro a c) | (refine gw_stx sto ?_) | (fail))) | (apply CW_region; intro K hK) | (apply CW_condX; exact rfl; exact tst; exact tst; all_goals (intro hq hc; try exact no)))
            all_goals exact ⟨_, _, _, ⟨i + 1, rfl, rfl, rfl, by omega, hno⟩, by exact sbe, sblt, by omega⟩
          · rw [decide_eq_false hio] at hdi
            have hlk := hI.ok i r hri
            have hrk : ∀ k, k ∈ r.l → k < (allT l').length := fun k hk => by
              obtain ⟨⟨y, hy, _⟩, _⟩ := (hlk.1 k).1 hk
              exact (List.getElem?_eq_some_iff.1 hy).1
            have hdl := hI.dl
            have hol' := hI.lt hlt hio
            by_cases hex : ∃ k, k ∈ r.l ∧ d[k]? = some false
            · have hno := hskip fun h => by
                obtain ⟨k, hk, hdk⟩ := hex
                obtain ⟨hv, m, hw⟩ := (hlk.1 k).1 hk
                have := h.2.2 m k hw hv
                rw [hI.dk k (hrk k hk), decide_eq_true this] at hdk
                cases hdk
              
              repeat' (first | ((first | apply RW.q1 | (apply RW.qg; exact gvx; refine hgx tst ?_; intro hg hg')); (first | (apply q_lao; exact rfl; exact evgx; infer_instance; exact (ix_elem hx (by omega)).trans hthc; exact rfl; decide) | (apply q_ldo; exact rfl; exact evgx; infer_instance; first | exact bools_at hdi (by omega) | exact rwv_at hri (by omega)) | (apply q_func; exact rfl; exact rfl) | exact qt | exact qu)) | refine xsg cts ?_ | (apply CW_condT; exact rfl; exact ar) | (apply CW_condF; exact rfl; exact ar) | ((first | apply RW.s1 | apply RW.s0); exact gva) | (refine hK _ _ ?_; clear hK; refine xsg xsl ?_) | ((first | apply RW.a1 | apply RW.a0 | (apply RW.at; exact gva)); (first | (apply gw_alloc (d := some 10); exact rfl; intro b10) | (apply gw_callc (f := 37) (M := [.box b7 74 [.slice da (allT l').length dc], .own 4 1 da (allT l').length dc (bools d)]); exact evx; exact go37; exact pcs; intro G hG; refine SC.mono (contI_spec r.l r.a r.c b7 (allT l').length dc da d true G (hI.ri H G (hG.sub (subl_tail (subl_tail (subl_tail (subl_tail subl_refl))))) r (List.mem_of_getElem? hri)) hrk hdl (by omega) hlk.2 ⟨fun _ => hex, fun _ => rfl⟩) ?_; rintro v M ⟨rfl, rfl⟩; (try dsimp only [jL, jM])) | (apply gw_asg; exact rfl) | (apply gw_alloc; exact rfl; intro b) | (apply gw_box; exact rfl; exact rfl; intro b) | (apply gw_make; exact rfl; exact rfl; exact rfl; exact rfl; omega; omega; omega; omega; intro b) | (apply gw_lit1; exact rfl; exact rfl; exact rfl; exact rfl; decide; intro b) | (apply gw_lit2; exact rfl; exact rfl; exact rfl; exact rfl; intro b) | (apply gw_lit3; exact rfl; exact rfl; exact rfl; exact rfl; exact rfl; intro b) | (apply gw_ap1; exact rfl; exact rfl; infer_instance; infer_instance; exact rfl; exact rfl; exact rfl; exact rfl; omega; intro a c) | (apply gw_ap1n; exact rfl; exact rfl; infer_instance; exact rfl; exact rfl; exact rfl; exact rfl; omega; intro a c) | (refine gw_stx sto ?_) | (fail))) | (apply CW_region; intro K hK) | (apply CW_condX; exact rfl; exact tst; exact tst; all_goals (intro hq hc; try exact no)))
              all_goals exact ⟨_, _, _, ⟨i + 1, rfl, rfl, rfl, by omega, hno⟩, by exact sbe, sblt, by omega⟩
            · have hR : RdW (Nx (rows.map Rw.l)) (VI (allT l')) o i := ⟨⟨x, hx, hxv⟩, hio, fun m k hw hv => by
                have hk := (hlk.1 k).2 ⟨hv, m, hw⟩
                have hdk := hI.dk k (hrk k hk)
                by_cases hko : k ∈ o
                · exact hko
                · rw [decide_eq_false hko] at hdk
                  exact absurd ⟨k, hk, hdk⟩ hex⟩
              have hI2 := hI.take hlt hb hR
              have hcs : txs (o.map (nmA (allT l'))) ++ [.string (bstr x.n)] = txs ((o ++ [i]).map (nmA (allT l'))) := by rw [txs_snoc, List.map_append, List.map_cons, List.map_nil, hxn]
              have hlen : o.length + 1 = (o ++ [i]).length := by simp
              
              repeat' (first | ((first | apply RW.q1 | (apply RW.qg; exact gvx; refine hgx tst ?_; intro hg hg')); (first | (apply q_lao; exact rfl; exact evgx; infer_instance; exact (ix_elem hx (by omega)).trans hthc; exact rfl; decide) | (apply q_ldo; exact rfl; exact evgx; infer_instance; first | exact bools_at hdi (by omega) | exact rwv_at hri (by omega)) | (apply q_func; exact rfl; exact rfl) | exact qt | exact qu)) | refine xsg cts ?_ | (apply CW_condT; exact rfl; exact ar) | (apply CW_condF; exact rfl; exact ar) | ((first | apply RW.s1 | apply RW.s0); exact gva) | (refine hK _ _ ?_; clear hK; refine xsg xsl ?_) | ((first | apply RW.a1 | apply RW.a0 | (apply RW.at; exact gva)); (first | (apply gw_alloc (d := some 10); exact rfl; intro b10) | (apply gw_callc (f := 37) (M := [.box b7 74 [.slice da (allT l').length dc], .own 4 1 da (allT l').length dc (bools d)]); exact evx; exact go37; exact pcs; intro G hG; refine SC.mono (contI_spec r.l r.a r.c b7 (allT l').length dc da d false G (hI.ri H G (hG.sub (subl_tail (subl_tail (subl_tail (subl_tail subl_refl))))) r (List.mem_of_getElem? hri)) hrk hdl (by omega) hlk.2 ⟨fun h => (by cases h), fun h => absurd h hex⟩) ?_; rintro v M ⟨rfl, rfl⟩; (try dsimp only [jL, jM])) | (apply gw_soB i; exact rfl; exact rfl; infer_instance; omega; omega) | (apply gw_asg; exact rfl) | (apply gw_alloc; exact rfl; intro b) | (apply gw_box; exact rfl; exact rfl; intro b) | (apply gw_make; exact rfl; exact rfl; exact rfl; exact rfl; omega; omega; omega; omega; intro b) | (apply gw_lit1; exact rfl; exact rfl; exact rfl; exact rfl; decide; intro b) | (apply gw_lit2; exact rfl; exact rfl; exact rfl; exact rfl; intro b) | (apply gw_lit3; exact rfl; exact rfl; exact rfl; exact rfl; exact rfl; intro b) | (apply gw_ap1; exact rfl; exact rfl; infer_instance; infer_instance; exact rfl; exact rfl; exact rfl; exact rfl; omega; intro a c) | (apply gw_ap1n; exact rfl; exact rfl; infer_instance; exact rfl; exact rfl; exact rfl; exact rfl; omega; intro a c) | (refine gw_stx sto ?_) | (fail))) | (apply CW_region; intro K hK) | (apply CW_condX; exact rfl; exact tst; exact tst; all_goals (intro hq hc; try exact no)))
              refine CW_goto ?_
              refine xsg xsl ?_
              refine jumpS_g ?_
              exact ⟨_, _, _, ⟨l', rows, outs, L1, d.set i true, o ++ [i], sa, oa, _, da, sc, oc, _, dc, b7, rfl, by rw [← hlen], by rw [← hcs, ← hlen], hI2⟩, by exact sbe, sblt⟩
      obtain rfl : i = (allT l').length := by omega
      have hO := hI.ord hd hb
      
      repeat' (first | (apply RW.q1; exact qt) | (apply RW.qg; exact gvx; refine hgx tst ?_; intro hg hg'; exact qu) | refine xsg cts ?_ | (apply CW_condT; exact rfl; exact ar) | (apply CW_condF; exact rfl; exact ar) | ((first | apply RW.s1 | apply RW.s0); exact gva) | (refine hK _ _ ?_; clear hK; refine xsg xsl ?_) | ((first | apply RW.a1 | apply RW.a0 | (apply RW.at; exact gva)); (first | (apply gw_asg; exact rfl) | (apply gw_alloc; exact rfl; intro b) | (apply gw_box; exact rfl; exact rfl; intro b) | (apply gw_make; exact rfl; exact rfl; exact rfl; exact rfl; omega; omega; omega; omega; intro b) | (apply gw_lit1; exact rfl; exact rfl; exact rfl; exact rfl; decide; intro b) | (apply gw_lit2; exact rfl; exact rfl; exact rfl; exact rfl; intro b) | (apply gw_lit3; exact rfl; exact rfl; exact rfl; exact rfl; exact rfl; intro b) | (apply gw_ap1; exact rfl; exact rfl; infer_instance; infer_instance; exact rfl; exact rfl; exact rfl; exact rfl; omega; intro a c) | (apply gw_ap1n; exact rfl; exact rfl; infer_instance; exact rfl; exact rfl; exact rfl; exact rfl; omega; intro a c) | (refine gw_stx sto ?_) | (fail))) | (apply CW_region; intro K hK) | (apply CW_condX; exact rfl; exact tst; exact tst; all_goals (intro hq hc; try exact no)))
      refine CW_ret ?_
      refine xsg xsl ?_
      refine jumpS_r ?_
      refine xsg xsl ?_
      refine bR [.tmp 2, .tmp 3] [.own 9 1 ua o.length uc (txs (o.map (nmA (allT l')))), .own 9 1 none 0 0 []] ?_
      exact ⟨o.map (nmA (allT l')), [], ua, none, uc, 0, by rw [List.length_map]; rfl, by rw [List.length_map]; rfl, .inr ⟨hI.cy, rfl, rfl, l', hI.pm, hI.st, hO⟩⟩
  · rintro m ll L ⟨l', rows, outs, L', d, o, sa, oa, ua, da, sc, oc, uc, dc, b7, rfl, rfl, rfl, hI⟩
    have hal := (allT_perm hI.pm).length_eq
    have hol := hI.ol
    
    repeat' (first | (apply RW.q1; exact qt) | (apply RW.qg; exact gvx; refine hgx tst ?_; intro hg hg'; exact qu) | refine xsg cts ?_ | (apply CW_condT; exact rfl; exact ar) | (apply CW_condF; exact rfl; exact ar) | ((first | apply RW.s1 | apply RW.s0); exact gva) | (refine hK _ _ ?_; clear hK; refine xsg xsl ?_) | ((first | apply RW.a1 | apply RW.a0 | (apply RW.at; exact gva)); (first | (apply gw_asg; exact rfl) | (apply gw_alloc; exact rfl; intro b) | (apply gw_box; exact rfl; exact rfl; intro b) | (apply gw_make; exact rfl; exact rfl; exact rfl; exact rfl; omega; omega; omega; omega; intro b) | (apply gw_lit1; exact rfl; exact rfl; exact rfl; exact rfl; decide; intro b) | (apply gw_lit2; exact rfl; exact rfl; exact rfl; exact rfl; intro b) | (apply gw_lit3; exact rfl; exact rfl; exact rfl; exact rfl; exact rfl; intro b) | (apply gw_ap1; exact rfl; exact rfl; infer_instance; infer_instance; exact rfl; exact rfl; exact rfl; exact rfl; omega; intro a c) | (apply gw_ap1n; exact rfl; exact rfl; infer_instance; exact rfl; exact rfl; exact rfl; exact rfl; omega; intro a c) | (refine gw_stx sto ?_) | (fail))) | (apply CW_region; intro K hK) | (apply CW_condX; exact rfl; exact tst; exact tst; all_goals (intro hq hc; try exact no)))
    refine CW_loop (fun m ll L => ∃ i : Nat, m = (allT l').length - i ∧ ll = [(4, true, .slice sa (allT l').length sc), (6, true, .slice oa (allT l').length oc), (7, true, .pointer (some ⟨b7, 0, none⟩)), (8, true, .slice ua o.length uc), (24, true, .slice sa (allT l').length sc), (25, true, .int .i64 (allT l').length), (26, true, .int .i64 (i : Nat))] ∧
          L = .own 65 3 sa (allT l').length sc ((allT l').flatMap thC) :: .box b7 74 [.slice da (allT l').length dc] :: .own 4 1 da (allT l').length dc (bools d) :: .own 9 1 ua o.length uc (txs (o.map (nmA (allT l')))) :: .own 80 1 oa (allT l').length oc (rwvs outs) :: L' ∧ i ≤ (allT l').length ∧ ∀ j, j < i → ¬ RdW (Nx (rows.map Rw.l)) (VI (allT l')) o j)
        ⟨_, _, _, ⟨0, rfl, rfl, rfl, by omega, fun j h => absurd h (by omega)⟩, by exact sbe, sblt⟩ ?_
    rintro m ll L ⟨i, rfl, rfl, rfl, hi, hb⟩
    by_cases hlt : i < (allT l').length
    · obtain ⟨x, hx⟩ : ∃ x, (allT l')[i]? = some x := ⟨_, List.getElem?_eq_getElem hlt⟩
      obtain ⟨r, hri⟩ : ∃ r, outs[i]? = some r := ⟨_, List.getElem?_eq_getElem (by omega)⟩
      have hdi := hI.dk i hlt
      have hxn := nmA_at hx
      have hskip : ∀ (h : ¬ RdW (Nx (rows.map Rw.l)) (VI (allT l')) o i) (j : Nat), j < i + 1 → ¬ RdW (Nx (rows.map Rw.l)) (VI (allT l')) o j := fun h j hj => by
        rcases lt_succ_cases hj with g | rfl
        · exact hb j g
        · exact h
      cases hxv : x.v with
      | false =>
        have hthc : thC x = [.string (bstr x.n), .bool false, .slice x.a x.u.length x.c] := by rw [← hxv]; rfl
        have hno := hskip fun h => by
          obtain ⟨⟨y, hy, hyv⟩, _⟩ := h
          rw [hx] at hy; cases hy
          rw [hxv] at hyv; cases hyv
        
        repeat' (first | ((first | apply RW.q1 | (apply RW.qg; exact gvx; refine hgx tst ?_; intro hg hg')); (first | (apply q_lao; exact rfl; exact evgx; infer_instance; exact (ix_elem hx (by omega)).trans hthc; exact rfl; decide) | exact qt | exact qu)) | refine xsg cts ?_ | (apply CW_condT; exact rfl; exact ar) | (apply CW_condF; exact rfl; exact ar) | ((first | apply RW.s1 | apply RW.s0); exact gva) | (refine hK _ _ ?_; clear hK; refine xsg xsl ?_) | ((first | apply RW.a1 | apply RW.a0 | (apply RW.at; exact gva)); (first | (apply gw_alloc (d := some 10); exact rfl; intro b10) | (apply gw_asg; exact rfl) | (apply gw_alloc; exact rfl; intro b) | (apply gw_box; exact rfl; exact rfl; intro b) | (apply gw_make; exact rfl; exact rfl; exact rfl; exact rfl; omega; omega; omega; omega; intro b) | (apply gw_lit1; exact rfl; exact rfl; exact rfl; exact rfl; decide; intro b) | (apply gw_lit2; exact rfl; exact rfl; exact rfl; exact rfl; intro b) | (apply gw_lit3; exact rfl; exact rfl; exact rfl; exact rfl; exact rfl; intro b) | (apply gw_ap1; exact rfl; exact rfl; infer_instance; infer_instance; exact rfl; exact rfl; exact rfl; exact rfl; omega; intro a c) | (apply gw_ap1n; exact rfl; exact rfl; infer_instance; exact rfl; exact rfl; exact rfl; exact rfl; omega; intro a c) | (refine gw_stx sto ?_) | (fail))) | (apply CW_region; intro K hK) | (apply CW_condX; exact rfl; exact tst; exact tst; all_goals (intro hq hc; try exact no)))
        all_goals exact ⟨_, _, _, ⟨i + 1, rfl, rfl, rfl, by omega, hno⟩, by exact sbe, sblt, by omega⟩
      | true =>
        have hthc : thC x = [.string (bstr x.n), .bool true, .slice x.a x.u.length x.c] := by rw [← hxv]; rfl
        by_cases hio : i ∈ o
        · have hno := hskip fun h => h.2.1 hio
          rw [decide_eq_true hio] at hdi
          
          repeat' (first | ((first | apply RW.q1 | (apply RW.qg; exact gvx; refine hgx tst ?_; intro hg hg')); (first | (apply q_lao; exact rfl; exact evgx; infer_instance; exact (ix_elem hx (by omega)).trans hthc; exact rfl; decide) | (apply q_ldo; exact rfl; exact evgx; infer_instance; exact bools_at hdi (by omega)) | exact qt | exact qu)) | refine xsg cts ?_ | (apply CW_condT; exact rfl; exact ar) | (apply CW_condF; exact rfl; exact ar) | ((first | apply RW.s1 | apply RW.s0); exact gva) | (refine hK _ _ ?_; clear hK; refine xsg xsl ?_) | ((first | apply RW.a1 | apply RW.a0 | (apply RW.at; exact gva)); (first | (apply gw_alloc (d := some 10); exact rfl; intro b10) | (apply gw_asg; exact rfl) | (apply gw_alloc; exact rfl; intro b) | (apply gw_box; exact rfl; exact rfl; intro b) | (apply gw_make; exact rfl; exact rfl; exact rfl; exact rfl; omega; omega; omega; omega; intro b) | (apply gw_lit1; exact rfl; exact rfl; exact rfl; exact rfl; decide; intro b) | (apply gw_lit2; exact rfl; exact rfl; exact rfl; exact rfl; intro b) | (apply gw_lit3; exact rfl; exact rfl; exact rfl; exact rfl; exact rfl; intro b) | (apply gw_ap1; exact rfl; exact rfl; infer_instance; infer_instance; exact rfl; exact rfl; exact rfl; exact rfl; omega; intro a c) | (apply gw_ap1n; exact rfl; exact rfl; infer_instance; exact rfl; exact rfl; exact rfl; exact rfl; omega; intro a c) | (refine gw_stx sto ?_) | (fail))) | (apply CW_region; intro K hK) | (apply CW_condX; exact rfl; exact tst; exact tst; all_goals (intro hq hc; try exact no)))
          all_goals exact ⟨_, _, _, ⟨i + 1, rfl, rfl, rfl, by omega, hno⟩, by exact sbe, sblt, by omega⟩
        · rw [decide_eq_false hio] at hdi
          have hlk := hI.ok i r hri
          have hrk : ∀ k, k ∈ r.l → k < (allT l').length := fun k hk => by
            obtain ⟨⟨y, hy, _⟩, _⟩ := (hlk.1 k).1 hk
            exact (List.getElem?_eq_some_iff.1 hy).1
          have hdl := hI.dl
          have hol' := hI.lt hlt hio
          by_cases hex : ∃ k, k ∈ r.l ∧ d[k]? = some false
          · have hno := hskip fun h => by
              obtain ⟨k, hk, hdk⟩ := hex
              obtain ⟨hv, m, hw⟩ := (hlk.1 k).1 hk
              have := h.2.2 m k hw hv
              rw [hI.dk k (hrk k hk), decide_eq_true this] at hdk
              cases hdk
            
            repeat' (first | ((first | apply RW.q1 | (apply RW.qg; exact gvx; refine hgx tst ?_; intro hg hg')); (first | (apply q_lao; exact rfl; exact evgx; infer_instance; exact (ix_elem hx (by omega)).trans hthc; exact rfl; decide) | (apply q_ldo; exact rfl; exact evgx; infer_instance; first | exact bools_at hdi (by omega) | exact rwv_at hri (by omega)) | (apply q_func; exact rfl; exact rfl) | exact qt | exact qu)) | refine xsg cts ?_ | (apply CW_condT; exact rfl; exact ar) | (apply CW_condF; exact rfl; exact ar) | ((first | apply RW.s1 | apply RW.s0); exact gva) | (refine hK _ _ ?_; clear hK; refine xsg xsl ?_) | ((first | apply RW.a1 | apply RW.a0 | (apply RW.at; exact gva)); (first | (apply gw_alloc (d := some 10); exact rfl; intro b10) | (apply gw_callc (f := 37) (M := [.box b7 74 [.slice da (allT l').length dc], .own 4 1 da (allT l').length dc (bools d)]); exact evx; exact go37; exact pcs; intro G hG; refine SC.mono (contI_spec r.l r.a r.c b7 (allT l').length dc da d true G (hI.ri H G (hG.sub (subl_tail (subl_tail (subl_tail (subl_tail subl_refl))))) r (List.mem_of_getElem? hri)) hrk hdl (by omega) hlk.2 ⟨fun _ => hex, fun _ => rfl⟩) ?_; rintro v M ⟨rfl, rfl⟩; (try dsimp only [jL, jM])) | (apply gw_asg; exact rfl) | (apply gw_alloc; exact rfl; intro b) | (apply gw_box; exact rfl; exact rfl; intro b) | (apply gw_make; exact rfl; exact rfl; exact rfl; exact rfl; omega; omega; omega; omega; intro b) | (apply gw_lit1; exact rfl; exact rfl; exact rfl; exact rfl; decide; intro b) | (apply gw_lit2; exact rfl; exact rfl; exact rfl; exact rfl; intro b) | (apply gw_lit3; exact rfl; exact rfl; exact rfl; exact rfl; exact rfl; intro b) | (apply gw_ap1; exact rfl; exact rfl; infer_instance; infer_instance; exact rfl; exact rfl; exact rfl; exact rfl; omega; intro a c) | (apply gw_ap1n; exact rfl; exact rfl; infer_instance; exact rfl; exact rfl; exact rfl; exact rfl; omega; intro a c) | (refine gw_stx sto ?_) | (fail))) | (apply CW_region; intro K hK) | (apply CW_condX; exact rfl; exact tst; exact tst; all_goals (intro hq hc; try exact no)))
            all_goals exact ⟨_, _, _, ⟨i + 1, rfl, rfl, rfl, by omega, hno⟩, by exact sbe, sblt, by omega⟩
          · have hR : RdW (Nx (rows.map Rw.l)) (VI (allT l')) o i := ⟨⟨x, hx, hxv⟩, hio, fun m k hw hv => by
              have hk := (hlk.1 k).2 ⟨hv, m, hw⟩
              have hdk := hI.dk k (hrk k hk)
              by_cases hko : k ∈ o
              · exact hko
              · rw [decide_eq_false hko] at hdk
                exact absurd ⟨k, hk, hdk⟩ hex⟩
            have hI2 := hI.take hlt hb hR
            have hcs : txs (o.map (nmA (allT l'))) ++ [.string (bstr x.n)] = txs ((o ++ [i]).map (nmA (allT l'))) := by rw [txs_snoc, List.map_append, List.map_cons, List.map_nil, hxn]
            have hlen : o.length + 1 = (o ++ [i]).length := by simp
            
            repeat' (first | ((first | apply RW.q1 | (apply RW.qg; exact gvx; refine hgx tst ?_; intro hg hg')); (first | (apply q_lao; exact rfl; exact evgx; infer_instance; exact (ix_elem hx (by omega)).trans hthc; exact rfl; decide) | (apply q_ldo; exact rfl; exact evgx; infer_instance; first | exact bools_at hdi (by omega) | exact rwv_at hri (by omega)) | (apply q_func; exact rfl; exact rfl) | exact qt | exact qu)) | refine xsg cts ?_ | (apply CW_condT; exact rfl; exact ar) | (apply CW_condF; exact rfl; exact ar) | ((first | apply RW.s1 | apply RW.s0); exact gva) | (refine hK _ _ ?_; clear hK; refine xsg xsl ?_) | ((first | apply RW.a1 | apply RW.a0 | (apply RW.at; exact gva)); (first | (apply gw_alloc (d := some 10); exact rfl; intro b10) | (apply gw_callc (f := 37) (M := [.box b7 74 [.slice da (allT l').length dc], .own 4 1 da (allT l').length dc (bools d)]); exact evx; exact go37; exact pcs; intro G hG; refine SC.mono (contI_spec r.l r.a r.c b7 (allT l').length dc da d false G (hI.ri H G (hG.sub (subl_tail (subl_tail (subl_tail (subl_tail subl_refl))))) r (List.mem_of_getElem? hri)) hrk hdl (by omega) hlk.2 ⟨fun h => (by cases h), fun h => absurd h hex⟩) ?_; rintro v M ⟨rfl, rfl⟩; (try dsimp only [jL, jM])) | (apply gw_soB i; exact rfl; exact rfl; infer_instance; omega; omega) | (apply gw_asg; exact rfl) | (apply gw_alloc; exact rfl; intro b) | (apply gw_box; exact rfl; exact rfl; intro b) | (apply gw_make; exact rfl; exact rfl; exact rfl; exact rfl; omega; omega; omega; omega; intro b) | (apply gw_lit1; exact rfl; exact rfl; exact rfl; exact rfl; decide; intro b) | (apply gw_lit2; exact rfl; exact rfl; exact rfl; exact rfl; intro b) | (apply gw_lit3; exact rfl; exact rfl; exact rfl; exact rfl; exact rfl; intro b) | (apply gw_ap1; exact rfl; exact rfl; infer_instance; infer_instance; exact rfl; exact rfl; exact rfl; exact rfl; omega; intro a c) | (apply gw_ap1n; exact rfl; exact rfl; infer_instance; exact rfl; exact rfl; exact rfl; exact rfl; omega; intro a c) | (refine gw_stx sto ?_) | (fail))) | (apply CW_region; intro K hK) | (apply CW_condX; exact rfl; exact tst; exact tst; all_goals (intro hq hc; try exact no)))
            refine CW_goto ?_
            refine xsg xsl ?_
            refine jumpS_g ?_
            exact ⟨_, _, _, ⟨l', rows, outs, L', d.set i true, o ++ [i], sa, oa, _, da, sc, oc, _, dc, b7, rfl, by rw [← hlen], by rw [← hcs, ← hlen], hI2⟩, by exact sbe, sblt, by omega⟩
    obtain rfl : i = (allT l').length := by omega
    have hO := hI.ord hd hb
    
    repeat' (first | (apply RW.q1; exact qt) | (apply RW.qg; exact gvx; refine hgx tst ?_; intro hg hg'; exact qu) | refine xsg cts ?_ | (apply CW_condT; exact rfl; exact ar) | (apply CW_condF; exact rfl; exact ar) | ((first | apply RW.s1 | apply RW.s0); exact gva) | (refine hK _ _ ?_; clear hK; refine xsg xsl ?_) | ((first | apply RW.a1 | apply RW.a0 | (apply RW.at; exact gva)); (first | (apply gw_asg; exact rfl) | (apply gw_alloc; exact rfl; intro b) | (apply gw_box; exact rfl; exact rfl; intro b) | (apply gw_make; exact rfl; exact rfl; exact rfl; exact rfl; omega; omega; omega; omega; intro b) | (apply gw_lit1; exact rfl; exact rfl; exact rfl; exact rfl; decide; intro b) | (apply gw_lit2; exact rfl; exact rfl; exact rfl; exact rfl; intro b) | (apply gw_lit3; exact rfl; exact rfl; exact rfl; exact rfl; exact rfl; intro b) | (apply gw_ap1; exact rfl; exact rfl; infer_instance; infer_instance; exact rfl; exact rfl; exact rfl; exact rfl; omega; intro a c) | (apply gw_ap1n; exact rfl; exact rfl; infer_instance; exact rfl; exact rfl; exact rfl; exact rfl; omega; intro a c) | (refine gw_stx sto ?_) | (fail))) | (apply CW_region; intro K hK) | (apply CW_condX; exact rfl; exact tst; exact tst; all_goals (intro hq hc; try exact no)))
    refine CW_ret ?_
    refine xsg xsl ?_
    refine jumpS_r ?_
    refine xsg xsl ?_
    refine bR [.tmp 2, .tmp 3] [.own 9 1 ua o.length uc (txs (o.map (nmA (allT l')))), .own 9 1 none 0 0 []] ?_
    exact ⟨o.map (nmA (allT l')), [], ua, none, uc, 0, by rw [List.length_map]; rfl, by rw [List.length_map]; rfl, .inr ⟨hI.cy, rfl, rfl, l', hI.pm, hI.st, hO⟩⟩
end Go.Proofs.Ytkhmimlgkjenfaa.HL
