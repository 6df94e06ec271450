/- WalkA: StaH: a package's files in the order of their names: the comparing function, the sort. Condition: the list's length. StaI: a file's things, as the package lists them. Condition: the list's length. StaJ: a file's things, as the document lists them. Condition: the list's length. StaK: the document's has, at, point. Condition: the lists' lengths. StaL: the document's at. Condition: the list's length. StaM: the document's point. Condition: the text's length. StaN: lists of texts held against one another. Condition: the lists' lengths. StaO: the document's path. Condition: the text's length. StaP: the document's name. Condition: the text's length. StaQ: the package's word, of a path. Condition: the text's length. StaR: the package's word, of a name. Condition: the text's length. StaS: a set of texts as a map that counts: what looking up and counting up do. No condition. -/
import Derived.Test.YtkhmimlgkjenfaaEngX
import Derived.Test.YtkhmimlgkjenfaaSrtAX
import Derived.Test.YtkhmimlgkjenfaaTexAX
import Derived.Test.YtkhmimlgkjenfaaShelfX
import Derived.Test.YtkhmimlgkjenfaaHLnX
namespace Go.Proofs.Ytkhmimlgkjenfaa.HL
open Go
attribute [local irreducible] goFn thenS blockS bodyS CW RW DW GW QW NW SC Pick Picks SubL Rd NN ResOk SrcW subE hops hseg AW hgen HC qv bldv
set_option maxHeartbeats 8000000
set_option maxRecDepth 100000
set_option linter.unusedVariables false
set_option linter.unusedSimpArgs false

theorem cmp_neg : ∀ a b : Tx, Lib.compareBytes a b < 0 ↔ ltT a b
  | [], [] => by simp [Lib.compareBytes, ltT_nil]
  | [], _ :: _ => by simp [Lib.compareBytes, ltT, Op.bytesLess]
  | _ :: _, [] => by simp [Lib.compareBytes, ltT_nil]
  | x :: a, y :: b => by
    have ih := cmp_neg a b
    rw [ltT_cons]
    unfold Lib.compareBytes
    by_cases h1 : x < y
    · rw [if_pos h1]; simp [h1]
    · rw [if_neg h1]
      by_cases h2 : y < x
      · rw [if_pos h2]
        have hne : ¬ x = y := fun e => by rw [e] at h2; exact absurd (u8_lt.1 h2) (Nat.lt_irrefl _)
        simp [h1, hne]
      · rw [if_neg h2]
        rw [u8_lt] at h1 h2
        have hxy : x = y := UInt8.toNat_inj.1 (by omega)
        subst hxy
        simp [ih]
theorem compare_spec (a b : Tx) (H : Hp) : SC Try.prog 56 [.string (bstr a), .string (bstr b)] H [] (fun v M => v = .int .i64 (Lib.compareBytes a b) ∧ M = []) :=
  SC_same (fun Ω w fw => by
    have := Try.strings_Compare (bstr a) (bstr b) w
    simpa [bstr] using this) ⟨rfl, rfl⟩ subl_nil
theorem cmpFl_spec (f g : Fl) (H : Hp) : SC Try.prog 55 [flV f, flV g] H [] (fun v M => v = .int .i64 (Lib.compareBytes f.n g.n) ∧ M = []) := by
  (refine SC_intro Try.func55 rfl (by kernel_rfl) (by rw [Try.ntmps55]; exact Nat.le_of_ble_eq_true rfl) ?_; simp only [Try.ntmps55, argE, Nat.reduceAdd])
  repeat' (first | (apply RW.q1; exact qt) | refine xsg cts ?_ | (apply CW_condT; exact rfl; exact ar) | (apply CW_condF; exact rfl; exact ar) | (refine hK _ _ ?_; clear hK; refine xsg xsl ?_) | ((first | apply RW.a1 | apply RW.a0); (first | (apply gw_callE (f := 56); exact rfl; exact go56; intro G hG; exact compare_spec f.n g.n G) | (apply gw_asg; exact rfl) | (apply gw_box; exact rfl; exact rfl; intro b) | (fail))) | (apply CW_region; intro K hK) | (apply CW_condX; exact rfl; exact tst; exact tst; all_goals (intro hq hc; try exact nx)))
  (refine CW_ret ?_; refine xsg xsl ?_; refine bR [.tmp 4] [] ?_)
  exact ⟨rfl, rfl⟩
def flLt (f g : Fl) : Prop := ltT f.n g.n
theorem flLt_ord : Ord flLt where
  asym := fun u v h => ltT_asym h
  tr := fun u v w h1 h2 h3 => by
    unfold flLt at *
    by_cases g : ltT w.n v.n
    · exact h2 g
    · by_cases g2 : ltT v.n u.n
      · exact h1 g2
      · have e1 : w.n = v.n ∨ ltT v.n w.n := by
          by_cases k : ltT v.n w.n
          · exact .inr k
          · exact .inl (ltT_tri g k)
        rcases e1 with e1 | e1
        · rw [e1] at h3; exact g2 h3
        · exact g2 (ltT_tr e1 h3)
theorem cmpFl_ok (H : Hp) : CmpOk 55 H (fun _ => True) (fun f g => Lib.compareBytes f.n g.n) flLt :=
  ⟨fun G hG u v _ _ => cmpFl_spec u v G, fun u v => cmp_neg u.n v.n, flLt_ord⟩
theorem srt_fl {l l' : List Fl} (hp : l.Perm l') (hd : (l.map Fl.n).Nodup) (h : Srt flLt l) (h' : Srt flLt l') : l = l' := by
  induction l generalizing l' with
  | nil => exact (hp.nil_eq)
  | cons x l ih =>
    cases l' with
    | nil => exact absurd hp.length_eq (by simp)
    | cons y l' =>
      have hxy : x = y := by
        rcases List.mem_cons.1 (hp.mem_iff.1 (List.mem_cons_self ..)) with h1 | h1
        · exact h1
        · rcases List.mem_cons.1 (hp.mem_iff.2 (List.mem_cons_self ..)) with h2 | h2
          · exact h2.symm
          · have a := List.rel_of_pairwise_cons h h2
            have b := List.rel_of_pairwise_cons h' h1
            have e : x.n = y.n := ltT_tri b a
            exact absurd (e ▸ List.mem_map.2 ⟨y, h2, rfl⟩) (List.nodup_cons.1 hd).1
      subst hxy
      rw [ih (List.Perm.cons_inv hp) (List.nodup_cons.1 hd).2 h.of_cons h'.of_cons]
end Go.Proofs.Ytkhmimlgkjenfaa.HL
namespace Go.Proofs.Ytkhmimlgkjenfaa.HL
open Go
attribute [local irreducible] goFn thenS blockS bodyS CW RW DW GW QW NW SC Pick Picks SubL Rd NN ResOk SrcW subE hops hseg AW hgen HC qv bldv
set_option maxHeartbeats 8000000
set_option maxRecDepth 100000
set_option linter.unusedVariables false
set_option linter.unusedSimpArgs false

theorem th_step {l : List Vr} {k : Nat} {x : Vr} {cs : List Value} (v : Bool) (hx : l[k]? = some x) (h : cs = ((l.take k).map (thV v)).flatMap thC) : cs ++ [.string (bstr x.n), .bool v, .slice x.a x.u.length x.c] = ((l.take (k + 1)).map (thV v)).flatMap thC := by
  rw [h, List.take_add_one, hx]
  simp [thC, thV]
theorem th_step2 {l : List Vr} {k : Nat} {x : Vr} {cs cs0 : List Value} (v : Bool) (hx : l[k]? = some x) (h : cs = cs0 ++ ((l.take k).map (thV v)).flatMap thC) : cs ++ [.string (bstr x.n), .bool v, .slice x.a x.u.length x.c] = cs0 ++ ((l.take (k + 1)).map (thV v)).flatMap thC := by
  rw [h, List.append_assoc, th_step v hx rfl]
theorem things_spec (f : Fl) (H : Hp) (hf : flOk H f) (hn : f.vs.length + f.fs.length ≤ 1099511627776) :
    SC Try.prog 25 [flV f] H [] (fun v M => ∃ a c, v = .slice a (things f).length c ∧ M = [.own 65 3 a (things f).length c ((things f).flatMap thC)]) := by
  obtain ⟨hv, hg, _, _⟩ := hf
  (refine SC_intro Try.func25 rfl (by kernel_rfl) (by rw [Try.ntmps25]; exact Nat.le_of_ble_eq_true rfl) ?_; simp only [Try.ntmps25, argE, Nat.reduceAdd])
  
  repeat' (first | (apply RW.q1; (first | (apply q_bld; exact rfl; first | exact bld65_0_1_2 _ _ _ _ _) | exact qt)) | refine xsg cts ?_ | (apply CW_condT; exact rfl; exact ar) | (apply CW_condF; exact rfl; exact ar) | (refine hK _ _ ?_; clear hK; refine xsg xsl ?_) | ((first | apply RW.a1 | apply RW.a0); (first | (apply gw_box (d := some 1); exact rfl; exact rfl; intro b1) | (apply gw_alloc (d := some 5); exact rfl; intro b5) | (apply gw_alloc (d := some 7); exact rfl; intro b7) | (apply gw_asg; exact rfl) | (apply gw_alloc; exact rfl; intro b) | (apply gw_box; exact rfl; exact rfl; intro b) | (apply gw_lit1; exact rfl; exact rfl; exact rfl; exact rfl; decide; intro b) | (apply gw_lit2; exact rfl; exact rfl; exact rfl; exact rfl; intro b) | (apply gw_lit3; exact rfl; exact rfl; exact rfl; exact rfl; exact rfl; intro b) | (apply gw_ap1; exact rfl; exact rfl; infer_instance; infer_instance; exact rfl; exact rfl; exact rfl; exact rfl; omega; intro a c) | (apply gw_ap1n; exact rfl; exact rfl; infer_instance; exact rfl; exact rfl; exact rfl; exact rfl; omega; intro a c) | (refine gw_stx sto ?_) | (fail))) | (apply CW_region; intro K hK) | (apply CW_condX; exact rfl; exact tst; exact tst; all_goals (intro hq hc; try exact no)))
  refine CW_loop (fun m l L => ∃ (k n c : Nat) (a : Option Addr) (cs : List Value), m = f.vs.length - k ∧ l = [(1, true, .pointer (some ⟨b1, 0, none⟩)), (3, true, .slice a n c), (9, true, .slice f.va f.vs.length f.vc), (10, true, .int .i64 f.vs.length), (11, true, .int .i64 (k : Nat))] ∧
      L = [.box b1 38 (flC f), .own 65 3 a n c cs] ∧ k ≤ f.vs.length ∧ n = k ∧ cs = ((f.vs.take k).map (thV true)).flatMap thC)
    ⟨_, _, _, ⟨0, 0, 0, none, [], rfl, rfl, rfl, by omega, rfl, rfl⟩, by exact sbe, by exact sbl⟩ ?_
  rintro m l L ⟨k, n, c, a, cs, rfl, rfl, rfl, hk, hnk, hcs⟩
  by_cases hlt : k < f.vs.length
  · obtain ⟨x, hx⟩ : ∃ x, f.vs[k]? = some x := ⟨_, List.getElem?_eq_getElem hlt⟩
    
    repeat' (first | (apply RW.q1; (first | (apply q_lar; exact rfl; exact rfl; exact hv; exact ix_elem hx (by omega); exact rfl; decide) | (apply q_bld; exact rfl; first | exact bld65_0_1_2 _ _ _ _ _) | exact qt)) | refine xsg cts ?_ | (apply CW_condT; exact rfl; exact ar) | (apply CW_condF; exact rfl; exact ar) | (refine hK _ _ ?_; clear hK; refine xsg xsl ?_) | ((first | apply RW.a1 | apply RW.a0); (first | (apply gw_alloc (d := some 5); exact rfl; intro b5) | (apply gw_asg; exact rfl) | (apply gw_alloc; exact rfl; intro b) | (apply gw_box; exact rfl; exact rfl; intro b) | (apply gw_lit1; exact rfl; exact rfl; exact rfl; exact rfl; decide; intro b) | (apply gw_lit2; exact rfl; exact rfl; exact rfl; exact rfl; intro b) | (apply gw_lit3; exact rfl; exact rfl; exact rfl; exact rfl; exact rfl; intro b) | (apply gw_ap1; exact rfl; exact rfl; infer_instance; infer_instance; exact rfl; exact rfl; exact rfl; exact rfl; omega; intro a c) | (apply gw_ap1n; exact rfl; exact rfl; infer_instance; exact rfl; exact rfl; exact rfl; exact rfl; omega; intro a c) | (refine gw_stx sto ?_) | (fail))) | (apply CW_region; intro K hK) | (apply CW_condX; exact rfl; exact tst; exact tst; all_goals (intro hq hc; try exact no)))
    exact ⟨_, _, _, ⟨k + 1, n + 1, _, _, _, rfl, rfl, rfl, by omega, by omega, th_step true hx hcs⟩, by exact sbe, by exact sbl, by omega⟩
  obtain rfl : k = f.vs.length := by omega
  rw [List.take_length] at hcs
  
  repeat' (first | (apply RW.q1; (first | (apply q_bld; exact rfl; first | exact bld65_0_1_2 _ _ _ _ _) | exact qt)) | refine xsg cts ?_ | (apply CW_condT; exact rfl; exact ar) | (apply CW_condF; exact rfl; exact ar) | (refine hK _ _ ?_; clear hK; refine xsg xsl ?_) | ((first | apply RW.a1 | apply RW.a0); (first | (apply gw_asg; exact rfl) | (apply gw_alloc; exact rfl; intro b) | (apply gw_box; exact rfl; exact rfl; intro b) | (apply gw_lit1; exact rfl; exact rfl; exact rfl; exact rfl; decide; intro b) | (apply gw_lit2; exact rfl; exact rfl; exact rfl; exact rfl; intro b) | (apply gw_lit3; exact rfl; exact rfl; exact rfl; exact rfl; exact rfl; intro b) | (apply gw_ap1; exact rfl; exact rfl; infer_instance; infer_instance; exact rfl; exact rfl; exact rfl; exact rfl; omega; intro a c) | (apply gw_ap1n; exact rfl; exact rfl; infer_instance; exact rfl; exact rfl; exact rfl; exact rfl; omega; intro a c) | (refine gw_stx sto ?_) | (fail))) | (apply CW_region; intro K hK) | (apply CW_condX; exact rfl; exact tst; exact tst; all_goals (intro hq hc; try exact no)))
  refine CW_loop (fun m l L => ∃ (k n' c : Nat) (a : Option Addr) (cs' : List Value), m = f.fs.length - k ∧ l = [(3, true, .slice a n' c), (25, true, .slice f.fa f.fs.length f.fc), (26, true, .int .i64 f.fs.length), (27, true, .int .i64 (k : Nat))] ∧
      L = [.box b1 38 (flC f), .own 65 3 a n' c cs'] ∧ k ≤ f.fs.length ∧ n' = f.vs.length + k ∧ cs' = cs ++ ((f.fs.take k).map (thV false)).flatMap thC)
    ⟨_, _, _, ⟨0, n, c, a, cs, rfl, rfl, rfl, by omega, by omega, by simp⟩, by exact sbe, by exact sbl⟩ ?_
  rintro m l L ⟨k, n', c, a, cs', rfl, rfl, rfl, hk, hnk', hcs'⟩
  by_cases hlt : k < f.fs.length
  · obtain ⟨x, hx⟩ : ∃ x, f.fs[k]? = some x := ⟨_, List.getElem?_eq_getElem hlt⟩
    
    repeat' (first | (apply RW.q1; (first | (apply q_lar; exact rfl; exact rfl; exact hg; exact ix_elem hx (by omega); exact rfl; decide) | (apply q_bld; exact rfl; first | exact bld65_0_1_2 _ _ _ _ _) | exact qt)) | refine xsg cts ?_ | (apply CW_condT; exact rfl; exact ar) | (apply CW_condF; exact rfl; exact ar) | (refine hK _ _ ?_; clear hK; refine xsg xsl ?_) | ((first | apply RW.a1 | apply RW.a0); (first | (apply gw_alloc (d := some 7); exact rfl; intro b7) | (apply gw_asg; exact rfl) | (apply gw_alloc; exact rfl; intro b) | (apply gw_box; exact rfl; exact rfl; intro b) | (apply gw_lit1; exact rfl; exact rfl; exact rfl; exact rfl; decide; intro b) | (apply gw_lit2; exact rfl; exact rfl; exact rfl; exact rfl; intro b) | (apply gw_lit3; exact rfl; exact rfl; exact rfl; exact rfl; exact rfl; intro b) | (apply gw_ap1; exact rfl; exact rfl; infer_instance; infer_instance; exact rfl; exact rfl; exact rfl; exact rfl; omega; intro a c) | (apply gw_ap1n; exact rfl; exact rfl; infer_instance; exact rfl; exact rfl; exact rfl; exact rfl; omega; intro a c) | (refine gw_stx sto ?_) | (fail))) | (apply CW_region; intro K hK) | (apply CW_condX; exact rfl; exact tst; exact tst; all_goals (intro hq hc; try exact no)))
    exact ⟨_, _, _, ⟨k + 1, n' + 1, _, _, _, rfl, rfl, rfl, by omega, by omega, th_step2 false hx hcs'⟩, by exact sbe, by exact sbl, by omega⟩
  obtain rfl : k = f.fs.length := by omega
  rw [List.take_length, hcs, ← List.flatMap_append] at hcs'
  have hln : n' = (things f).length := by unfold things; rw [List.length_append, List.length_map, List.length_map]; exact hnk'
  subst hln
  subst hcs'
  
  repeat' (first | (apply RW.q1; (first | (apply q_bld; exact rfl; first | exact bld65_0_1_2 _ _ _ _ _) | exact qt)) | refine xsg cts ?_ | (apply CW_condT; exact rfl; exact ar) | (apply CW_condF; exact rfl; exact ar) | (refine hK _ _ ?_; clear hK; refine xsg xsl ?_) | ((first | apply RW.a1 | apply RW.a0); (first | (apply gw_asg; exact rfl) | (apply gw_alloc; exact rfl; intro b) | (apply gw_box; exact rfl; exact rfl; intro b) | (apply gw_lit1; exact rfl; exact rfl; exact rfl; exact rfl; decide; intro b) | (apply gw_lit2; exact rfl; exact rfl; exact rfl; exact rfl; intro b) | (apply gw_lit3; exact rfl; exact rfl; exact rfl; exact rfl; exact rfl; intro b) | (apply gw_ap1; exact rfl; exact rfl; infer_instance; infer_instance; exact rfl; exact rfl; exact rfl; exact rfl; omega; intro a c) | (apply gw_ap1n; exact rfl; exact rfl; infer_instance; exact rfl; exact rfl; exact rfl; exact rfl; omega; intro a c) | (refine gw_stx sto ?_) | (fail))) | (apply CW_region; intro K hK) | (apply CW_condX; exact rfl; exact tst; exact tst; all_goals (intro hq hc; try exact no)))
  (refine CW_ret ?_; refine xsg xsl ?_; refine bR [.tmp 2] [.own 65 3 a _ c _] ?_)
  exact ⟨a, c, rfl, rfl⟩
end Go.Proofs.Ytkhmimlgkjenfaa.HL
namespace Go.Proofs.Ytkhmimlgkjenfaa.HL
open Go
attribute [local irreducible] goFn thenS blockS bodyS CW RW DW GW QW NW SC Pick Picks SubL Rd NN ResOk SrcW subE hops hseg AW hgen HC qv bldv
set_option maxHeartbeats 8000000
set_option maxRecDepth 100000
set_option linter.unusedVariables false
set_option linter.unusedSimpArgs false

abbrev dwStaJ0 : List (Nat × Bool) := [(0, false), (1, false), (2, false), (3, false), (4, false), (5, false), (6, false), (7, false), (8, false), (9, false), (10, false), (11, false), (12, false), (13, false), (14, true), (15, true), (16, true)]
theorem vr_n {l : List Vr} {k j : Nat} {x : Vr} (hx : l[k]? = some x) (hj : j = k * 2) : ((l.flatMap vrC).drop j).take 1 = [.string (bstr x.n)] := by
  subst hj
  exact ix_fld (enc := vrC) (off := 0) (n := 1) (i := (k : Int)) hx (by omega) (by omega)
theorem vr_u {l : List Vr} {k j : Nat} {x : Vr} (hx : l[k]? = some x) (hj : j = k * 2 + 1) : ((l.flatMap vrC).drop j).take 1 = [.slice x.a x.u.length x.c] := by
  subst hj
  exact ix_fld (enc := vrC) (off := 1) (n := 1) (i := (k : Int)) hx (by omega) (by omega)
theorem rThings_spec (f : Fl) (H : Hp) (hf : flOk H f) (hn : f.vs.length + f.fs.length ≤ 1099511627776) :
    SC Try.prog 48 [flV f] H [] (fun v M => ∃ a c, v = .slice a (things f).length c ∧ M = [.own 89 3 a (things f).length c ((things f).flatMap thC)]) := by
  obtain ⟨hv, hg, _, _⟩ := hf
  (refine SC_intro Try.func48 rfl (by kernel_rfl) (by rw [Try.ntmps48]; exact Nat.le_of_ble_eq_true rfl) ?_; simp only [Try.ntmps48, argE, Nat.reduceAdd])
  
  repeat' (first | ((first | apply RW.q1 | (apply DW.q1; exact rfl)); (first | (apply q_bld; exact rfl; first | exact bld89_0_1_2 _ _ _ _ _) | exact qt)) | refine xsg cts ?_ | (apply CW_condT; exact rfl; exact ar) | (apply CW_condF; exact rfl; exact ar) | (refine hK _ _ ?_; clear hK; refine xsg xsl ?_) | (refine xsg ahd ?_; (first | (apply gw_box (d := some 1); exact rfl; exact rfl; intro b1) | (apply gw_asg; exact rfl) | (apply gw_box; exact rfl; exact rfl; intro b) | (apply gw_lit1; exact rfl; exact rfl; exact rfl; exact rfl; decide; intro b) | (apply gw_lit2; exact rfl; exact rfl; exact rfl; exact rfl; intro b) | (apply gw_lit3; exact rfl; exact rfl; exact rfl; exact rfl; exact rfl; intro b) | (apply gw_ap1; exact rfl; exact rfl; infer_instance; infer_instance; exact rfl; exact rfl; exact rfl; exact rfl; omega; intro a c) | (apply gw_ap1n; exact rfl; exact rfl; infer_instance; exact rfl; exact rfl; exact rfl; exact rfl; omega; intro a c) | (fail))) | (apply CW_region; intro K hK) | (apply CW_condX; exact rfl; exact tst; exact tst; all_goals (intro hq hc; try exact no)) | (refine CW_draw (id := 5) [] dwStaJ0 mixed (by kernel_rfl) (fun K hK => ?_)) | (refine CW_draw (id := 9) [] dwStaJ0 mixed (by kernel_rfl) (fun K hK => ?_)))
  refine CW_loop (fun m l L => ∃ (k n c : Nat) (a : Option Addr) (cs : List Value), m = f.vs.length - k ∧ l = [(1, true, .pointer (some ⟨b1, 0, none⟩)), (3, true, .slice a n c), (4, true, .int .i64 (k : Nat))] ∧
      L = [.box b1 38 (flC f), .own 89 3 a n c cs] ∧ k ≤ f.vs.length ∧ n = k ∧ cs = ((f.vs.take k).map (thV true)).flatMap thC)
    ⟨_, _, _, ⟨0, 0, 0, none, [], rfl, rfl, rfl, by omega, rfl, rfl⟩, by exact sbe, by exact sbl⟩ ?_
  rintro m l L ⟨k, n, c, a, cs, rfl, rfl, rfl, hk, hnk, hcs⟩
  by_cases hlt : k < f.vs.length
  · obtain ⟨x, hx⟩ : ∃ x, f.vs[k]? = some x := ⟨_, List.getElem?_eq_getElem hlt⟩
    
    repeat' (first | ((first | apply RW.q1 | (apply DW.q1; exact rfl)); (first | (apply q_ldr; exact rfl; exact rfl; exact hv; first | exact vr_n hx (by omega) | exact vr_u hx (by omega)) | (apply q_bld; exact rfl; first | exact bld89_0_1_2 _ _ _ _ _) | exact qt)) | refine xsg cts ?_ | (apply CW_condT; exact rfl; exact ar) | (apply CW_condF; exact rfl; exact ar) | (refine hK _ _ ?_; clear hK; refine xsg xsl ?_) | (refine xsg ahd ?_; (first | (apply gw_asg; exact rfl) | (apply gw_box; exact rfl; exact rfl; intro b) | (apply gw_lit1; exact rfl; exact rfl; exact rfl; exact rfl; decide; intro b) | (apply gw_lit2; exact rfl; exact rfl; exact rfl; exact rfl; intro b) | (apply gw_lit3; exact rfl; exact rfl; exact rfl; exact rfl; exact rfl; intro b) | (apply gw_ap1; exact rfl; exact rfl; infer_instance; infer_instance; exact rfl; exact rfl; exact rfl; exact rfl; omega; intro a c) | (apply gw_ap1n; exact rfl; exact rfl; infer_instance; exact rfl; exact rfl; exact rfl; exact rfl; omega; intro a c) | (fail))) | (apply CW_region; intro K hK) | (apply CW_condX; exact rfl; exact tst; exact tst; all_goals (intro hq hc; try exact no)) | (refine CW_draw (id := 5) [] dwStaJ0 mixed (by kernel_rfl) (fun K hK => ?_)) | (refine CW_draw (id := 9) [] dwStaJ0 mixed (by kernel_rfl) (fun K hK => ?_)))
    all_goals exact ⟨_, _, _, ⟨k + 1, n + 1, _, _, _, rfl, rfl, rfl, by omega, by omega, th_step true hx hcs⟩, by exact sbe, by exact sbl, by omega⟩
  obtain rfl : k = f.vs.length := by omega
  rw [List.take_length] at hcs
  
  repeat' (first | ((first | apply RW.q1 | (apply DW.q1; exact rfl)); (first | (apply q_bld; exact rfl; first | exact bld89_0_1_2 _ _ _ _ _) | exact qt)) | refine xsg cts ?_ | (apply CW_condT; exact rfl; exact ar) | (apply CW_condF; exact rfl; exact ar) | (refine hK _ _ ?_; clear hK; refine xsg xsl ?_) | (refine xsg ahd ?_; (first | (apply gw_asg; exact rfl) | (apply gw_box; exact rfl; exact rfl; intro b) | (apply gw_lit1; exact rfl; exact rfl; exact rfl; exact rfl; decide; intro b) | (apply gw_lit2; exact rfl; exact rfl; exact rfl; exact rfl; intro b) | (apply gw_lit3; exact rfl; exact rfl; exact rfl; exact rfl; exact rfl; intro b) | (apply gw_ap1; exact rfl; exact rfl; infer_instance; infer_instance; exact rfl; exact rfl; exact rfl; exact rfl; omega; intro a c) | (apply gw_ap1n; exact rfl; exact rfl; infer_instance; exact rfl; exact rfl; exact rfl; exact rfl; omega; intro a c) | (fail))) | (apply CW_region; intro K hK) | (apply CW_condX; exact rfl; exact tst; exact tst; all_goals (intro hq hc; try exact no)) | (refine CW_draw (id := 5) [] dwStaJ0 mixed (by kernel_rfl) (fun K hK => ?_)) | (refine CW_draw (id := 9) [] dwStaJ0 mixed (by kernel_rfl) (fun K hK => ?_)))
  refine CW_loop (fun m l L => ∃ (k n' c : Nat) (a : Option Addr) (cs' : List Value), m = f.fs.length - k ∧ l = [(1, true, .pointer (some ⟨b1, 0, none⟩)), (3, true, .slice a n' c), (5, true, .int .i64 (k : Nat))] ∧
      L = [.box b1 38 (flC f), .own 89 3 a n' c cs'] ∧ k ≤ f.fs.length ∧ n' = f.vs.length + k ∧ cs' = cs ++ ((f.fs.take k).map (thV false)).flatMap thC)
    ⟨_, _, _, ⟨0, n, c, a, cs, rfl, rfl, rfl, by omega, by omega, by simp⟩, by exact sbe, by exact sbl⟩ ?_
  rintro m l L ⟨k, n', c, a, cs', rfl, rfl, rfl, hk, hnk', hcs'⟩
  by_cases hlt : k < f.fs.length
  · obtain ⟨x, hx⟩ : ∃ x, f.fs[k]? = some x := ⟨_, List.getElem?_eq_getElem hlt⟩
    
    repeat' (first | ((first | apply RW.q1 | (apply DW.q1; exact rfl)); (first | (apply q_ldr; exact rfl; exact rfl; exact hg; first | exact vr_n hx (by omega) | exact vr_u hx (by omega)) | (apply q_bld; exact rfl; first | exact bld89_0_1_2 _ _ _ _ _) | exact qt)) | refine xsg cts ?_ | (apply CW_condT; exact rfl; exact ar) | (apply CW_condF; exact rfl; exact ar) | (refine hK _ _ ?_; clear hK; refine xsg xsl ?_) | (refine xsg ahd ?_; (first | (apply gw_asg; exact rfl) | (apply gw_box; exact rfl; exact rfl; intro b) | (apply gw_lit1; exact rfl; exact rfl; exact rfl; exact rfl; decide; intro b) | (apply gw_lit2; exact rfl; exact rfl; exact rfl; exact rfl; intro b) | (apply gw_lit3; exact rfl; exact rfl; exact rfl; exact rfl; exact rfl; intro b) | (apply gw_ap1; exact rfl; exact rfl; infer_instance; infer_instance; exact rfl; exact rfl; exact rfl; exact rfl; omega; intro a c) | (apply gw_ap1n; exact rfl; exact rfl; infer_instance; exact rfl; exact rfl; exact rfl; exact rfl; omega; intro a c) | (fail))) | (apply CW_region; intro K hK) | (apply CW_condX; exact rfl; exact tst; exact tst; all_goals (intro hq hc; try exact no)) | (refine CW_draw (id := 5) [] dwStaJ0 mixed (by kernel_rfl) (fun K hK => ?_)) | (refine CW_draw (id := 9) [] dwStaJ0 mixed (by kernel_rfl) (fun K hK => ?_)))
    all_goals exact ⟨_, _, _, ⟨k + 1, n' + 1, _, _, _, rfl, rfl, rfl, by omega, by omega, th_step2 false hx hcs'⟩, by exact sbe, by exact sbl, by omega⟩
  obtain rfl : k = f.fs.length := by omega
  rw [List.take_length, hcs, ← List.flatMap_append] at hcs'
  have hln : n' = (things f).length := by unfold things; rw [List.length_append, List.length_map, List.length_map]; exact hnk'
  subst hln
  subst hcs'
  
  repeat' (first | ((first | apply RW.q1 | (apply DW.q1; exact rfl)); (first | (apply q_bld; exact rfl; first | exact bld89_0_1_2 _ _ _ _ _) | exact qt)) | refine xsg cts ?_ | (apply CW_condT; exact rfl; exact ar) | (apply CW_condF; exact rfl; exact ar) | (refine hK _ _ ?_; clear hK; refine xsg xsl ?_) | (refine xsg ahd ?_; (first | (apply gw_asg; exact rfl) | (apply gw_box; exact rfl; exact rfl; intro b) | (apply gw_lit1; exact rfl; exact rfl; exact rfl; exact rfl; decide; intro b) | (apply gw_lit2; exact rfl; exact rfl; exact rfl; exact rfl; intro b) | (apply gw_lit3; exact rfl; exact rfl; exact rfl; exact rfl; exact rfl; intro b) | (apply gw_ap1; exact rfl; exact rfl; infer_instance; infer_instance; exact rfl; exact rfl; exact rfl; exact rfl; omega; intro a c) | (apply gw_ap1n; exact rfl; exact rfl; infer_instance; exact rfl; exact rfl; exact rfl; exact rfl; omega; intro a c) | (fail))) | (apply CW_region; intro K hK) | (apply CW_condX; exact rfl; exact tst; exact tst; all_goals (intro hq hc; try exact no)) | (refine CW_draw (id := 5) [] dwStaJ0 mixed (by kernel_rfl) (fun K hK => ?_)) | (refine CW_draw (id := 9) [] dwStaJ0 mixed (by kernel_rfl) (fun K hK => ?_)))
  (refine CW_ret ?_; refine xsg xsl ?_; refine bR [.tmp 2] [.own 89 3 a _ c _] ?_)
  exact ⟨a, c, rfl, rfl⟩
end Go.Proofs.Ytkhmimlgkjenfaa.HL
namespace Go.Proofs.Ytkhmimlgkjenfaa.HL
open Go
attribute [local irreducible] goFn thenS blockS bodyS CW RW DW GW QW NW SC Pick Picks SubL Rd NN ResOk SrcW subE hops hseg AW hgen HC qv bldv
set_option maxHeartbeats 8000000
set_option maxRecDepth 100000
set_option linter.unusedVariables false
set_option linter.unusedSimpArgs false

theorem txs_at {l : List Tx} {k j : Nat} {s : Tx} (hs : l[k]? = some s) (hj : j = k) : ((txs l).drop j).take 1 = [.string (bstr s)] := by
  subst hj
  have := ix_map (g := fun s : Tx => Value.string (bstr s)) (i := (j : Int)) hs (by omega)
  simpa [txs] using this
theorem rHas_spec (l : List Tx) (n c : Nat) (a : Option Addr) (s : Tx) (H : Hp) (hr : Rs H 1 a l.length c (txs l)) (hn : n ≤ l.length) (hl : l.length ≤ 1099511627776) :
    SC Try.prog 66 [.slice a l.length c, .int .i64 (n : Nat), .string (bstr s)] H [] (fun v M => v = .bool (decide (s ∈ l.take n)) ∧ M = []) := by
  (refine SC_intro Try.func66 rfl (by kernel_rfl) (by rw [Try.ntmps66]; exact Nat.le_of_ble_eq_true rfl) ?_; simp only [Try.ntmps66, argE, Nat.reduceAdd])
  
  repeat' (first | (apply RW.q1; exact qt) | refine xsg cts ?_ | (apply CW_condT; exact rfl; exact ar) | (apply CW_condF; exact rfl; exact ar) | (refine hK _ _ ?_; clear hK; refine xsg xsl ?_) | ((first | apply RW.a1 | apply RW.a0); (first | (apply gw_asg; exact rfl) | (fail))) | (apply CW_region; intro K hK) | (apply CW_condX; exact rfl; exact tst; exact tst; all_goals (intro hq hc; try exact no)))
  refine CW_loop (fun m ll L => ∃ k : Nat, m = n - k ∧ ll = [(0, true, .slice a l.length c), (1, true, .int .i64 (n : Nat)), (2, true, .string (bstr s)), (7, true, .int .i64 (k : Nat))] ∧ L = [] ∧ k ≤ n ∧ s ∉ l.take k)
    ⟨_, _, _, ⟨0, rfl, rfl, rfl, by omega, by simp⟩, by exact sbe, by exact sbl⟩ ?_
  rintro m ll L ⟨k, rfl, rfl, rfl, hk, hs⟩
  by_cases hlt : k < n
  · obtain ⟨x, hx⟩ : ∃ x, l[k]? = some x := ⟨_, List.getElem?_eq_getElem (by omega)⟩
    have ht : l.take (k + 1) = l.take k ++ [x] := by rw [List.take_add_one, hx]; rfl
    by_cases hxs : x = s
    · have hin : s ∈ l.take n := by
        have : s ∈ l.take (k + 1) := by rw [ht, hxs]; simp
        exact List.mem_of_mem_take (i := k + 1) (by rw [List.take_take, Nat.min_eq_left (by omega)]; exact this)
      rw [decide_eq_true hin]
      
      repeat' (first | (apply RW.q1; (first | (apply q_ldr; exact rfl; exact rfl; exact hr; exact txs_at hx (by omega)) | (apply q_sbeqT; exact rfl; exact rfl; exact hxs) | exact qt)) | refine xsg cts ?_ | (apply CW_condT; exact rfl; exact ar) | (apply CW_condF; exact rfl; exact ar) | (refine hK _ _ ?_; clear hK; refine xsg xsl ?_) | ((first | apply RW.a1 | apply RW.a0); (first | (apply gw_asg; exact rfl) | (fail))) | (apply CW_region; intro K hK) | (apply CW_condX; exact rfl; exact tst; exact tst; all_goals (intro hq hc; try exact no)))
      (refine CW_ret ?_; refine xsg xsl ?_; refine bR [.tmp 6] [] ?_)
      exact ⟨rfl, rfl⟩
    · 
      repeat' (first | (apply RW.q1; (first | (apply q_ldr; exact rfl; exact rfl; exact hr; exact txs_at hx (by omega)) | (apply q_sbeqF; exact rfl; exact rfl; exact hxs) | exact qt)) | refine xsg cts ?_ | (apply CW_condT; exact rfl; exact ar) | (apply CW_condF; exact rfl; exact ar) | (refine hK _ _ ?_; clear hK; refine xsg xsl ?_) | ((first | apply RW.a1 | apply RW.a0); (first | (apply gw_asg; exact rfl) | (fail))) | (apply CW_region; intro K hK) | (apply CW_condX; exact rfl; exact tst; exact tst; all_goals (intro hq hc; try exact no)))
      exact ⟨_, _, _, ⟨k + 1, rfl, rfl, rfl, by omega, by rw [ht]; simp [hs, Ne.symm hxs]⟩, by exact sbe, by exact sbl, by omega⟩
  obtain rfl : k = n := by omega
  rw [decide_eq_false hs]
  
  repeat' (first | (apply RW.q1; exact qt) | refine xsg cts ?_ | (apply CW_condT; exact rfl; exact ar) | (apply CW_condF; exact rfl; exact ar) | (refine hK _ _ ?_; clear hK; refine xsg xsl ?_) | ((first | apply RW.a1 | apply RW.a0); (first | (apply gw_asg; exact rfl) | (fail))) | (apply CW_region; intro K hK) | (apply CW_condX; exact rfl; exact tst; exact tst; all_goals (intro hq hc; try exact no)))
  (refine CW_ret ?_; refine xsg xsl ?_; refine bR [.tmp 6] [] ?_)
  exact ⟨rfl, rfl⟩
end Go.Proofs.Ytkhmimlgkjenfaa.HL
namespace Go.Proofs.Ytkhmimlgkjenfaa.HL
open Go
attribute [local irreducible] goFn thenS blockS bodyS CW RW DW GW QW NW SC Pick Picks SubL Rd NN ResOk SrcW subE hops hseg AW hgen HC qv bldv
set_option maxHeartbeats 8000000
set_option maxRecDepth 100000
set_option linter.unusedVariables false
set_option linter.unusedSimpArgs false

def AtP (t : List Th) (s : Tx) (v : Int) : Prop := (v = -1 ∧ ∀ (j : Nat) y, t[j]? = some y → y.n ≠ s) ∨ ∃ (k : Nat) (x : Th), v = (k : Int) ∧ t[k]? = some x ∧ x.n = s ∧ ∀ (j : Nat) y, j < k → t[j]? = some y → y.n ≠ s
theorem th_n {l : List Th} {k j : Nat} {x : Th} (hx : l[k]? = some x) (hj : j = k * 3) : ((l.flatMap thC).drop j).take 1 = [.string (bstr x.n)] := by
  subst hj
  exact ix_fld (enc := thC) (off := 0) (n := 1) (i := (k : Int)) hx (by omega) (by omega)
theorem rAt_spec (t : List Th) (c : Nat) (a : Option Addr) (s : Tx) (H : Hp) (hr : Rs H 3 a t.length c (t.flatMap thC)) (hl : t.length ≤ 1099511627776) :
    SC Try.prog 46 [.slice a t.length c, .string (bstr s)] H [] (fun v M => ∃ i, AtP t s i ∧ v = .int .i64 i ∧ M = []) := by
  (refine SC_intro Try.func46 rfl (by kernel_rfl) (by rw [Try.ntmps46]; exact Nat.le_of_ble_eq_true rfl) ?_; simp only [Try.ntmps46, argE, Nat.reduceAdd])
  
  repeat' (first | (apply RW.q1; exact qt) | refine xsg cts ?_ | (apply CW_condT; exact rfl; exact ar) | (apply CW_condF; exact rfl; exact ar) | (refine hK _ _ ?_; clear hK; refine xsg xsl ?_) | ((first | apply RW.a1 | apply RW.a0); (first | (apply gw_asg; exact rfl) | (fail))) | (apply CW_region; intro K hK) | (apply CW_condX; exact rfl; exact tst; exact tst; all_goals (intro hq hc; try exact no)))
  refine CW_loop (fun m ll L => ∃ k : Nat, m = t.length - k ∧ ll = [(0, true, .slice a t.length c), (1, true, .string (bstr s)), (5, true, .int .i64 (k : Nat))] ∧ L = [] ∧ k ≤ t.length ∧ ∀ (j : Nat) y, j < k → t[j]? = some y → y.n ≠ s)
    ⟨_, _, _, ⟨0, rfl, rfl, rfl, by omega, fun j y hj => absurd hj (by omega)⟩, by exact sbe, by exact sbl⟩ ?_
  rintro m ll L ⟨k, rfl, rfl, rfl, hk, hs⟩
  by_cases hlt : k < t.length
  · obtain ⟨x, hx⟩ : ∃ x, t[k]? = some x := ⟨_, List.getElem?_eq_getElem (by omega)⟩
    by_cases hxs : x.n = s
    · 
      repeat' (first | (apply RW.q1; (first | (apply q_ldr; exact rfl; exact rfl; exact hr; exact th_n hx (by omega)) | (apply q_sbeqT; exact rfl; exact rfl; exact hxs) | exact qt)) | refine xsg cts ?_ | (apply CW_condT; exact rfl; exact ar) | (apply CW_condF; exact rfl; exact ar) | (refine hK _ _ ?_; clear hK; refine xsg xsl ?_) | ((first | apply RW.a1 | apply RW.a0); (first | (apply gw_asg; exact rfl) | (fail))) | (apply CW_region; intro K hK) | (apply CW_condX; exact rfl; exact tst; exact tst; all_goals (intro hq hc; try exact no)))
      (refine CW_ret ?_; refine xsg xsl ?_; refine bR [.tmp 4] [] ?_)
      exact ⟨k, .inr ⟨k, x, rfl, hx, hxs, hs⟩, rfl, rfl⟩
    · 
      repeat' (first | (apply RW.q1; (first | (apply q_ldr; exact rfl; exact rfl; exact hr; exact th_n hx (by omega)) | (apply q_sbeqF; exact rfl; exact rfl; exact hxs) | exact qt)) | refine xsg cts ?_ | (apply CW_condT; exact rfl; exact ar) | (apply CW_condF; exact rfl; exact ar) | (refine hK _ _ ?_; clear hK; refine xsg xsl ?_) | ((first | apply RW.a1 | apply RW.a0); (first | (apply gw_asg; exact rfl) | (fail))) | (apply CW_region; intro K hK) | (apply CW_condX; exact rfl; exact tst; exact tst; all_goals (intro hq hc; try exact no)))
      refine ⟨_, _, _, ⟨k + 1, rfl, rfl, rfl, by omega, fun j y hj hy => ?_⟩, by exact sbe, by exact sbl, by omega⟩
      by_cases hjk : j = k
      · subst hjk
        rw [hx] at hy
        cases hy; exact hxs
      · exact hs j y (by omega) hy
  
  repeat' (first | (apply RW.q1; exact qt) | refine xsg cts ?_ | (apply CW_condT; exact rfl; exact ar) | (apply CW_condF; exact rfl; exact ar) | (refine hK _ _ ?_; clear hK; refine xsg xsl ?_) | ((first | apply RW.a1 | apply RW.a0); (first | (apply gw_asg; exact rfl) | (fail))) | (apply CW_region; intro K hK) | (apply CW_condX; exact rfl; exact tst; exact tst; all_goals (intro hq hc; try exact no)))
  (refine CW_ret ?_; refine xsg xsl ?_; refine bR [.tmp 4] [] ?_)
  refine ⟨-1, .inl ⟨rfl, fun j y hy => hs j y ?_ hy⟩, rfl, rfl⟩
  have := (List.getElem?_eq_some_iff.1 hy).1
  omega
end Go.Proofs.Ytkhmimlgkjenfaa.HL
namespace Go.Proofs.Ytkhmimlgkjenfaa.HL
open Go
attribute [local irreducible] goFn thenS blockS bodyS CW RW DW GW QW NW SC Pick Picks SubL Rd NN ResOk SrcW subE hops hseg AW hgen HC qv bldv
set_option maxHeartbeats 8000000
set_option maxRecDepth 100000
set_option linter.unusedVariables false
set_option linter.unusedSimpArgs false

def ptV (s : Tx) : Int := match lastPt s with | some k => (k : Int) | none => -1
theorem pt_some {s : Tx} {k : Nat} (h : s[k]? = some 46) (h2 : ∀ i : Nat, k < i → s[i]? ≠ some 46) : ptV s = (k : Int) := by
  unfold ptV; rw [lastPt_some.2 ⟨h, h2⟩]
theorem pt_none {s : Tx} (h : ∀ i : Nat, s[i]? ≠ some 46) : ptV s = -1 := by
  unfold ptV; rw [lastPt_none.2 h]
theorem rPoint_spec (s : Tx) (H : Hp) (hl : s.length ≤ 1099511627776) :
    SC Try.prog 47 [.string (bstr s)] H [] (fun v M => v = .int .i64 (ptV s) ∧ M = []) := by
  (refine SC_intro Try.func47 rfl (by kernel_rfl) (by rw [Try.ntmps47]; exact Nat.le_of_ble_eq_true rfl) ?_; simp only [Try.ntmps47, argE, Nat.reduceAdd])
  
  repeat' (first | (apply RW.q1; (first | (apply q_lenb; exact rfl) | exact qt)) | refine xsg cts ?_ | (apply CW_condT; exact rfl; exact ar) | (apply CW_condF; exact rfl; exact ar) | (refine hK _ _ ?_; clear hK; refine xsg xsl ?_) | ((first | apply RW.a1 | apply RW.a0); (first | (apply gw_asg; exact rfl) | (fail))) | (apply CW_region; intro K hK) | (apply CW_condX; exact rfl; exact tst; exact tst; all_goals (intro hq hc; try exact no)))
  refine CW_loop (fun m ll L => ∃ k : Nat, m = k + 1 ∧ ll = [(0, true, .string (bstr s)), (3, true, .int .i64 ((k : Nat) - 1))] ∧ L = [] ∧ k ≤ s.length ∧ ∀ i : Nat, k ≤ i → s[i]? ≠ some 46)
    ⟨_, _, _, ⟨s.length, rfl, rfl, rfl, by omega, fun i hi => by rw [List.getElem?_eq_none hi]; simp⟩, by exact sbe, by exact sbl⟩ ?_
  rintro m ll L ⟨k, rfl, rfl, rfl, hk, hs⟩
  by_cases hlt : 0 < k
  · obtain ⟨x, hx⟩ : ∃ x, s[k - 1]? = some x := ⟨_, List.getElem?_eq_getElem (by omega)⟩
    by_cases hxs : x = 46
    · rw [pt_some (by rw [hx, hxs]) fun i hi => hs i (by omega)]
      subst hxs
      
      repeat' (first | (apply RW.q1; (first | (apply q_ixc 46; exact rfl; exact rfl; (rw [show ((k : Int) - 1).toNat = k - 1 by omega]; exact hx); omega) | exact qt)) | refine xsg cts ?_ | (apply CW_condT; exact rfl; exact ar) | (apply CW_condF; exact rfl; exact ar) | (refine hK _ _ ?_; clear hK; refine xsg xsl ?_) | ((first | apply RW.a1 | apply RW.a0); (first | (apply gw_asg; exact rfl) | (fail))) | (apply CW_region; intro K hK) | (apply CW_condX; exact rfl; exact tst; exact tst; all_goals (intro hq hc; try exact no)))
      all_goals (refine CW_ret ?_; refine xsg xsl ?_; refine bR [.tmp 2] [] ?_)
      all_goals exact ⟨ret_i64 (by omega), rfl⟩
    · have hn : (x.toNat : Int) ≠ 46 := fun e => hxs (UInt8.toNat_inj.1 (by show x.toNat = 46; omega))
      
      repeat' (first | (apply RW.q1; (first | (apply q_ixc x; exact rfl; exact rfl; (rw [show ((k : Int) - 1).toNat = k - 1 by omega]; exact hx); omega) | exact qt)) | refine xsg cts ?_ | (apply CW_condT; exact rfl; exact ar) | (apply CW_condF; exact rfl; exact ar) | (refine hK _ _ ?_; clear hK; refine xsg xsl ?_) | ((first | apply RW.a1 | apply RW.a0); (first | (apply gw_asg; exact rfl) | (fail))) | (apply CW_region; intro K hK) | (apply CW_condX; exact rfl; exact tst; exact tst; all_goals (intro hq hc; try exact no)))
      refine ⟨_, _, _, ⟨k - 1, rfl, rfl, rfl, by omega, fun i hi => ?_⟩, by rw [show (((k - 1 : Nat) : Int) - 1) = (k : Int) - 1 - 1 by omega]; exact sbe, by exact sbl, by omega⟩
      by_cases hik : i = k - 1
      · subst hik
        rw [hx]
        exact fun e => hxs (Option.some.inj e)
      · exact hs i (by omega)
  obtain rfl : k = 0 := by omega
  rw [pt_none fun i => hs i (by omega)]
  
  repeat' (first | (apply RW.q1; exact qt) | refine xsg cts ?_ | (apply CW_condT; exact rfl; exact ar) | (apply CW_condF; exact rfl; exact ar) | (refine hK _ _ ?_; clear hK; refine xsg xsl ?_) | ((first | apply RW.a1 | apply RW.a0); (first | (apply gw_asg; exact rfl) | (fail))) | (apply CW_region; intro K hK) | (apply CW_condX; exact rfl; exact tst; exact tst; all_goals (intro hq hc; try exact no)))
  (refine CW_ret ?_; refine xsg xsl ?_; refine bR [.tmp 2] [] ?_)
  exact ⟨rfl, rfl⟩
end Go.Proofs.Ytkhmimlgkjenfaa.HL
namespace Go.Proofs.Ytkhmimlgkjenfaa.HL
open Go
attribute [local irreducible] goFn thenS blockS bodyS CW RW DW GW QW NW SC Pick Picks SubL Rd NN ResOk SrcW subE hops hseg AW hgen HC qv bldv
set_option maxHeartbeats 8000000
set_option maxRecDepth 100000
set_option linter.unusedVariables false
set_option linter.unusedSimpArgs false

abbrev dwStaN0 : List (Nat × Bool) := [(0, false), (1, false), (2, false), (3, false), (4, false), (5, false), (6, false), (7, false), (8, false)]
section
variable {P : Program} {l : Ents} {H : Hp} {L : List Res} {d : Option Tmp} {T : TypeId} {pos : String} {aft : Array Edge} {gd : Option (Nat × Bool)} {t ty : TypeId} {x y : Operand} {a b : List UInt8}
theorem q_sbneT (hx : evg l true x = some (.string (bstr a))) (hy : evg l true y = some (.string (bstr b))) (h : ¬ a = b) : QW P l H L ⟨d, .binOp .neq t x y ty, T, pos, aft, gd⟩ (.bool true) := by
  have := q_sbne (P := P) (H := H) (L := L) (d := d) (T := T) (pos := pos) (aft := aft) (gd := gd) (t := t) (ty := ty) hx hy
  rwa [decide_eq_false h] at this
theorem q_sbneF (hx : evg l true x = some (.string (bstr a))) (hy : evg l true y = some (.string (bstr b))) (h : a = b) : QW P l H L ⟨d, .binOp .neq t x y ty, T, pos, aft, gd⟩ (.bool false) := by
  have := q_sbne (P := P) (H := H) (L := L) (d := d) (T := T) (pos := pos) (aft := aft) (gd := gd) (t := t) (ty := ty) hx hy
  rwa [decide_eq_true h] at this
end
theorem sameTexts_spec (l l' : List Tx) (a a' : Option Addr) (c c' : Nat) (H : Hp) (hr : Rs H 1 a l.length c (txs l)) (hr' : Rs H 1 a' l'.length c' (txs l')) (hl : l.length ≤ 1099511627776) (hl' : l'.length ≤ 1099511627776) :
    SC Try.prog 8 [.slice a l.length c, .slice a' l'.length c'] H [] (fun v M => v = .bool (decide (l = l')) ∧ M = []) := by
  by_cases hlen : l.length = l'.length
  · (refine SC_intro Try.func8 rfl (by kernel_rfl) (by rw [Try.ntmps8]; exact Nat.le_of_ble_eq_true rfl) ?_; simp only [Try.ntmps8, argE, Nat.reduceAdd])
    
    repeat' (first | ((first | apply RW.q1 | (apply DW.q1; exact rfl)); exact qt) | refine xsg cts ?_ | (apply CW_condT; exact rfl; exact ar) | (apply CW_condF; exact rfl; exact ar) | (refine hK _ _ ?_; clear hK; refine xsg xsl ?_) | (refine xsg ahd ?_; (first | (apply gw_asg; exact rfl) | (fail))) | (apply CW_region; intro K hK) | (apply CW_condX; exact rfl; exact tst; exact tst; all_goals (intro hq hc; try exact no)) | (refine CW_draw (id := 6) [] dwStaN0 mixed (by kernel_rfl) (fun K hK => ?_)))
    refine CW_loop (fun m ll L => ∃ k : Nat, m = l.length - k ∧ ll = [(0, true, .slice a l.length c), (1, true, .slice a' l'.length c'), (5, true, .int .i64 (k : Nat))] ∧ L = [] ∧ k ≤ l.length ∧ l.take k = l'.take k)
      ⟨_, _, _, ⟨0, rfl, rfl, rfl, by omega, by simp⟩, by exact sbe, by exact sbl⟩ ?_
    rintro m ll L ⟨k, rfl, rfl, rfl, hk, hs⟩
    by_cases hlt : k < l.length
    · obtain ⟨x, hx⟩ : ∃ x, l[k]? = some x := ⟨_, List.getElem?_eq_getElem (by omega)⟩
      obtain ⟨y, hy⟩ : ∃ x, l'[k]? = some x := ⟨_, List.getElem?_eq_getElem (by omega)⟩
      by_cases hxy : x = y
      · 
        repeat' (first | ((first | apply RW.q1 | (apply DW.q1; exact rfl)); (first | (apply q_ldr; exact rfl; exact rfl; exact hr; exact txs_at hx (by omega)) | (apply q_ldr; exact rfl; exact rfl; exact hr'; exact txs_at hy (by omega)) | (apply q_sbneF; exact rfl; exact rfl; exact hxy) | exact qt)) | refine xsg cts ?_ | (apply CW_condT; exact rfl; exact ar) | (apply CW_condF; exact rfl; exact ar) | (refine hK _ _ ?_; clear hK; refine xsg xsl ?_) | (refine xsg ahd ?_; (first | (apply gw_asg; exact rfl) | (fail))) | (apply CW_region; intro K hK) | (apply CW_condX; exact rfl; exact tst; exact tst; all_goals (intro hq hc; try exact no)) | (refine CW_draw (id := 6) [] dwStaN0 mixed (by kernel_rfl) (fun K hK => ?_)))
        exact ⟨_, _, _, ⟨k + 1, rfl, rfl, rfl, by omega, by rw [List.take_add_one, List.take_add_one, hx, hy, hs, hxy]⟩, by exact sbe, by exact sbl, by omega⟩
      · have hne : ¬ l = l' := fun e => hxy (by rw [e, hy] at hx; exact (Option.some.inj hx).symm)
        rw [decide_eq_false hne]
        
        repeat' (first | ((first | apply RW.q1 | (apply DW.q1; exact rfl)); (first | (apply q_ldr; exact rfl; exact rfl; exact hr; exact txs_at hx (by omega)) | (apply q_ldr; exact rfl; exact rfl; exact hr'; exact txs_at hy (by omega)) | (apply q_sbneT; exact rfl; exact rfl; exact hxy) | exact qt)) | refine xsg cts ?_ | (apply CW_condT; exact rfl; exact ar) | (apply CW_condF; exact rfl; exact ar) | (refine hK _ _ ?_; clear hK; refine xsg xsl ?_) | (refine xsg ahd ?_; (first | (apply gw_asg; exact rfl) | (fail))) | (apply CW_region; intro K hK) | (apply CW_condX; exact rfl; exact tst; exact tst; all_goals (intro hq hc; try exact no)) | (refine CW_draw (id := 6) [] dwStaN0 mixed (by kernel_rfl) (fun K hK => ?_)))
        (refine CW_ret ?_; refine xsg xsl ?_; refine bR [.tmp 4] [] ?_)
        exact ⟨rfl, rfl⟩
    obtain rfl : k = l.length := by omega
    rw [List.take_length, List.take_of_length_le (by omega)] at hs
    rw [decide_eq_true hs]
    
    repeat' (first | ((first | apply RW.q1 | (apply DW.q1; exact rfl)); exact qt) | refine xsg cts ?_ | (apply CW_condT; exact rfl; exact ar) | (apply CW_condF; exact rfl; exact ar) | (refine hK _ _ ?_; clear hK; refine xsg xsl ?_) | (refine xsg ahd ?_; (first | (apply gw_asg; exact rfl) | (fail))) | (apply CW_region; intro K hK) | (apply CW_condX; exact rfl; exact tst; exact tst; all_goals (intro hq hc; try exact no)) | (refine CW_draw (id := 6) [] dwStaN0 mixed (by kernel_rfl) (fun K hK => ?_)))
    (refine CW_ret ?_; refine xsg xsl ?_; refine bR [.tmp 4] [] ?_)
    exact ⟨rfl, rfl⟩
  · rw [decide_eq_false (fun e => hlen (by rw [e]))]
    (refine SC_intro Try.func8 rfl (by kernel_rfl) (by rw [Try.ntmps8]; exact Nat.le_of_ble_eq_true rfl) ?_; simp only [Try.ntmps8, argE, Nat.reduceAdd])
    
    repeat' (first | ((first | apply RW.q1 | (apply DW.q1; exact rfl)); exact qt) | refine xsg cts ?_ | (apply CW_condT; exact rfl; exact ar) | (apply CW_condF; exact rfl; exact ar) | (refine hK _ _ ?_; clear hK; refine xsg xsl ?_) | (refine xsg ahd ?_; (first | (apply gw_asg; exact rfl) | (fail))) | (apply CW_region; intro K hK) | (apply CW_condX; exact rfl; exact tst; exact tst; all_goals (intro hq hc; try exact no)) | (refine CW_draw (id := 6) [] dwStaN0 mixed (by kernel_rfl) (fun K hK => ?_)))
    (refine CW_ret ?_; refine xsg xsl ?_; refine bR [.tmp 4] [] ?_)
    exact ⟨rfl, rfl⟩
end Go.Proofs.Ytkhmimlgkjenfaa.HL
namespace Go.Proofs.Ytkhmimlgkjenfaa.HL
open Go
attribute [local irreducible] goFn thenS blockS bodyS CW RW DW GW QW NW SC Pick Picks SubL Rd NN ResOk SrcW subE hops hseg AW hgen HC qv bldv
set_option maxHeartbeats 8000000
set_option maxRecDepth 100000
set_option linter.unusedVariables false
set_option linter.unusedSimpArgs false

theorem sign_path {i : Nat} {c : UInt8} : signP true i c = true ↔ (97 ≤ c.toNat ∧ c.toNat ≤ 122) ∨ (48 ≤ c.toNat ∧ c.toNat ≤ 57) ∨ c.toNat = 95 ∨ c.toNat = 45 ∨ c.toNat = 47 := by
  simp only [signP, if_true, jD, jC, jA]
  omega
theorem rPath_spec (s : Tx) (H : Hp) (hl : s.length ≤ 1099511627776) (w : Bool) (hw : w = true ↔ WordP true s) :
    SC Try.prog 63 [.string (bstr s)] H [] (fun v M => v = .bool w ∧ M = []) := by
  (refine SC_intro Try.func63 rfl (by kernel_rfl) (by rw [Try.ntmps63]; exact Nat.le_of_ble_eq_true rfl) ?_; simp only [Try.ntmps63, argE, Nat.reduceAdd])
  
  repeat' (first | (apply RW.q1; exact qt) | (apply RW.qg; exact gvx; refine hgx tst ?_; intro hg hg'; exact qu) | refine xsg cts ?_ | (apply CW_condT; exact rfl; exact ar) | (apply CW_condF; exact rfl; exact ar) | ((first | apply RW.s1 | apply RW.s0); exact gva) | (refine hK _ _ ?_; clear hK; refine xsg xsl ?_) | ((first | apply RW.a1 | apply RW.a0 | (apply RW.at; exact gva)); (first | (apply gw_asg; exact rfl) | (fail))) | (apply CW_region; intro K hK) | (apply CW_condX; exact rfl; exact tst; exact tst; all_goals (intro hq hc; try exact no)))
  refine CW_loop (fun m ll L => ∃ k : Nat, m = s.length - k ∧ ll = [(0, true, .string (bstr s)), (3, true, .int .i64 (k : Nat))] ∧ L = [] ∧ k ≤ s.length ∧ ∀ (i : Nat) c, i < k → s[i]? = some c → signP true i c = true)
    ⟨_, _, _, ⟨0, rfl, rfl, rfl, by omega, fun i c hi => absurd hi (by omega)⟩, by exact sbe, by exact sbl⟩ ?_
  rintro m ll L ⟨k, rfl, rfl, rfl, hk, hs⟩
  by_cases hlt : k < s.length
  · obtain ⟨x, hx⟩ : ∃ x, s[k]? = some x := ⟨_, List.getElem?_eq_getElem (by omega)⟩
    have hx8 := x.toNat_lt
    by_cases hsg : signP true k x = true
    · have hqq := sign_path.1 hsg
      
      repeat' (first | ((first | apply RW.q1 | (apply RW.qg; exact gvx; refine hgx tst ?_; intro hg hg')); (first | (apply q_lenb; exact evgx) | (apply q_ixc x; exact evgx; exact evgx; exact hx; omega) | exact qt | exact qu)) | refine xsg cts ?_ | (apply CW_condT; exact rfl; exact ar) | (apply CW_condF; exact rfl; exact ar) | ((first | apply RW.s1 | apply RW.s0); exact gva) | (refine hK _ _ ?_; clear hK; refine xsg xsl ?_) | ((first | apply RW.a1 | apply RW.a0 | (apply RW.at; exact gva)); (first | (apply gw_asg; exact rfl) | (fail))) | (apply CW_region; intro K hK) | (apply CW_condX; exact rfl; exact tst; exact tst; all_goals (intro hq hc; try exact no)))
      all_goals refine ⟨_, _, _, ⟨k + 1, rfl, rfl, rfl, by omega, fun i cc hi hcc => ?_⟩, by exact sbe, by exact sbl, by omega⟩
      all_goals
        by_cases hik : i = k
        · subst hik
          rw [hx] at hcc
          cases hcc; exact hsg
        · exact hs i cc (by omega) hcc
    · have hqq := mt sign_path.2 hsg
      have hwf : w = false := by
        cases w with
        | false => rfl
        | true => exact absurd ((hw.1 rfl).2.2.1 k x hx) hsg
      subst hwf
      
      repeat' (first | ((first | apply RW.q1 | (apply RW.qg; exact gvx; refine hgx tst ?_; intro hg hg')); (first | (apply q_lenb; exact evgx) | (apply q_ixc x; exact evgx; exact evgx; exact hx; omega) | exact qt | exact qu)) | refine xsg cts ?_ | (apply CW_condT; exact rfl; exact ar) | (apply CW_condF; exact rfl; exact ar) | ((first | apply RW.s1 | apply RW.s0); exact gva) | (refine hK _ _ ?_; clear hK; refine xsg xsl ?_) | ((first | apply RW.a1 | apply RW.a0 | (apply RW.at; exact gva)); (first | (apply gw_asg; exact rfl) | (fail))) | (apply CW_region; intro K hK) | (apply CW_condX; exact rfl; exact tst; exact tst; all_goals (intro hq hc; try exact no)))
      all_goals (refine CW_ret ?_; refine xsg xsl ?_; refine bR [.tmp 2] [] ?_)
      all_goals exact ⟨rfl, rfl⟩
  have hall : ∀ (i : Nat) c, s[i]? = some c → signP true i c = true := fun i c hc => hs i c (by have := (List.getElem?_eq_some_iff.1 hc).1; omega) hc
  have hwv : w = (decide (1 ≤ s.length) && decide (s.length ≤ 40)) := by
    rw [Bool.eq_iff_iff, hw]
    simp only [jC, jA]
    exact ⟨fun h => ⟨h.1, h.2.1⟩, fun h => ⟨h.1, h.2, hall, .inl rfl⟩⟩
  
  repeat' (first | ((first | apply RW.q1 | (apply RW.qg; exact gvx; refine hgx tst ?_; intro hg hg')); (first | (apply q_lenb; exact evgx) | exact qt | exact qu)) | refine xsg cts ?_ | (apply CW_condT; exact rfl; exact ar) | (apply CW_condF; exact rfl; exact ar) | ((first | apply RW.s1 | apply RW.s0); exact gva) | (refine hK _ _ ?_; clear hK; refine xsg xsl ?_) | ((first | apply RW.a1 | apply RW.a0 | (apply RW.at; exact gva)); (first | (apply gw_asg; exact rfl) | (fail))) | (apply CW_region; intro K hK) | (apply CW_condX; exact rfl; exact tst; exact tst; all_goals (intro hq hc; try exact no)))
  all_goals (refine CW_ret ?_; refine xsg xsl ?_; refine bR [.tmp 2] [] ?_)
  all_goals exact ⟨ret_bool (by rw [hwv, Bool.eq_iff_iff]; simp; try omega), rfl⟩
end Go.Proofs.Ytkhmimlgkjenfaa.HL
namespace Go.Proofs.Ytkhmimlgkjenfaa.HL
open Go
attribute [local irreducible] goFn thenS blockS bodyS CW RW DW GW QW NW SC Pick Picks SubL Rd NN ResOk SrcW subE hops hseg AW hgen HC qv bldv
set_option maxHeartbeats 8000000
set_option maxRecDepth 100000
set_option linter.unusedVariables false
set_option linter.unusedSimpArgs false

theorem sign_name {i : Nat} {c : UInt8} : signP false i c = true ↔ (97 ≤ c.toNat ∧ c.toNat ≤ 122) ∨ (65 ≤ c.toNat ∧ c.toNat ≤ 90) ∨ c.toNat = 95 ∨ (48 ≤ c.toNat ∧ c.toNat ≤ 57 ∧ i ≠ 0) := by
  simp only [signP, jJ, if_false, jD, jC, jA]
  omega
theorem rName_spec (s : Tx) (H : Hp) (hl : s.length ≤ 1099511627776) (w : Bool) (hw : w = true ↔ WordP false s) :
    SC Try.prog 65 [.string (bstr s)] H [] (fun v M => v = .bool w ∧ M = []) := by
  (refine SC_intro Try.func65 rfl (by kernel_rfl) (by rw [Try.ntmps65]; exact Nat.le_of_ble_eq_true rfl) ?_; simp only [Try.ntmps65, argE, Nat.reduceAdd])
  
  repeat' (first | (apply RW.q1; exact qt) | (apply RW.qg; exact gvx; refine hgx tst ?_; intro hg hg'; exact qu) | refine xsg cts ?_ | (apply CW_condT; exact rfl; exact ar) | (apply CW_condF; exact rfl; exact ar) | ((first | apply RW.s1 | apply RW.s0); exact gva) | (refine hK _ _ ?_; clear hK; refine xsg xsl ?_) | ((first | apply RW.a1 | apply RW.a0 | (apply RW.at; exact gva)); (first | (apply gw_asg; exact rfl) | (fail))) | (apply CW_region; intro K hK) | (apply CW_condX; exact rfl; exact tst; exact tst; all_goals (intro hq hc; try exact no)))
  refine CW_loop (fun m ll L => ∃ k : Nat, m = s.length - k ∧ ll = [(0, true, .string (bstr s)), (3, true, .int .i64 (k : Nat))] ∧ L = [] ∧ k ≤ s.length ∧ ∀ (i : Nat) c, i < k → s[i]? = some c → signP false i c = true)
    ⟨_, _, _, ⟨0, rfl, rfl, rfl, by omega, fun i c hi => absurd hi (by omega)⟩, by exact sbe, by exact sbl⟩ ?_
  rintro m ll L ⟨k, rfl, rfl, rfl, hk, hs⟩
  by_cases hlt : k < s.length
  · obtain ⟨x, hx⟩ : ∃ x, s[k]? = some x := ⟨_, List.getElem?_eq_getElem (by omega)⟩
    have hx8 := x.toNat_lt
    by_cases hsg : signP false k x = true
    · have hqq := sign_name.1 hsg
      
      repeat' (first | ((first | apply RW.q1 | (apply RW.qg; exact gvx; refine hgx tst ?_; intro hg hg')); (first | (apply q_lenb; exact evgx) | (apply q_ixc x; exact evgx; exact evgx; exact hx; omega) | exact qt | exact qu)) | refine xsg cts ?_ | (apply CW_condT; exact rfl; exact ar) | (apply CW_condF; exact rfl; exact ar) | ((first | apply RW.s1 | apply RW.s0); exact gva) | (refine hK _ _ ?_; clear hK; refine xsg xsl ?_) | ((first | apply RW.a1 | apply RW.a0 | (apply RW.at; exact gva)); (first | (apply gw_asg; exact rfl) | (fail))) | (apply CW_region; intro K hK) | (apply CW_condX; exact rfl; exact tst; exact tst; all_goals (intro hq hc; try exact no)))
      all_goals refine ⟨_, _, _, ⟨k + 1, rfl, rfl, rfl, by omega, fun i cc hi hcc => ?_⟩, by exact sbe, by exact sbl, by omega⟩
      all_goals
        by_cases hik : i = k
        · subst hik
          rw [hx] at hcc
          cases hcc; exact hsg
        · exact hs i cc (by omega) hcc
    · have hqq := mt sign_name.2 hsg
      have hwf : w = false := by
        cases w with
        | false => rfl
        | true => exact absurd ((hw.1 rfl).2.2.1 k x hx) hsg
      subst hwf
      
      repeat' (first | ((first | apply RW.q1 | (apply RW.qg; exact gvx; refine hgx tst ?_; intro hg hg')); (first | (apply q_lenb; exact evgx) | (apply q_ixc x; exact evgx; exact evgx; exact hx; omega) | exact qt | exact qu)) | refine xsg cts ?_ | (apply CW_condT; exact rfl; exact ar) | (apply CW_condF; exact rfl; exact ar) | ((first | apply RW.s1 | apply RW.s0); exact gva) | (refine hK _ _ ?_; clear hK; refine xsg xsl ?_) | ((first | apply RW.a1 | apply RW.a0 | (apply RW.at; exact gva)); (first | (apply gw_asg; exact rfl) | (fail))) | (apply CW_region; intro K hK) | (apply CW_condX; exact rfl; exact tst; exact tst; all_goals (intro hq hc; try exact no)))
      all_goals (refine CW_ret ?_; refine xsg xsl ?_; refine bR [.tmp 2] [] ?_)
      all_goals exact ⟨rfl, rfl⟩
  have hall : ∀ (i : Nat) c, s[i]? = some c → signP false i c = true := fun i c hc => hs i c (by have := (List.getElem?_eq_some_iff.1 hc).1; omega) hc
  have hwv : w = (decide (1 ≤ s.length) && decide (s.length ≤ 40) && !decide (s = initT)) := by
    rw [Bool.eq_iff_iff, hw]
    simp only [jC, jA, jE, jB]
    exact ⟨fun h => ⟨⟨h.1, h.2.1⟩, h.2.2.2.resolve_left (by decide)⟩, fun h => ⟨h.1.1, h.1.2, hall, .inr h.2⟩⟩
  
  repeat' (first | ((first | apply RW.q1 | (apply RW.qg; exact gvx; refine hgx tst ?_; intro hg hg')); (first | (apply q_lenb; exact evgx) | (apply q_sbne (b := initT); exact evgx; exact evgx) | exact qt | exact qu)) | refine xsg cts ?_ | (apply CW_condT; exact rfl; exact ar) | (apply CW_condF; exact rfl; exact ar) | ((first | apply RW.s1 | apply RW.s0); exact gva) | (refine hK _ _ ?_; clear hK; refine xsg xsl ?_) | ((first | apply RW.a1 | apply RW.a0 | (apply RW.at; exact gva)); (first | (apply gw_asg; exact rfl) | (fail))) | (apply CW_region; intro K hK) | (apply CW_condX; exact rfl; exact tst; exact tst; all_goals (intro hq hc; try exact no)))
  all_goals (refine CW_ret ?_; refine xsg xsl ?_; refine bR [.tmp 2] [] ?_)
  all_goals exact ⟨ret_bool (by rw [hwv, Bool.eq_iff_iff]; simp; try omega), rfl⟩
end Go.Proofs.Ytkhmimlgkjenfaa.HL
namespace Go.Proofs.Ytkhmimlgkjenfaa.HL
open Go
attribute [local irreducible] goFn thenS blockS bodyS CW RW DW GW QW NW SC Pick Picks SubL Rd NN ResOk SrcW subE hops hseg AW hgen HC qv bldv
set_option maxHeartbeats 8000000
set_option maxRecDepth 100000
set_option linter.unusedVariables false
set_option linter.unusedSimpArgs false

def b8 (s : Tx) : List Value := s.map fun b => .int .u8 b.toNat
theorem b8_at {s : Tx} {k j : Nat} {x : UInt8} (hx : s[k]? = some x) (hj : j = k) : ((b8 s).drop j).take 1 = [.int .u8 x.toNat] := by
  subst hj
  have := ix_map (g := fun b : UInt8 => Value.int .u8 b.toNat) (i := (j : Int)) hx (by omega)
  simpa [b8] using this
section
variable {P : Program} {l : Ents} {H : Hp} {L : List Res} {K : Value → List Res → Prop} {d : Option Tmp} {T : TypeId} {pos : String} {aft : Array Edge} {gd : Option (Nat × Bool)}
theorem gw_s2b8 {s t e : TypeId} {x : Operand} {v : Tx} [hs : Und P s .string] [hd : Und P t (.slice e)] [he : Und P e (.int .u8)] (hx : evg l true x = some (.string (bstr v)))
    (h : ∀ a c, K (.slice a v.length c) (.own e 1 a v.length c (b8 v) :: L)) : GW P l ⟨d, .convert s t x, T, pos, aft, gd⟩ H L K := gw_s2b hx h
end
theorem wordP_spec (s : Tx) (H : Hp) (hl : s.length ≤ 1099511627776) (w : Bool) (hw : w = true ↔ WordP true s) :
    SC Try.prog 26 [.string (bstr s), .bool true] H [] (fun v M => v = .bool w ∧ M = []) := by
  by_cases hsz : 1 ≤ s.length ∧ s.length ≤ 40
  · (refine SC_intro Try.func26 rfl (by kernel_rfl) (by rw [Try.ntmps26]; exact Nat.le_of_ble_eq_true rfl) ?_; simp only [Try.ntmps26, argE, Nat.reduceAdd])
    
    repeat' (first | ((first | apply RW.q1 | (apply RW.qg; exact gvx; refine hgx tst ?_; intro hg hg')); (first | (apply q_lenb; exact evgx) | exact qt | exact qu)) | refine xsg cts ?_ | (apply CW_condT; exact rfl; exact ar) | (apply CW_condF; exact rfl; exact ar) | ((first | apply RW.s1 | apply RW.s0); exact gva) | (refine hK _ _ ?_; clear hK; refine xsg xsl ?_) | ((first | apply RW.a1 | apply RW.a0 | (apply RW.at; exact gva)); (first | (apply gw_s2b8; exact rfl; intro ra rc) | (apply gw_asg; exact rfl) | (fail))) | (apply CW_region; intro K hK) | (apply CW_condX; exact rfl; exact tst; exact tst; all_goals (intro hq hc; try exact no)))
    refine CW_loop (fun m ll L => ∃ k : Nat, m = s.length - k ∧ ll = [(0, true, .string (bstr s)), (1, true, .bool true), (18, true, .slice ra s.length rc), (19, true, .int .i64 s.length), (20, true, .int .i64 (k : Nat))] ∧ L = [.own 5 1 ra s.length rc (b8 s)] ∧ k ≤ s.length ∧ ∀ (i : Nat) c, i < k → s[i]? = some c → signP true i c = true)
      ⟨_, _, _, ⟨0, rfl, rfl, rfl, by omega, fun i c hi => absurd hi (by omega)⟩, by exact sbe, by exact sbl⟩ ?_
    rintro m ll L ⟨k, rfl, rfl, rfl, hk, hs⟩
    by_cases hlt : k < s.length
    · obtain ⟨x, hx⟩ : ∃ x, s[k]? = some x := ⟨_, List.getElem?_eq_getElem (by omega)⟩
      have hx8 := x.toNat_lt
      by_cases hsg : signP true k x = true
      · have hqq := sign_path.1 hsg
        
        repeat' (first | ((first | apply RW.q1 | (apply RW.qg; exact gvx; refine hgx tst ?_; intro hg hg')); (first | (apply q_ldo; exact rfl; exact evgx; infer_instance; exact b8_at hx (by omega)) | exact qt | exact qu)) | refine xsg cts ?_ | (apply CW_condT; exact rfl; exact ar) | (apply CW_condF; exact rfl; exact ar) | ((first | apply RW.s1 | apply RW.s0); exact gva) | (refine hK _ _ ?_; clear hK; refine xsg xsl ?_) | ((first | apply RW.a1 | apply RW.a0 | (apply RW.at; exact gva)); (first | (apply gw_asg; exact rfl) | (fail))) | (apply CW_region; intro K hK) | (apply CW_condX; exact rfl; exact tst; exact tst; all_goals (intro hq hc; try exact no)))
        all_goals refine ⟨_, _, _, ⟨k + 1, rfl, rfl, rfl, by omega, fun i cc hi hcc => ?_⟩, by exact sbe, by exact sbl, by omega⟩
        all_goals
          by_cases hik : i = k
          · subst hik
            rw [hx] at hcc
            cases hcc; exact hsg
          · exact hs i cc (by omega) hcc
      · have hqq := mt sign_path.2 hsg
        have hwf : w = false := by
          cases w with
          | false => rfl
          | true => exact absurd ((hw.1 rfl).2.2.1 k x hx) hsg
        subst hwf
        
        repeat' (first | ((first | apply RW.q1 | (apply RW.qg; exact gvx; refine hgx tst ?_; intro hg hg')); (first | (apply q_ldo; exact rfl; exact evgx; infer_instance; exact b8_at hx (by omega)) | exact qt | exact qu)) | refine xsg cts ?_ | (apply CW_condT; exact rfl; exact ar) | (apply CW_condF; exact rfl; exact ar) | ((first | apply RW.s1 | apply RW.s0); exact gva) | (refine hK _ _ ?_; clear hK; refine xsg xsl ?_) | ((first | apply RW.a1 | apply RW.a0 | (apply RW.at; exact gva)); (first | (apply gw_asg; exact rfl) | (fail))) | (apply CW_region; intro K hK) | (apply CW_condX; exact rfl; exact tst; exact tst; all_goals (intro hq hc; try exact no)))
        all_goals (refine CW_ret ?_; refine xsg xsl ?_; refine bR [.tmp 4] [] ?_)
        all_goals exact ⟨rfl, rfl⟩
    have hall : ∀ (i : Nat) c, s[i]? = some c → signP true i c = true := fun i c hc => hs i c (by have := (List.getElem?_eq_some_iff.1 hc).1; omega) hc
    obtain rfl : w = true := hw.2 ⟨hsz.1, hsz.2, hall, .inl rfl⟩
    
    repeat' (first | (apply RW.q1; exact qt) | (apply RW.qg; exact gvx; refine hgx tst ?_; intro hg hg'; exact qu) | refine xsg cts ?_ | (apply CW_condT; exact rfl; exact ar) | (apply CW_condF; exact rfl; exact ar) | ((first | apply RW.s1 | apply RW.s0); exact gva) | (refine hK _ _ ?_; clear hK; refine xsg xsl ?_) | ((first | apply RW.a1 | apply RW.a0 | (apply RW.at; exact gva)); (first | (apply gw_asg; exact rfl) | (fail))) | (apply CW_region; intro K hK) | (apply CW_condX; exact rfl; exact tst; exact tst; all_goals (intro hq hc; try exact no)))
    all_goals (refine CW_ret ?_; refine xsg xsl ?_; refine bR [.tmp 4] [] ?_)
    all_goals exact ⟨rfl, rfl⟩
  · have hwf : w = false := by
      cases w with
      | false => rfl
      | true => exact absurd ⟨(hw.1 rfl).1, (hw.1 rfl).2.1⟩ hsz
    subst hwf
    (refine SC_intro Try.func26 rfl (by kernel_rfl) (by rw [Try.ntmps26]; exact Nat.le_of_ble_eq_true rfl) ?_; simp only [Try.ntmps26, argE, Nat.reduceAdd])
    
    repeat' (first | ((first | apply RW.q1 | (apply RW.qg; exact gvx; refine hgx tst ?_; intro hg hg')); (first | (apply q_lenb; exact evgx) | exact qt | exact qu)) | refine xsg cts ?_ | (apply CW_condT; exact rfl; exact ar) | (apply CW_condF; exact rfl; exact ar) | ((first | apply RW.s1 | apply RW.s0); exact gva) | (refine hK _ _ ?_; clear hK; refine xsg xsl ?_) | ((first | apply RW.a1 | apply RW.a0 | (apply RW.at; exact gva)); (first | (apply gw_asg; exact rfl) | (fail))) | (apply CW_region; intro K hK) | (apply CW_condX; exact rfl; exact tst; exact tst; all_goals (intro hq hc; try exact no)))
    all_goals (refine CW_ret ?_; refine xsg xsl ?_; refine bR [.tmp 4] [] ?_)
    all_goals exact ⟨rfl, rfl⟩
end Go.Proofs.Ytkhmimlgkjenfaa.HL
namespace Go.Proofs.Ytkhmimlgkjenfaa.HL
open Go
attribute [local irreducible] goFn thenS blockS bodyS CW RW DW GW QW NW SC Pick Picks SubL Rd NN ResOk SrcW subE hops hseg AW hgen HC qv bldv
set_option maxHeartbeats 8000000
set_option maxRecDepth 100000
set_option linter.unusedVariables false
set_option linter.unusedSimpArgs false

theorem wordN_spec (s : Tx) (H : Hp) (hl : s.length ≤ 1099511627776) (w : Bool) (hw : w = true ↔ WordP false s) :
    SC Try.prog 26 [.string (bstr s), .bool false] H [] (fun v M => v = .bool w ∧ M = []) := by
  by_cases hsz : 1 ≤ s.length ∧ s.length ≤ 40
  · (refine SC_intro Try.func26 rfl (by kernel_rfl) (by rw [Try.ntmps26]; exact Nat.le_of_ble_eq_true rfl) ?_; simp only [Try.ntmps26, argE, Nat.reduceAdd])
    
    repeat' (first | ((first | apply RW.q1 | (apply RW.qg; exact gvx; refine hgx tst ?_; intro hg hg')); (first | (apply q_lenb; exact evgx) | exact qt | exact qu)) | refine xsg cts ?_ | (apply CW_condT; exact rfl; exact ar) | (apply CW_condF; exact rfl; exact ar) | ((first | apply RW.s1 | apply RW.s0); exact gva) | (refine hK _ _ ?_; clear hK; refine xsg xsl ?_) | ((first | apply RW.a1 | apply RW.a0 | (apply RW.at; exact gva)); (first | (apply gw_s2b8; exact rfl; intro ra rc) | (apply gw_asg; exact rfl) | (fail))) | (apply CW_region; intro K hK) | (apply CW_condX; exact rfl; exact tst; exact tst; all_goals (intro hq hc; try exact no)))
    refine CW_loop (fun m ll L => ∃ k : Nat, m = s.length - k ∧ ll = [(0, true, .string (bstr s)), (1, true, .bool false), (18, true, .slice ra s.length rc), (19, true, .int .i64 s.length), (20, true, .int .i64 (k : Nat))] ∧ L = [.own 5 1 ra s.length rc (b8 s)] ∧ k ≤ s.length ∧ ∀ (i : Nat) c, i < k → s[i]? = some c → signP false i c = true)
      ⟨_, _, _, ⟨0, rfl, rfl, rfl, by omega, fun i c hi => absurd hi (by omega)⟩, by exact sbe, by exact sbl⟩ ?_
    rintro m ll L ⟨k, rfl, rfl, rfl, hk, hs⟩
    by_cases hlt : k < s.length
    · obtain ⟨x, hx⟩ : ∃ x, s[k]? = some x := ⟨_, List.getElem?_eq_getElem (by omega)⟩
      have hx8 := x.toNat_lt
      by_cases hsg : signP false k x = true
      · have hqq := sign_name.1 hsg
        
        repeat' (first | ((first | apply RW.q1 | (apply RW.qg; exact gvx; refine hgx tst ?_; intro hg hg')); (first | (apply q_ldo; exact rfl; exact evgx; infer_instance; exact b8_at hx (by omega)) | exact qt | exact qu)) | refine xsg cts ?_ | (apply CW_condT; exact rfl; exact ar) | (apply CW_condF; exact rfl; exact ar) | ((first | apply RW.s1 | apply RW.s0); exact gva) | (refine hK _ _ ?_; clear hK; refine xsg xsl ?_) | ((first | apply RW.a1 | apply RW.a0 | (apply RW.at; exact gva)); (first | (apply gw_asg; exact rfl) | (fail))) | (apply CW_region; intro K hK) | (apply CW_condX; exact rfl; exact tst; exact tst; all_goals (intro hq hc; try exact no)))
        all_goals refine ⟨_, _, _, ⟨k + 1, rfl, rfl, rfl, by omega, fun i cc hi hcc => ?_⟩, by exact sbe, by exact sbl, by omega⟩
        all_goals
          by_cases hik : i = k
          · subst hik
            rw [hx] at hcc
            cases hcc; exact hsg
          · exact hs i cc (by omega) hcc
      · have hqq := mt sign_name.2 hsg
        have hwf : w = false := by
          cases w with
          | false => rfl
          | true => exact absurd ((hw.1 rfl).2.2.1 k x hx) hsg
        subst hwf
        
        repeat' (first | ((first | apply RW.q1 | (apply RW.qg; exact gvx; refine hgx tst ?_; intro hg hg')); (first | (apply q_ldo; exact rfl; exact evgx; infer_instance; exact b8_at hx (by omega)) | exact qt | exact qu)) | refine xsg cts ?_ | (apply CW_condT; exact rfl; exact ar) | (apply CW_condF; exact rfl; exact ar) | ((first | apply RW.s1 | apply RW.s0); exact gva) | (refine hK _ _ ?_; clear hK; refine xsg xsl ?_) | ((first | apply RW.a1 | apply RW.a0 | (apply RW.at; exact gva)); (first | (apply gw_asg; exact rfl) | (fail))) | (apply CW_region; intro K hK) | (apply CW_condX; exact rfl; exact tst; exact tst; all_goals (intro hq hc; try exact no)))
        all_goals (refine CW_ret ?_; refine xsg xsl ?_; refine bR [.tmp 4] [] ?_)
        all_goals exact ⟨rfl, rfl⟩
    have hall : ∀ (i : Nat) c, s[i]? = some c → signP false i c = true := fun i c hc => hs i c (by have := (List.getElem?_eq_some_iff.1 hc).1; omega) hc
    have hwv : w = !decide (s = initT) := by
      rw [Bool.eq_iff_iff, hw]
      simp only [jE, jB]
      exact ⟨fun h => h.2.2.2.resolve_left (by decide), fun h => ⟨hsz.1, hsz.2, hall, .inr h⟩⟩
    
    repeat' (first | ((first | apply RW.q1 | (apply RW.qg; exact gvx; refine hgx tst ?_; intro hg hg')); (first | (apply q_sbne (b := initT); exact evgx; exact evgx) | exact qt | exact qu)) | refine xsg cts ?_ | (apply CW_condT; exact rfl; exact ar) | (apply CW_condF; exact rfl; exact ar) | ((first | apply RW.s1 | apply RW.s0); exact gva) | (refine hK _ _ ?_; clear hK; refine xsg xsl ?_) | ((first | apply RW.a1 | apply RW.a0 | (apply RW.at; exact gva)); (first | (apply gw_asg; exact rfl) | (fail))) | (apply CW_region; intro K hK) | (apply CW_condX; exact rfl; exact tst; exact tst; all_goals (intro hq hc; try exact no)))
    all_goals (refine CW_ret ?_; refine xsg xsl ?_; refine bR [.tmp 4] [] ?_)
    all_goals exact ⟨ret_bool (by rw [hwv, Bool.eq_iff_iff]; simp; try omega), rfl⟩
  · have hwf : w = false := by
      cases w with
      | false => rfl
      | true => exact absurd ⟨(hw.1 rfl).1, (hw.1 rfl).2.1⟩ hsz
    subst hwf
    (refine SC_intro Try.func26 rfl (by kernel_rfl) (by rw [Try.ntmps26]; exact Nat.le_of_ble_eq_true rfl) ?_; simp only [Try.ntmps26, argE, Nat.reduceAdd])
    
    repeat' (first | ((first | apply RW.q1 | (apply RW.qg; exact gvx; refine hgx tst ?_; intro hg hg')); (first | (apply q_lenb; exact evgx) | exact qt | exact qu)) | refine xsg cts ?_ | (apply CW_condT; exact rfl; exact ar) | (apply CW_condF; exact rfl; exact ar) | ((first | apply RW.s1 | apply RW.s0); exact gva) | (refine hK _ _ ?_; clear hK; refine xsg xsl ?_) | ((first | apply RW.a1 | apply RW.a0 | (apply RW.at; exact gva)); (first | (apply gw_asg; exact rfl) | (fail))) | (apply CW_region; intro K hK) | (apply CW_condX; exact rfl; exact tst; exact tst; all_goals (intro hq hc; try exact no)))
    all_goals (refine CW_ret ?_; refine xsg xsl ?_; refine bR [.tmp 4] [] ?_)
    all_goals exact ⟨rfl, rfl⟩
end Go.Proofs.Ytkhmimlgkjenfaa.HL
namespace Go.Proofs.Ytkhmimlgkjenfaa.HL
open Go
set_option linter.unusedSimpArgs false
set_option maxHeartbeats 8000000
set_option maxRecDepth 100000
set_option linter.unusedVariables false

section
variable {P : Program} {l : Ents} {H : Hp} {K : Value → Hp → Prop} {d : Option Tmp} {T : TypeId} {pos : String} {aft : Array Edge} {gd : Option (Nat × Bool)}
def lkW (zv : Value) : Option (Nat × Value) → Value
  | some (_, v) => v
  | none => zv
theorem hgen_lookup1 {t kt et : TypeId} {m k : Operand} {key : ByteArray} {zv : Value} {b : Nat} {es : Array MapEntry} {ck : Nat} {r : Option (Nat × Value)} (hm : evg l true m = some (.map (some b))) (hk : evg l true k = some (.string key))
    (hu : P.underlying t = some (.map kt et)) (hs : P.underlying kt = some .string) (hz : zeroOf P et = some zv) (hb : H b = some (.map es ck)) (hf : Instr.findNow .string (.string key) es.toList 0 = some r)
    (h : K (lkW zv r) H) : hgen P l ⟨d, .lookup t m k false, T, pos, aft, gd⟩ H K := by
  refine hgen_hw (by simp [Op.operands, hm, hk]) ?_
  simp only [execOp, hm, hk, Option.getD_some]
  rw [hw_bind]
  unfold Instr.lookup
  rw [hw_bind]
  refine hw_und hu ?_
  rw [hw_bind]
  refine ⟨_, hb, rfl, ?_⟩
  simp only [hw]
  rw [hw_bind, hw_pure, hw_bind]
  refine hw_checkStr (n := 9999) hs ?_
  rw [hw_bind]
  refine hw_findStr hs hf ?_
  cases r with
  | some p =>
    obtain ⟨i, v⟩ := p
    exact h
  | none =>
    rw [hw_bind]
    refine hw_zero hz ?_
    exact h
def reE (key : ByteArray) (v : Value) (e : MapEntry) : MapEntry := { e with key := .string key, val := v }
theorem hw_reput {t kt et : TypeId} {key : ByteArray} {v u : Value} {b i : Nat} {es : Array MapEntry} {ck : Nat} {e : MapEntry} {K : Unit → Hp → Prop} (hu : P.underlying t = some (.map kt et)) (hs : P.underlying kt = some .string) (hb : H b = some (.map es ck)) (hf : Instr.findNow .string (.string key) es.toList 0 = some (some (i, u)))
    (he : es[i]? = some e) (hk : e.key = .string key)
    (h : ∀ H1, (∀ x, x ≠ b → H1 x = H x) → H1 b = some (.map (es.modify i (reE key v)) ck) → K () H1) : hw P (Instr.mapUpdate t (.map (some b)) (.string key) v) H K := by
  unfold Instr.mapUpdate
  rw [hw_bind]
  refine hw_und hu ?_
  rw [hw_bind]
  refine ⟨_, hb, rfl, ?_⟩
  simp only [hw]
  rw [hw_bind]
  refine hw_checkStr (n := 9999) hs ?_
  rw [hw_bind]
  refine hw_findStr hs hf ?_
  simp only [he, Option.map_some, Option.getD_some, hk]
  unfold Instr.keyThatStays
  rw [if_pos (show Instr.sameBits 10000 (.string key) (.string key) = true from (bb_eq key key).trans (decide_eq_true rfl))]
  rw [hw_bind, hw_pure]
  exact ⟨_, hb, rfl, h _ (fun x hx => upd_ne _ _ hx) (upd_self _ _ _)⟩
theorem hgen_remapup {t kt et : TypeId} {m k x : Operand} {key : ByteArray} {v u : Value} {b i : Nat} {es : Array MapEntry} {ck : Nat} {e : MapEntry} (hm : evg l true m = some (.map (some b))) (hk : evg l true k = some (.string key)) (hx : evg l true x = some v)
    (hu : P.underlying t = some (.map kt et)) (hs : P.underlying kt = some .string) (hb : H b = some (.map es ck)) (hf : Instr.findNow .string (.string key) es.toList 0 = some (some (i, u))) (he : es[i]? = some e) (hke : e.key = .string key)
    (h : ∀ H1, (∀ x, x ≠ b → H1 x = H x) → H1 b = some (.map (es.modify i (reE key v)) ck) → K undef H1) : hgen P l ⟨d, .mapUpdate t m k x, T, pos, aft, gd⟩ H K := by
  refine hgen_hw (by simp [Op.operands, hm, hk, hx]) ?_
  simp only [execOp, hm, hk, hx, Option.getD_some]
  rw [hw_bind]
  exact hw_reput hu hs hb hf he hke h
theorem hgen_mapup {t kt et : TypeId} {m k x : Operand} {key : ByteArray} {v : Value} {b : Nat} {es : Array MapEntry} {ck : Nat} (hm : evg l true m = some (.map (some b))) (hk : evg l true k = some (.string key)) (hx : evg l true x = some v)
    (hu : P.underlying t = some (.map kt et)) (hs : P.underlying kt = some .string) (hb : H b = some (.map es ck)) (hf : Instr.findNow .string (.string key) es.toList 0 = some none)
    (h : ∀ H1, (∀ x, x ≠ b → H1 x = H x) → H1 b = some (.map (es.push { key := .string key, val := v, born := ck }) (ck + 1)) → K undef H1) : hgen P l ⟨d, .mapUpdate t m k x, T, pos, aft, gd⟩ H K := by
  refine hgen_hw (by simp [Op.operands, hm, hk, hx]) ?_
  simp only [execOp, hm, hk, hx, Option.getD_some]
  rw [hw_bind]
  exact hw_put hu hs hb hf h
end
section
variable {P : Program} {l : Ents} {H : Hp} {L L' : List Res} {K : Value → List Res → Prop} {d : Option Tmp} {T : TypeId} {pos : String} {aft : Array Edge} {gd : Option (Nat × Bool)}
theorem gw_lookup1 {t kt et : TypeId} {m k : Operand} {key : ByteArray} {zv : Value} {b : Nat} {es : Array MapEntry} {ck : Nat} {r : Option (Nat × Value)} [hu : Und P t (.map kt et)] [hs : Und P kt .string] [hz : Zec P et zv] (hm : evg l true m = some (.map (some b))) (hk : evg l true k = some (.string key))
    (hp : PObj L b (.map es ck) L') (hf : Instr.findNow .string (.string key) es.toList 0 = some r) (h : K (lkW zv r) L) :
    GW P l ⟨d, .lookup t m k false, T, pos, aft, gd⟩ H L K := fun G hg => by
  obtain ⟨fp, ⟨_, hb⟩, _⟩ := hg.get hp.h
  exact hgen_lookup1 hm hk hu.h hs.h hz.h hb hf ⟨_, hg, h⟩
theorem gw_remapup {t kt et : TypeId} {m k x : Operand} {key : ByteArray} {v u : Value} {b i : Nat} {es : Array MapEntry} {ck : Nat} {e : MapEntry} [hu : Und P t (.map kt et)] [hs : Und P kt .string] (hm : evg l true m = some (.map (some b))) (hk : evg l true k = some (.string key)) (hx : evg l true x = some v)
    (hp : PObj L b (.map es ck) L') (hf : Instr.findNow .string (.string key) es.toList 0 = some (some (i, u))) (he : es[i]? = some e) (hke : e.key = .string key) (h : K undef (.obj b (.map (es.modify i (reE key v)) ck) :: L')) :
    GW P l ⟨d, .mapUpdate t m k x, T, pos, aft, gd⟩ H L K := fun G hg => by
  obtain ⟨fp, ⟨_, hb⟩, _⟩ := hg.get hp.h
  exact hgen_remapup hm hk hx hu.h hs.h hb hf he hke fun G1 k1 k2 => ⟨_, (hg.pick hp.h).turn (r' := .obj b _) fun fp' hr => ⟨fp', ⟨hr.1, k2⟩, fun _ h => .inl h, fun x hx _ => k1 x fun e => hx ((hr.1 x).2 e)⟩, h⟩
theorem gw_mapup {t kt et : TypeId} {m k x : Operand} {key : ByteArray} {v : Value} {b : Nat} {es : Array MapEntry} {ck : Nat} [hu : Und P t (.map kt et)] [hs : Und P kt .string] (hm : evg l true m = some (.map (some b))) (hk : evg l true k = some (.string key)) (hx : evg l true x = some v)
    (hp : PObj L b (.map es ck) L') (hf : Instr.findNow .string (.string key) es.toList 0 = some none) (h : K undef (.obj b (.map (es.push { key := .string key, val := v, born := ck }) (ck + 1)) :: L')) :
    GW P l ⟨d, .mapUpdate t m k x, T, pos, aft, gd⟩ H L K := fun G hg => by
  obtain ⟨fp, ⟨_, hb⟩, _⟩ := hg.get hp.h
  exact hgen_mapup hm hk hx hu.h hs.h hb hf fun G1 k1 k2 => ⟨_, (hg.pick hp.h).turn (r' := .obj b _) fun fp' hr => ⟨fp', ⟨hr.1, k2⟩, fun _ h => .inl h, fun x hx _ => k1 x fun e => hx ((hr.1 x).2 e)⟩, h⟩
end
def seenE : Nat → List Tx → List MapEntry
  | _, [] => []
  | n, s :: l => { key := .string (bstr s), val := .int .i64 1, born := n } :: seenE (n + 1) l
theorem seenE_app : ∀ (n : Nat) (l : List Tx) (s : Tx), seenE n (l ++ [s]) = seenE n l ++ [{ key := .string (bstr s), val := .int .i64 1, born := n + l.length }]
  | n, [], s => rfl
  | n, x :: l, s => by
    show _ :: seenE (n + 1) (l ++ [s]) = _ :: (seenE (n + 1) l ++ _)
    rw [seenE_app (n + 1) l s, List.length_cons, Nat.add_right_comm, Nat.add_assoc]
theorem seen_no : ∀ {l : List Tx} {s : Tx} (n j : Nat), s ∉ l → Instr.findNow .string (.string (bstr s)) (seenE n l) j = some none
  | [], s, n, j, _ => rfl
  | x :: l, s, n, j, h => by
    have hx : ¬ bstr s = bstr x := fun e => h (by rw [bstr_inj e]; simp)
    show (match Instr.sameNow .string (.string (bstr s)) (.string (bstr x)) with
      | some true => _
      | some false => Instr.findNow .string (.string (bstr s)) (seenE (n + 1) l) (j + 1)
      | none => none) = _
    rw [show Instr.sameNow .string (.string (bstr s)) (.string (bstr x)) = some false from congrArg some (by rw [bb_eq, decide_eq_false hx])]
    exact seen_no (n + 1) (j + 1) (fun g => h (List.mem_cons_of_mem _ g))
theorem seen_yes : ∀ {l : List Tx} {s : Tx} (n j : Nat), s ∈ l → ∃ (i : Nat) (e : MapEntry), Instr.findNow .string (.string (bstr s)) (seenE n l) j = some (some (j + i, .int .i64 1)) ∧ (seenE n l)[i]? = some e ∧ e.key = .string (bstr s)
      ∧ ∀ v : Value, Instr.findNow .string (.string (bstr s)) ((seenE n l).modify i (reE (bstr s) v)) j = some (some (j + i, v))
  | [], s, n, j, h => by cases h
  | x :: l, s, n, j, h => by
    have e0 : seenE n (x :: l) = { key := .string (bstr x), val := .int .i64 1, born := n } :: seenE (n + 1) l := rfl
    have f0 : ∀ (e : MapEntry) (es : List MapEntry), Instr.findNow .string (.string (bstr s)) (e :: es) j = (match Instr.sameNow .string (.string (bstr s)) e.key with
      | some true => some (some (j, e.val))
      | some false => Instr.findNow .string (.string (bstr s)) es (j + 1)
      | none => none) := fun _ _ => rfl
    by_cases hx : s = x
    · subst hx
      have t0 : Instr.sameNow .string (.string (bstr s)) (.string (bstr s)) = some true := congrArg some (by rw [bb_eq, decide_eq_true rfl])
      refine ⟨0, _, ?_, rfl, rfl, fun v => ?_⟩
      · rw [e0, f0]; simp only [t0]; rfl
      · rw [e0, List.modify_zero_cons, f0]
        show (match Instr.sameNow .string (.string (bstr s)) (.string (bstr s)) with
          | some true => some (some (j, v))
          | some false => _
          | none => none) = _
        rw [t0]; rfl
    · have hxb : ¬ bstr s = bstr x := fun e => hx (bstr_inj e)
      have t0 : Instr.sameNow .string (.string (bstr s)) (.string (bstr x)) = some false := congrArg some (by rw [bb_eq, decide_eq_false hxb])
      obtain ⟨i, e, h1, h2, h3, h4⟩ := seen_yes (n + 1) (j + 1) ((List.mem_cons.1 h).resolve_left hx)
      refine ⟨i + 1, e, ?_, ?_, h3, fun v => ?_⟩
      · rw [e0, f0]; simp only [t0]; rw [h1]; congr 3; omega
      · rw [e0]; simpa using h2
      · rw [e0, List.modify_succ_cons, f0]; simp only [t0]; rw [h4 v]; congr 3; omega
abbrev seenO (l : List Tx) : Obj := .map (seenE 0 l).toArray l.length
end Go.Proofs.Ytkhmimlgkjenfaa.HL
