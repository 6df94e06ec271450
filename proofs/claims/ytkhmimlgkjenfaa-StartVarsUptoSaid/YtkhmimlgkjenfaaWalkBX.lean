/- WalkB: StaT: what a package's order is: what is wrong of it, its cycle, or its variables in their order: one answer. No condition. StaV: faults made and told; rows cloned. Condition: the lists' lengths. StaVb: who is blamed. Condition: the list's length. StaW: start.find: the number of the first thing of a name. Condition: the list's length. StaX: start.all: a package's things, its files sorted. Conditions: the lists' lengths. StaY: the last point of a text by the library; is a text among texts. Conditions: lengths. StaYb: start.used of one name, where nobody asks what is in another package. Conditions: lengths. StaYc: start.joined of a package by itself. Conditions: lengths. -/
import Derived.Test.YtkhmimlgkjenfaaWalkAX
import Derived.Test.YtkhmimlgkjenfaaEngX
namespace Go.Proofs.Ytkhmimlgkjenfaa.HL
open Go
attribute [local irreducible] goFn thenS blockS bodyS CW RW DW GW QW NW SC Pick Picks SubL Rd NN ResOk SrcW subE hops hseg AW hgen HC qv bldv
set_option maxHeartbeats 8000000
set_option maxRecDepth 100000
set_option linter.unusedVariables false
set_option linter.unusedSimpArgs false

def useE (im ns : List Tx) (s : Tx) : Int := match lastPt s with
  | none => if s ∈ ns then 0 else 5
  | some k => if s.take k ∈ im then 0 else 151
def useO (im ns : List Tx) (s : Tx) : Option (Int × Tx) := if useE im ns s = 0 then none else some (useE im ns s, s)
def joinTh (im ns : List Tx) (x : Th) : Option (Int × Tx) := firstO (useO im ns) x.u
def joinFl (im ns : List Tx) (f : Fl) : Option (Int × Tx) := firstO (joinTh im ns) (things f)
def joinO (p : Pk) : Option (Int × Tx) := firstO (joinFl p.im ((allT p.fl).map Th.n)) p.fl
theorem useO_none {im ns : List Tx} {s : Tx} : useO im ns s = none ↔ useE im ns s = 0 := by
  unfold useO; split <;> simp [*]
theorem firstO_flat {α β γ : Type} {f : β → Option γ} {g : α → List β} : ∀ l : List α, firstO f (l.flatMap g) = firstO (fun a => firstO f (g a)) l
  | [] => rfl
  | a :: l => by
    rw [List.flatMap_cons, firstO_app, firstO_flat l]; rfl
theorem join_flat (p : Pk) : joinO p = firstO (joinTh p.im ((allT p.fl).map Th.n)) (allT p.fl) := by
  unfold joinO allT
  rw [firstO_flat]; rfl
noncomputable def sizeO (p : Pk) : Option (Int × List Tx) := by classical exact if badI [p] ∨ 1024 < allN [p] then some (4, []) else none
noncomputable def fltO (p : Pk) : Option (Int × List Tx) :=
  orO (sizeO p) (orO ((formO [p]).map fun s => (3, [s])) (orO ((dupP [] [p]).map fun s => (6, [s])) ((joinO p).map fun q => (q.1, [q.2]))))
def VN (t : List Th) (a : Tx) : Prop := ∃ x, x ∈ t ∧ x.n = a ∧ x.v = true
abbrev NT (t : List Th) : Tx → Tx → Prop := NE Th.n Th.u t
def OrdR (t : List Th) (out : List Tx) : Prop := Steps (RdW (NT t) (VN t)) (t.map Th.n) out ∧ out.length = t.countP Th.v
theorem OrdR.same {t : List Th} {o o' : List Tx} (h : OrdR t o) (h' : OrdR t o') : o = o' := h.1.eq_of_len h'.1 (h.2.trans h'.2.symm)
def VarsR (p : Pk) (e : Int) (out them : List Tx) : Prop :=
  (∃ q, fltO p = some q ∧ e = q.1 ∧ out = [] ∧ them = q.2) ∨
  (fltO p = none ∧ CycS (NT (allT p.fl)) (VN (allT p.fl)) ltT them ∧ them ≠ [] ∧ e = 150 ∧ out = []) ∨
  (fltO p = none ∧ CycS (NT (allT p.fl)) (VN (allT p.fl)) ltT [] ∧ e = 0 ∧ them = [] ∧ ∃ l', l'.Perm p.fl ∧ Srt flLt l' ∧ OrdR (allT l') out)
theorem dup_one {p : Pk} (h : fltO p = none) : formO [p] = none ∧ p.im.Nodup ∧ (p.fl.map Fl.n).Nodup ∧ ((allT p.fl).map Th.n).Nodup ∧ joinO p = none ∧ ¬ (badI [p] ∨ 1024 < allN [p]) := by
  obtain ⟨h0, h1⟩ := orO_none.1 h
  obtain ⟨h1, h2⟩ := orO_none.1 h1
  obtain ⟨h2, h3⟩ := orO_none.1 h2
  have g := (dupP_none (Option.map_eq_none_iff.1 h2)).2.2 p (by simp)
  refine ⟨Option.map_eq_none_iff.1 h1, g.1, g.2.1, g.2.2, Option.map_eq_none_iff.1 h3, fun c => ?_⟩
  unfold sizeO at h0
  rw [if_pos c] at h0
  cases h0
theorem VarsR.same {p : Pk} {e e' : Int} {o o' m m' : List Tx} (h : VarsR p e o m) (h' : VarsR p e' o' m') : e = e' ∧ o = o' ∧ m = m' := by
  rcases h with ⟨q, h1, rfl, rfl, rfl⟩ | ⟨h1, h2, h3, rfl, rfl⟩ | ⟨h1, h2, rfl, rfl, l, h3, h4, h5⟩
  · rcases h' with ⟨q', g1, rfl, rfl, rfl⟩ | ⟨g1, _⟩ | ⟨g1, _⟩
    · rw [h1] at g1; cases g1; exact ⟨rfl, rfl, rfl⟩
    · rw [h1] at g1; cases g1
    · rw [h1] at g1; cases g1
  · rcases h' with ⟨q', g1, _⟩ | ⟨g1, g2, g3, rfl, rfl⟩ | ⟨g1, g2, _⟩
    · rw [h1] at g1; cases g1
    · exact ⟨rfl, rfl, h2.same (fun _ _ => ltT_asym) g2⟩
    · exact absurd (h2.same (fun _ _ => ltT_asym) g2) h3
  · rcases h' with ⟨q', g1, _⟩ | ⟨g1, g2, g3, rfl, rfl⟩ | ⟨g1, g2, rfl, rfl, l', g3, g4, g5⟩
    · rw [h1] at g1; cases g1
    · exact absurd (g2.same (fun _ _ => ltT_asym) h2) g3
    · have hd := (dup_one h1).2.2.1
      have hl : l = l' := srt_fl (h3.trans g3.symm) (((h3.map Fl.n).nodup_iff).2 hd) h4 g4
      subst hl
      exact ⟨rfl, h5.same g5, rfl⟩
def nmA (t : List Th) (i : Nat) : Tx := ((t[i]?).map Th.n).getD []
theorem nmA_at {t : List Th} {i : Nat} {x : Th} (h : t[i]? = some x) : nmA t i = x.n := by unfold nmA; rw [h]; rfl
theorem map_nmA (t : List Th) : t.map Th.n = (List.range t.length).map (nmA t) := by
  apply List.ext_getElem?
  intro i
  rw [List.getElem?_map, List.getElem?_map]
  rcases Nat.lt_or_ge i t.length with h | h
  · rw [List.getElem?_range h, List.getElem?_eq_getElem h]
    exact congrArg some (nmA_at (List.getElem?_eq_getElem h)).symm
  · rw [List.getElem?_eq_none h, List.getElem?_eq_none (by simpa using h)]; rfl
def VI (t : List Th) (i : Nat) : Prop := ∃ x, t[i]? = some x ∧ x.v = true
theorem steps_names {t : List Th} {next : List (List Nat)} {o : List Nat} (hN : Net Th.n Th.u t next) (hd : (t.map Th.n).Nodup) (h : Steps (RdW (Nx next) (VI t)) (List.range t.length) o) :
    Steps (RdW (NT t) (VN t)) (t.map Th.n) (o.map (nmA t)) := by
  rw [map_nmA t]
  have at_ : ∀ x, x ∈ List.range t.length → ∃ y, t[x]? = some y ∧ nmA t x = y.n := fun x hx => ⟨_, List.getElem?_eq_getElem (List.mem_range.1 hx), nmA_at (List.getElem?_eq_getElem (List.mem_range.1 hx))⟩
  have inj : ∀ x y, x ∈ List.range t.length → y ∈ List.range t.length → nmA t x = nmA t y → x = y := by
    intro x y hx hy e
    obtain ⟨u, h1, h2⟩ := at_ x hx
    obtain ⟨w, h3, h4⟩ := at_ y hy
    exact (get_one hd h1 h3 (h2 ▸ h4 ▸ e)).1
  have vn : ∀ x, x ∈ List.range t.length → (VI t x ↔ VN t (nmA t x)) := by
    intro x hx
    obtain ⟨u, h1, h2⟩ := at_ x hx
    constructor
    · rintro ⟨y, hy, hv⟩
      rw [h1] at hy; cases hy
      exact ⟨u, List.mem_of_getElem? h1, h2.symm, hv⟩
    · rintro ⟨y, hy, hn, hv⟩
      obtain ⟨j, hj⟩ := List.mem_iff_getElem?.1 hy
      obtain ⟨rfl, rfl⟩ := get_one hd h1 hj (h2.symm.trans hn.symm)
      exact ⟨u, h1, hv⟩
  refine steps_map h (fun p x hp hx => ?_) fun y hy => (steps_mem h).2 y hy |>.1
  obtain ⟨u, h1, h2⟩ := at_ x hx
  unfold RdW
  rw [vn x hx]
  have hmem : ∀ y, y ∈ List.range t.length → (y ∈ p ↔ nmA t y ∈ p.map (nmA t)) := by
    intro y hy
    refine ⟨fun g => List.mem_map.2 ⟨y, g, rfl⟩, fun g => ?_⟩
    obtain ⟨z, hz, e⟩ := List.mem_map.1 g
    rwa [inj z y (hp z hz) hy e] at hz
  refine and_congr Iff.rfl (and_congr (not_congr (hmem x hx)) ⟨fun g m b hw hv => ?_, fun g m k hw hv => ?_⟩)
  · obtain ⟨y, hy, rfl, hyv⟩ := hv
    obtain ⟨j, hj⟩ := List.mem_iff_getElem?.1 hy
    have hjr : j ∈ List.range t.length := List.mem_range.2 (List.getElem?_eq_some_iff.1 hj).1
    rw [← nmA_at hj]
    refine (hmem j hjr).1 (g m j ((hN.walk hd h1 hj).2 ?_) ⟨y, hj, hyv⟩)
    rw [← h2]; exact hw
  · obtain ⟨y, hj, hyv⟩ := hv
    have hjr : k ∈ List.range t.length := List.mem_range.2 (List.getElem?_eq_some_iff.1 hj).1
    refine (hmem k hjr).2 (g m _ ?_ ?_)
    · rw [h2, nmA_at hj]; exact (hN.walk hd h1 hj).1 hw
    · rw [← vn k hjr]; exact ⟨y, hj, hyv⟩
theorem count_range {α : Type} (p : α → Bool) : ∀ t : List α, (List.range t.length).countP (fun i => ((t[i]?).map p).getD false) = t.countP p
  | [] => rfl
  | x :: t => by
    rw [List.length_cons, List.range_succ_eq_map, List.countP_cons, List.countP_cons, List.countP_map, ← count_range p t]
    rfl
theorem ordR_of {t : List Th} {next : List (List Nat)} {o : List Nat} (hN : Net Th.n Th.u t next) (hd : (t.map Th.n).Nodup) (h : Steps (RdW (Nx next) (VI t)) (List.range t.length) o) (hf : ∀ i, i < t.length → VI t i → i ∈ o) : OrdR t (o.map (nmA t)) := by
  refine ⟨steps_names hN hd h, ?_⟩
  rw [List.length_map, ← count_range Th.v t]
  refine steps_all h hf _ fun i hi => ?_
  rw [List.getElem?_eq_getElem hi]
  constructor
  · intro g; exact ⟨_, List.getElem?_eq_getElem hi, g⟩
  · rintro ⟨x, hx, hv⟩
    rw [List.getElem?_eq_getElem hi] at hx
    cases hx; exact hv
end Go.Proofs.Ytkhmimlgkjenfaa.HL
namespace Go.Proofs.Ytkhmimlgkjenfaa.HL
open Go
attribute [local irreducible] goFn thenS blockS bodyS CW RW DW GW QW NW SC Pick Picks SubL Rd NN ResOk SrcW subE hops hseg AW hgen HC qv bldv
set_option maxHeartbeats 8000000
set_option maxRecDepth 100000
set_option linter.unusedVariables false
set_option linter.unusedSimpArgs false

abbrev fltV (e : Int) (s : Tx) (a : Option Addr) (n c : Nat) : Value := .agg #[.int .i64 e, .string (bstr s), .slice a n c]
theorem txs_len (l : List Tx) : (txs l).length = l.length := by simp [txs]
theorem all_txs (l : List Tx) : (txs l).all isOne = true := by simp [txs, List.all_map, isOne, Function.comp_def]
theorem bad_spec (e : Int) (s : Tx) (H : Hp) : SC Try.prog 27 [.int .i64 e, .string (bstr s)] H [] (fun v M => v = fltV e s none 0 0 ∧ M = []) := by
  (refine SC_intro Try.func27 rfl (by kernel_rfl) (by rw [Try.ntmps27]; exact Nat.le_of_ble_eq_true rfl) ?_; simp only [Try.ntmps27, argE, Nat.reduceAdd])
  repeat' (first | (apply RW.q1; (first | (apply q_bld; exact rfl; first | exact bld47_0_1 _ _) | exact qt)) | refine xsg cts ?_ | (apply CW_condT; exact rfl; exact ar) | (apply CW_condF; exact rfl; exact ar) | (refine hK _ _ ?_; clear hK; refine xsg xsl ?_) | ((first | apply RW.a1 | apply RW.a0); (first | (apply gw_asg; exact rfl) | (apply gw_alloc; exact rfl; intro b) | (refine gw_stx sto ?_) | (fail))) | (apply CW_region; intro K hK) | (apply CW_condX; exact rfl; exact tst; exact tst; all_goals (intro hq hc; try exact nx)))
  (refine CW_ret ?_; refine xsg xsl ?_; refine bodyS_ret (L' := []) (rs := [.cell 4 47]) (by kernel_rfl) (by (repeat (first | (apply resok_tmp; exact rfl) | (apply resok_cell; exact rfl; exact rfl; (focus ((iterate 16 (try (first | exact pick0 | apply pickS))); done)); (first | exact rfl | assumption | (simp only [List.length_map]; omega)); decide))); exact resok_nil) (by exact sbl) ?_)
  exact ⟨rfl, rfl⟩
theorem all_one {l : List Value} (h : ∀ v, v ∈ l → isOne v = true) : l.all isOne = true := List.all_eq_true.2 h
theorem fl_one (l : List Fl) : (l.flatMap flC).all isOne = true := all_one fun v hv => by
  obtain ⟨f, _, h⟩ := List.mem_flatMap.1 hv
  simp only [flC, List.mem_cons, List.not_mem_nil, or_false] at h
  rcases h with rfl | rfl | rfl | rfl <;> rfl
theorem cloneF_spec (D : List Fl) (a : Option Addr) (c : Nat) (H : Hp) (hx : Rs H 4 a D.length c (D.flatMap flC)) (hN : D.length ≤ 1099511627776) :
    SC Try.prog 53 [.slice a D.length c] H [] (fun v M => ∃ b d, v = .slice b D.length d ∧ M = [.own 38 4 b D.length d (D.flatMap flC)]) := by
  cases a with
  | none =>
    have hn : D.length = 0 := by
      obtain ⟨_, ⟨p', c', h2, h3⟩ | ⟨b, off, cap, h2, h5, _⟩⟩ := hx
      · exact h3
      · cases h2
    have hD : D = [] := List.eq_nil_of_length_eq_zero hn
    subst hD
    (refine SC_intro Try.func53 rfl (by kernel_rfl) (by rw [Try.ntmps53]; exact Nat.le_of_ble_eq_true rfl) ?_; simp only [Try.ntmps53, argE, Nat.reduceAdd])
    repeat' (first | (apply RW.q1; exact qt) | refine xsg cts ?_ | (apply CW_condT; exact rfl; exact ar) | (apply CW_condF; exact rfl; exact ar) | (refine hK _ _ ?_; clear hK; refine xsg xsl ?_) | ((first | apply RW.a1 | apply RW.a0); (first | (apply gw_asg; exact rfl) | (apply gw_lit1; exact rfl; exact rfl; exact rfl; exact rfl; decide; intro b) | (apply gw_lit2; exact rfl; exact rfl; exact rfl; exact rfl; intro b) | (apply gw_lit3; exact rfl; exact rfl; exact rfl; exact rfl; exact rfl; intro b) | (apply gw_ap1; exact rfl; exact rfl; infer_instance; infer_instance; exact rfl; exact rfl; exact rfl; exact rfl; omega; intro a c) | (apply gw_ap1n; exact rfl; exact rfl; infer_instance; exact rfl; exact rfl; exact rfl; exact rfl; omega; intro a c) | (fail))) | (apply CW_region; intro K hK) | (apply CW_condX; exact rfl; exact tst; exact tst; all_goals (intro hq hc; try exact nx)))
    all_goals (refine CW_ret ?_; refine xsg xsl ?_; refine bR [.tmp 2] [.own 38 4 none 0 0 []] ?_)
    all_goals exact ⟨none, 0, rfl, rfl⟩
  | some a =>
    (refine SC_intro Try.func53 rfl (by kernel_rfl) (by rw [Try.ntmps53]; exact Nat.le_of_ble_eq_true rfl) ?_; simp only [Try.ntmps53, argE, Nat.reduceAdd])
    repeat' (first | (apply RW.q1; exact qt) | refine xsg cts ?_ | (apply CW_condT; exact rfl; exact ar) | (apply CW_condF; exact rfl; exact ar) | (refine hK _ _ ?_; clear hK; refine xsg xsl ?_) | ((first | apply RW.a1 | apply RW.a0); (first | (refine gw_litn (n := 0) (cs := []) (z := 4) rfl rfl rfl rfl rfl (by decide) (fun b => ?_)) | (refine gw_append (e := 38) (z := 4) (n := 0) (m := D.length) (cs := []) rfl rfl rfl rfl (by exact pkx) (src_rs hx) subl_refl (by rw [flC_len]) (fl_one D) (by omega) (by omega) (fun a' c' => ?_)) | (apply gw_asg; exact rfl) | (apply gw_lit1; exact rfl; exact rfl; exact rfl; exact rfl; decide; intro b) | (apply gw_lit2; exact rfl; exact rfl; exact rfl; exact rfl; intro b) | (apply gw_lit3; exact rfl; exact rfl; exact rfl; exact rfl; exact rfl; intro b) | (apply gw_ap1; exact rfl; exact rfl; infer_instance; infer_instance; exact rfl; exact rfl; exact rfl; exact rfl; omega; intro a c) | (apply gw_ap1n; exact rfl; exact rfl; infer_instance; exact rfl; exact rfl; exact rfl; exact rfl; omega; intro a c) | (fail))) | (apply CW_region; intro K hK) | (apply CW_condX; exact rfl; exact tst; exact tst; all_goals (intro hq hc; try exact nx)))
    rw [jL, Nat.zero_add]
    (refine CW_ret ?_; refine xsg xsl ?_; refine bR [.tmp 2] [.own 38 4 a' D.length c' _] ?_)
    exact ⟨a', c', rfl, rfl⟩
end Go.Proofs.Ytkhmimlgkjenfaa.HL
namespace Go.Proofs.Ytkhmimlgkjenfaa.HL
open Go
attribute [local irreducible] goFn thenS blockS bodyS CW RW DW GW QW NW SC Pick Picks SubL Rd NN ResOk SrcW subE hops hseg AW hgen HC qv bldv
set_option maxHeartbeats 8000000
set_option maxRecDepth 100000
set_option linter.unusedVariables false
set_option linter.unusedSimpArgs false

theorem blame_size (s : Tx) (a : Option Addr) (n c : Nat) (H : Hp) : SC Try.prog 15 [fltV 4 s a n c] H [] (fun v M => v = .slice none 0 0 ∧ M = []) := by
  (refine SC_intro Try.func15 rfl (by kernel_rfl) (by rw [Try.ntmps15]; exact Nat.le_of_ble_eq_true rfl) ?_; simp only [Try.ntmps15, argE, Nat.reduceAdd])
  
  repeat' (first | (apply RW.q1; exact qt) | refine xsg cts ?_ | (apply CW_condT; exact rfl; exact ar) | (apply CW_condF; exact rfl; exact ar) | (refine hK _ _ ?_; clear hK; refine xsg xsl ?_) | ((first | apply RW.a1 | apply RW.a0); (first | (apply gw_box (d := some 1); exact rfl; exact rfl; intro b1) | (apply gw_asg; exact rfl) | (apply gw_box; exact rfl; exact rfl; intro b) | (apply gw_lit1; exact rfl; exact rfl; exact rfl; exact rfl; decide; intro b) | (apply gw_lit2; exact rfl; exact rfl; exact rfl; exact rfl; intro b) | (apply gw_lit3; exact rfl; exact rfl; exact rfl; exact rfl; exact rfl; intro b) | (fail))) | (apply CW_region; intro K hK) | (apply CW_condX; exact rfl; exact tst; exact tst; all_goals (intro hq hc; try exact no)))
  (refine CW_ret ?_; refine xsg xsl ?_; refine bR [.tmp 2] [] ?_)
  exact ⟨rfl, rfl⟩
theorem blame_one (e : Int) (s : Tx) (a : Option Addr) (c : Nat) (H : Hp) (he : e ≠ 4) : SC Try.prog 15 [fltV e s a 0 c] H [] (fun v M => ∃ b d, v = .slice b 1 d ∧ M = [.own 9 1 b 1 d (txs [s])]) := by
  (refine SC_intro Try.func15 rfl (by kernel_rfl) (by rw [Try.ntmps15]; exact Nat.le_of_ble_eq_true rfl) ?_; simp only [Try.ntmps15, argE, Nat.reduceAdd])
  
  repeat' (first | (apply RW.q1; exact qt) | refine xsg cts ?_ | (apply CW_condT; exact rfl; exact ar) | (apply CW_condF; exact rfl; exact ar) | (refine hK _ _ ?_; clear hK; refine xsg xsl ?_) | ((first | apply RW.a1 | apply RW.a0); (first | (apply gw_box (d := some 1); exact rfl; exact rfl; intro b1) | (apply gw_asg; exact rfl) | (apply gw_box; exact rfl; exact rfl; intro b) | (apply gw_lit1; exact rfl; exact rfl; exact rfl; exact rfl; decide; intro b) | (apply gw_lit2; exact rfl; exact rfl; exact rfl; exact rfl; intro b) | (apply gw_lit3; exact rfl; exact rfl; exact rfl; exact rfl; exact rfl; intro b) | (fail))) | (apply CW_region; intro K hK) | (apply CW_condX; exact rfl; exact tst; exact tst; all_goals (intro hq hc; try exact no)))
  (refine CW_ret ?_; refine xsg xsl ?_; refine bR [.tmp 2] [.own 9 1 _ 1 _ _] ?_)
  exact ⟨_, _, rfl, rfl⟩
end Go.Proofs.Ytkhmimlgkjenfaa.HL
namespace Go.Proofs.Ytkhmimlgkjenfaa.HL
open Go
attribute [local irreducible] goFn thenS blockS bodyS CW RW DW GW QW NW SC Pick Picks SubL Rd NN ResOk SrcW subE hops hseg AW hgen HC qv bldv
set_option maxHeartbeats 8000000
set_option maxRecDepth 100000
set_option linter.unusedVariables false
set_option linter.unusedSimpArgs false

abbrev thA (x : Th) : Value := .agg #[.string (bstr x.n), .bool x.v, .slice x.a x.u.length x.c]
theorem find1_spec (x : Th) (s : Tx) (b : Nat) (H : Hp) : SC Try.prog 74 [thA x, .pointer (some ⟨b, 0, none⟩)] H [.box b 9 [.string (bstr s)]] (fun v M => v = .bool (decide (x.n = s)) ∧ M = [.box b 9 [.string (bstr s)]]) := by
  (refine SC_intro Try.func74 rfl (by kernel_rfl) (by rw [Try.ntmps74]; exact Nat.le_of_ble_eq_true rfl) ?_; simp only [Try.ntmps74, argE, Nat.reduceAdd])
  repeat' (first | (apply RW.q1; (first | (apply q_sbeq; exact rfl; exact rfl) | exact qt)) | refine xsg cts ?_ | (apply CW_condT; exact rfl; exact ar) | (apply CW_condF; exact rfl; exact ar) | (refine hK _ _ ?_; clear hK; refine xsg xsl ?_) | ((first | apply RW.a1 | apply RW.a0); (first | (apply gw_box (d := some 2); exact rfl; exact rfl; intro b2) | (apply gw_asg; exact rfl) | (apply gw_box; exact rfl; exact rfl; intro b) | (fail))) | (apply CW_region; intro K hK) | (apply CW_condX; exact rfl; exact tst; exact tst; all_goals (intro hq hc; try exact nx)))
  (refine CW_ret ?_; refine xsg xsl ?_; refine bR [.tmp 3] [.box b 9 [.string (bstr s)]] ?_)
  exact ⟨rfl, rfl⟩
theorem indexFn_spec (t : List Th) (c : Nat) (a : Option Addr) (s : Tx) (b : Nat) (H : Hp) (hr : Rs H 3 a t.length c (t.flatMap thC)) (hl : t.length ≤ 1099511627776) :
    SC Try.prog 73 [.slice a t.length c, .func (.func 74) #[] #[.pointer (some ⟨b, 0, none⟩)]] H [.box b 9 [.string (bstr s)]]
      (fun v M => ∃ i, AtP t s i ∧ v = .int .i64 i ∧ M = [.box b 9 [.string (bstr s)]]) := by
  (refine SC_intro Try.func73 rfl (by kernel_rfl) (by rw [Try.ntmps73]; exact Nat.le_of_ble_eq_true rfl) ?_; simp only [Try.ntmps73, argE, Nat.reduceAdd])
  
  repeat' (first | (apply RW.q1; exact qt) | refine xsg cts ?_ | (apply CW_condT; exact rfl; exact ar) | (apply CW_condF; exact rfl; exact ar) | (refine hK _ _ ?_; clear hK; refine xsg xsl ?_) | ((first | apply RW.a1 | apply RW.a0); (first | (apply gw_asg; exact rfl) | (fail))) | (apply CW_region; intro K hK) | (apply CW_condX; exact rfl; exact tst; exact tst; all_goals (intro hq hc; try exact no)))
  refine CW_loop (fun m ll L => ∃ k : Nat, m = t.length - k ∧ ll = [(0, true, .slice a t.length c), (1, true, .func (.func 74) #[] #[.pointer (some ⟨b, 0, none⟩)]), (7, true, .int .i64 t.length), (8, true, .int .i64 (k : Nat))] ∧ L = [.box b 9 [.string (bstr s)]] ∧ k ≤ t.length ∧ ∀ (j : Nat) y, j < k → t[j]? = some y → y.n ≠ s)
    ⟨_, _, _, ⟨0, rfl, rfl, rfl, by omega, fun j y hj => absurd hj (by omega)⟩, by exact sbe, by exact sbl⟩ ?_
  rintro m ll L ⟨k, rfl, rfl, rfl, hk, hs⟩
  by_cases hlt : k < t.length
  · obtain ⟨x, hx⟩ : ∃ x, t[k]? = some x := ⟨_, List.getElem?_eq_getElem (by omega)⟩
    by_cases hxs : x.n = s
    · have hd : decide (x.n = s) = true := decide_eq_true hxs
      
      repeat' (first | (apply RW.q1; (first | (apply q_lar; exact rfl; exact rfl; exact hr; exact ix_elem hx (by omega); exact rfl; decide) | exact qt)) | refine xsg cts ?_ | (apply CW_condT; exact rfl; exact ar) | (apply CW_condF; exact rfl; exact ar) | (refine hK _ _ ?_; clear hK; refine xsg xsl ?_) | ((first | apply RW.a1 | apply RW.a0); (first | (apply gw_callvc (f := 74) (M := [.box b 9 [.string (bstr s)]]); exact rfl; exact rfl; exact go74; exact pcs; intro G hG; refine SC.mono (find1_spec x s b G) ?_; rintro v M ⟨rfl, rfl⟩; rw [hd]; (try dsimp only [jL, jM])) | (apply gw_asg; exact rfl) | (fail))) | (apply CW_region; intro K hK) | (apply CW_condX; exact rfl; exact tst; exact tst; all_goals (intro hq hc; try exact no)))
      (refine CW_ret ?_; refine xsg xsl ?_; refine bR [.tmp 4] [.box b 9 [.string (bstr s)]] ?_)
      exact ⟨k, .inr ⟨k, x, rfl, hx, hxs, hs⟩, rfl, rfl⟩
    · have hd : decide (x.n = s) = false := decide_eq_false hxs
      
      repeat' (first | (apply RW.q1; (first | (apply q_lar; exact rfl; exact rfl; exact hr; exact ix_elem hx (by omega); exact rfl; decide) | exact qt)) | refine xsg cts ?_ | (apply CW_condT; exact rfl; exact ar) | (apply CW_condF; exact rfl; exact ar) | (refine hK _ _ ?_; clear hK; refine xsg xsl ?_) | ((first | apply RW.a1 | apply RW.a0); (first | (apply gw_callvc (f := 74) (M := [.box b 9 [.string (bstr s)]]); exact rfl; exact rfl; exact go74; exact pcs; intro G hG; refine SC.mono (find1_spec x s b G) ?_; rintro v M ⟨rfl, rfl⟩; rw [hd]; (try dsimp only [jL, jM])) | (apply gw_asg; exact rfl) | (fail))) | (apply CW_region; intro K hK) | (apply CW_condX; exact rfl; exact tst; exact tst; all_goals (intro hq hc; try exact no)))
      refine ⟨_, _, _, ⟨k + 1, rfl, rfl, rfl, by omega, fun j y hj hy => ?_⟩, by exact sbe, by exact sbl, by omega⟩
      by_cases hjk : j = k
      · subst hjk
        rw [hx] at hy
        cases hy; exact hxs
      · exact hs j y (by omega) hy
  
  repeat' (first | (apply RW.q1; exact qt) | refine xsg cts ?_ | (apply CW_condT; exact rfl; exact ar) | (apply CW_condF; exact rfl; exact ar) | (refine hK _ _ ?_; clear hK; refine xsg xsl ?_) | ((first | apply RW.a1 | apply RW.a0); (first | (apply gw_asg; exact rfl) | (fail))) | (apply CW_region; intro K hK) | (apply CW_condX; exact rfl; exact tst; exact tst; all_goals (intro hq hc; try exact no)))
  (refine CW_ret ?_; refine xsg xsl ?_; refine bR [.tmp 4] [.box b 9 [.string (bstr s)]] ?_)
  refine ⟨-1, .inl ⟨rfl, fun j y hy => hs j y ?_ hy⟩, rfl, rfl⟩
  have := (List.getElem?_eq_some_iff.1 hy).1
  omega
theorem find_spec (t : List Th) (c : Nat) (a : Option Addr) (s : Tx) (H : Hp) (hr : Rs H 3 a t.length c (t.flatMap thC)) (hl : t.length ≤ 1099511627776) :
    SC Try.prog 58 [.slice a t.length c, .string (bstr s)] H [] (fun v M => ∃ i, AtP t s i ∧ v = .int .i64 i ∧ M = []) := by
  (refine SC_intro Try.func58 rfl (by kernel_rfl) (by rw [Try.ntmps58]; exact Nat.le_of_ble_eq_true rfl) ?_; simp only [Try.ntmps58, argE, Nat.reduceAdd])
  
  repeat' (first | (apply RW.q1; exact qt) | refine xsg cts ?_ | (apply CW_condT; exact rfl; exact ar) | (apply CW_condF; exact rfl; exact ar) | (refine hK _ _ ?_; clear hK; refine xsg xsl ?_) | ((first | apply RW.a1 | apply RW.a0); (first | (apply gw_box (d := some 3); exact rfl; exact rfl; intro b3) | (apply gw_callc (f := 73) (M := [.box b3 9 [.string (bstr s)]]); exact rfl; exact go73; exact pcs; intro G hG; refine SC.mono (indexFn_spec t c a s b3 G (hr.ext hG.ext) hl) ?_; rintro v M ⟨i, hi, rfl, rfl⟩; (try dsimp only [jL, jM])) | (apply gw_asg; exact rfl) | (apply gw_box; exact rfl; exact rfl; intro b) | (fail))) | (apply CW_region; intro K hK) | (apply CW_condX; exact rfl; exact tst; exact tst; all_goals (intro hq hc; try exact no)))
  (refine CW_ret ?_; refine xsg xsl ?_; refine bR [.tmp 4] [] ?_)
  exact ⟨i, hi, rfl, rfl⟩
end Go.Proofs.Ytkhmimlgkjenfaa.HL
namespace Go.Proofs.Ytkhmimlgkjenfaa.HL
open Go
attribute [local irreducible] goFn thenS blockS bodyS CW RW DW GW QW NW SC Pick Picks SubL Rd NN ResOk SrcW subE hops hseg AW hgen HC qv bldv
set_option maxHeartbeats 8000000
set_option maxRecDepth 100000
set_option linter.unusedVariables false
set_option linter.unusedSimpArgs false

theorem flOk_ext {H G : Hp} {f : Fl} (h : flOk H f) (hx : Ext H G) : flOk G f := ⟨h.1.ext hx, h.2.1.ext hx, fun x hm => (h.2.2.1 x hm).ext hx, fun x hm => (h.2.2.2 x hm).ext hx⟩
theorem pkOk_ext {H G : Hp} {p : Pk} (h : pkOk H p) (hx : Ext H G) : pkOk G p := ⟨h.1.ext hx, h.2.1.ext hx, fun f hf => flOk_ext (h.2.2 f hf) hx⟩
abbrev pkV (p : Pk) : Value := .agg #[.string (bstr p.p), .slice p.ia p.im.length p.ic, .slice p.la p.fl.length p.lc]
theorem th_one (l : List Th) : (l.flatMap thC).all isOne = true := all_one fun v hv => by
  obtain ⟨f, _, h⟩ := List.mem_flatMap.1 hv
  simp only [thC, List.mem_cons, List.not_mem_nil, or_false] at h
  rcases h with rfl | rfl | rfl <;> rfl
theorem thC_len (l : List Th) : (l.flatMap thC).length = l.length * 3 := by
  induction l with
  | nil => rfl
  | cons x l ih => rw [List.flatMap_cons, List.length_append, ih, List.length_cons]; show 3 + _ = _; omega
theorem things_len (f : Fl) : (things f).length = f.vs.length + f.fs.length := by unfold things; rw [List.length_append, List.length_map, List.length_map]
theorem allT_snoc {l : List Fl} {k : Nat} {f : Fl} (hf : l[k]? = some f) : allT (l.take (k + 1)) = allT (l.take k) ++ things f := by
  rw [List.take_add_one, hf]; unfold allT; simp
theorem allT_take (l : List Fl) (k : Nat) : (allT (l.take k)).length ≤ (allT l).length := by
  have : allT l = allT (l.take k) ++ allT (l.drop k) := by
    unfold allT; rw [← List.flatMap_append, List.take_append_drop]
  rw [this, List.length_append]; omega
theorem allT_perm {l l' : List Fl} (h : l.Perm l') : (allT l).Perm (allT l') := h.flatMap_right _
theorem all_spec (p : Pk) (H : Hp) (hp : pkOk H p) (hn : (allT p.fl).length ≤ 1048576) (hf : p.fl.length ≤ 1048576) :
    SC Try.prog 32 [pkV p] H [] (fun v M => ∃ l' a c, l'.Perm p.fl ∧ Srt flLt l' ∧ v = .slice a (allT l').length c ∧ M = [.own 65 3 a (allT l').length c ((allT l').flatMap thC)]) := by
  (refine SC_intro Try.func32 rfl (by kernel_rfl) (by rw [Try.ntmps32]; exact Nat.le_of_ble_eq_true rfl) ?_; simp only [Try.ntmps32, argE, Nat.reduceAdd])
  
  repeat' (first | (apply RW.q1; exact qt) | refine xsg cts ?_ | (apply CW_condT; exact rfl; exact ar) | (apply CW_condF; exact rfl; exact ar) | (refine hK _ _ ?_; clear hK; refine xsg xsl ?_) | ((first | apply RW.a1 | apply RW.a0); (first | (apply gw_box (d := some 1); exact rfl; exact rfl; intro b1) | (apply gw_call (f := 53); exact rfl; exact go53; intro G hG; refine SC.mono (cloneF_spec p.fl p.la p.lc G (hp.2.1.ext hG.ext) (by omega)) ?_; rintro v M ⟨fb, fd, rfl, rfl⟩; (try dsimp only [jL, jM])) | (apply gw_callc (f := 54) (M := [.own 38 4 fb p.fl.length fd (p.fl.flatMap flC)]); exact rfl; exact go54; exact pcs; intro G hG; refine SC.mono (sortStable_spec G (cmpFl_ok G) p.fl fb p.fl.length fd rfl (by omega) (fun _ _ => trivial)) ?_; rintro v M ⟨l', hpm, hst, rfl⟩; (try dsimp only [jL, jM])) | (apply gw_asg; exact rfl) | (apply gw_alloc; exact rfl; intro b) | (apply gw_box; exact rfl; exact rfl; intro b) | (apply gw_ap1; exact rfl; exact rfl; infer_instance; infer_instance; exact rfl; exact rfl; exact rfl; exact rfl; omega; intro a c) | (apply gw_ap1n; exact rfl; exact rfl; infer_instance; exact rfl; exact rfl; exact rfl; exact rfl; omega; intro a c) | (refine gw_stx sto ?_) | (fail))) | (apply CW_region; intro K hK) | (apply CW_condX; exact rfl; exact tst; exact tst; all_goals (intro hq hc; try exact no)))
  have hll := hpm.length_eq
  have hal := (allT_perm hpm).length_eq
  refine CW_loop (fun m ll L => ∃ (k n c : Nat) (a : Option Addr) (cs : List Value), m = l'.length - k ∧ ll = [(4, true, .slice a n c), (12, true, .slice fb p.fl.length fd), (13, true, .int .i64 p.fl.length), (14, true, .int .i64 (k : Nat))] ∧
      L = [.own 38 4 fb p.fl.length fd (l'.flatMap flC), .own 65 3 a n c cs] ∧ k ≤ l'.length ∧ n = (allT (l'.take k)).length ∧ cs = (allT (l'.take k)).flatMap thC)
    ⟨_, _, _, ⟨0, 0, 0, none, [], rfl, rfl, rfl, by omega, rfl, rfl⟩, by exact sbe, by exact sbl⟩ ?_
  rintro m ll L ⟨k, n, c, a, cs, rfl, rfl, rfl, hk, hnk, hcs⟩
  by_cases hlt : k < l'.length
  · obtain ⟨f, hfx⟩ : ∃ f, l'[k]? = some f := ⟨_, List.getElem?_eq_getElem hlt⟩
    have hfm : f ∈ p.fl := hpm.mem_iff.1 (List.mem_of_getElem? hfx)
    have hsn := allT_snoc hfx
    have hst1 := allT_take l' (k + 1)
    have hsl := congrArg List.length hsn
    rw [List.length_append] at hsl
    have htl := things_len f
    
    repeat' (first | (apply RW.q1; (first | (apply q_lao; exact rfl; exact rfl; infer_instance; exact ix_elem hfx (by omega); exact rfl; decide) | exact qt)) | refine xsg cts ?_ | (apply CW_condT; exact rfl; exact ar) | (apply CW_condF; exact rfl; exact ar) | (refine hK _ _ ?_; clear hK; refine xsg xsl ?_) | ((first | apply RW.a1 | apply RW.a0); (first | (apply gw_alloc (d := some 6); exact rfl; intro b6) | (apply gw_call (f := 25); exact rfl; exact go25; intro G hG; refine SC.mono (things_spec f G (flOk_ext (hp.2.2 f hfm) hG.ext) (by omega)) ?_; rintro v M ⟨ta, tc, rfl, rfl⟩; (try dsimp only [jL, jM])) | (refine gw_append (e := 65) (z := 3) (n := n) (m := (things f).length) (cs := cs) rfl rfl rfl rfl (by exact pkx) (src_own (by exact pkx)) subl_refl (thC_len _) (th_one _) (by omega) (by omega) (fun a' c' => ?_)) | (apply gw_asg; exact rfl) | (apply gw_alloc; exact rfl; intro b) | (apply gw_box; exact rfl; exact rfl; intro b) | (apply gw_ap1; exact rfl; exact rfl; infer_instance; infer_instance; exact rfl; exact rfl; exact rfl; exact rfl; omega; intro a c) | (apply gw_ap1n; exact rfl; exact rfl; infer_instance; exact rfl; exact rfl; exact rfl; exact rfl; omega; intro a c) | (refine gw_stx sto ?_) | (fail))) | (apply CW_region; intro K hK) | (apply CW_condX; exact rfl; exact tst; exact tst; all_goals (intro hq hc; try exact no)))
    exact ⟨_, _, _, ⟨k + 1, n + (things f).length, _, _, cs ++ (things f).flatMap thC, rfl, rfl, rfl, by omega, by omega, by rw [hsn, List.flatMap_append, hcs]⟩, by exact sbe, by exact sbl, by omega⟩
  obtain rfl : k = l'.length := by omega
  rw [List.take_length] at hnk hcs
  subst hnk
  subst hcs
  
  repeat' (first | (apply RW.q1; exact qt) | refine xsg cts ?_ | (apply CW_condT; exact rfl; exact ar) | (apply CW_condF; exact rfl; exact ar) | (refine hK _ _ ?_; clear hK; refine xsg xsl ?_) | ((first | apply RW.a1 | apply RW.a0); (first | (apply gw_asg; exact rfl) | (apply gw_alloc; exact rfl; intro b) | (apply gw_box; exact rfl; exact rfl; intro b) | (apply gw_ap1; exact rfl; exact rfl; infer_instance; infer_instance; exact rfl; exact rfl; exact rfl; exact rfl; omega; intro a c) | (apply gw_ap1n; exact rfl; exact rfl; infer_instance; exact rfl; exact rfl; exact rfl; exact rfl; omega; intro a c) | (refine gw_stx sto ?_) | (fail))) | (apply CW_region; intro K hK) | (apply CW_condX; exact rfl; exact tst; exact tst; all_goals (intro hq hc; try exact no)))
  (refine CW_ret ?_; refine xsg xsl ?_; refine bR [.tmp 2] [.own 65 3 a _ c _] ?_)
  exact ⟨l', a, c, hpm, hst, rfl, rfl⟩
end Go.Proofs.Ytkhmimlgkjenfaa.HL
namespace Go.Proofs.Ytkhmimlgkjenfaa.HL
open Go
attribute [local irreducible] goFn thenS blockS bodyS CW RW DW GW QW NW SC Pick Picks SubL Rd NN ResOk SrcW subE hops hseg AW hgen HC qv bldv
set_option maxHeartbeats 8000000
set_option maxRecDepth 100000
set_option linter.unusedVariables false
set_option linter.unusedSimpArgs false

theorem lastB_spec (s : Tx) (H : Hp) (hl : s.length ≤ 1099511627776) :
    SC Try.prog 72 [.string (bstr s), .int .u8 46] H [] (fun v M => v = .int .i64 (ptV s) ∧ M = []) := by
  (refine SC_intro Try.func72 rfl (by kernel_rfl) (by rw [Try.ntmps72]; exact Nat.le_of_ble_eq_true rfl) ?_; simp only [Try.ntmps72, argE, Nat.reduceAdd])
  
  repeat' (first | (apply RW.q1; (first | (apply q_lenb; exact rfl) | exact qt)) | refine xsg cts ?_ | (apply CW_condT; exact rfl; exact ar) | (apply CW_condF; exact rfl; exact ar) | (refine hK _ _ ?_; clear hK; refine xsg xsl ?_) | ((first | apply RW.a1 | apply RW.a0); (first | (apply gw_asg; exact rfl) | (fail))) | (apply CW_region; intro K hK) | (apply CW_condX; exact rfl; exact tst; exact tst; all_goals (intro hq hc; try exact no)))
  refine CW_loop (fun m ll L => ∃ k : Nat, m = k + 1 ∧ ll = [(0, true, .string (bstr s)), (1, true, .int .u8 46), (5, true, .int .i64 ((k : Nat) - 1))] ∧ L = [] ∧ k ≤ s.length ∧ ∀ i : Nat, k ≤ i → s[i]? ≠ some 46)
    ⟨_, _, _, ⟨s.length, rfl, rfl, rfl, by omega, fun i hi => by rw [List.getElem?_eq_none hi]; simp⟩, by exact sbe, by exact sbl⟩ ?_
  rintro m ll L ⟨k, rfl, rfl, rfl, hk, hs⟩
  by_cases hlt : 0 < k
  · obtain ⟨x, hx⟩ : ∃ x, s[k - 1]? = some x := ⟨_, List.getElem?_eq_getElem (by omega)⟩
    by_cases hxs : x = 46
    · rw [pt_some (by rw [hx, hxs]) fun i hi => hs i (by omega)]
      subst hxs
      
      repeat' (first | (apply RW.q1; (first | (apply q_ixc 46; exact rfl; exact rfl; (rw [show ((k : Int) - 1).toNat = k - 1 by omega]; exact hx); omega) | exact qt)) | refine xsg cts ?_ | (apply CW_condT; exact rfl; exact ar) | (apply CW_condF; exact rfl; exact ar) | (refine hK _ _ ?_; clear hK; refine xsg xsl ?_) | ((first | apply RW.a1 | apply RW.a0); (first | (apply gw_asg; exact rfl) | (fail))) | (apply CW_region; intro K hK) | (apply CW_condX; exact rfl; exact tst; exact tst; all_goals (intro hq hc; try exact no)))
      all_goals (refine CW_ret ?_; refine xsg xsl ?_; refine bR [.tmp 4] [] ?_)
      all_goals exact ⟨ret_i64 (by omega), rfl⟩
    · have hn : (x.toNat : Int) ≠ 46 := fun e => hxs (UInt8.toNat_inj.1 (by show x.toNat = 46; omega))
      
      repeat' (first | (apply RW.q1; (first | (apply q_ixc x; exact rfl; exact rfl; (rw [show ((k : Int) - 1).toNat = k - 1 by omega]; exact hx); omega) | exact qt)) | refine xsg cts ?_ | (apply CW_condT; exact rfl; exact ar) | (apply CW_condF; exact rfl; exact ar) | (refine hK _ _ ?_; clear hK; refine xsg xsl ?_) | ((first | apply RW.a1 | apply RW.a0); (first | (apply gw_asg; exact rfl) | (fail))) | (apply CW_region; intro K hK) | (apply CW_condX; exact rfl; exact tst; exact tst; all_goals (intro hq hc; try exact no)))
      refine ⟨_, _, _, ⟨k - 1, rfl, rfl, rfl, by omega, fun i hi => ?_⟩, by rw [show (((k - 1 : Nat) : Int) - 1) = (k : Int) - 1 - 1 by omega]; exact sbe, by exact sbl, by omega⟩
      by_cases hik : i = k - 1
      · subst hik
        rw [hx]
        exact fun e => hxs (Option.some.inj e)
      · exact hs i (by omega)
  obtain rfl : k = 0 := by omega
  rw [pt_none fun i => hs i (by omega)]
  
  repeat' (first | (apply RW.q1; exact qt) | refine xsg cts ?_ | (apply CW_condT; exact rfl; exact ar) | (apply CW_condF; exact rfl; exact ar) | (refine hK _ _ ?_; clear hK; refine xsg xsl ?_) | ((first | apply RW.a1 | apply RW.a0); (first | (apply gw_asg; exact rfl) | (fail))) | (apply CW_region; intro K hK) | (apply CW_condX; exact rfl; exact tst; exact tst; all_goals (intro hq hc; try exact no)))
  (refine CW_ret ?_; refine xsg xsl ?_; refine bR [.tmp 4] [] ?_)
  exact ⟨rfl, rfl⟩
theorem lastI_spec (s : Tx) (H : Hp) (hl : s.length ≤ 1099511627776) :
    SC Try.prog 57 [.string (bstr s), .int .u8 46] H [] (fun v M => v = .int .i64 (ptV s) ∧ M = []) := by
  (refine SC_intro Try.func57 rfl (by kernel_rfl) (by rw [Try.ntmps57]; exact Nat.le_of_ble_eq_true rfl) ?_; simp only [Try.ntmps57, argE, Nat.reduceAdd])
  
  repeat' (first | (apply RW.q1; exact qt) | refine xsg cts ?_ | (apply CW_condT; exact rfl; exact ar) | (apply CW_condF; exact rfl; exact ar) | (refine hK _ _ ?_; clear hK; refine xsg xsl ?_) | ((first | apply RW.a1 | apply RW.a0); (first | (apply gw_callE (f := 72); exact rfl; exact go72; intro G hG; exact lastB_spec s G hl) | (apply gw_asg; exact rfl) | (fail))) | (apply CW_region; intro K hK) | (apply CW_condX; exact rfl; exact tst; exact tst; all_goals (intro hq hc; try exact no)))
  (refine CW_ret ?_; refine xsg xsl ?_; refine bR [.tmp 4] [] ?_)
  exact ⟨rfl, rfl⟩
theorem indexT_spec (l : List Tx) (c : Nat) (a : Option Addr) (s : Tx) (H : Hp) (hr : Rs H 1 a l.length c (txs l)) (hl : l.length ≤ 1099511627776) :
    SC Try.prog 75 [.slice a l.length c, .string (bstr s)] H [] (fun v M => ∃ i : Int, (0 ≤ i ↔ s ∈ l) ∧ v = .int .i64 i ∧ M = []) := by
  (refine SC_intro Try.func75 rfl (by kernel_rfl) (by rw [Try.ntmps75]; exact Nat.le_of_ble_eq_true rfl) ?_; simp only [Try.ntmps75, argE, Nat.reduceAdd])
  
  repeat' (first | (apply RW.q1; exact qt) | refine xsg cts ?_ | (apply CW_condT; exact rfl; exact ar) | (apply CW_condF; exact rfl; exact ar) | (refine hK _ _ ?_; clear hK; refine xsg xsl ?_) | ((first | apply RW.a1 | apply RW.a0); (first | (apply gw_asg; exact rfl) | (fail))) | (apply CW_region; intro K hK) | (apply CW_condX; exact rfl; exact tst; exact tst; all_goals (intro hq hc; try exact no)))
  refine CW_loop (fun m ll L => ∃ k : Nat, m = l.length - k ∧ ll = [(0, true, .slice a l.length c), (1, true, .string (bstr s)), (6, true, .slice a l.length c), (7, true, .int .i64 l.length), (8, true, .int .i64 (k : Nat))] ∧ L = [] ∧ k ≤ l.length ∧ s ∉ l.take k)
    ⟨_, _, _, ⟨0, rfl, rfl, rfl, by omega, by simp⟩, by exact sbe, by exact sbl⟩ ?_
  rintro m ll L ⟨k, rfl, rfl, rfl, hk, hs⟩
  by_cases hlt : k < l.length
  · obtain ⟨x, hx⟩ : ∃ x, l[k]? = some x := ⟨_, List.getElem?_eq_getElem (by omega)⟩
    have ht : l.take (k + 1) = l.take k ++ [x] := by rw [List.take_add_one, hx]; rfl
    by_cases hxs : s = x
    · 
      repeat' (first | (apply RW.q1; (first | (apply q_ldr; exact rfl; exact rfl; exact hr; exact txs_at hx (by omega)) | (apply q_sbeqT; exact rfl; exact rfl; exact hxs) | (apply q_sbeqT; exact rfl; exact rfl; exact hxs.symm) | exact qt)) | refine xsg cts ?_ | (apply CW_condT; exact rfl; exact ar) | (apply CW_condF; exact rfl; exact ar) | (refine hK _ _ ?_; clear hK; refine xsg xsl ?_) | ((first | apply RW.a1 | apply RW.a0); (first | (apply gw_asg; exact rfl) | (fail))) | (apply CW_region; intro K hK) | (apply CW_condX; exact rfl; exact tst; exact tst; all_goals (intro hq hc; try exact no)))
      (refine CW_ret ?_; refine xsg xsl ?_; refine bR [.tmp 4] [] ?_)
      exact ⟨k, ⟨fun _ => hxs ▸ List.mem_of_getElem? hx, fun _ => by omega⟩, rfl, rfl⟩
    · 
      repeat' (first | (apply RW.q1; (first | (apply q_ldr; exact rfl; exact rfl; exact hr; exact txs_at hx (by omega)) | (apply q_sbeqF; exact rfl; exact rfl; exact hxs) | (apply q_sbeqF; exact rfl; exact rfl; exact Ne.symm hxs) | exact qt)) | refine xsg cts ?_ | (apply CW_condT; exact rfl; exact ar) | (apply CW_condF; exact rfl; exact ar) | (refine hK _ _ ?_; clear hK; refine xsg xsl ?_) | ((first | apply RW.a1 | apply RW.a0); (first | (apply gw_asg; exact rfl) | (fail))) | (apply CW_region; intro K hK) | (apply CW_condX; exact rfl; exact tst; exact tst; all_goals (intro hq hc; try exact no)))
      exact ⟨_, _, _, ⟨k + 1, rfl, rfl, rfl, by omega, by rw [ht]; simp [hs, hxs]⟩, by exact sbe, by exact sbl, by omega⟩
  obtain rfl : k = l.length := by omega
  rw [List.take_length] at hs
  
  repeat' (first | (apply RW.q1; exact qt) | refine xsg cts ?_ | (apply CW_condT; exact rfl; exact ar) | (apply CW_condF; exact rfl; exact ar) | (refine hK _ _ ?_; clear hK; refine xsg xsl ?_) | ((first | apply RW.a1 | apply RW.a0); (first | (apply gw_asg; exact rfl) | (fail))) | (apply CW_region; intro K hK) | (apply CW_condX; exact rfl; exact tst; exact tst; all_goals (intro hq hc; try exact no)))
  (refine CW_ret ?_; refine xsg xsl ?_; refine bR [.tmp 4] [] ?_)
  exact ⟨-1, ⟨fun h => absurd h (by decide), fun h => absurd h hs⟩, rfl, rfl⟩
theorem contT_spec (l : List Tx) (c : Nat) (a : Option Addr) (s : Tx) (H : Hp) (hr : Rs H 1 a l.length c (txs l)) (hl : l.length ≤ 1099511627776) :
    SC Try.prog 59 [.slice a l.length c, .string (bstr s)] H [] (fun v M => v = .bool (decide (s ∈ l)) ∧ M = []) := by
  (refine SC_intro Try.func59 rfl (by kernel_rfl) (by rw [Try.ntmps59]; exact Nat.le_of_ble_eq_true rfl) ?_; simp only [Try.ntmps59, argE, Nat.reduceAdd])
  repeat' (first | (apply RW.q1; exact qt) | refine xsg cts ?_ | (apply CW_condT; exact rfl; exact ar) | (apply CW_condF; exact rfl; exact ar) | (refine hK _ _ ?_; clear hK; refine xsg xsl ?_) | ((first | apply RW.a1 | apply RW.a0); (first | (apply gw_call (f := 75); exact rfl; exact go75; intro G hG; refine SC.mono (indexT_spec l c a s G (hr.ext hG.ext) hl) ?_; rintro v M ⟨i, hi, rfl, rfl⟩; (try dsimp only [jL, jM])) | (apply gw_asg; exact rfl) | (fail))) | (apply CW_region; intro K hK) | (apply CW_condX; exact rfl; exact tst; exact tst; all_goals (intro hq hc; try exact no)))
  (refine CW_ret ?_; refine xsg xsl ?_; refine bR [.tmp 4] [] ?_)
  exact ⟨ret_bool (by rw [Bool.eq_iff_iff]; simp [hi]), rfl⟩
end Go.Proofs.Ytkhmimlgkjenfaa.HL
namespace Go.Proofs.Ytkhmimlgkjenfaa.HL
open Go
attribute [local irreducible] goFn thenS blockS bodyS CW RW DW GW QW NW SC Pick Picks SubL Rd NN ResOk SrcW subE hops hseg AW hgen HC qv bldv
set_option maxHeartbeats 8000000
set_option maxRecDepth 100000
set_option linter.unusedVariables false
set_option linter.unusedSimpArgs false

abbrev dwStaYb0 : List (Nat × Bool) := [(0, false), (1, false), (2, false), (3, false), (4, false), (5, true), (6, false)]
abbrev dwStaYb1 : List (Nat × Bool) := [(0, false), (1, false), (2, false), (3, false), (4, false), (5, false), (6, false), (7, false), (8, false), (9, false), (10, false), (11, false), (12, false), (13, true), (14, false), (15, false)]
def faV : Option (Int × Tx) → Value
  | none => fltV 0 [] none 0 0
  | some q => fltV q.1 q.2 none 0 0
theorem at_mem {t : List Th} {s : Tx} {i : Int} (h : AtP t s i) : 0 ≤ i ↔ s ∈ t.map Th.n := by
  rcases h with ⟨rfl, h⟩ | ⟨k, x, rfl, hx, hn, _⟩
  · refine ⟨fun g => absurd g (by decide), fun g => ?_⟩
    obtain ⟨y, hy, e⟩ := List.mem_map.1 g
    obtain ⟨j, hj⟩ := List.mem_iff_getElem?.1 hy
    exact absurd e (h j y hj)
  · exact ⟨fun _ => List.mem_map.2 ⟨x, List.mem_of_getElem? hx, hn⟩, fun _ => by omega⟩
theorem useO_congr {im ns ns' : List Tx} (h : ∀ x, x ∈ ns ↔ x ∈ ns') (s : Tx) : useO im ns s = useO im ns' s := by
  have : useE im ns s = useE im ns' s := by
    unfold useE
    split
    · by_cases g : s ∈ ns
      · rw [if_pos g, if_pos ((h s).1 g)]
      · rw [if_neg g, if_neg (mt (h s).2 g)]
    · rfl
  unfold useO
  rw [this]
theorem lastPt_lt {s : Tx} {k : Nat} (h : lastPt s = some k) : k < s.length := (List.getElem?_eq_some_iff.1 (lastPt_some.1 h).1).1
theorem used_spec (p : Pk) (t : List Th) (a : Option Addr) (c : Nat) (s : Tx) (H : Hp) (hp : pkOk H p) (hr : Rs H 3 a t.length c (t.flatMap thC)) (hl : t.length ≤ 1048576) (hs : s.length ≤ 1048576) (hi : p.im.length ≤ 1048576) :
    SC Try.prog 33 [pkV p, .slice a t.length c, .string (bstr s), .slice none 0 0] H [] (fun v M => v = faV (useO p.im (t.map Th.n) s) ∧ M = []) := by
  cases hpt : lastPt s with
  | none =>
    have e1 : ptV s = -1 := by unfold ptV; rw [hpt]
    by_cases hin : s ∈ t.map Th.n
    · have e2 : useO p.im (t.map Th.n) s = none := by rw [useO_none]; unfold useE; rw [hpt]; exact if_pos hin
      rw [e2]
      (refine SC_intro Try.func33 rfl (by kernel_rfl) (by rw [Try.ntmps33]; exact Nat.le_of_ble_eq_true rfl) ?_; simp only [Try.ntmps33, argE, Nat.reduceAdd])
      
      repeat' (first | ((first | apply RW.q1 | (apply DW.q1; exact rfl) | ((first | apply RW.qg | (apply DW.qg; exact rfl)); exact gvx; refine hgx tst ?_; intro hg hg')); (first | (apply q_bld; exact rfl; first | exact bld47_) | exact qt | exact qu)) | refine xsg cts ?_ | (apply CW_condT; exact rfl; exact ar) | (apply CW_condF; exact rfl; exact ar) | ((first | apply RW.s1 | apply RW.s0 | (apply DW.sa; exact rfl)); exact gva) | (refine hK _ _ ?_; clear hK; refine xsg xsl ?_) | (refine xsg ahd ?_; (first | (apply gw_box (d := some 4); exact rfl; exact rfl; intro b4) | (apply gw_alloc (d := some 8); exact rfl; intro b8) | (apply gw_callE (f := 57); exact evx; exact go57; intro G hG; exact lastI_spec s G (by omega); rw [e1]) | (apply gw_call (f := 58); exact evx; exact go58; intro G hG; refine SC.mono (find_spec t c a s G (hr.ext hG.ext) (by omega)) ?_; rintro v M ⟨i, hat, rfl, rfl⟩; (try dsimp only [jL, jM]); have hat0 := (at_mem hat).2 hin) | (apply gw_asg; exact rfl) | (apply gw_alloc; exact rfl; intro b) | (apply gw_box; exact rfl; exact rfl; intro b) | (refine gw_stx sto ?_) | (fail))) | (apply CW_region; intro K hK) | (apply CW_condX; exact rfl; exact tst; exact tst; all_goals (intro hq hc; try exact no)) | (refine CW_draw (id := 6) [] dwStaYb0 mixed (by kernel_rfl) (fun K hK => ?_)) | (refine CW_draw (id := 11) [] dwStaYb1 mixed (by kernel_rfl) (fun K hK => ?_)))
      (refine CW_ret ?_; refine xsg xsl ?_; refine bodyS_ret (L' := []) (rs := [.cell 8 47]) (by kernel_rfl) (by (repeat (first | (apply resok_tmp; exact rfl) | (apply resok_cell; exact rfl; exact rfl; (focus ((iterate 16 (try (first | exact pick0 | apply pickS))); done)); (first | exact rfl | assumption | (simp only [List.length_map]; omega)); decide))); exact resok_nil) (by exact sbl) ?_)
      exact ⟨rfl, rfl⟩
    · have e2 : useO p.im (t.map Th.n) s = some (5, s) := by
        have : useE p.im (t.map Th.n) s = 5 := by unfold useE; rw [hpt]; exact if_neg hin
        unfold useO; rw [this]; rfl
      rw [e2]
      (refine SC_intro Try.func33 rfl (by kernel_rfl) (by rw [Try.ntmps33]; exact Nat.le_of_ble_eq_true rfl) ?_; simp only [Try.ntmps33, argE, Nat.reduceAdd])
      
      repeat' (first | ((first | apply RW.q1 | (apply DW.q1; exact rfl) | ((first | apply RW.qg | (apply DW.qg; exact rfl)); exact gvx; refine hgx tst ?_; intro hg hg')); (first | (apply q_bld; exact rfl; first | exact bld47_) | exact qt | exact qu)) | refine xsg cts ?_ | (apply CW_condT; exact rfl; exact ar) | (apply CW_condF; exact rfl; exact ar) | ((first | apply RW.s1 | apply RW.s0 | (apply DW.sa; exact rfl)); exact gva) | (refine hK _ _ ?_; clear hK; refine xsg xsl ?_) | (refine xsg ahd ?_; (first | (apply gw_box (d := some 4); exact rfl; exact rfl; intro b4) | (apply gw_alloc (d := some 8); exact rfl; intro b8) | (apply gw_callE (f := 57); exact evx; exact go57; intro G hG; exact lastI_spec s G (by omega); rw [e1]) | (apply gw_call (f := 58); exact evx; exact go58; intro G hG; refine SC.mono (find_spec t c a s G (hr.ext hG.ext) (by omega)) ?_; rintro v M ⟨i, hat, rfl, rfl⟩; (try dsimp only [jL, jM]); have hat0 := mt (at_mem hat).1 hin) | (apply gw_callE (f := 27); exact evx; exact go27; intro G hG; exact bad_spec 5 s G) | (apply gw_asg; exact rfl) | (apply gw_alloc; exact rfl; intro b) | (apply gw_box; exact rfl; exact rfl; intro b) | (refine gw_stx sto ?_) | (fail))) | (apply CW_region; intro K hK) | (apply CW_condX; exact rfl; exact tst; exact tst; all_goals (intro hq hc; try exact no)) | (refine CW_draw (id := 6) [] dwStaYb0 mixed (by kernel_rfl) (fun K hK => ?_)) | (refine CW_draw (id := 11) [] dwStaYb1 mixed (by kernel_rfl) (fun K hK => ?_)))
      (refine CW_ret ?_; refine xsg xsl ?_; refine bodyS_ret (L' := []) (rs := [.cell 8 47]) (by kernel_rfl) (by (repeat (first | (apply resok_tmp; exact rfl) | (apply resok_cell; exact rfl; exact rfl; (focus ((iterate 16 (try (first | exact pick0 | apply pickS))); done)); (first | exact rfl | assumption | (simp only [List.length_map]; omega)); decide))); exact resok_nil) (by exact sbl) ?_)
      exact ⟨rfl, rfl⟩
  | some k =>
    have hk := lastPt_lt hpt
    have e1 : ptV s = (k : Int) := by unfold ptV; rw [hpt]
    by_cases hin : s.take k ∈ p.im
    · have e2 : useO p.im (t.map Th.n) s = none := by rw [useO_none]; unfold useE; rw [hpt]; exact if_pos hin
      have hd : decide (s.take k ∈ p.im) = true := decide_eq_true hin
      rw [e2]
      (refine SC_intro Try.func33 rfl (by kernel_rfl) (by rw [Try.ntmps33]; exact Nat.le_of_ble_eq_true rfl) ?_; simp only [Try.ntmps33, argE, Nat.reduceAdd])
      
      repeat' (first | ((first | apply RW.q1 | (apply DW.q1; exact rfl) | ((first | apply RW.qg | (apply DW.qg; exact rfl)); exact gvx; refine hgx tst ?_; intro hg hg')); (first | (apply q_sbhi k; exact evgx; exact evgx; exact rfl; omega) | (apply q_bld; exact rfl; first | exact bld47_) | exact qt | exact qu)) | refine xsg cts ?_ | (apply CW_condT; exact rfl; exact ar) | (apply CW_condF; exact rfl; exact ar) | ((first | apply RW.s1 | apply RW.s0 | (apply DW.sa; exact rfl)); exact gva) | (refine hK _ _ ?_; clear hK; refine xsg xsl ?_) | ((first | apply RW.c1 | (apply DW.c1; exact rfl; exact rfl) | (apply DW.c1t; exact rfl)); (first | (apply nw_call (f := 59); exact rfl; exact go59; (intro G hG; exact (contT_spec p.im p.ic p.ia (s.take k) G (hp.1.ext hG.ext) (by omega)).mono (fun v M h => h.1))))) | (refine xsg ahd ?_; (first | (apply gw_box (d := some 4); exact rfl; exact rfl; intro b4) | (apply gw_alloc (d := some 8); exact rfl; intro b8) | (apply gw_callE (f := 57); exact evx; exact go57; intro G hG; exact lastI_spec s G (by omega); rw [e1]) | (apply gw_asg; exact rfl) | (apply gw_alloc; exact rfl; intro b) | (apply gw_box; exact rfl; exact rfl; intro b) | (refine gw_stx sto ?_) | (fail))) | ((first | apply RW.cg | (apply DW.cg; exact rfl; exact rfl) | (apply DW.cgt; exact rfl)); exact gvx; refine hgx tst ?_; intro hg hg'; first | (apply nw_call (f := 59); exact evx; exact go59; (intro G hG; exact (contT_spec p.im p.ic p.ia (s.take k) G (hp.1.ext hG.ext) (by omega)).mono (fun v M h => h.1)))) | (apply CW_region; intro K hK) | (apply CW_condX; exact rfl; exact tst; exact tst; all_goals (intro hq hc; try exact no)) | (refine CW_draw (id := 6) [] dwStaYb0 mixed (by kernel_rfl) (fun K hK => ?_)) | (refine CW_draw (id := 11) [] dwStaYb1 mixed (by kernel_rfl) (fun K hK => ?_)))
      refine CW_loop (fun m ll L => m = 0 ∧ ll = [(8, true, .pointer (some ⟨b8, 0, none⟩)), (33, true, .int .i64 0), (34, true, .int .i64 0)] ∧ L = [.box b8 47 [.int .i64 0, .string { data := #[] }, .slice none 0 0]]) ⟨_, _, _, ⟨rfl, rfl, rfl⟩, by exact sbe, by exact sbl⟩ ?_
      rintro m ll L ⟨rfl, rfl, rfl⟩
      
      repeat' (first | ((first | apply RW.q1 | (apply DW.q1; exact rfl) | ((first | apply RW.qg | (apply DW.qg; exact rfl)); exact gvx; refine hgx tst ?_; intro hg hg')); (first | (apply q_bld; exact rfl; first | exact bld47_) | exact qt | exact qu)) | refine xsg cts ?_ | (apply CW_condT; exact rfl; exact ar) | (apply CW_condF; exact rfl; exact ar) | ((first | apply RW.s1 | apply RW.s0 | (apply DW.sa; exact rfl)); exact gva) | (refine hK _ _ ?_; clear hK; refine xsg xsl ?_) | (refine xsg ahd ?_; (first | (apply gw_asg; exact rfl) | (apply gw_alloc; exact rfl; intro b) | (apply gw_box; exact rfl; exact rfl; intro b) | (refine gw_stx sto ?_) | (fail))) | (apply CW_region; intro K hK) | (apply CW_condX; exact rfl; exact tst; exact tst; all_goals (intro hq hc; try exact no)) | (refine CW_draw (id := 6) [] dwStaYb0 mixed (by kernel_rfl) (fun K hK => ?_)) | (refine CW_draw (id := 11) [] dwStaYb1 mixed (by kernel_rfl) (fun K hK => ?_)))
      (refine CW_ret ?_; refine xsg xsl ?_; refine bodyS_ret (L' := []) (rs := [.cell 8 47]) (by kernel_rfl) (by (repeat (first | (apply resok_tmp; exact rfl) | (apply resok_cell; exact rfl; exact rfl; (focus ((iterate 16 (try (first | exact pick0 | apply pickS))); done)); (first | exact rfl | assumption | (simp only [List.length_map]; omega)); decide))); exact resok_nil) (by exact sbl) ?_)
      exact ⟨rfl, rfl⟩
    · have e2 : useO p.im (t.map Th.n) s = some (151, s) := by
        have : useE p.im (t.map Th.n) s = 151 := by unfold useE; rw [hpt]; exact if_neg hin
        unfold useO; rw [this]; rfl
      have hd : decide (s.take k ∈ p.im) = false := decide_eq_false hin
      rw [e2]
      (refine SC_intro Try.func33 rfl (by kernel_rfl) (by rw [Try.ntmps33]; exact Nat.le_of_ble_eq_true rfl) ?_; simp only [Try.ntmps33, argE, Nat.reduceAdd])
      
      repeat' (first | ((first | apply RW.q1 | (apply DW.q1; exact rfl) | ((first | apply RW.qg | (apply DW.qg; exact rfl)); exact gvx; refine hgx tst ?_; intro hg hg')); (first | (apply q_sbhi k; exact evgx; exact evgx; exact rfl; omega) | (apply q_bld; exact rfl; first | exact bld47_) | exact qt | exact qu)) | refine xsg cts ?_ | (apply CW_condT; exact rfl; exact ar) | (apply CW_condF; exact rfl; exact ar) | ((first | apply RW.s1 | apply RW.s0 | (apply DW.sa; exact rfl)); exact gva) | (refine hK _ _ ?_; clear hK; refine xsg xsl ?_) | ((first | apply RW.c1 | (apply DW.c1; exact rfl; exact rfl) | (apply DW.c1t; exact rfl)); (first | (apply nw_call (f := 59); exact rfl; exact go59; (intro G hG; exact (contT_spec p.im p.ic p.ia (s.take k) G (hp.1.ext hG.ext) (by omega)).mono (fun v M h => h.1))))) | (refine xsg ahd ?_; (first | (apply gw_box (d := some 4); exact rfl; exact rfl; intro b4) | (apply gw_alloc (d := some 8); exact rfl; intro b8) | (apply gw_callE (f := 57); exact evx; exact go57; intro G hG; exact lastI_spec s G (by omega); rw [e1]) | (apply gw_callE (f := 27); exact evx; exact go27; intro G hG; exact bad_spec 151 s G) | (apply gw_asg; exact rfl) | (apply gw_alloc; exact rfl; intro b) | (apply gw_box; exact rfl; exact rfl; intro b) | (refine gw_stx sto ?_) | (fail))) | ((first | apply RW.cg | (apply DW.cg; exact rfl; exact rfl) | (apply DW.cgt; exact rfl)); exact gvx; refine hgx tst ?_; intro hg hg'; first | (apply nw_call (f := 59); exact evx; exact go59; (intro G hG; exact (contT_spec p.im p.ic p.ia (s.take k) G (hp.1.ext hG.ext) (by omega)).mono (fun v M h => h.1)))) | (apply CW_region; intro K hK) | (apply CW_condX; exact rfl; exact tst; exact tst; all_goals (intro hq hc; try exact no)) | (refine CW_draw (id := 6) [] dwStaYb0 mixed (by kernel_rfl) (fun K hK => ?_)) | (refine CW_draw (id := 11) [] dwStaYb1 mixed (by kernel_rfl) (fun K hK => ?_)))
      (refine CW_ret ?_; refine xsg xsl ?_; refine bodyS_ret (L' := []) (rs := [.cell 8 47]) (by kernel_rfl) (by (repeat (first | (apply resok_tmp; exact rfl) | (apply resok_cell; exact rfl; exact rfl; (focus ((iterate 16 (try (first | exact pick0 | apply pickS))); done)); (first | exact rfl | assumption | (simp only [List.length_map]; omega)); decide))); exact resok_nil) (by exact sbl) ?_)
      exact ⟨rfl, rfl⟩
end Go.Proofs.Ytkhmimlgkjenfaa.HL
namespace Go.Proofs.Ytkhmimlgkjenfaa.HL
open Go
attribute [local irreducible] goFn thenS blockS bodyS CW RW DW GW QW NW SC Pick Picks SubL Rd NN ResOk SrcW subE hops hseg AW hgen HC qv bldv
set_option maxHeartbeats 8000000
set_option maxRecDepth 100000
set_option linter.unusedVariables false
set_option linter.unusedSimpArgs false

theorem firstO_drop {α β : Type} {f : α → Option β} {l : List α} {k : Nat} {x : α} (hx : l[k]? = some x) : firstO f (l.drop k) = orO (f x) (firstO f (l.drop (k + 1))) := by
  obtain ⟨hl, rfl⟩ := List.getElem?_eq_some_iff.1 hx
  rw [List.drop_eq_getElem_cons hl]; rfl
theorem firstO_end {α β : Type} {f : α → Option β} {l : List α} : firstO f (l.drop l.length) = none := by rw [List.drop_length]; rfl
theorem orO_nil {α : Type} {b : Option α} : orO none b = b := rfl
theorem ns_perm {l l' : List Fl} (h : l'.Perm l) (x : Tx) : x ∈ (allT l').map Th.n ↔ x ∈ (allT l).map Th.n := ((allT_perm h).map Th.n).mem_iff
structure Small (p : Pk) : Prop where
  im : p.im.length ≤ 1048576
  fl : p.fl.length ≤ 1048576
  vs : ∀ f, f ∈ p.fl → f.vs.length ≤ 1048576 ∧ f.fs.length ≤ 1048576
  pp : p.p.length ≤ 1048576 ∧ ∀ f, f ∈ p.fl → f.n.length ≤ 1048576
  us : ∀ x, x ∈ allT p.fl → x.u.length ≤ 1048576 ∧ x.n.length ≤ 1048576 ∧ ∀ s, s ∈ x.u → s.length ≤ 1048576
theorem mem_allT {l : List Fl} {f : Fl} {x : Th} (hf : f ∈ l) (hx : x ∈ things f) : x ∈ allT l := List.mem_flatMap.2 ⟨f, hf, hx⟩
theorem joined_spec (p : Pk) (H : Hp) (hp : pkOk H p) (hS : Small p) (hn : (allT p.fl).length ≤ 1048576) :
    SC Try.prog 16 [pkV p, .slice none 0 0] H [] (fun v M => v = faV (joinO p) ∧ M = []) := by
  obtain ⟨hS1, hS2, hS3, _, hS4⟩ := hS
  have hpi : Rs H 1 p.ia p.im.length p.ic (txs p.im) := hp.1
  have hpf : Rs H 4 p.la p.fl.length p.lc (p.fl.flatMap flC) := hp.2.1
  (refine SC_intro Try.func16 rfl (by kernel_rfl) (by rw [Try.ntmps16]; exact Nat.le_of_ble_eq_true rfl) ?_; simp only [Try.ntmps16, argE, Nat.reduceAdd])
  
  repeat' (first | ((first | apply RW.q1 | (apply RW.qg; exact gvx; refine hgx tst ?_; intro hg hg')); (first | (apply q_bld; exact rfl; first | exact bld47_) | exact qt | exact qu)) | refine xsg cts ?_ | (apply CW_condT; exact rfl; exact ar) | (apply CW_condF; exact rfl; exact ar) | ((first | apply RW.s1 | apply RW.s0); exact gva) | (refine hK _ _ ?_; clear hK; refine xsg xsl ?_) | ((first | apply RW.a1 | apply RW.a0 | (apply RW.at; exact gva)); (first | (apply gw_box (d := some 2); exact rfl; exact rfl; intro b2) | (apply gw_alloc (d := some 4); exact rfl; intro b4) | (apply gw_asg; exact rfl) | (apply gw_alloc; exact rfl; intro b) | (apply gw_box; exact rfl; exact rfl; intro b) | (refine gw_stx sto ?_) | (fail))) | (apply CW_region; intro K hK) | (apply CW_condX; exact rfl; exact tst; exact tst; all_goals (intro hq hc; try exact no)))
  refine CW_loop (fun m ll L => ∃ k : Nat, m = p.im.length - k ∧ ll = [(1, true, .slice none 0 0), (2, true, .pointer (some ⟨b2, 0, none⟩)), (4, true, .pointer (some ⟨b4, 0, none⟩)), (16, true, .slice p.ia p.im.length p.ic), (17, true, .int .i64 p.im.length), (18, true, .int .i64 (k : Nat))] ∧
      L = [.box b2 25 (pkC p), .box b4 47 [.int .i64 0, .string { data := #[] }, .slice none 0 0]] ∧ k ≤ p.im.length)
    ⟨_, _, _, ⟨0, rfl, rfl, rfl, by omega⟩, by exact sbe, by exact sbl⟩ ?_
  rintro m ll L ⟨k, rfl, rfl, rfl, hk⟩
  by_cases hlt : k < p.im.length
  · obtain ⟨x, hx⟩ : ∃ x, p.im[k]? = some x := ⟨_, List.getElem?_eq_getElem (by omega)⟩
    
    repeat' (first | ((first | apply RW.q1 | (apply RW.qg; exact gvx; refine hgx tst ?_; intro hg hg')); (first | (apply q_ldr; exact rfl; exact evgx; exact hpi; exact txs_at hx (by omega)) | (apply q_bld; exact rfl; first | exact bld47_) | exact qt | exact qu)) | refine xsg cts ?_ | (apply CW_condT; exact rfl; exact ar) | (apply CW_condF; exact rfl; exact ar) | ((first | apply RW.s1 | apply RW.s0); exact gva) | (refine hK _ _ ?_; clear hK; refine xsg xsl ?_) | ((first | apply RW.a1 | apply RW.a0 | (apply RW.at; exact gva)); (first | (apply gw_alloc (d := some 6); exact rfl; intro b6) | (apply gw_asg; exact rfl) | (apply gw_alloc; exact rfl; intro b) | (apply gw_box; exact rfl; exact rfl; intro b) | (refine gw_stx sto ?_) | (fail))) | (apply CW_region; intro K hK) | (apply CW_condX; exact rfl; exact tst; exact tst; all_goals (intro hq hc; try exact no)))
    exact ⟨_, _, _, ⟨k + 1, rfl, rfl, rfl, by omega⟩, by exact sbe, by exact sbl, by omega⟩
  obtain rfl : k = p.im.length := by omega
  clear hlt hk
  
  repeat' (first | ((first | apply RW.q1 | (apply RW.qg; exact gvx; refine hgx tst ?_; intro hg hg')); (first | (apply q_bld; exact rfl; first | exact bld47_) | exact qt | exact qu)) | refine xsg cts ?_ | (apply CW_condT; exact rfl; exact ar) | (apply CW_condF; exact rfl; exact ar) | ((first | apply RW.s1 | apply RW.s0); exact gva) | (refine hK _ _ ?_; clear hK; refine xsg xsl ?_) | ((first | apply RW.a1 | apply RW.a0 | (apply RW.at; exact gva)); (first | (apply gw_call (f := 32); exact evx; exact go32; intro G hG; refine SC.mono (all_spec p G (pkOk_ext hp hG.ext) hn hS2) ?_; rintro v M ⟨l', sa, sc, hpm, hst, rfl, rfl⟩; (try dsimp only [jL, jM])) | (apply gw_asg; exact rfl) | (apply gw_alloc; exact rfl; intro b) | (apply gw_box; exact rfl; exact rfl; intro b) | (refine gw_stx sto ?_) | (fail))) | (apply CW_region; intro K hK) | (apply CW_condX; exact rfl; exact tst; exact tst; all_goals (intro hq hc; try exact no)))
  have hal := (allT_perm hpm).length_eq
  have hns : ∀ s, useO p.im ((allT l').map Th.n) s = useO p.im ((allT p.fl).map Th.n) s := useO_congr (ns_perm hpm)
  have hA : firstO (joinFl p.im ((allT p.fl).map Th.n)) (p.fl.drop 0) = joinO p := rfl
  refine CW_loop (fun m ll L => ∃ k : Nat, m = p.fl.length - k ∧ ll = [(1, true, .slice none 0 0), (2, true, .pointer (some ⟨b2, 0, none⟩)), (4, true, .pointer (some ⟨b4, 0, none⟩)), (7, true, .slice sa (allT l').length sc), (36, true, .slice p.la p.fl.length p.lc), (37, true, .int .i64 p.fl.length), (38, true, .int .i64 (k : Nat))] ∧
      L = [.box b2 25 (pkC p), .box b4 47 [.int .i64 0, .string { data := #[] }, .slice none 0 0], .own 65 3 sa (allT l').length sc ((allT l').flatMap thC)] ∧ k ≤ p.fl.length ∧ firstO (joinFl p.im ((allT p.fl).map Th.n)) (p.fl.drop k) = joinO p)
    ⟨_, _, _, ⟨0, rfl, rfl, rfl, by omega, hA⟩, by exact sbe, by exact sbl⟩ ?_
  rintro m ll L ⟨k, rfl, rfl, rfl, hk, hA⟩
  by_cases hlt : k < p.fl.length
  · obtain ⟨f, hfx⟩ : ∃ x, p.fl[k]? = some x := ⟨_, List.getElem?_eq_getElem (by omega)⟩
    have hfm := List.mem_of_getElem? hfx
    have hfl := hS3 f hfm
    have htl := things_len f
    rw [firstO_drop hfx] at hA
    
    repeat' (first | ((first | apply RW.q1 | (apply RW.qg; exact gvx; refine hgx tst ?_; intro hg hg')); (first | (apply q_lar; exact rfl; exact evgx; exact hpf; exact ix_elem hfx (by omega); exact rfl; decide) | (apply q_bld; exact rfl; first | exact bld47_) | exact qt | exact qu)) | refine xsg cts ?_ | (apply CW_condT; exact rfl; exact ar) | (apply CW_condF; exact rfl; exact ar) | ((first | apply RW.s1 | apply RW.s0); exact gva) | (refine hK _ _ ?_; clear hK; refine xsg xsl ?_) | ((first | apply RW.a1 | apply RW.a0 | (apply RW.at; exact gva)); (first | (apply gw_alloc (d := some 9); exact rfl; intro b9) | (apply gw_call (f := 25); exact evx; exact go25; intro G hG; refine SC.mono (things_spec f G (flOk_ext (hp.2.2 f hfm) hG.ext) (by omega)) ?_; rintro v M ⟨ta, tc, rfl, rfl⟩; (try dsimp only [jL, jM])) | (apply gw_asg; exact rfl) | (apply gw_alloc; exact rfl; intro b) | (apply gw_box; exact rfl; exact rfl; intro b) | (refine gw_stx sto ?_) | (fail))) | (apply CW_region; intro K hK) | (apply CW_condX; exact rfl; exact tst; exact tst; all_goals (intro hq hc; try exact no)))
    refine CW_loop (fun m ll L => ∃ j : Nat, m = (things f).length - j ∧ ll = [(1, true, .slice none 0 0), (2, true, .pointer (some ⟨b2, 0, none⟩)), (4, true, .pointer (some ⟨b4, 0, none⟩)), (7, true, .slice sa (allT l').length sc), (36, true, .slice p.la p.fl.length p.lc), (37, true, .int .i64 p.fl.length), (38, true, .int .i64 (k : Nat)), (43, true, .slice ta (things f).length tc), (44, true, .int .i64 (things f).length), (45, true, .int .i64 (j : Nat))] ∧
        L = [.box b2 25 (pkC p), .box b4 47 [.int .i64 0, .string { data := #[] }, .slice none 0 0], .own 65 3 sa (allT l').length sc ((allT l').flatMap thC), .own 65 3 ta (things f).length tc ((things f).flatMap thC)] ∧ j ≤ (things f).length ∧
        orO (firstO (joinTh p.im ((allT p.fl).map Th.n)) ((things f).drop j)) (firstO (joinFl p.im ((allT p.fl).map Th.n)) (p.fl.drop (k + 1))) = joinO p)
      ⟨_, _, _, ⟨0, rfl, rfl, rfl, by omega, hA⟩, by exact sbe, by exact sbl⟩ ?_
    rintro m ll L ⟨j, rfl, rfl, rfl, hj, hB⟩
    by_cases hjl : j < (things f).length
    · obtain ⟨x, hx⟩ : ∃ x, (things f)[j]? = some x := ⟨_, List.getElem?_eq_getElem (by omega)⟩
      have hxt := List.mem_of_getElem? hx
      have hxm := mem_allT hfm hxt
      have hxo : Rs H 1 x.a x.u.length x.c (txs x.u) := things_ok (hp.2.2 f hfm) x hxt
      have hxs := hS4 x hxm
      rw [firstO_drop hx] at hB
      
      repeat' (first | ((first | apply RW.q1 | (apply RW.qg; exact gvx; refine hgx tst ?_; intro hg hg')); (first | (apply q_lao; exact rfl; exact evgx; infer_instance; exact ix_elem hx (by omega); exact rfl; decide) | (apply q_bld; exact rfl; first | exact bld47_) | exact qt | exact qu)) | refine xsg cts ?_ | (apply CW_condT; exact rfl; exact ar) | (apply CW_condF; exact rfl; exact ar) | ((first | apply RW.s1 | apply RW.s0); exact gva) | (refine hK _ _ ?_; clear hK; refine xsg xsl ?_) | ((first | apply RW.a1 | apply RW.a0 | (apply RW.at; exact gva)); (first | (apply gw_alloc (d := some 11); exact rfl; intro b11) | (apply gw_asg; exact rfl) | (apply gw_alloc; exact rfl; intro b) | (apply gw_box; exact rfl; exact rfl; intro b) | (refine gw_stx sto ?_) | (fail))) | (apply CW_region; intro K hK) | (apply CW_condX; exact rfl; exact tst; exact tst; all_goals (intro hq hc; try exact no)))
      refine CW_loop (fun m ll L => ∃ i : Nat, m = x.u.length - i ∧ ll = [(1, true, .slice none 0 0), (2, true, .pointer (some ⟨b2, 0, none⟩)), (4, true, .pointer (some ⟨b4, 0, none⟩)), (7, true, .slice sa (allT l').length sc), (36, true, .slice p.la p.fl.length p.lc), (37, true, .int .i64 p.fl.length), (38, true, .int .i64 (k : Nat)), (43, true, .slice ta (things f).length tc), (44, true, .int .i64 (things f).length), (45, true, .int .i64 (j : Nat)), (50, true, .slice x.a x.u.length x.c), (51, true, .int .i64 x.u.length), (52, true, .int .i64 (i : Nat))] ∧
          L = [.box b2 25 (pkC p), .box b4 47 [.int .i64 0, .string { data := #[] }, .slice none 0 0], .own 65 3 sa (allT l').length sc ((allT l').flatMap thC), .own 65 3 ta (things f).length tc ((things f).flatMap thC)] ∧ i ≤ x.u.length ∧
          orO (orO (firstO (useO p.im ((allT p.fl).map Th.n)) (x.u.drop i)) (firstO (joinTh p.im ((allT p.fl).map Th.n)) ((things f).drop (j + 1)))) (firstO (joinFl p.im ((allT p.fl).map Th.n)) (p.fl.drop (k + 1))) = joinO p)
        ⟨_, _, _, ⟨0, rfl, rfl, rfl, by omega, hB⟩, by exact sbe, by exact sbl⟩ ?_
      rintro m ll L ⟨i, rfl, rfl, rfl, hi, hC⟩
      by_cases hil : i < x.u.length
      · obtain ⟨s, hs⟩ : ∃ s, x.u[i]? = some s := ⟨_, List.getElem?_eq_getElem (by omega)⟩
        have hsl := hxs.2.2 s (List.mem_of_getElem? hs)
        rw [firstO_drop hs] at hC
        cases hU : useO p.im ((allT p.fl).map Th.n) s with
        | none =>
          rw [hU, orO_nil] at hC
          have hU' := (hns s).trans hU
          
          repeat' (first | ((first | apply RW.q1 | (apply RW.qg; exact gvx; refine hgx tst ?_; intro hg hg')); (first | (apply q_ldr; exact rfl; exact evgx; exact hxo; exact txs_at hs (by omega)) | (apply q_bld; exact rfl; first | exact bld47_) | exact qt | exact qu)) | refine xsg cts ?_ | (apply CW_condT; exact rfl; exact ar) | (apply CW_condF; exact rfl; exact ar) | ((first | apply RW.s1 | apply RW.s0); exact gva) | (refine hK _ _ ?_; clear hK; refine xsg xsl ?_) | ((first | apply RW.a1 | apply RW.a0 | (apply RW.at; exact gva)); (first | (apply gw_alloc (d := some 14); exact rfl; intro b14) | (apply gw_callE (f := 33); exact evx; exact go33; intro G hG; exact used_spec p (allT l') sa sc s G (pkOk_ext hp hG.ext) (sl_own (by exact pkx) hG) (by omega) hsl hS1; rw [hU']) | (apply gw_asg; exact rfl) | (apply gw_alloc; exact rfl; intro b) | (apply gw_box; exact rfl; exact rfl; intro b) | (refine gw_stx sto ?_) | (fail))) | (apply CW_region; intro K hK) | (apply CW_condX; exact rfl; exact tst; exact tst; all_goals (intro hq hc; try exact no)))
          exact ⟨_, _, _, ⟨i + 1, rfl, rfl, rfl, by omega, hC⟩, by exact sbe, by exact sbl, by omega⟩
        | some q =>
          have hq : joinO p = some q := by rw [← hC, hU]; rfl
          have hU' := (hns s).trans hU
          have hq0 : q.1 ≠ 0 := by
            unfold useO at hU
            split at hU
            · cases hU
            · cases hU; assumption
          rw [hq]
          
          repeat' (first | ((first | apply RW.q1 | (apply RW.qg; exact gvx; refine hgx tst ?_; intro hg hg')); (first | (apply q_ldr; exact rfl; exact evgx; exact hxo; exact txs_at hs (by omega)) | (apply q_bld; exact rfl; first | exact bld47_) | exact qt | exact qu)) | refine xsg cts ?_ | (apply CW_condT; exact rfl; exact ar) | (apply CW_condF; exact rfl; exact ar) | ((first | apply RW.s1 | apply RW.s0); exact gva) | (refine hK _ _ ?_; clear hK; refine xsg xsl ?_) | ((first | apply RW.a1 | apply RW.a0 | (apply RW.at; exact gva)); (first | (apply gw_alloc (d := some 14); exact rfl; intro b14) | (apply gw_callE (f := 33); exact evx; exact go33; intro G hG; exact used_spec p (allT l') sa sc s G (pkOk_ext hp hG.ext) (sl_own (by exact pkx) hG) (by omega) hsl hS1; rw [hU']) | (apply gw_asg; exact rfl) | (apply gw_alloc; exact rfl; intro b) | (apply gw_box; exact rfl; exact rfl; intro b) | (refine gw_stx sto ?_) | (fail))) | (apply CW_region; intro K hK) | (apply CW_condX; exact rfl; exact tst; exact tst; all_goals (intro hq hc; try exact no)))
          (refine CW_ret ?_; refine xsg xsl ?_; refine bodyS_ret (L' := []) (rs := [.cell 4 47]) (by kernel_rfl) (by (repeat (first | (apply resok_tmp; exact rfl) | (apply resok_cell; exact rfl; exact rfl; (focus ((iterate 16 (try (first | exact pick0 | apply pickS))); done)); (first | exact rfl | assumption | (simp only [List.length_map]; omega)); decide))); exact resok_nil) (by exact sbl) ?_)
          exact ⟨rfl, rfl⟩
      obtain rfl : i = x.u.length := by omega
      rw [firstO_end, orO_nil] at hC
      
      repeat' (first | ((first | apply RW.q1 | (apply RW.qg; exact gvx; refine hgx tst ?_; intro hg hg')); (first | (apply q_bld; exact rfl; first | exact bld47_) | exact qt | exact qu)) | refine xsg cts ?_ | (apply CW_condT; exact rfl; exact ar) | (apply CW_condF; exact rfl; exact ar) | ((first | apply RW.s1 | apply RW.s0); exact gva) | (refine hK _ _ ?_; clear hK; refine xsg xsl ?_) | ((first | apply RW.a1 | apply RW.a0 | (apply RW.at; exact gva)); (first | (apply gw_asg; exact rfl) | (apply gw_alloc; exact rfl; intro b) | (apply gw_box; exact rfl; exact rfl; intro b) | (refine gw_stx sto ?_) | (fail))) | (apply CW_region; intro K hK) | (apply CW_condX; exact rfl; exact tst; exact tst; all_goals (intro hq hc; try exact no)))
      exact ⟨_, _, _, ⟨j + 1, rfl, rfl, rfl, by omega, hC⟩, by exact sbe, by exact sbl, by omega⟩
    obtain rfl : j = (things f).length := by omega
    rw [firstO_end, orO_nil] at hB
    
    repeat' (first | ((first | apply RW.q1 | (apply RW.qg; exact gvx; refine hgx tst ?_; intro hg hg')); (first | (apply q_bld; exact rfl; first | exact bld47_) | exact qt | exact qu)) | refine xsg cts ?_ | (apply CW_condT; exact rfl; exact ar) | (apply CW_condF; exact rfl; exact ar) | ((first | apply RW.s1 | apply RW.s0); exact gva) | (refine hK _ _ ?_; clear hK; refine xsg xsl ?_) | ((first | apply RW.a1 | apply RW.a0 | (apply RW.at; exact gva)); (first | (apply gw_asg; exact rfl) | (apply gw_alloc; exact rfl; intro b) | (apply gw_box; exact rfl; exact rfl; intro b) | (refine gw_stx sto ?_) | (fail))) | (apply CW_region; intro K hK) | (apply CW_condX; exact rfl; exact tst; exact tst; all_goals (intro hq hc; try exact no)))
    exact ⟨_, _, _, ⟨k + 1, rfl, rfl, rfl, by omega, hB⟩, by exact sbe, by exact sbl, by omega⟩
  obtain rfl : k = p.fl.length := by omega
  rw [firstO_end] at hA
  rw [← hA]
  
  repeat' (first | ((first | apply RW.q1 | (apply RW.qg; exact gvx; refine hgx tst ?_; intro hg hg')); (first | (apply q_bld; exact rfl; first | exact bld47_) | exact qt | exact qu)) | refine xsg cts ?_ | (apply CW_condT; exact rfl; exact ar) | (apply CW_condF; exact rfl; exact ar) | ((first | apply RW.s1 | apply RW.s0); exact gva) | (refine hK _ _ ?_; clear hK; refine xsg xsl ?_) | ((first | apply RW.a1 | apply RW.a0 | (apply RW.at; exact gva)); (first | (apply gw_asg; exact rfl) | (apply gw_alloc; exact rfl; intro b) | (apply gw_box; exact rfl; exact rfl; intro b) | (refine gw_stx sto ?_) | (fail))) | (apply CW_region; intro K hK) | (apply CW_condX; exact rfl; exact tst; exact tst; all_goals (intro hq hc; try exact no)))
  (refine CW_ret ?_; refine xsg xsl ?_; refine bodyS_ret (L' := []) (rs := [.cell 4 47]) (by kernel_rfl) (by (repeat (first | (apply resok_tmp; exact rfl) | (apply resok_cell; exact rfl; exact rfl; (focus ((iterate 16 (try (first | exact pick0 | apply pickS))); done)); (first | exact rfl | assumption | (simp only [List.length_map]; omega)); decide))); exact resok_nil) (by exact sbl) ?_)
  exact ⟨rfl, rfl⟩
end Go.Proofs.Ytkhmimlgkjenfaa.HL
