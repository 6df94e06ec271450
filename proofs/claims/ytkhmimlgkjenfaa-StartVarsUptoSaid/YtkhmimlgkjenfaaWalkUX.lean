/- WalkU: StaU: an answer is one of the names alone, wherever the rows lie. No condition. StaSl: a row of one's own, its end let go. No condition. -/
import Derived.Test.YtkhmimlgkjenfaaWalkBX
import Derived.Test.YtkhmimlgkjenfaaHLmX
namespace Go.Proofs.Ytkhmimlgkjenfaa.HL
open Go
attribute [local irreducible] goFn thenS blockS bodyS CW RW DW GW QW NW SC Pick Picks SubL Rd NN ResOk SrcW subE hops hseg AW hgen HC qv bldv
set_option linter.unusedVariables false
set_option linter.unusedSimpArgs false

def erV (x : Vr) : Vr := ⟨x.n, none, 0, x.u⟩
def erF (f : Fl) : Fl := ⟨f.n, none, 0, f.vs.map erV, none, 0, f.fs.map erV, f.k⟩
def erP (p : Pk) : Pk := ⟨p.p, none, 0, p.im, none, 0, p.fl.map erF⟩
def erT (x : Th) : Th := ⟨x.n, x.v, none, 0, x.u⟩
theorem er_things (f : Fl) : things (erF f) = (things f).map erT := by
  simp only [things, erF, List.map_append, List.map_map]; rfl
theorem er_all : ∀ l : List Fl, allT (l.map erF) = (allT l).map erT
  | [] => rfl
  | f :: l => by
    show things (erF f) ++ allT (l.map erF) = (things f ++ allT l).map erT
    rw [er_things, er_all l, List.map_append]
theorem firstO_map {α β γ : Type} {f : β → Option γ} {g : α → β} : ∀ l : List α, firstO f (l.map g) = firstO (fun a => f (g a)) l
  | [] => rfl
  | a :: l => by
    show orO (f (g a)) (firstO f (l.map g)) = _
    rw [firstO_map l]; rfl
theorem er_thN : ∀ l : List Vr, (l.map erV).map thN = l.map thN := fun l => by rw [List.map_map]; rfl
theorem er_flN (f : Fl) : flN (erF f) = flN f := by
  show f.k.toNat + ((f.vs.map erV).map thN).sum + ((f.fs.map erV).map thN).sum = _
  rw [er_thN, er_thN]; rfl
theorem er_pkN (p : Pk) : pkN (erP p) = pkN p := by
  show p.im.length + (p.fl.map erF).length + ((p.fl.map erF).map flN).sum = _
  rw [List.map_map, List.length_map, show flN ∘ erF = flN from funext er_flN]; rfl
theorem er_allN (p : Pk) : allN [erP p] = allN [p] := by
  show 1 + (pkN (erP p) + 0) = 1 + (pkN p + 0)
  rw [er_pkN]
theorem er_bad (p : Pk) : badI [erP p] ↔ badI [p] := by
  constructor
  · rintro ⟨q, hq, f, hf, h⟩
    obtain rfl := List.mem_singleton.1 hq
    obtain ⟨g, hg, rfl⟩ := List.mem_map.1 hf
    exact ⟨p, by simp, g, hg, h⟩
  · rintro ⟨q, hq, f, hf, h⟩
    obtain rfl := List.mem_singleton.1 hq
    exact ⟨erP q, List.mem_singleton.2 rfl, erF f, List.mem_map.2 ⟨f, hf, rfl⟩, h⟩
theorem er_formFl (f : Fl) : formFl (erF f) = formFl f := by
  show orO (lenO f.n) (firstO _ (things (erF f))) = _
  rw [er_things, firstO_map]; rfl
theorem er_form (p : Pk) : formO [erP p] = formO [p] := by
  show orO (orO (wordO true p.p) (firstO formFl (p.fl.map erF))) none = _
  rw [firstO_map, show (fun a => formFl (erF a)) = formFl from funext er_formFl]; rfl
theorem er_thn (l : List Th) : (l.map erT).map Th.n = l.map Th.n := by rw [List.map_map]; rfl
theorem er_dupF : ∀ (l : List Fl) (fs ns : List Tx), dupF fs ns (l.map erF) = dupF fs ns l
  | [], _, _ => rfl
  | f :: l, fs, ns => by
    show (if f.n ∈ fs then some f.n else orO (dupO ns ((things (erF f)).map Th.n)) (dupF (fs ++ [f.n]) (ns ++ (things (erF f)).map Th.n) (l.map erF))) = _
    rw [er_things, er_thn, er_dupF l]; rfl
theorem er_dup (p : Pk) : dupP [] [erP p] = dupP [] [p] := by
  show (if p.p ∈ [] then some p.p else orO (dupO [] p.im) (orO (dupF [] [] (p.fl.map erF)) _)) = _
  rw [er_dupF]; rfl
theorem er_join (p : Pk) : joinO (erP p) = joinO p := by
  rw [join_flat, join_flat]
  show firstO (joinTh p.im ((allT (p.fl.map erF)).map Th.n)) (allT (p.fl.map erF)) = _
  rw [er_all, er_thn, firstO_map]; rfl
theorem er_flt (p : Pk) : fltO (erP p) = fltO p := by
  unfold fltO sizeO
  rw [er_form, er_dup, er_join, er_allN, show badI [erP p] = badI [p] from propext (er_bad p)]
theorem er_NT (t : List Th) : NT (t.map erT) = NT t := by
  funext a b
  apply propext
  constructor
  · rintro ⟨x, hx, h1, h2, y, hy, h3⟩
    obtain ⟨x', hx', rfl⟩ := List.mem_map.1 hx
    obtain ⟨y', hy', rfl⟩ := List.mem_map.1 hy
    exact ⟨x', hx', h1, h2, y', hy', h3⟩
  · rintro ⟨x, hx, h1, h2, y, hy, h3⟩
    exact ⟨erT x, List.mem_map.2 ⟨x, hx, rfl⟩, h1, h2, erT y, List.mem_map.2 ⟨y, hy, rfl⟩, h3⟩
theorem er_VN (t : List Th) : VN (t.map erT) = VN t := by
  funext a
  apply propext
  constructor
  · rintro ⟨x, hx, h1, h2⟩
    obtain ⟨x', hx', rfl⟩ := List.mem_map.1 hx
    exact ⟨x', hx', h1, h2⟩
  · rintro ⟨x, hx, h1, h2⟩
    exact ⟨erT x, List.mem_map.2 ⟨x, hx, rfl⟩, h1, h2⟩
theorem er_ord {t : List Th} {o : List Tx} (h : OrdR t o) : OrdR (t.map erT) o := by
  unfold OrdR at *
  rw [er_NT, er_VN, er_thn, List.countP_map]
  exact h
theorem er_vars {p : Pk} {e : Int} {o m : List Tx} (h : VarsR p e o m) : VarsR (erP p) e o m := by
  unfold VarsR at *
  show (∃ q, fltO (erP p) = some q ∧ _) ∨ (fltO (erP p) = none ∧ CycS (NT (allT (p.fl.map erF))) (VN (allT (p.fl.map erF))) ltT m ∧ _) ∨ (fltO (erP p) = none ∧ CycS (NT (allT (p.fl.map erF))) (VN (allT (p.fl.map erF))) ltT [] ∧ _ ∧ _ ∧ ∃ l' : List Fl, l'.Perm (p.fl.map erF) ∧ _)
  rw [er_flt, er_all, er_NT, er_VN]
  rcases h with h | h | ⟨h1, h2, h3, h4, l', h5, h6, h7⟩
  · exact .inl h
  · exact .inr (.inl h)
  · refine .inr (.inr ⟨h1, h2, h3, h4, l'.map erF, h5.map _, ?_, ?_⟩)
    · exact List.pairwise_map.2 h6
    · rw [er_all]; exact er_ord h7
theorem er_same {p p' : Pk} (h : erP p = erP p') {e e' : Int} {o o' m m' : List Tx} (g : VarsR p e o m) (g' : VarsR p' e' o' m') : e = e' ∧ o = o' ∧ m = m' :=
  (er_vars g).same (h ▸ er_vars g')
end Go.Proofs.Ytkhmimlgkjenfaa.HL
namespace Go.Proofs.Ytkhmimlgkjenfaa.HL
open Go
set_option linter.unusedSimpArgs false
set_option linter.unusedVariables false

theorem own_less' {G : Hp} {e : TypeId} {z n k c : Nat} {a : Option Addr} {cs : List Value} {fp : Foot} (h : (Res.own e z a n c cs).holds G fp) (hk : k ≤ n) : (Res.own e z a k c (cs.take (k * z))).holds G fp := by
  obtain ⟨h1, h2, h3⟩ := h
  have hkz : k * z ≤ n * z := Nat.mul_le_mul_right z hk
  refine ⟨fun x => (h1 x).trans ?_, by rw [List.length_take]; omega, ?_⟩
  · cases a with
    | none => exact Iff.rfl
    | some a => exact Iff.rfl
  · rcases h3 with ⟨h4, h5⟩ | ⟨b, cap, rest, lo, hi, h4, h5, h6, h7, h8⟩
    · cases h4
      exact .inl ⟨by rw [show k = 0 by omega], by omega⟩
    · cases h4
      refine .inr ⟨b, c, cs.drop (k * z) ++ rest, lo, hi, rfl, by rw [← List.append_assoc, List.take_append_drop]; exact h5, ?_, by omega, ?_⟩
      · rw [List.length_append, List.length_drop, h6, h2, ← Nat.sub_mul, ← Nat.add_mul]
        congr 1; omega
      · rw [← List.append_assoc, List.take_append_drop]; exact h8
theorem subl_less' {e : TypeId} {z n k c : Nat} {a : Option Addr} {cs : List Value} {L L' : List Res} (hp : Pick L (.own e z a n c cs) L') (hk : k ≤ n) {M : List Res} (h : SubL M L') : SubL (.own e z a k c (cs.take (k * z)) :: M) L := by
  intro U G hs
  obtain ⟨fp, h1, h2, h3⟩ := hp U G hs
  exact ⟨fp, own_less' h1 hk, h2, h _ _ h3⟩
section
variable {P : Program} {l : Ents} {H : Hp} {L : List Res} {d : Option Tmp} {T : TypeId} {pos : String} {aft : Array Edge} {gd : Option (Nat × Bool)}
theorem q_ldrs {t : TypeId} {x : Operand} {a : Option Addr} {z n c k : Nat} {cs : List Value} {v : Value} {ds : TypeDesc} [hu : Und P t ds] (hd : descAgg ds = false) (hx : evg l true x = some (.pointer (pt a k))) (hr : ∀ G, Hs H L G → Rs G z a n c cs) (hv : (cs.drop k).take 1 = [v]) :
    QW P l H L ⟨d, .load t x, T, pos, aft, gd⟩ v := q_load hd hx fun G hg => rd_rs (H := G) (L := []) (hr G hg) hv rfl (by decide) G (hs_nil G)
theorem q_ixrs {t e : TypeId} {z z' : Nat} {x i : Operand} {a : Option Addr} {n c : Nat} {cs : List Value} {k : IntKind} {j : Int} [hu : Und P t (.slice e)] [hz : Szc P e z] (hx : evg l true x = some (.slice a n c)) (hr : ∀ G, Hs H L G → Rs G z' a n c cs) (hi : evg l true i = some (.int k j)) (h : 0 ≤ j ∧ j < n) :
    QW P l H L ⟨d, .indexAddr t x i, T, pos, aft, gd⟩ (.pointer (pt a (j.toNat * z))) := q_ixs hx hi (fun G hg => nn_rs (H := G) (L := []) (hr G hg) (by omega) G (hs_nil G)) h.1 h.2
end
end Go.Proofs.Ytkhmimlgkjenfaa.HL
