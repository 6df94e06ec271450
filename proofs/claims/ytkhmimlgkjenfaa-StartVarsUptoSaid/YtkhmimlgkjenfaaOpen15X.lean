/- Open15: OpenS: texts, variables, files and packages among the arguments, opened. No condition. OpenP: a package, or a row of packages, among the arguments, opened. No condition. -/
import Derived.Test.YtkhmimlgkjenfaaClose7X
import Derived.Test.YtkhmimlgkjenfaaLibOX
import Derived.Test.YtkhmimlgkjenfaaWalkBX
namespace Go.Proofs.Ytkhmimlgkjenfaa.HL
open Go
set_option maxHeartbeats 8000000
set_option maxRecDepth 100000
set_option linter.unusedVariables false
open Go.ChangeShapes Go.WideShapes Go.ChangeAt Go.RowKit

theorem list2s {α : Type} {l : List α} (h : l.length = 2) : ∃ y0 y1, l = [y0, y1] := by
  match l, h with
  | [y0, y1], _ => exact ⟨y0, y1, rfl⟩
theorem list3s {α : Type} {l : List α} (h : l.length = 3) : ∃ y0 y1 y2, l = [y0, y1, y2] := by
  match l, h with
  | [y0, y1, y2], _ => exact ⟨y0, y1, y2, rfl⟩
theorem list4s {α : Type} {l : List α} (h : l.length = 4) : ∃ y0 y1 y2 y3, l = [y0, y1, y2, y3] := by
  match l, h with
  | [y0, y1, y2, y3], _ => exact ⟨y0, y1, y2, y3, rfl⟩
theorem bulk_pos {H : Type} (x : DataW H) : 1 ≤ Rows.uptoBulk x := by
  unfold Rows.uptoBulk
  split <;> omega
theorem bulk_len {H : Type} (ds : List (DataW H)) : ds.length ≤ Rows.uptoBulkAll ds := by
  induction ds with
  | nil => exact Nat.zero_le _
  | cons x ds ih =>
    have := bulk_pos x
    rw [Rows.uptoBulkAll, List.length_cons]; omega
theorem bulk_at {H : Type} : ∀ {ds : List (DataW H)} {i : Nat} {d : DataW H}, ds[i]? = some d → Rows.uptoBulk d ≤ Rows.uptoBulkAll ds
  | [], _, _, h => by simp at h
  | x :: ds, 0, d, h => by
    obtain rfl : x = d := by simpa using h
    rw [Rows.uptoBulkAll]; omega
  | x :: ds, i + 1, d, h => by
    have := bulk_at (i := i) (ds := ds) (d := d) (by simpa using h)
    rw [Rows.uptoBulkAll]; omega
theorem one_str {H : Type} {enc : TypeId × Value → H} {W : World} {m : Nat} {c : Value} {y : DataW H × List MemPlace} (h : DataW.trod enc Try.prog W 0 (fun _ => true) true m 9 [c] = some y) : ∃ l, c = .string (bstr l) ∧ Rows.uptoBulk y.1 = l.length + 1 := by
  obtain ⟨s, h1, h2, _⟩ := DataW.trod_string Try.underlying9 h
  obtain ⟨l, rfl⟩ := bstr_of s
  cases h1
  subst h2
  exact ⟨l, rfl, by simp [Rows.uptoBulk, bstr]⟩
theorem cellStr : Try.prog.cellsOf 9 = 1 := by kernel_rfl
theorem cellInt : Try.prog.cellsOf 3 = 1 := by kernel_rfl
theorem cellTxs : Try.prog.cellsOf 22 = 1 := by kernel_rfl
theorem cellVs : Try.prog.cellsOf 35 = 1 := by kernel_rfl
theorem cellFs : Try.prog.cellsOf 36 = 1 := by kernel_rfl
theorem cellFls : Try.prog.cellsOf 23 = 1 := by kernel_rfl
theorem cellVar : Try.prog.cellsOf 40 = 2 := by kernel_rfl
theorem cellFun : Try.prog.cellsOf 43 = 2 := by kernel_rfl
theorem cellFile : Try.prog.cellsOf 38 = 4 := by kernel_rfl
theorem cellPkg : Try.prog.cellsOf 25 = 3 := by kernel_rfl
section
variable {H : Type} {enc : TypeId × Value → H} {W : World}
theorem row_bulk {α : Type} {R : α → DataW H → Prop} {l : List α} {d : DataW H} (h : (d = .nil ∧ l = []) ∨ ∃ ds r, d = .slice ds r ∧ Pair2 R l ds) : l.length ≤ Rows.uptoBulk d ∧ ∀ x, x ∈ l → ∃ y : DataW H, R x y ∧ Rows.uptoBulk y ≤ Rows.uptoBulk d := by
  rcases h with ⟨_, rfl⟩ | ⟨ds, r, rfl, h1, h2⟩
  · exact ⟨Nat.zero_le _, fun x hx => by cases hx⟩
  · rw [Rows.uptoBulk]
    have hb := bulk_len ds
    refine ⟨by omega, fun x hx => ?_⟩
    obtain ⟨i, hi⟩ := List.mem_iff_getElem?.1 hx
    have hlt : i < ds.length := by
      have := (List.getElem?_eq_some_iff.1 hi).1
      omega
    have hB := bulk_at (List.getElem?_eq_getElem hlt)
    exact ⟨_, h2 i x _ hi (List.getElem?_eq_getElem hlt), by omega⟩
theorem flat_txs (u : List Tx) : u.flatMap (fun s => [Value.string (bstr s)]) = txs u := by
  induction u with
  | nil => rfl
  | cons s u ih => rw [List.flatMap_cons, ih]; rfl
theorem texts_cells {fuel : Nat} {cs : List Value} {x : DataW H × List MemPlace} (h : DataW.trod enc Try.prog W 0 (fun _ => true) true fuel 22 cs = some x) :
    ∃ (a : Option Addr) (c : Nat) (u : List Tx), cs = [.slice a u.length c] ∧ UOk (allOf W) a c u ∧ u.length ≤ Rows.uptoBulk x.1 ∧ ∀ s, s ∈ u → s.length ≤ Rows.uptoBulk x.1 := by
  obtain ⟨a, c, u, h1, h2, h3⟩ := open_rows (z := 1) (dec := fun s : Tx => [Value.string (bstr s)]) (R := fun s d => s.length ≤ Rows.uptoBulk d) Try.underlying22 cellStr (by decide) (fun fuel cs x h => by
    obtain ⟨s, h1, h2, _⟩ := DataW.trod_string Try.underlying9 h
    obtain ⟨l, rfl⟩ := bstr_of s
    refine ⟨l, h1, ?_⟩
    rw [h2]; simp [Rows.uptoBulk, bstr]) h
  rw [flat_txs] at h2
  obtain ⟨h4, h5⟩ := row_bulk h3
  refine ⟨a, c, u, h1, h2, h4, fun s hs => ?_⟩
  obtain ⟨y, h6, h7⟩ := h5 s hs
  omega
def VrB (x : Vr) (n : Nat) : Prop := x.u.length ≤ n ∧ x.n.length ≤ n ∧ ∀ s, s ∈ x.u → s.length ≤ n
theorem VrB.mono {x : Vr} {n m : Nat} (h : VrB x n) (hm : n ≤ m) : VrB x m := ⟨Nat.le_trans h.1 hm, Nat.le_trans h.2.1 hm, fun s hs => Nat.le_trans (h.2.2 s hs) hm⟩
def VrR (W : World) (x : Vr) (d : DataW H) : Prop := vrOk (allOf W) x ∧ VrB x (Rows.uptoBulk d)
theorem pair_cells {T : TypeId} {fs : Array Field} (hc : Try.prog.cellsOf T = 2) {cs : List Value} {xs : List (DataW H × List MemPlace)} {k : Nat} {x : DataW H × List MemPlace} (hx : x.1 = .agg (xs.map fun y => y.1)) (hl : cs.length = 2) (hxl : xs.length = 2)
    (f0 : ∀ y, xs[0]? = some y → DataW.trod enc Try.prog W 0 (fun _ => true) true k 9 ((cs.drop 0).take 1) = some y) (f1 : ∀ y, xs[1]? = some y → DataW.trod enc Try.prog W 0 (fun _ => true) true k 22 ((cs.drop 1).take 1) = some y) : ∃ v : Vr, cs = vrC v ∧ VrR W v x.1 := by
  obtain ⟨c0, c1, rfl⟩ := list2s hl
  obtain ⟨y0, y1, rfl⟩ := list2s hxl
  obtain ⟨n, rfl, b0⟩ := one_str (c := c0) (f0 y0 rfl)
  obtain ⟨a, c, u, h1, h2, h3, h4⟩ := texts_cells (f1 y1 rfl)
  have h1' : [c1] = [.slice a u.length c] := h1
  cases h1'
  refine ⟨⟨n, a, c, u⟩, rfl, h2, ?_⟩
  rw [hx]
  simp only [List.map_cons, List.map_nil, Rows.uptoBulk, Rows.uptoBulkAll, b0]
  exact ⟨by show u.length ≤ _; omega, by show n.length ≤ _; omega, fun s hs => by have := h4 s hs; omega⟩
theorem var_cells : ∀ fuel cs (x : DataW H × List MemPlace), DataW.trod enc Try.prog W 0 (fun _ => true) true fuel 40 cs = some x → ∃ v : Vr, cs = vrC v ∧ VrR W v x.1 := by
  intro fuel cs x h
  obtain ⟨xs, k, _, hx, hl, hxl, hf⟩ := DataW.trod_struct Try.underlying40 h
  rw [cellVar] at hl
  exact pair_cells (T := 40) (fs := #[]) (k := k) cellVar (by rw [hx]) hl hxl (fun y hy => by
      have h0 : DataW.trod enc Try.prog W 0 (fun _ => true) true k 9 ((cs.drop 0).take (Try.prog.cellsOf 9)) = xs[0]? := hf 0 _ rfl
      rw [cellStr, hy] at h0; exact h0) (fun y hy => by
      have h0 : DataW.trod enc Try.prog W 0 (fun _ => true) true k 22 ((cs.drop 1).take (Try.prog.cellsOf 22)) = xs[1]? := hf 1 _ rfl
      rw [cellTxs, hy] at h0; exact h0)
theorem fun_cells : ∀ fuel cs (x : DataW H × List MemPlace), DataW.trod enc Try.prog W 0 (fun _ => true) true fuel 43 cs = some x → ∃ v : Vr, cs = vrC v ∧ VrR W v x.1 := by
  intro fuel cs x h
  obtain ⟨xs, k, _, hx, hl, hxl, hf⟩ := DataW.trod_struct Try.underlying43 h
  rw [cellFun] at hl
  exact pair_cells (T := 43) (fs := #[]) (k := k) cellFun (by rw [hx]) hl hxl (fun y hy => by
      have h0 : DataW.trod enc Try.prog W 0 (fun _ => true) true k 9 ((cs.drop 0).take (Try.prog.cellsOf 9)) = xs[0]? := hf 0 _ rfl
      rw [cellStr, hy] at h0; exact h0) (fun y hy => by
      have h0 : DataW.trod enc Try.prog W 0 (fun _ => true) true k 22 ((cs.drop 1).take (Try.prog.cellsOf 22)) = xs[1]? := hf 1 _ rfl
      rw [cellTxs, hy] at h0; exact h0)
end
end Go.Proofs.Ytkhmimlgkjenfaa.HL
namespace Go.Proofs.Ytkhmimlgkjenfaa.HL
open Go
set_option maxHeartbeats 8000000
set_option maxRecDepth 100000
set_option linter.unusedVariables false
open Go.ChangeShapes Go.WideShapes Go.ChangeAt Go.RowKit

section
variable {H : Type} {enc : TypeId × Value → H} {W : World}
def FlB (f : Fl) (n : Nat) : Prop := f.n.length ≤ n ∧ (f.vs.length ≤ n ∧ f.fs.length ≤ n) ∧ (∀ x, x ∈ f.vs → VrB x n) ∧ ∀ x, x ∈ f.fs → VrB x n
theorem FlB.mono {f : Fl} {n m : Nat} (h : FlB f n) (hm : n ≤ m) : FlB f m := ⟨Nat.le_trans h.1 hm, ⟨Nat.le_trans h.2.1.1 hm, Nat.le_trans h.2.1.2 hm⟩, fun x hx => (h.2.2.1 x hx).mono hm, fun x hx => (h.2.2.2 x hx).mono hm⟩
def FlR (W : World) (f : Fl) (d : DataW H) : Prop := flOk (allOf W) f ∧ FlB f (Rows.uptoBulk d)
def PkB (p : Pk) (n : Nat) : Prop := (p.im.length ≤ n ∧ p.p.length ≤ n) ∧ p.fl.length ≤ n ∧ ∀ f, f ∈ p.fl → FlB f n
theorem PkB.mono {p : Pk} {n m : Nat} (h : PkB p n) (hm : n ≤ m) : PkB p m := ⟨⟨Nat.le_trans h.1.1 hm, Nat.le_trans h.1.2 hm⟩, Nat.le_trans h.2.1 hm, fun f hf => (h.2.2 f hf).mono hm⟩
def PkR (W : World) (p : Pk) (d : DataW H) : Prop := pkOk (allOf W) p ∧ PkB p (Rows.uptoBulk d)
theorem PkB.small {p : Pk} {n : Nat} (h : PkB p n) (hn : n ≤ 1048576) : Small p := by
  obtain ⟨⟨h1, h2⟩, h3, h4⟩ := h
  refine ⟨by omega, by omega, fun f hf => ?_, ⟨by omega, fun f hf => ?_⟩, fun x hx => ?_⟩
  · have := (h4 f hf).2.1
    exact ⟨by omega, by omega⟩
  · have := (h4 f hf).1
    omega
  · obtain ⟨f, hf, hxf⟩ := List.mem_flatMap.1 hx
    have hv : ∃ y, VrB y n ∧ x.u = y.u ∧ x.n = y.n := by
      rcases List.mem_append.1 hxf with g | g
      · obtain ⟨y, hy, rfl⟩ := List.mem_map.1 g
        exact ⟨y, (h4 f hf).2.2.1 y hy, rfl, rfl⟩
      · obtain ⟨y, hy, rfl⟩ := List.mem_map.1 g
        exact ⟨y, (h4 f hf).2.2.2 y hy, rfl, rfl⟩
    obtain ⟨y, ⟨g1, g2, g3⟩, e1, e2⟩ := hv
    rw [e1, e2]
    exact ⟨by omega, by omega, fun s hs => Nat.le_trans (g3 s hs) hn⟩
theorem vrs_cells {t e : TypeId} (ht : Try.prog.underlying t = some (.slice e)) (hc : Try.prog.cellsOf e = 2)
    (hd : ∀ fuel cs (x : DataW H × List MemPlace), DataW.trod enc Try.prog W 0 (fun _ => true) true fuel e cs = some x → ∃ v : Vr, cs = vrC v ∧ VrR W v x.1)
    {fuel : Nat} {cs : List Value} {x : DataW H × List MemPlace} (h : DataW.trod enc Try.prog W 0 (fun _ => true) true fuel t cs = some x) :
    ∃ (a : Option Addr) (c : Nat) (l : List Vr), cs = [.slice a l.length c] ∧ Rs (allOf W) 2 a l.length c (l.flatMap vrC) ∧ (∀ x, x ∈ l → vrOk (allOf W) x) ∧ l.length ≤ Rows.uptoBulk x.1 ∧ ∀ v, v ∈ l → VrB v (Rows.uptoBulk x.1) := by
  obtain ⟨a, c, l, h1, h2, h3⟩ := open_rows (z := 2) ht hc (by decide) hd h
  obtain ⟨h4, h5⟩ := row_bulk h3
  refine ⟨_, _, l, h1, h2, fun x hx => ?_, h4, fun x hx => ?_⟩
  · obtain ⟨y, h6, _⟩ := h5 x hx
    exact h6.1
  · obtain ⟨y, h6, h7⟩ := h5 x hx
    exact h6.2.mono h7
theorem file_cells : ∀ fuel cs (x : DataW H × List MemPlace), DataW.trod enc Try.prog W 0 (fun _ => true) true fuel 38 cs = some x → ∃ f : Fl, cs = flC f ∧ FlR W f x.1 := by
  intro fuel cs x h
  obtain ⟨xs, k, _, hx, hl, hxl, hf⟩ := DataW.trod_struct Try.underlying38 h
  rw [cellFile] at hl
  obtain ⟨c0, c1, c2, c3, rfl⟩ := list4s hl
  obtain ⟨y0, y1, y2, y3, rfl⟩ := list4s hxl
  have f0 : DataW.trod enc Try.prog W 0 (fun _ => true) true k 9 (([c0, c1, c2, c3].drop 0).take (Try.prog.cellsOf 9)) = some y0 := hf 0 _ rfl
  have f1 : DataW.trod enc Try.prog W 0 (fun _ => true) true k 35 (([c0, c1, c2, c3].drop 1).take (Try.prog.cellsOf 35)) = some y1 := hf 1 _ rfl
  have f2 : DataW.trod enc Try.prog W 0 (fun _ => true) true k 36 (([c0, c1, c2, c3].drop 2).take (Try.prog.cellsOf 36)) = some y2 := hf 2 _ rfl
  have f3 : DataW.trod enc Try.prog W 0 (fun _ => true) true k 3 (([c0, c1, c2, c3].drop 3).take (Try.prog.cellsOf 3)) = some y3 := hf 3 _ rfl
  rw [cellStr] at f0
  rw [cellVs] at f1
  rw [cellFs] at f2
  rw [cellInt] at f3
  obtain ⟨n, rfl, b0⟩ := one_str (c := c0) f0
  obtain ⟨va, vc, vs, h1, v2, v3, v4, v5⟩ := vrs_cells Try.underlying35 cellVar var_cells f1
  obtain ⟨fa, fc, fs, h2, g2, g3, g4, g5⟩ := vrs_cells Try.underlying36 cellFun fun_cells f2
  obtain ⟨kk, h3, _⟩ := DataW.trod_int Try.underlying3 f3
  have h1' : [c1] = [.slice va vs.length vc] := h1
  have h2' : [c2] = [.slice fa fs.length fc] := h2
  have h3' : [c3] = [.int .i64 kk] := h3
  cases h1'
  cases h2'
  cases h3'
  refine ⟨⟨n, va, vc, vs, fa, fc, fs, kk⟩, rfl, ⟨v2, g2, v3, g3⟩, ?_⟩
  rw [hx]
  simp only [List.map_cons, List.map_nil, Rows.uptoBulk, Rows.uptoBulkAll, b0]
  exact ⟨by show n.length ≤ _; omega, ⟨by show vs.length ≤ _; omega, by show fs.length ≤ _; omega⟩, fun x hx => (v5 x hx).mono (by omega), fun x hx => (g5 x hx).mono (by omega)⟩
theorem pkg_cells : ∀ fuel cs (x : DataW H × List MemPlace), DataW.trod enc Try.prog W 0 (fun _ => true) true fuel 25 cs = some x → ∃ p : Pk, cs = pkC p ∧ PkR W p x.1 := by
  intro fuel cs x h
  obtain ⟨xs, k, _, hx, hl, hxl, hf⟩ := DataW.trod_struct Try.underlying25 h
  rw [cellPkg] at hl
  obtain ⟨c0, c1, c2, rfl⟩ := list3s hl
  obtain ⟨y0, y1, y2, rfl⟩ := list3s hxl
  have f0 : DataW.trod enc Try.prog W 0 (fun _ => true) true k 9 (([c0, c1, c2].drop 0).take (Try.prog.cellsOf 9)) = some y0 := hf 0 _ rfl
  have f1 : DataW.trod enc Try.prog W 0 (fun _ => true) true k 22 (([c0, c1, c2].drop 1).take (Try.prog.cellsOf 22)) = some y1 := hf 1 _ rfl
  have f2 : DataW.trod enc Try.prog W 0 (fun _ => true) true k 23 (([c0, c1, c2].drop 2).take (Try.prog.cellsOf 23)) = some y2 := hf 2 _ rfl
  rw [cellStr] at f0
  rw [cellTxs] at f1
  rw [cellFls] at f2
  obtain ⟨n, rfl, b0⟩ := one_str (c := c0) f0
  obtain ⟨ia, ic, im, h1, v2, v3, v4⟩ := texts_cells f1
  obtain ⟨la, lc, fl, h2, g2, g3⟩ := open_rows (z := 4) Try.underlying23 cellFile (by decide) file_cells f2
  obtain ⟨g4, g5⟩ := row_bulk g3
  have h1' : [c1] = [.slice ia im.length ic] := h1
  have h2' : [c2] = [.slice la fl.length lc] := h2
  cases h1'
  cases h2'
  refine ⟨⟨n, ia, ic, im, la, lc, fl⟩, rfl, ⟨v2, g2, fun f hf => ?_⟩, ?_⟩
  · obtain ⟨y, h6, _⟩ := g5 f hf
    exact h6.1
  rw [hx]
  simp only [List.map_cons, List.map_nil, Rows.uptoBulk, Rows.uptoBulkAll, b0]
  refine ⟨⟨by show im.length ≤ _; omega, by show n.length ≤ _; omega⟩, by show fl.length ≤ _; omega, fun f hf => ?_⟩
  obtain ⟨y, h6, h7⟩ := g5 f hf
  exact h6.2.mono (by omega)
theorem open_pkg {v : Value} {d : DataW H} {ps : List MemPlace} (hval : Value.okWide Try.prog W .any 0 25 v) (h : DataW.Trod enc Try.prog W 0 (fun _ => true) true 25 v d ps) :
    ∃ p : Pk, v = .agg #[.string (bstr p.p), .slice p.ia p.im.length p.ic, .slice p.la p.fl.length p.lc] ∧ pkOk (allOf W) p ∧ PkB p (Rows.uptoBulk d) := by
  unfold Value.okWide at hval
  rw [Try.underlying25] at hval
  obtain ⟨cs, rfl, hsz, _⟩ := hval
  obtain ⟨fuel, hf⟩ := h
  obtain ⟨p, h1, h2, h3⟩ := pkg_cells _ _ _ hf
  refine ⟨p, ?_, h2, h3⟩
  have h1' : cs.toList = pkC p := h1
  congr 1
  exact Array.toList_inj.1 h1'
end
end Go.Proofs.Ytkhmimlgkjenfaa.HL
