/- NamesWa: what is folded stays, what is cut out is a word: as a plain law. No condition. -/
import Derived.Test.YtmgjmjhnhgnfcaaDoorNamesU
import Derived.Test.YtmgjmjhnhgnfcaaDoorNamesJ
namespace Go.Proofs.YtmgjmjhnhgnfcaaDoor.HL
open Go
attribute [local irreducible] goFn thenS blockS bodyS CW RW DW GW QW NW SC Pick Picks SubL Rd NN ResOk SrcW subE hops hseg AW hgen HC qv
set_option linter.unusedVariables false
set_option linter.unusedSimpArgs false

theorem class_fold2 (r : Int) : classF (foldedF r) = classF r := class_folded r
/-- a rune written folded -/
theorem cls_wr {x : Rn} {p w : Nat} (h : cls x ≠ 0) : brk x = false ∧ okR (foldedF x.r) ∧ ((foldedF x.r).toNat : Int) = foldedF x.r ∧ cls ⟨(foldedF x.r).toNat, p, w⟩ = cls x := by
  have hb : brk x = false := by
    cases e : brk x with
    | false => rfl
    | true => unfold cls at h; rw [if_pos e] at h; exact absurd rfl h
  have hc : classF x.r ≠ 0 := by unfold cls at h; rw [if_neg (by rw [hb]; decide)] at h; exact h
  have hf := class_fold hc
  have ht : ((foldedF x.r).toNat : Int) = foldedF x.r := by omega
  refine ⟨hb, hf, ht, ?_⟩
  have hb2 : brk ⟨(foldedF x.r).toNat, p, w⟩ = false := by
    unfold brk
    have h3 : ¬ (foldedF x.r).toNat = 65533 := by omega
    simp [h3]
  unfold cls
  rw [if_neg (show ¬ (brk ⟨(foldedF x.r).toNat, p, w⟩ = true) by rw [hb2]; decide), if_neg (show ¬ (brk x = true) by rw [hb]; decide)]
  show classF (((foldedF x.r).toNat : Nat) : Int) = _
  rw [ht, class_fold2]
theorem moreP_cls {f : Int} {x : Rn} (h : moreP f x) : cls x = 1 ∨ cls x = 2 ∨ cls x = 4 := by unfold moreP at h; omega
theorem moreP_wr {f : Int} {x y : Rn} (h : cls y = cls x) : moreP f y ↔ moreP f x := by unfold moreP; rw [h]
def fR (l : List Rn) : List Int := l.map fun x => foldedF x.r
theorem wgo_wr : ∀ (R : List Rn) (f : Int) (p : Nat), wgo f (wr p (fR (R.take (wgo f R)))) = wgo f R ∧ (∀ r ∈ fR (R.take (wgo f R)), okR r) ∧ (∀ x ∈ R.take (wgo f R), cls x = 1 ∨ cls x = 2 ∨ cls x = 4)
  | [], f, p => ⟨rfl, fun r h => by simp [fR] at h, fun x h => by simp at h⟩
  | x :: xs, f, p => by
    rw [wgo_cons]
    by_cases hm : moreP f x
    · rw [if_pos hm, Nat.add_comm, List.take_succ_cons]
      have hc := moreP_cls hm
      have e : fR (x :: xs.take (wgo (frst f x) xs)) = foldedF x.r :: fR (xs.take (wgo (frst f x) xs)) := rfl
      rw [e, wr, wgo_cons]
      obtain ⟨h1, h2, h3, h4⟩ := cls_wr (x := x) (p := p) (w := (enc (foldedF x.r)).length) (by omega)
      rw [if_pos ((moreP_wr h4).2 hm)]
      have hfr : frst f ⟨(foldedF x.r).toNat, p, (enc (foldedF x.r)).length⟩ = frst f x := by
        unfold frst; rw [h3, folded_folded]
      obtain ⟨i1, i2, i3⟩ := wgo_wr xs (frst f x) (p + (enc (foldedF x.r)).length)
      rw [hfr, i1]
      refine ⟨Nat.add_comm _ _, fun r hr => ?_, fun y hy => ?_⟩
      · rcases List.mem_cons.1 hr with rfl | hr
        · exact h2
        · exact i2 r hr
      · rcases List.mem_cons.1 hy with rfl | hy
        · exact hc
        · exact i3 y hy
    · rw [if_neg hm]
      exact ⟨rfl, fun r h => by simp [fR] at h, fun x h => by simp at h⟩
theorem toldB_fR (l : List Rn) : toldB l = (fR l).flatMap enc := by
  unfold toldB fR; rw [List.flatMap_map]
theorem toldB_wr : ∀ (rs : List Int) (p : Nat), (∀ r ∈ rs, okR r ∧ foldedF r = r) → toldB (wr p rs) = rs.flatMap enc
  | [], _, _ => rfl
  | r :: rs, p, h => by
    obtain ⟨h1, h2⟩ := h r (List.mem_cons_self ..)
    have ht : ((r.toNat : Nat) : Int) = r := by have := h1.1; omega
    have := toldB_wr rs (p + (enc r).length) (fun x hx => h x (List.mem_cons_of_mem _ hx))
    rw [wr, List.flatMap_cons, ← this]
    show toldB _ = _
    unfold toldB
    rw [List.flatMap_cons, ht, h2]
/-- the word of a text, as a text of its own -/
theorem word_again (t : ByteArray) : rns (wS t) = wr 0 (fR ((rns t).take (wN t))) ∧ wN (wS t) = wN t ∧ wS (wS t) = wS t ∧ wP (wS t) = (wS t).size ∧
    (∀ x ∈ rns (wS t), classF x.r = 1 ∨ classF x.r = 2 ∨ classF x.r = 4) ∧ (rns (wS t)).length = wN t := by
  obtain ⟨h1, h2, h3⟩ := wgo_wr (rns t) (-1) 0
  have hN : wgo (-1) (rns t) = wN t := rfl
  rw [hN] at h1 h2 h3
  have hl : (wS t).data.toList = (fR ((rns t).take (wN t))).flatMap enc := by
    unfold wS; rw [toldB_fR]; simp [bstr]
  have hr : rns (wS t) = wr 0 (fR ((rns t).take (wN t))) := by
    rw [rns_L, hl]
    have := rnL_wr (fR ((rns t).take (wN t))) 0 [] h2
    rw [List.append_nil, rnL_nil, List.append_nil] at this
    exact this
  have hle := wgo_le (-1) (rns t)
  rw [hN] at hle
  have hlen : (rns (wS t)).length = wN t := by rw [hr, wr_length]; unfold fR; rw [List.length_map, List.length_take]; omega
  have hn : wN (wS t) = wN t := by unfold wN at h1 ⊢; rw [hr]; exact h1
  have hS : wS (wS t) = wS t := by
    have e : wS (wS t) = bstr (toldB ((rns (wS t)).take (wN (wS t)))) := rfl
    rw [e, hn, List.take_of_length_le (by omega), hr, toldB_wr _ _ (fun r hr' => ⟨h2 r hr', ?_⟩)]
    · unfold wS; rw [toldB_fR]
    · unfold fR at hr'
      obtain ⟨x, _, rfl⟩ := List.mem_map.1 hr'
      exact folded_folded _
  refine ⟨hr, hn, hS, ?_, ?_, hlen⟩
  · unfold wP; rw [hn, posOf_end (by omega)]
  · intro x hx
    have hmem : ∃ r ∈ fR ((rns t).take (wN t)), (x.r : Int) = r := by
      have := wr_r (fR ((rns t).take (wN t))) 0
      rw [← hr] at this
      have hx2 : x.r ∈ (rns (wS t)).map (·.r) := List.mem_map.2 ⟨x, hx, rfl⟩
      rw [this] at hx2
      obtain ⟨r, hr1, hr2⟩ := List.mem_map.1 hx2
      have := (h2 r hr1).1
      exact ⟨r, hr1, by omega⟩
    obtain ⟨r, hr1, hr2⟩ := hmem
    obtain ⟨y, hy, rfl⟩ := List.mem_map.1 hr1
    rw [hr2, class_fold2]
    have hc := h3 y hy
    have : cls y = classF y.r := cls_class (by omega)
    omega
/-- where a word ends -/
theorem wP_ge (t : ByteArray) (h : wS t ≠ emp) : 1 ≤ wN t ∧ 1 ≤ wP t ∧ wP t ≤ t.size := by
  have hN : wN t ≠ 0 := fun e => h ((wS_emp t).2 e)
  have hle := wgo_le (-1) (rns t)
  have e : wgo (-1) (rns t) = wN t := rfl
  rw [e] at hle
  obtain ⟨x, hx⟩ : ∃ x, (rns t)[wN t - 1]? = some x := ⟨_, List.getElem?_eq_getElem (by omega)⟩
  have hp := posOf_next hx
  rw [show wN t - 1 + 1 = wN t by omega] at hp
  obtain ⟨k1, k2, k3, _⟩ := rn_mem hx
  have : wP t = x.p + x.w := hp
  exact ⟨by omega, by omega, by omega⟩
theorem wgo_stop : ∀ (R : List Rn) (f : Int) (y : Rn), 0 ≤ f → R[wgo f R]? = some y → ¬ moreP f y
  | [], f, y, _, h => by simp at h
  | x :: xs, f, y, hf, h => by
    rw [wgo_cons] at h
    by_cases hm : moreP f x
    · rw [if_pos hm, Nat.add_comm, List.getElem?_cons_succ] at h
      have hfr : frst f x = f := by unfold frst; rw [if_neg (by omega)]
      rw [hfr] at h
      exact wgo_stop xs f y hf h
    · rw [if_neg hm] at h
      simp at h
      subst h
      exact hm
/-- behind a word of letters, where a word begins, stands a sign -/
theorem behind (t : ByteArray) (h : wS t ≠ emp) (x : Rn) (hx : (rns (wS t))[0]? = some x) (hl : classF x.r = 1) (t2 : ByteArray) (ht : t2 = t.extract (wP t) t.size) (h2 : wS t2 ≠ emp) :
    ∃ y, (rns (wS t2))[0]? = some y ∧ classF y.r = 4 := by
  obtain ⟨a1, a2, a3⟩ := wP_ge t h
  obtain ⟨b1, _, _⟩ := wP_ge t2 h2
  obtain ⟨c1, _, _, _, _, c6⟩ := word_again t
  obtain ⟨d1, _, _, _, _, d6⟩ := word_again t2
  obtain ⟨y, hy⟩ : ∃ y, (rns (wS t2))[0]? = some y := ⟨_, List.getElem?_eq_getElem (by omega)⟩
  refine ⟨y, hy, ?_⟩
  -- the first rune of t2
  have hle2 := wgo_le (-1) (rns t2)
  have e2 : wgo (-1) (rns t2) = wN t2 := rfl
  rw [e2] at hle2
  obtain ⟨z, hz⟩ : ∃ z, (rns t2)[0]? = some z := ⟨_, List.getElem?_eq_getElem (by omega)⟩
  have hyz : (y.r : Int) = foldedF z.r := by
    obtain ⟨zs, hzs⟩ : ∃ zs, rns t2 = z :: zs := by
      cases hr : rns t2 with
      | nil => rw [hr] at hz; cases hz
      | cons a b => rw [hr] at hz; simp at hz; subst hz; exact ⟨b, rfl⟩
    rw [d1, hzs] at hy
    obtain ⟨n, hn⟩ : ∃ n, wN t2 = n + 1 := ⟨wN t2 - 1, by omega⟩
    rw [hn, List.take_succ_cons] at hy
    have e : fR (z :: zs.take n) = foldedF z.r :: fR (zs.take n) := rfl
    rw [e, wr, List.getElem?_cons_zero] at hy
    cases hy
    have hok := (wgo_wr (rns t2) (-1) 0).2.1 (foldedF z.r) (by rw [e2, hn, hzs, List.take_succ_cons, e]; exact List.mem_cons_self ..)
    have := hok.1
    show (((foldedF z.r).toNat : Nat) : Int) = _
    omega
  rw [hyz, class_fold2]
  -- z begins a word
  have hzm : moreP (-1) z := by
    rcases Classical.em (moreP (-1) z) with h' | h'
    · exact h'
    · exfalso
      have : wgo (-1) (rns t2) = 0 := by
        cases hr : rns t2 with
        | nil => rfl
        | cons a b => rw [hr] at hz; simp at hz; subst hz; rw [wgo_cons, if_neg h']
      omega
  have hzc := (moreP_first z).1 hzm
  have hzcl : cls z = classF z.r := cls_class (by omega)
  -- z stands in t where the word ends
  have hlt : wP t < t.size := by
    rcases Nat.lt_or_ge (wP t) t.size with h' | h'
    · exact h'
    · exfalso
      have hs : t2.size = 0 := by rw [ht, ByteArray.size_extract]; omega
      have := (rn_mem hz).1
      omega
  have hNlt := (wP_lt t).2 hlt
  obtain ⟨u, hu⟩ : ∃ u, (rns t)[wN t]? = some u := ⟨_, List.getElem?_eq_getElem hNlt⟩
  have hup : u.p = wP t := (posOf_get hu).symm
  have hud := rn_dec t.size 0 (by omega) u (List.mem_of_getElem? hu)
  have hzd := rn_dec t2.size 0 (by omega) z (List.mem_of_getElem? hz)
  have hzp : z.p = 0 := by
    unfold rns at hz
    rw [rnFrom_lt (by have := (rn_mem hz).1; omega)] at hz
    simp at hz; rw [← hz]
  have hdec : Utf8.decode t2 0 = Utf8.decode t (wP t) := by rw [ht]; exact decode_extract t (wP t) a3
  have hzu : z.r = u.r ∧ z.w = u.w := by
    rw [hzd.1, hzd.2.1, hud.1, hud.2.1, hzp, hup, hdec]; exact ⟨rfl, rfl⟩
  have hcu : cls z = cls u := by unfold cls brk; rw [hzu.1, hzu.2]
  -- the first rune of t is a letter
  have hle := wgo_le (-1) (rns t)
  have e1 : wgo (-1) (rns t) = wN t := rfl
  rw [e1] at hle
  obtain ⟨v, vs, hvs⟩ : ∃ v vs, rns t = v :: vs := by
    cases hr : rns t with
    | nil => rw [hr] at hle; simp at hle; omega
    | cons a b => exact ⟨a, b, rfl⟩
  have hvm : moreP (-1) v := by
    rcases Classical.em (moreP (-1) v) with h' | h'
    · exact h'
    · exfalso
      have : wgo (-1) (rns t) = 0 := by rw [hvs, wgo_cons, if_neg h']
      omega
  have hvN : wN t = 1 + wgo (frst (-1) v) vs := by unfold wN; rw [hvs, wgo_cons, if_pos hvm]
  have hok := (wgo_wr (rns t) (-1) 0).2.1 (foldedF v.r) (by
    rw [e1, hvN, hvs, Nat.add_comm, List.take_succ_cons]; exact List.mem_cons_self ..)
  have hxv : (x.r : Int) = foldedF v.r := by
    rw [c1, hvN, hvs, Nat.add_comm, List.take_succ_cons] at hx
    have e : fR (v :: vs.take (wgo (frst (-1) v) vs)) = foldedF v.r :: fR (vs.take (wgo (frst (-1) v) vs)) := rfl
    rw [e, wr, List.getElem?_cons_zero] at hx
    cases hx
    have := hok.1
    show (((foldedF v.r).toNat : Nat) : Int) = _
    omega
  have hfr : frst (-1) v = foldedF v.r := rfl
  have hcl1 : classF (foldedF v.r) = 1 := by rw [← hxv]; exact hl
  have hu2 : vs[wgo (foldedF v.r) vs]? = some u := by
    rw [hvs, hvN, Nat.add_comm, List.getElem?_cons_succ, hfr] at hu; exact hu
  have hnm := wgo_stop vs (foldedF v.r) u hok.1 hu2
  unfold moreP at hnm
  have h0 := hok.1
  omega
end Go.Proofs.YtmgjmjhnhgnfcaaDoor.HL
