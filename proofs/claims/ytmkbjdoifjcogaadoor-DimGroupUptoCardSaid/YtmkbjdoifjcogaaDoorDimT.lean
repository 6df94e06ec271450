/- DimT: what is printed is read as it was: plain laws. No condition. -/
import Derived.Test.YtmkbjdoifjcogaaDoorDimS
namespace Go.Proofs.YtmkbjdoifjcogaaDoor.HL
open Go
attribute [local irreducible] goFn thenS blockS bodyS CW RW DW GW QW NW SC Pick Picks SubL Rd NN ResOk SrcW subE hops hseg AW hgen HC qv bldv
set_option linter.unusedVariables false
set_option linter.unusedSimpArgs false

/-- enough fuel is enough -/
theorem parseL_fuel (N : Nat) : ∀ (f g : Nat) (l : List UInt8) (d : List Int) (sg : Int), l.length < f → l.length < g → parseL N f l d sg = parseL N g l d sg
  | 0, _, l, _, _, h, _ => absurd h (Nat.not_lt_zero _)
  | _ + 1, 0, l, _, _, _, h => absurd h (Nat.not_lt_zero _)
  | f + 1, g + 1, [], d, sg, _, _ => rfl
  | f + 1, g + 1, b :: r, d, sg, hf, hg => by
    have hlen := (powL_len r).1
    unfold parseL
    simp only
    split
    · rfl
    · split
      · rfl
      · split
        · rfl
        · rw [List.length_cons] at hf hg
          split
          · rfl
          · rename_i r2 h2
            rw [h2, List.length_cons] at hlen
            exact parseL_fuel N f g r2 _ _ (by omega) (by omega)
          · rename_i r2 h2
            rw [h2, List.length_cons] at hlen
            exact parseL_fuel N f g r2 _ _ (by omega) (by omega)
          · rfl
/-- what stands behind a term is nothing, or a blank -/
def Stop (r : List UInt8) : Prop := r = [] ∨ ∃ r', r = 32 :: r'
/-- how it goes on behind a term -/
def contL (N : Nat) (d : List Int) (r : List UInt8) : List Int × Int × Int := match r with
  | [] => (d, 0, 0)
  | _ :: r2 => parseL N (r2.length + 1) r2 d 1

def dig2 (u : Nat) : List UInt8 := if u < 10 then [UInt8.ofNat (48 + u)] else [UInt8.ofNat (48 + u / 10), UInt8.ofNat (48 + u % 10)]
theorem dec2 {u : Nat} (h : u < 100) : Lib.decDigits u = dig2 u := by
  unfold dig2
  rw [Lib.decDigits]
  split
  · rfl
  · rw [Lib.decDigits, dif_pos (by omega)]; rfl
theorem digs_stop {r : List UInt8} (h : Stop r) (n : Int) : digsL r n = (n, r) := by
  rcases h with rfl | ⟨r', rfl⟩
  · rfl
  · unfold digsL; rw [if_neg (by decide)]
theorem ofNat_dig {u : Nat} (h : u < 10) : (UInt8.ofNat (48 + u)).toNat = 48 + u := by
  rw [UInt8.toNat_ofNat']; omega
theorem digs_one {u : Nat} (h : u < 10) (r : List UInt8) (n : Int) (hn : 0 ≤ n ∧ n ≤ 9) : digsL (UInt8.ofNat (48 + u) :: r) n = digsL r (n * 10 + u) := by
  have e := ofNat_dig h
  rw [digsL, if_pos (by unfold isD; rw [e]; simp; omega), e]
  congr 1
  omega
theorem digs_dec {u : Nat} (h : u < 100) {r : List UInt8} (hr : Stop r) : digsL (Lib.decDigits u ++ r) 0 = ((u : Int), r) := by
  rw [dec2 h]
  unfold dig2
  split
  · rw [List.singleton_append, digs_one (by omega) _ _ (by omega), digs_stop hr]
    simp
  · rw [List.cons_append, List.singleton_append, digs_one (by omega) _ _ (by omega), digs_one (by omega) _ _ (by omega), digs_stop hr]
    congr 1; omega
theorem dec_head {u : Nat} (h : u < 100) : ∃ b t, Lib.decDigits u = b :: t ∧ b ≠ 45 := by
  rw [dec2 h]
  unfold dig2
  have key : ∀ k : Nat, k < 10 → UInt8.ofNat (48 + k) ≠ 45 := by
    intro k hk e
    have := ofNat_dig hk
    rw [e] at this
    have e2 : (45 : UInt8).toNat = 45 := rfl
    omega
  split
  · exact ⟨_, _, rfl, key _ (by omega)⟩
  · exact ⟨_, _, rfl, key _ (by omega)⟩
theorem exp_itoa {z : Int} (h : -99 ≤ z ∧ z ≤ 99) {r : List UInt8} (hr : Stop r) : ∃ p, expL (Lib.itoa z ++ r) = (z, 0, r, p) := by
  by_cases hz : z < 0
  · have e : Lib.itoa z = 45 :: Lib.decDigits z.natAbs := by unfold Lib.itoa; rw [if_pos hz]
    have e1 : signL (Lib.itoa z ++ r) = true := by rw [e]; rfl
    have e2 : bareL (Lib.itoa z ++ r) = Lib.decDigits z.natAbs ++ r := by unfold bareL; rw [if_pos e1, e]; rfl
    have e3 := digs_dec (u := z.natAbs) (by omega) hr
    obtain ⟨b, t, hb, _⟩ := dec_head (u := z.natAbs) (by omega)
    refine ⟨r.length, ?_⟩
    unfold expL
    simp only [e2, e3, e1, if_true]
    rw [if_neg (by rw [hb, List.length_append, List.length_cons]; omega), if_neg (by omega)]
    congr 1; omega
  · have e : Lib.itoa z = Lib.decDigits z.toNat := by unfold Lib.itoa; rw [if_neg hz]
    obtain ⟨b, t, hb, hb2⟩ := dec_head (u := z.toNat) (by omega)
    have e1 : signL (Lib.itoa z ++ r) = false := by
      rw [e, hb]
      show (b == 45) = false
      simp [hb2]
    have e2 : bareL (Lib.itoa z ++ r) = Lib.decDigits z.toNat ++ r := by unfold bareL; rw [if_neg (by rw [e1]; simp), e]
    have e3 := digs_dec (u := z.toNat) (by omega) hr
    refine ⟨r.length, ?_⟩
    unfold expL
    simp only [e2, e3, e1]
    rw [if_neg (by rw [hb, List.length_append, List.length_cons]; omega), if_neg (by omega)]
    simp; omega
theorem pow_term {z : Int} (h : -99 ≤ z ∧ z ≤ 99) {r : List UInt8} (hr : Stop r) : ∃ p, powL ((if z = 1 then [] else 94 :: Lib.itoa z) ++ r) = (z, 0, r, p) := by
  by_cases h1 : z = 1
  · rw [if_pos h1, h1, List.nil_append]
    rcases hr with rfl | ⟨r', rfl⟩
    · exact ⟨_, rfl⟩
    · exact ⟨(32 :: r').length, rfl⟩
  · rw [if_neg h1, List.cons_append]
    exact exp_itoa h hr
theorem let_all : ∀ k : Fin 8, whichN (letB k.val).toNat = (k.val : Int) ∧ letB k.val ≠ 49 := by decide
/-- a term is read -/
theorem parse_term (N : Nat) {k : Nat} (hk : k < 8) {z : Int} (hz : -99 ≤ z ∧ z ≤ 99) {r : List UInt8} (hr : Stop r) (d : List Int) (hd : rightD (d.set k (d.getD k 0 + z)) = true) (f : Nat) (hf : (termB k z ++ r).length < f) :
    parseL N f (termB k z ++ r) d 1 = contL N (d.set k (d.getD k 0 + z)) r := by
  obtain ⟨f, rfl⟩ : ∃ g, f = g + 1 := ⟨f - 1, by omega⟩
  obtain ⟨p, hp⟩ := pow_term hz hr
  have hw := (let_all ⟨k, hk⟩).1
  simp only at hw
  have ht : termB k z ++ r = letB k :: ((if z = 1 then [] else 94 :: Lib.itoa z) ++ r) := rfl
  rw [ht, List.length_cons] at hf
  rw [ht]
  have hlen := (powL_len ((if z = 1 then [] else 94 :: Lib.itoa z) ++ r)).1
  rw [hp] at hlen
  unfold parseL
  simp only [hp, hw, Int.toNat_natCast, Int.one_mul, hd]
  rw [if_neg (by omega)]
  simp only [ne_eq, not_true, if_false, jI]
  rcases hr with rfl | ⟨r', rfl⟩
  · rfl
  · simp only [contL]
    simp only [List.length_cons] at hlen
    exact parseL_fuel N _ _ _ _ _ (by omega) (by omega)

theorem getD_right {d : List Int} (hr : rightD d = true) (k : Nat) : -99 ≤ d.getD k 0 ∧ d.getD k 0 ≤ 99 := by
  rw [List.getD_eq_getElem?_getD]
  cases h : d[k]? with
  | none => exact ⟨by decide, by decide⟩
  | some z => exact right_at hr h
theorem mix_succ {d : List Int} (hd : d.length = 8) {k : Nat} (hk : k < 8) : (mix k d zeroD).set k ((mix k d zeroD).getD k 0 + d.getD k 0) = mix (k + 1) d zeroD := by
  obtain ⟨z, hz⟩ : ∃ z, d[k]? = some z := ⟨_, List.getElem?_eq_getElem (by omega)⟩
  have e1 : (mix k d zeroD).getD k 0 = 0 := by
    rw [List.getD_eq_getElem?_getD, mix_get (by omega) (by rw [hd]; rfl)]
    have : ∀ k : Fin 8, zeroD[k.val]? = some 0 := by decide
    rw [this ⟨k, hk⟩]; rfl
  have e2 : d.getD k 0 = z := by rw [List.getD_eq_getElem?_getD, hz]; rfl
  rw [e1, e2, Int.zero_add]
  exact mix_set (by omega) (by rw [hd]; rfl) hz
theorem mix_right {d : List Int} (hr : rightD d = true) (k : Nat) : rightD (mix k d zeroD) = true := by
  rw [small_right] at hr ⊢
  intro z hz
  unfold mix at hz
  rcases List.mem_append.1 hz with h | h
  · exact hr z (List.mem_of_mem_take h)
  · have := small_zero z (List.mem_of_mem_drop h); omega
theorem prS_nil {out : List UInt8} {k : Nat} {z : Int} (h : prS out k z = []) : out = [] ∧ z = 0 := by
  unfold prS at h
  split at h
  · exact ⟨h, by assumption⟩
  · exfalso
    unfold termB at h
    simp at h
/-- nothing is printed: all is 0 so far -/
theorem prL_none {d : List Int} (hd : d.length = 8) : ∀ {k : Nat}, k ≤ 8 → prL d k = [] → mix k d zeroD = zeroD
  | 0, _, _ => mix_zero _ _
  | k + 1, hk, h => by
    obtain ⟨h1, h2⟩ := prS_nil h
    have ih := prL_none hd (by omega) h1
    rw [← mix_succ hd (by omega), ih, h2, Int.add_zero]
    have : ∀ k : Fin 8, zeroD.set k.val (zeroD.getD k.val 0) = zeroD := by decide
    exact this ⟨k, by omega⟩
theorem prL_head {d : List Int} : ∀ {k : Nat}, k ≤ 8 → prL d k ≠ [] → ∃ j t, j < 8 ∧ prL d k = letB j :: t
  | 0, _, h => absurd rfl h
  | k + 1, hk, h => by
    show ∃ j t, j < 8 ∧ prS _ _ _ = _
    have h : prS (prL d k) k (d.getD k 0) ≠ [] := h
    unfold prS at h ⊢
    split at h
    · rw [if_pos (by assumption)]
      exact prL_head (by omega) h
    · rw [if_neg (by assumption)]
      split
      · exact ⟨k, _, by omega, rfl⟩
      · rename_i hn
        obtain ⟨j, t, h1, h2⟩ := prL_head (by omega) hn
        exact ⟨j, _, h1, by rw [h2]; rfl⟩
theorem parse_pr (N : Nat) {d : List Int} (hd : d.length = 8) (hr : rightD d = true) : ∀ {k : Nat}, k ≤ 8 → prL d k ≠ [] → ∀ (r : List UInt8), Stop r → ∀ f, (prL d k ++ r).length < f → parseL N f (prL d k ++ r) zeroD 1 = contL N (mix k d zeroD) r
  | 0, _, h => absurd rfl h
  | k + 1, hk, h => by
    intro r hs f hf
    have hz := getD_right hr k
    have hm := mix_succ hd (k := k) (by omega)
    have hmr := mix_right hr (k + 1)
    rw [← hm] at hmr ⊢
    have e : prL d (k + 1) = prS (prL d k) k (d.getD k 0) := rfl
    rw [e] at h hf ⊢
    unfold prS at h hf ⊢
    by_cases h0 : d.getD k 0 = 0
    · rw [if_pos h0] at h hf ⊢
      have hk0 : (mix k d zeroD).set k ((mix k d zeroD).getD k 0 + d.getD k 0) = mix k d zeroD := by
        rw [h0, Int.add_zero]
        have hl : (mix k d zeroD).length = 8 := by rw [mix_len (by omega) (by rw [hd]; rfl)]; rfl
        have : (mix k d zeroD).getD k 0 = (mix k d zeroD)[k] := by rw [List.getD_eq_getElem?_getD, List.getElem?_eq_getElem (by omega)]; rfl
        rw [this, List.set_getElem_self]
      rw [hk0]
      exact parse_pr N hd hr (by omega) h r hs f hf
    · rw [if_neg h0] at h hf ⊢
      by_cases hn : prL d k = []
      · rw [if_pos hn, List.nil_append] at hf ⊢
        have hz0 := prL_none hd (by omega) hn
        rw [hz0] at hmr ⊢
        exact parse_term N (by omega) hz hs _ hmr f hf
      · rw [if_neg hn] at hf ⊢
        have e2 : prL d k ++ [32] ++ termB k (d.getD k 0) ++ r = prL d k ++ (32 :: (termB k (d.getD k 0) ++ r)) := by simp
        rw [e2] at hf ⊢
        rw [parse_pr N hd hr (by omega) hn _ (.inr ⟨_, rfl⟩) f hf]
        show parseL N _ _ _ 1 = _
        exact parse_term N (by omega) hz hs _ hmr _ (Nat.lt_succ_self _)
/-- what is printed is read -/
theorem parse_print {d : List Int} (hd : d.length = 8) (hr : rightD d = true) : printT d = ((printT d).1, 0) ∧ parseT (printT d).1 = (d, 0, 0) := by
  unfold printT
  rw [if_pos hr]
  by_cases hn : prL d 8 = []
  · rw [if_pos hn]
    have h0 := prL_none hd (Nat.le_refl _) hn
    rw [mix_all (by omega) (by decide)] at h0
    exact ⟨rfl, by rw [h0]; rfl⟩
  · rw [if_neg hn]
    refine ⟨rfl, ?_⟩
    obtain ⟨j, t, h1, h2⟩ := prL_head (Nat.le_refl _) hn
    have h49 := (let_all ⟨j, h1⟩).2
    simp only at h49
    have key := parse_pr (prL d 8).length hd hr (Nat.le_refl _) hn [] (.inl rfl) ((prL d 8).length + 1) (by rw [List.append_nil]; exact Nat.lt_succ_self _)
    rw [List.append_nil, mix_all (by omega) (by decide)] at key
    show parseT (prL d 8) = _
    unfold parseT
    rw [if_neg (by rw [h2]; intro e; exact h49 (List.cons.inj e).1)]
    rw [h2] at key ⊢
    split
    · rename_i e; exact absurd (List.cons.inj e).1 h49
    · exact key
end Go.Proofs.YtmkbjdoifjcogaaDoor.HL
