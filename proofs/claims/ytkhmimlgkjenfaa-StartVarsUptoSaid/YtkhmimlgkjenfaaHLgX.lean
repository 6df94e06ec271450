/- HLg: slices of the call's own ('Own'), append, make, copy, conversions between strings, bytes and runes, over a partial heap. No condition. -/
import Derived.Test.YtkhmimlgkjenfaaHLfX
import Derived.Laws.Cover4
import Derived.Laws.BytesString
namespace Go.Proofs.Ytkhmimlgkjenfaa.HL
open Go
set_option linter.unusedVariables false
set_option linter.unusedSimpArgs false

def blk : Value → Option Nat
  | .slice (some a) _ _ => some a.block
  | .pointer (some a) => some a.block
  | _ => none

def Own (H : Hp) (e : TypeId) (z : Nat) (v : Value) (n : Nat) (cs : List Value) : Prop :=
  cs.length = n * z ∧ ((v = .slice none 0 0 ∧ n = 0) ∨
    ∃ b cap rest lo hi, v = .slice (some ⟨b, 0, none⟩) n cap ∧ H b = some (.cells (cs ++ rest).toArray e (lo, hi)) ∧ rest.length = (cap - n) * z ∧ n ≤ cap ∧ ((cs ++ rest).length ≤ lo ∨ hi ≤ lo))

theorem Own.nil (H : Hp) (e : TypeId) (z : Nat) : Own H e z (.slice none 0 0) 0 [] := ⟨by simp, .inl ⟨rfl, rfl⟩⟩

theorem Own.keep {H H' : Hp} {e : TypeId} {z : Nat} {v : Value} {n : Nat} {cs : List Value} (h : Own H e z v n cs) (hk : ∀ b, blk v = some b → H' b = H b) : Own H' e z v n cs := by
  obtain ⟨h1, h2⟩ := h
  refine ⟨h1, ?_⟩
  rcases h2 with h2 | ⟨b, cap, rest, lo, hi, rfl, h3, h4⟩
  · exact .inl h2
  · exact .inr ⟨b, cap, rest, lo, hi, rfl, by rw [hk b rfl]; exact h3, h4⟩
theorem Own.ext {H H' : Hp} {e : TypeId} {z : Nat} {v : Value} {n : Nat} {cs : List Value} (h : Own H e z v n cs) (hk : Ext H H') : Own H' e z v n cs := by
  obtain ⟨h1, h2⟩ := h
  refine ⟨h1, ?_⟩
  rcases h2 with h2 | ⟨b, cap, rest, lo, hi, rfl, h3, h4⟩
  · exact .inl h2
  · exact .inr ⟨b, cap, rest, lo, hi, rfl, hk _ _ h3, h4⟩

def Sl (H : Hp) (z : Nat) (v : Value) (n : Nat) (cs : List Value) : Prop :=
  cs.length = n * z ∧ ((∃ p c, v = .slice p 0 c ∧ n = 0) ∨ ∃ b off cap, v = .slice (some ⟨b, off, none⟩) n cap ∧ n ≤ cap ∧ rdN H ⟨b, off, none⟩ 0 (n * z) = some cs)

theorem rdN_of {H : Hp} {b : Nat} {t : TypeId} {fr : Nat × Nat} {c : List Value} (hb : H b = some (.cells c.toArray t fr)) : ∀ (n off i : Nat), off + i + n ≤ c.length →
    rdN H ⟨b, off, none⟩ i n = some ((c.drop (off + i)).take n) := by
  intro n
  induction n with
  | zero => intro off i h; simp [rdN]
  | succ n ih =>
    intro off i h
    simp only [rdN, add_none]
    rw [cell_list hb, List.getElem?_eq_getElem (show off + i < c.length by omega)]
    simp only
    rw [ih off (i + 1) (by omega), Option.map_some]
    congr 1
    rw [List.drop_eq_getElem_cons (show off + i < c.length by omega), List.take_succ_cons, show off + (i + 1) = off + i + 1 by omega]

theorem Own.sl {H : Hp} {e : TypeId} {z : Nat} {v : Value} {n : Nat} {cs : List Value} (h : Own H e z v n cs) : Sl H z v n cs := by
  obtain ⟨h1, h2⟩ := h
  refine ⟨h1, ?_⟩
  rcases h2 with ⟨h2, h3⟩ | ⟨b, cap, rest, lo, hi, rfl, h3, h4, h5, h6⟩
  · exact .inl ⟨none, 0, h2, h3⟩
  · refine .inr ⟨b, 0, cap, rfl, h5, ?_⟩
    rw [rdN_of h3 (n * z) 0 0 (by simp; omega)]
    simp [← h1]

theorem rdN_ext {H H' : Hp} (hk : Ext H H') (a : Addr) : ∀ (n i : Nat) (cs : List Value), rdN H a i n = some cs → rdN H' a i n = some cs := by
  intro n
  induction n with
  | zero => intro i cs h; exact h
  | succ n ih =>
    intro i cs h
    simp only [rdN] at h ⊢
    cases hc : H.cell? (a.add i) with
    | none => rw [hc] at h; cases h
    | some v =>
      rw [hc] at h
      obtain ⟨r, hr, rfl⟩ := Option.map_eq_some_iff.1 h
      have : H'.cell? (a.add i) = some v := by
        unfold Hp.cell? at hc ⊢
        cases hb : H (a.add i).block with
        | none => rw [hb] at hc; cases hc
        | some o => rw [hk _ _ hb]; rw [hb] at hc; exact hc
      rw [this]
      simp only
      rw [ih _ _ hr]; rfl
theorem Sl.ext {H H' : Hp} {z : Nat} {v : Value} {n : Nat} {cs : List Value} (h : Sl H z v n cs) (hk : Ext H H') : Sl H' z v n cs := by
  obtain ⟨h1, h2⟩ := h
  refine ⟨h1, ?_⟩
  rcases h2 with h2 | ⟨b, off, cap, rfl, h3, h4⟩
  · exact .inl h2
  · exact .inr ⟨b, off, cap, rfl, h3, rdN_ext hk _ _ _ _ h4⟩
theorem cell_keep {H H' : Hp} {a : Addr} (h : H' a.block = H a.block) : H'.cell? a = H.cell? a := by unfold Hp.cell?; rw [h]
theorem add_block (a : Addr) (n : Nat) : (a.add n).block = a.block := by unfold Addr.add; split <;> rfl
theorem rdN_keep {H H' : Hp} {a : Addr} (h : H' a.block = H a.block) : ∀ (n i : Nat), rdN H' a i n = rdN H a i n := by
  intro n
  induction n with
  | zero => intro i; rfl
  | succ n ih => intro i; simp only [rdN]; rw [ih, cell_keep (H := H) (H' := H') (a := a.add i) ((add_block a i).symm ▸ h)]
theorem Sl.keep {H H' : Hp} {z : Nat} {v : Value} {n : Nat} {cs : List Value} (h : Sl H z v n cs) (hk : ∀ b, blk v = some b → H' b = H b) : Sl H' z v n cs := by
  obtain ⟨h1, h2⟩ := h
  refine ⟨h1, ?_⟩
  rcases h2 with h2 | ⟨b, off, cap, rfl, h3, h4⟩
  · exact .inl h2
  · exact .inr ⟨b, off, cap, rfl, h3, by rw [rdN_keep (hk b rfl)]; exact h4⟩

section
variable {P : Program} {l : Ents} {H : Hp}

theorem hw_pure {α : Type} (a : α) (H : Hp) (K : α → Hp → Prop) : hw P (pure a) H K = K a H := rfl

theorem hw_loadCells {a : Addr} {n : Nat} {cs : List Value} {K : Array Value → Hp → Prop} (h : rdN H a 0 n = some cs) (hk : K cs.toArray H) : hw P (loadCells a n) H K := by
  have key : ∀ (n i : Nat) (acc : Array Value) (cs : List Value) (K : Array Value → Hp → Prop), rdN H a i n = some cs → K (acc ++ cs.toArray) H → hw P (loadCellsFrom a i n acc) H K := by
    intro n
    induction n with
    | zero => intro i acc cs K h hk; cases h; simp only [List.append_toArray, Array.append_empty] at hk; exact hk
    | succ n ih =>
      intro i acc cs K h hk
      simp only [rdN] at h
      cases hc : H.cell? (a.add i) with
      | none => rw [hc] at h; cases h
      | some v =>
        rw [hc] at h
        obtain ⟨r, hr, rfl⟩ := Option.map_eq_some_iff.1 h
        unfold loadCellsFrom
        rw [hw_bind]
        refine ⟨v, hc, ?_⟩
        exact ih (i + 1) _ r K hr (by simpa using hk)
  exact key n 0 #[] cs K h (by simpa using hk)

theorem growBy_le (need : Nat) : ∀ (r c : Nat), c ≤ 2 * need + 192 → Builtin.growBy need r c ≤ 2 * need + 192 := by
  intro r
  induction r with
  | zero => intro c h; exact h
  | succ r ih =>
    intro c h
    unfold Builtin.growBy
    split
    · exact h
    · exact ih _ (by omega)
theorem nextcap_le {need cap : Nat} (h : cap < need) : Builtin.nextslicecap need cap ≤ 2 * need + 192 := by
  unfold Builtin.nextslicecap
  split
  · omega
  · split
    · omega
    · exact growBy_le need _ _ (by omega)

def Src (H : Hp) (z : Nat) (x : Value) (m : Nat) (ys : List Value) : Prop :=
  Sl H z x m ys ∨ ∃ s : ByteArray, x = .string s ∧ z = 1 ∧ m = s.size ∧ ys = s.data.toList.map fun b => .int .u8 b.toNat

theorem hw_src {z : Nat} {x : Value} {m : Nat} {ys : List Value} {K : Array Value → Hp → Prop} (h : Src H z x m ys) (hk : K ys.toArray H) : hw P (Builtin.firstCells z m x) H K := by
  rcases h with ⟨h1, h2⟩ | ⟨s, rfl, rfl, rfl, rfl⟩
  · rcases h2 with ⟨p, c, rfl, rfl⟩ | ⟨b, off, cap, rfl, h3, h4⟩
    · simp only [Nat.zero_mul, List.length_eq_zero_iff] at h1
      subst h1
      cases p with
      | none => exact hk
      | some a => exact hw_loadCells (n := 0 * z) (cs := []) (by rw [Nat.zero_mul]; rfl) hk
    · exact hw_loadCells h4 hk
  · have : ((s.extract 0 s.size).data.map fun b => Value.int .u8 b.toNat) = (s.data.toList.map fun b => Value.int .u8 b.toNat).toArray := by
      rw [ByteArray.extract_zero_size]
      apply Array.ext'; simp
    show K _ H
    simp only [this]; exact hk
theorem hw_lenOf {z : Nat} {x : Value} {m : Nat} {ys : List Value} {K : Nat → Hp → Prop} (h : Src H z x m ys) (hk : K m H) : hw P (Builtin.lenOf x) H K := by
  rcases h with ⟨h1, h2⟩ | ⟨s, rfl, rfl, rfl, rfl⟩
  · rcases h2 with ⟨p, c, rfl, rfl⟩ | ⟨b, off, cap, rfl, h3, h4⟩
    · exact hk
    · exact hk
  · exact hk

theorem Own.frame {H : Hp} {e : TypeId} {z : Nat} {v : Value} {n : Nat} {cs : List Value} (h : Own H e z v n cs) : ∃ a c, v = .slice a n c := by
  rcases h.2 with ⟨rfl, rfl⟩ | ⟨b, cap, rest, lo, hi, rfl, _⟩
  · exact ⟨_, _, rfl⟩
  · exact ⟨_, _, rfl⟩

def noInt : TypeDesc → Bool
  | .int _ => false
  | _ => true

theorem hw_append {sT xT ty e : TypeId} {d : TypeDesc} {z bs : Nat} {zv : Value} {s x : Value} {n m : Nat} {cs ys : List Value} {K : Value → Hp → Prop}
    (hsT : P.underlying sT = some (.slice e)) (hxT : P.underlying xT = some d) (hd : noInt d = true) (hz : szOf P e = some z) (hzv : zeroOf P e = some zv) (hzs : zv.cells.size = z) (hbs : bsOf P e = some bs)
    (hs : Own H e z s n cs) (hx : Src H z x m ys) (hy : ys.length = m * z) (h1 : ys.all isOne = true) (hroom : (2 * (n + m) + 192) * bs ≤ 2 ^ 48) (hlen : n + m < 2 ^ 62)
    (h : ∀ v H', Own H' e z v (n + m) (cs ++ ys) → (∀ b, blk s ≠ some b → ∀ o, H b = some o → H' b = some o) → (∀ b, blk v = some b → blk s = some b ∨ H b = none) → (m ≠ 0 → blk v ≠ none) → K v H') :
    hw P (Builtin.append_ #[sT, xT] ty #[s, x]) H K := by
  obtain ⟨a0, c0, hs0⟩ := hs.frame
  subst hs0
  unfold Builtin.append_
  simp only [List.getElem?_toArray, List.getElem?_cons_zero, List.getElem?_cons_succ]
  rw [hw_bind]
  refine hw_und hsT ?_
  simp only
  rw [hw_bind]
  refine hw_sz hz ?_
  rw [hw_bind]
  refine hw_und hxT ?_
  cases d
  case int k => cases hd
  all_goals
    clear hd hxT
    rw [hw_bind, hw_pure]
    simp only [Bool.false_eq_true, if_false, Bool.not_false, if_true, false_or]
    rw [hw_bind]
    refine hw_lenOf hx ?_
    by_cases hin : n + m ≤ c0
    · -- in place
      rw [if_pos hin, hw_bind]
      refine hw_src hx ?_
      rcases hs.2 with ⟨hv, hn⟩ | ⟨b, cap, rest, lo, hi, hv, hb, hr, hc, hf⟩
      · cases hv
        obtain rfl : m = 0 := by omega
        have hy0 : ys = [] := by simpa using hy
        subst hy0
        exact h _ H (by simpa using hs) (fun b _ o ho => ho) (fun b hb => by cases hb) (fun hm => absurd rfl hm)
      · cases hv
        simp only
        rw [hw_bind]
        have e1 : (⟨b, 0, none⟩ : Addr).add (n * z) = ⟨b, n * z, none⟩ := by rw [add_none]; simp
        rw [e1]
        have hl1 := hs.1
        have hmz : (n + m) * z = n * z + m * z := Nat.add_mul n m z
        have hcz : n * z + (c0 - n) * z = c0 * z := by rw [← Nat.add_mul]; congr 1; omega
        have hmc : (n + m) * z ≤ c0 * z := Nat.mul_le_mul_right z hin
        refine hw_storeCells ys (cs ++ rest) (n * z) 0 H _ hb (by simp only [List.length_append]; omega) h1 (by simp only [List.length_append] at hf ⊢; omega) ?_
        intro H1 hk1 hk2
        refine h _ H1 ⟨by simp only [List.length_append]; omega, .inr ⟨b, c0, rest.drop (m * z), lo, hi, rfl, ?_, ?_, hin, ?_⟩⟩ (fun b' hb' o ho => ?_) (fun b' hb' => .inl hb') (fun _ => by simp [blk])
        · rw [hk2]
          congr 3
          unfold spl
          have e2 : (cs ++ rest).take (n * z + 0) = cs := by rw [Nat.add_zero, ← hl1]; simp
          have e3 : (cs ++ rest).drop (n * z + 0 + ys.length) = rest.drop (m * z) := by
            rw [Nat.add_zero, hy, ← hl1, ← List.drop_drop]; simp
          rw [e2, e3]
        · have : (c0 - (n + m)) * z = (c0 - n) * z - m * z := by rw [← Nat.sub_mul]; congr 1; omega
          rw [List.length_drop, hr, this]
        · simp only [List.length_append, List.length_drop] at hf ⊢; omega
        · rw [hk1 b' (fun e => hb' (by rw [e]; rfl))]; exact ho
    · -- a new array
      rw [if_neg hin]
      have hng : ¬ ((n + m : Nat) : Int) > IntKind.i64.max := by
        have e : IntKind.i64.max = 9223372036854775807 := by decide
        rw [e]; omega
      refine hw_bytes hbs fun i1 hi1 => ?_
      rw [if_neg (fun hh => hng hh.1)]
      refine hw_bytes hbs fun i2 hi2 => ?_
      have hroom2 : ¬ Builtin.nextslicecap (n + m) c0 * i2.bytes > 2 ^ 48 := by
        rw [hi2]
        have := Nat.mul_le_mul_right bs (nextcap_le (show c0 < n + m by omega))
        omega
      rw [if_neg hroom2, hw_bind]
      refine ⟨fun hq => by simp [Question.forced] at hq, fun _ t => ?_⟩
      simp only [hw]
      have hcut : n + m ≤ Question.cut (.appendCap (n + m) c0 e) t := by simp [Question.cut]
      generalize Question.cut (.appendCap (n + m) c0 e) t = nc at hcut ⊢
      refine hw_bytes hbs fun i3 hi3 => ?_
      have hask : ∀ (K' : Unit → Hp → Prop), K' () H → hw P (askRoom (nc * i3.bytes)) H K' := by
        intro K' hk
        unfold askRoom
        split
        · exact hk
        · exact hk
      rw [hw_bind]
      refine hask _ ?_
      rw [hw_bind]
      have hold : Src H z (.slice a0 n c0) n cs := .inl hs.sl
      refine hw_src hold ?_
      rw [hw_bind]
      refine hw_src hx ?_
      rw [hw_bind]
      refine hw_zero hzv ?_
      rw [hw_bind]
      refine hw_newRow ?_
      intro b H1 hb hk1 hk2
      have hl1 := hs.1
      have hmz : (n + m) * z = n * z + m * z := Nat.add_mul n m z
      refine h _ H1 ⟨by simp only [List.length_append]; omega, .inr ⟨b, nc, (Builtin.zeroCells zv.cells (nc - (n + m))).toList, 0, 0, rfl, ?_, ?_, hcut, .inr (Nat.le_refl _)⟩⟩ (fun b' hb' o ho => hk1 _ _ ho) (fun b' hb' => .inr (by cases hb'; exact hb)) (fun _ => by simp [blk])
      · rw [hk2]
        congr 2
        apply Array.ext'
        simp
      · simp [Builtin.zeroCells, hzs]

theorem hgen_append {dd : Option Tmp} {s0 x0 : Operand} {T : TypeId} {pos : String} {aft : Array Edge} {gd : Option (Nat × Bool)} {sT xT e : TypeId} {d : TypeDesc} {z bs : Nat} {zv : Value} {s x : Value} {n m : Nat} {cs ys : List Value} {K : Value → Hp → Prop}
    (hs0 : evg l true s0 = some s) (hx0 : evg l true x0 = some x)
    (hsT : P.underlying sT = some (.slice e)) (hxT : P.underlying xT = some d) (hd : noInt d = true) (hz : szOf P e = some z) (hzv : zeroOf P e = some zv) (hzs : zv.cells.size = z) (hbs : bsOf P e = some bs)
    (hs : Own H e z s n cs) (hx : Src H z x m ys) (hy : ys.length = m * z) (h1 : ys.all isOne = true) (hroom : (2 * (n + m) + 192) * bs ≤ 2 ^ 48) (hlen : n + m < 2 ^ 62)
    (h : ∀ v H', Own H' e z v (n + m) (cs ++ ys) → (∀ b, blk s ≠ some b → ∀ o, H b = some o → H' b = some o) → (∀ b, blk v = some b → blk s = some b ∨ H b = none) → (m ≠ 0 → blk v ≠ none) → K v H') :
    hgen P l ⟨dd, .call ⟨.builtin .append, #[s0, x0], #[sT, xT]⟩, T, pos, aft, gd⟩ H K := by
  refine hgen_hw (by simp [Op.operands, Call.operands, hs0, hx0]) ?_
  simp only [execOp, resolve]
  rw [hw_bind, hw_pure]
  simp only [invoke, builtin]
  rw [hw_bind]
  simp only [List.map_toArray, List.map_cons, List.map_nil, hs0, hx0, Option.getD_some]
  exact hw_append hsT hxT hd hz hzv hzs hbs hs hx hy h1 hroom hlen h
end
end Go.Proofs.Ytkhmimlgkjenfaa.HL
