/- TexA: StrZ: texts as rows of bytes: rules. No condition. StaA: plain laws: walks, distances, the cycle told first, and how distances are found. No condition. StaB: plain laws: what is reached in depth, and the first that may come, step by step. No condition. StaC: plain laws: things by number and by name; the cycle told of numbers is the one told of names. No condition. StaD: plain laws: the order of variables, as the package and as the document make it. No condition. StaE: the order of texts; packages, files, variables and functions as they lie in memory. No condition. StaF: rows of several cells an element: an element replaced. No condition. StaG: what is wrong of a program: the first bad name, the first name met twice, the first that there is not. No condition. -/
import Derived.Test.YtkhmimlgkjenfaaHLmX
namespace Go.Proofs.Ytkhmimlgkjenfaa.HL
open Go
set_option linter.unusedSimpArgs false
set_option linter.unusedVariables false

theorem bstr_inj {a b : List UInt8} (h : bstr a = bstr b) : a = b := by
  have := congrArg (fun b : ByteArray => b.data.toList) h
  simpa [bstr] using this
theorem bstr_sz (l : List UInt8) : (bstr l).size = l.length := rfl
theorem bstr_of (s : ByteArray) : ∃ l, s = bstr l := ⟨s.data.toList, by apply ByteArray.ext; simp [bstr]⟩
theorem bstr_ext (l : List UInt8) (i j : Nat) : (bstr l).extract i j = bstr ((l.drop i).take (j - i)) := by
  apply ByteArray.ext
  rw [ByteArray.data_extract]
  simp [bstr]
theorem bt_bstr {s : List UInt8} {c : UInt8} {j : Int} (hc : s[j.toNat]? = some c) : bt (bstr s) j = (c.toNat : Int) := by
  have hlt : j.toNat < s.length := by
    rcases Nat.lt_or_ge j.toNat s.length with h' | h'
    · exact h'
    · rw [List.getElem?_eq_none h'] at hc; cases hc
  rw [List.getElem?_eq_getElem hlt] at hc
  show ((s.toArray.toList.getD j.toNat 0).toNat : Int) = _
  rw [List.getD_eq_getElem?_getD, List.toList_toArray, List.getElem?_eq_getElem hlt, Option.getD_some, Option.some.inj hc]
theorem bstr_dec (a b : List UInt8) : decide (bstr a = bstr b) = decide (a = b) := decide_eq_decide.2 ⟨bstr_inj, fun h => by rw [h]⟩
section
variable {P : Program} {l : Ents} {H : Hp} {L L' : List Res} {d : Option Tmp} {T : TypeId} {pos : String} {aft : Array Edge} {gd : Option (Nat × Bool)}
theorem q_lenb {x : Operand} {t : TypeId} {s : List UInt8} [hu : Und P t .string] (hx : evg l true x = some (.string (bstr s))) : QW P l H L ⟨d, .call ⟨.builtin .len, #[x], #[t]⟩, T, pos, aft, gd⟩ (.int .i64 s.length) := q_lens hx
theorem q_ixc {t : TypeId} {x i : Operand} {s : List UInt8} {k : IntKind} {j : Int} (c : UInt8) [hu : Und P t .string] (hx : evg l true x = some (.string (bstr s))) (hi : evg l true i = some (.int k j)) (hc : s[j.toNat]? = some c) (h0 : 0 ≤ j) :
    QW P l H L ⟨d, .index t x i, T, pos, aft, gd⟩ (.int .u8 (c.toNat : Int)) := by
  rw [← bt_bstr hc]
  refine q_ixstr hx hi h0 ?_
  have hlt : j.toNat < s.length := by
    rcases Nat.lt_or_ge j.toNat s.length with h' | h'
    · exact h'
    · rw [List.getElem?_eq_none h'] at hc; cases hc
  rw [bstr_sz]; omega
theorem q_sbhi {t : TypeId} {x hi : Operand} {s : List UInt8} {kd : IntKind} {j : Int} (k : Nat) [hu : Und P t .string] (hx : evg l true x = some (.string (bstr s))) (hh : evg l true hi = some (.int kd j)) (hj : j = (k : Int)) (hk : k ≤ s.length) :
    QW P l H L ⟨d, .slice t x none (some hi) none, T, pos, aft, gd⟩ (.string (bstr (s.take k))) := by
  have e0 : evo l true none = some none := rfl
  have e1 : evo l true (some hi) = some (some (.int kd j)) := by simp [evo, hh]
  have h := q_str (P := P) (H := H) (L := L) (d := d) (T := T) (pos := pos) (aft := aft) (gd := gd) (t := t) hx e0 e1 (bnd_hi (by omega) (by rw [bstr_sz]; omega))
  rw [bstr_ext, show j.toNat - 0 = k by omega, List.drop_zero] at h
  exact h
theorem q_sblo {t : TypeId} {x lo : Operand} {s : List UInt8} {kd : IntKind} {j : Int} (k : Nat) [hu : Und P t .string] (hx : evg l true x = some (.string (bstr s))) (hl : evg l true lo = some (.int kd j)) (hj : j = (k : Int)) (hk : k ≤ s.length) :
    QW P l H L ⟨d, .slice t x (some lo) none none, T, pos, aft, gd⟩ (.string (bstr (s.drop k))) := by
  have e0 : evo l true none = some none := rfl
  have e1 : evo l true (some lo) = some (some (.int kd j)) := by simp [evo, hl]
  have h := q_str (P := P) (H := H) (L := L) (d := d) (T := T) (pos := pos) (aft := aft) (gd := gd) (t := t) hx e1 e0 (bnd_lo (by omega) (by rw [bstr_sz]; omega) (Nat.le_refl _))
  rw [bstr_ext, show j.toNat = k by omega, List.take_of_length_le (by rw [List.length_drop, bstr_sz]; exact Nat.le_refl _)] at h
  exact h
theorem q_sbeq {t ty : TypeId} {x y : Operand} {a b : List UInt8} (hx : evg l true x = some (.string (bstr a))) (hy : evg l true y = some (.string (bstr b))) :
    QW P l H L ⟨d, .binOp .eql t x y ty, T, pos, aft, gd⟩ (.bool (decide (a = b))) := by
  rw [← bstr_dec]
  exact q_scmp hx hy rfl
theorem q_sbne {t ty : TypeId} {x y : Operand} {a b : List UInt8} (hx : evg l true x = some (.string (bstr a))) (hy : evg l true y = some (.string (bstr b))) :
    QW P l H L ⟨d, .binOp .neq t x y ty, T, pos, aft, gd⟩ (.bool (!decide (a = b))) := by
  rw [← bstr_dec]
  exact q_scmp hx hy rfl
end
section
variable {P : Program} {l : Ents} {H : Hp} {L : List Res} {d : Option Tmp} {T : TypeId} {pos : String} {aft : Array Edge} {gd : Option (Nat × Bool)} {t ty : TypeId} {x y : Operand} {a b : List UInt8}
theorem q_sbeqT (hx : evg l true x = some (.string (bstr a))) (hy : evg l true y = some (.string (bstr b))) (h : a = b) : QW P l H L ⟨d, .binOp .eql t x y ty, T, pos, aft, gd⟩ (.bool true) := by
  rw [← decide_eq_true h]; exact q_sbeq hx hy
theorem q_sbeqF (hx : evg l true x = some (.string (bstr a))) (hy : evg l true y = some (.string (bstr b))) (h : a ≠ b) : QW P l H L ⟨d, .binOp .eql t x y ty, T, pos, aft, gd⟩ (.bool false) := by
  rw [← decide_eq_false h]; exact q_sbeq hx hy
end
end Go.Proofs.Ytkhmimlgkjenfaa.HL
namespace Go.Proofs.Ytkhmimlgkjenfaa.HL
open Go
set_option linter.unusedVariables false

section
variable {α : Type} {E : α → α → Prop} {lt : α → α → Prop} {M : α → Prop} {a b c g : α} {k m : Nat} {l : List α}
inductive Walk (E : α → α → Prop) : Nat → α → α → Prop
  | one {a b : α} : E a b → Walk E 1 a b
  | step {k : Nat} {a b c : α} : E a b → Walk E k b c → Walk E (k + 1) a c
theorem Walk.pos (h : Walk E k a b) : 0 < k := by cases h <;> omega
theorem Walk.app (h : Walk E k a b) (h2 : Walk E m b c) : Walk E (k + m) a c := by
  induction h with
  | one e => rw [Nat.add_comm]; exact .step e h2
  | step e _ ih => rw [Nat.add_right_comm]; exact .step e (ih h2)
theorem Walk.cut (h : Walk E k a c) : (k = 1 ∧ E a c) ∨ ∃ j b, k = j + 1 ∧ E a b ∧ Walk E j b c := by
  cases h with
  | one e => exact .inl ⟨rfl, e⟩
  | step e h => exact .inr ⟨_, _, rfl, e, h⟩
theorem Walk.map {β : Type} {F : β → β → Prop} {f : α → β} (hf : ∀ x y, E x y → F (f x) (f y)) (h : Walk E k a b) : Walk F k (f a) (f b) := by
  induction h with
  | one e => exact .one (hf _ _ e)
  | step e _ ih => exact .step (hf _ _ e) ih
def Dist (E : α → α → Prop) (k : Nat) (a b : α) : Prop := Walk E k a b ∧ ∀ m, Walk E m a b → k ≤ m
theorem Dist.same (h : Dist E k a b) (h2 : Dist E m a b) : k = m := Nat.le_antisymm (h.2 _ h2.1) (h2.2 _ h.1)
theorem Walk.dist (h : Walk E k a b) : ∃ m, m ≤ k ∧ Dist E m a b := by
  induction k using Nat.strongRecOn with
  | ind k ih =>
    by_cases hx : ∃ m, m < k ∧ Walk E m a b
    · obtain ⟨m, h1, h2⟩ := hx
      obtain ⟨j, h3, h4⟩ := ih m h1 h2
      exact ⟨j, by omega, h4⟩
    · exact ⟨k, Nat.le_refl _, h, fun m hm => by
        rcases Nat.lt_or_ge m k with g | g
        · exact absurd ⟨m, g, hm⟩ hx
        · exact g⟩
inductive Told (E : α → α → Prop) (lt : α → α → Prop) (g : α) : Nat → α → List α → Prop
  | nil {a : α} : Told E lt g 0 a []
  | cons {k : Nat} {a b : α} {l : List α} : E a b → Dist E (k + 1) b g → (∀ x, E a x → Dist E (k + 1) x g → x ≠ b → lt b x) → Told E lt g k b l → Told E lt g (k + 1) a (b :: l)
theorem Told.one (hlt : ∀ x y, lt x y → ¬ lt y x) {l l' : List α} (h : Told E lt g k a l) (h' : Told E lt g k a l') : l = l' := by
  induction h generalizing l' with
  | nil => cases h'; rfl
  | @cons k a b l e d hm _ ih =>
    cases h' with
    | @cons _ _ b' l2 e' d' hm' t' =>
      by_cases hb : b' = b
      · subst hb; rw [ih t']
      · exact absurd (hm b' e' d' hb) (hlt _ _ (hm' b e d (fun h => hb h.symm)))
def CycS (E : α → α → Prop) (M : α → Prop) (lt : α → α → Prop) (out : List α) : Prop :=
  (out = [] ∧ ∀ a k, M a → ¬ Walk E k a a) ∨
  ∃ a k l, out = a :: l ∧ M a ∧ Dist E (k + 1) a a ∧ (∀ b m, M b → Walk E m b b → k + 1 ≤ m) ∧ (∀ b, M b → Dist E (k + 1) b b → b ≠ a → lt a b) ∧ Told E lt a k a l
theorem CycS.same (hlt : ∀ x y, lt x y → ¬ lt y x) {l l' : List α} (h : CycS E M lt l) (h' : CycS E M lt l') : l = l' := by
  rcases h with ⟨rfl, h1⟩ | ⟨a, k, r, rfl, h1, h2, h3, h4, h5⟩
  · rcases h' with ⟨rfl, _⟩ | ⟨a, k, r, rfl, g1, g2, _⟩
    · rfl
    · exact absurd g2.1 (h1 a _ g1)
  · rcases h' with ⟨rfl, g1⟩ | ⟨a', k', r', rfl, g1, g2, g3, g4, g5⟩
    · exact absurd h2.1 (g1 a _ h1)
    · have hk : k = k' := by
        have := h3 a' _ g1 g2.1
        have := g3 a _ h1 h2.1
        omega
      subst hk
      have ha : a' = a := by
        by_cases ha : a' = a
        · exact ha
        · exact absurd (h4 a' g1 g2 ha) (hlt _ _ (g4 a h1 h2 (fun h => ha h.symm)))
      subst ha
      rw [h5.one hlt g5]
theorem Told.far (h : Told E lt g k a l) : ∀ x ∈ l, ∃ j, 0 < j ∧ j ≤ k ∧ Dist E j x g := by
  induction h with
  | nil => intro x hx; cases hx
  | @cons k a b l e d _ _ ih =>
    intro x hx
    rcases List.mem_cons.1 hx with rfl | hx
    · exact ⟨k + 1, by omega, Nat.le_refl _, d⟩
    · obtain ⟨j, h1, h2, h3⟩ := ih x hx
      exact ⟨j, h1, by omega, h3⟩
theorem Told.nodup (h : Told E lt g k a l) : l.Nodup := by
  induction h with
  | nil => exact List.nodup_nil
  | @cons k a b l e d _ t ih =>
    refine List.nodup_cons.2 ⟨fun hb => ?_, ih⟩
    obtain ⟨j, _, h2, h3⟩ := t.far b hb
    have := d.same h3
    omega
theorem CycS.nodup {l : List α} (h : CycS E M lt l) : l.Nodup := by
  rcases h with ⟨rfl, _⟩ | ⟨a, k, r, rfl, h1, h2, _, _, h5⟩
  · exact List.nodup_nil
  · refine List.nodup_cons.2 ⟨fun hb => ?_, h5.nodup⟩
    obtain ⟨j, _, h3, h4⟩ := h5.far a hb
    have := h2.same h4
    omega
theorem Told.len (h : Told E lt g k a l) : l.length = k := by
  induction h with
  | nil => rfl
  | cons _ _ _ _ ih => rw [List.length_cons, ih]
theorem Told.next (h : Told E lt g k a l) (hd : k = 0 → E a g) : ∀ i x, (a :: l)[i]? = some x → E x (((a :: l) ++ [g])[i + 1]?.getD g) := by
  induction h with
  | @nil a =>
    intro i x hx
    cases i with
    | zero => cases hx; exact hd rfl
    | succ i => simp at hx
  | @cons k a b l e d _ t ih =>
    intro i x hx
    cases i with
    | zero => cases hx; exact e
    | succ i =>
      refine ih (fun hk => ?_) i x hx
      subst hk
      rcases d.1.cut with ⟨_, h1⟩ | ⟨j, y, h1, _, h3⟩
      · exact h1
      · have := h3.pos; omega
end
def Nx (next : List (List Nat)) (i k : Nat) : Prop := ∃ r, next[i]? = some r ∧ k ∈ r
def setN (d : List Int) : Nat := d.countP (fun v => decide (0 ≤ v))
def FarI (next : List (List Nat)) (to : Nat) (d : List Int) : Prop :=
  d.length = next.length ∧ ∀ i v, d[i]? = some v → v = -1 ∨ ∃ k : Nat, v = (k : Int) ∧ Walk (Nx next) k i to ∧ k ≤ setN d
def muF (n : Nat) : List Int → Nat
  | [] => 0
  | v :: l => (if v < 0 then n + 1 else v.toNat) + muF n l
theorem setN_le (d : List Int) : setN d ≤ d.length := List.countP_le_length
theorem setN_set {d : List Int} {i : Nat} {v s : Int} (h : d[i]? = some v) (hs : 0 ≤ s) : setN (d.set i s) = setN d + (if v < 0 then 1 else 0) := by
  induction d generalizing i with
  | nil => cases h
  | cons x d ih =>
    cases i with
    | zero =>
      obtain rfl : x = v := by simpa using h
      unfold setN
      rw [List.set_cons_zero, List.countP_cons, List.countP_cons]
      by_cases hx : x < 0
      · rw [if_pos hx, if_pos (by simpa using hs), if_neg (by simp; omega)]
      · rw [if_neg hx, if_pos (by simpa using hs), if_pos (by simp; omega)]
    | succ i =>
      have := ih (i := i) h
      unfold setN at this ⊢
      rw [List.set_cons_succ, List.countP_cons, List.countP_cons, this]
      omega
theorem muF_set {n : Nat} {d : List Int} {i : Nat} {v s : Int} (h : d[i]? = some v) (hs : 0 ≤ s) (hn : s ≤ n) (hv : v < 0 ∨ s < v) : muF n (d.set i s) < muF n d := by
  induction d generalizing i with
  | nil => cases h
  | cons x d ih =>
    cases i with
    | zero =>
      obtain rfl : x = v := by simpa using h
      rw [List.set_cons_zero]
      unfold muF
      rw [if_neg (show ¬ s < 0 by omega)]
      by_cases hx : x < 0
      · rw [if_pos hx]; omega
      · rw [if_neg hx]; omega
    | succ i =>
      have := ih (i := i) h
      rw [List.set_cons_succ]
      unfold muF
      omega
theorem far_init (next : List (List Nat)) (to : Nat) : FarI next to (List.replicate next.length (-1)) :=
  ⟨List.length_replicate, fun i v h => .inl (by
    rw [List.getElem?_replicate] at h
    split at h
    · cases h; rfl
    · cases h)⟩
theorem far_set {next : List (List Nat)} {to : Nat} {d : List Int} {i k : Nat} {v s : Int} (hI : FarI next to d) (h : d[i]? = some v) (he : Nx next i k) (hs : (k = to ∧ s = 1) ∨ ∃ w, d[k]? = some w ∧ 0 ≤ w ∧ s = w + 1) (hv : v < 0 ∨ s < v) :
    FarI next to (d.set i s) ∧ muF next.length (d.set i s) < muF next.length d := by
  have hw : ∃ j : Nat, s = (j : Int) ∧ Walk (Nx next) j i to ∧ j ≤ setN d + 1 := by
    rcases hs with ⟨rfl, rfl⟩ | ⟨w, h1, h2, rfl⟩
    · exact ⟨1, rfl, .one he, by omega⟩
    · rcases hI.2 k w h1 with h3 | ⟨j, h3, h4, h5⟩
      · omega
      · exact ⟨j + 1, by omega, .step he h4, by omega⟩
  obtain ⟨j, rfl, hwk, hj⟩ := hw
  have hc := setN_set (s := (j : Int)) h (by omega)
  have hj2 : j ≤ setN (d.set i (j : Int)) := by
    rw [hc]
    by_cases hv0 : v < 0
    · rw [if_pos hv0]; exact hj
    · rw [if_neg hv0]
      rcases hI.2 i v h with g | ⟨m, g, _, g2⟩ <;> omega
  have hlen := setN_le (d.set i (j : Int))
  rw [List.length_set, hI.1] at hlen
  refine ⟨⟨by rw [List.length_set]; exact hI.1, fun x u hu => ?_⟩, muF_set h (by omega) (by omega) hv⟩
  by_cases hx : x = i
  · subst hx
    have hlt : x < d.length := by
      rcases Nat.lt_or_ge x d.length with g | g
      · exact g
      · rw [List.getElem?_eq_none g] at h; cases h
    rw [List.getElem?_set_self hlt] at hu
    cases hu
    exact .inr ⟨j, rfl, hwk, hj2⟩
  · rw [List.getElem?_set_ne (fun h => hx h.symm)] at hu
    rcases hI.2 x u hu with g | ⟨m, g1, g2, g3⟩
    · exact .inl g
    · exact .inr ⟨m, g1, g2, by rw [hc]; split <;> omega⟩
def Still (to : Nat) (d : List Int) (i k : Nat) : Prop := ∃ v, d[i]? = some v ∧ (k = to → 0 ≤ v ∧ v ≤ 1) ∧ (k ≠ to → ∀ w, d[k]? = some w → 0 ≤ w → 0 ≤ v ∧ v ≤ w + 1)
theorem far_done {next : List (List Nat)} {to : Nat} {d : List Int} (hI : FarI next to d) (hS : ∀ i k, Nx next i k → Still to d i k) {i : Nat} {v : Int} (h : d[i]? = some v) :
    (v = -1 ∧ ∀ m, ¬ Walk (Nx next) m i to) ∨ ∃ k : Nat, v = (k : Int) ∧ Dist (Nx next) k i to := by
  have lo : ∀ m a b, Walk (Nx next) m a b → b = to → ∃ w, d[a]? = some w ∧ 0 ≤ w ∧ w ≤ m := by
    intro m a b hw
    induction hw with
    | @one a b e =>
      intro hb
      obtain ⟨w, h1, h2, _⟩ := hS _ _ e
      have := h2 hb
      exact ⟨w, h1, by omega, by omega⟩
    | @step m a b c e _ ih =>
      intro hc
      obtain ⟨u, h3, h4, h5⟩ := ih hc
      obtain ⟨w, h1, h2, h6⟩ := hS _ _ e
      by_cases hb : b = to
      · have := h2 hb
        exact ⟨w, h1, by omega, by omega⟩
      · have := h6 hb u h3 h4
        exact ⟨w, h1, by omega, by omega⟩
  rcases hI.2 i v h with g | ⟨k, g, hw, _⟩
  · refine .inl ⟨g, fun m hm => ?_⟩
    obtain ⟨w, h1, h2, _⟩ := lo m i to hm rfl
    rw [h] at h1
    cases h1
    omega
  · refine .inr ⟨k, g, hw, fun m hm => ?_⟩
    obtain ⟨w, h1, _, h3⟩ := lo m i to hm rfl
    rw [h] at h1
    cases h1
    omega
end Go.Proofs.Ytkhmimlgkjenfaa.HL
namespace Go.Proofs.Ytkhmimlgkjenfaa.HL
open Go
set_option linter.unusedVariables false

def Dn (d : List Bool) (x : Nat) : Prop := d[x]? = some true
theorem dn_set {d : List Bool} {x y : Nat} (hx : x < d.length) : Dn (d.set x true) y ↔ Dn d y ∨ y = x := by
  unfold Dn
  by_cases h : y = x
  · subst h; rw [List.getElem?_set_self hx]; simp
  · rw [List.getElem?_set_ne (fun g => h g.symm)]; simp [h]
structure Dfs (next : List (List Nat)) (V : Nat → Prop) (k j : Nat) (r : List Nat) (d d' : List Bool) (o o' : List Nat) : Prop where
  len : d'.length = d.length
  up : ∀ x, Dn d x → Dn d' x
  shut : ∀ x, Dn d' x → ¬ Dn d x → ∀ y, Nx next x y → Dn d' y
  here : ∀ y ∈ r.take j, Dn d' y
  way : ∀ x, Dn d' x → ¬ Dn d x → ∃ m, Walk (Nx next) m k x
  out : ∀ y, y ∈ o' ↔ y ∈ o ∨ (Dn d' y ∧ ¬ Dn d y ∧ V y)
section
variable {next : List (List Nat)} {V : Nat → Prop} {k j : Nat} {r : List Nat} {d d' : List Bool} {o o' : List Nat}
theorem Dfs.start : Dfs next V k 0 r d d o o :=
  ⟨rfl, fun _ h => h, fun x h h2 => absurd h h2, fun y hy => (by rw [List.take_zero] at hy; cases hy), fun x h h2 => absurd h h2, fun y => ⟨.inl, fun h => h.elim id fun h => absurd h.1 h.2.1⟩⟩
theorem Dfs.skip {x : Nat} (h : Dfs next V k j r d d' o o') (hx : r[j]? = some x) (hd : Dn d' x) : Dfs next V k (j + 1) r d d' o o' := by
  refine { h with here := fun y hy => ?_ }
  rw [List.take_add_one, hx] at hy
  rcases List.mem_append.1 hy with g | g
  · exact h.here y g
  · obtain rfl : y = x := by simpa using g
    exact hd
theorem Dfs.walk {x m : Nat} {r2 : List Nat} {d2 : List Bool} {o1 o2 : List Nat} (h : Dfs next V k j r d d' o o') (hn : next[k]? = some r) (hn2 : next[x]? = some r2) (hx : r[j]? = some x) (hl : x < d'.length) (hd : ¬ Dn d' x)
    (ho : ∀ y, y ∈ o1 ↔ y ∈ o' ∨ (y = x ∧ V x)) (h2 : Dfs next V x r2.length r2 (d'.set x true) d2 o1 o2) : Dfs next V k (j + 1) r d d2 o o2 := by
  have hkx : Nx next k x := ⟨r, hn, List.mem_of_getElem? hx⟩
  have s := @dn_set d' x
  have hxd : ¬ Dn d x := fun g => hd (h.up x g)
  have nw : ∀ y, Dn d2 y → ¬ Dn d y → (Dn d' y ∧ ¬ Dn d y) ∨ y = x ∨ (Dn d2 y ∧ ¬ Dn (d'.set x true) y) := by
    intro y h1 h3
    by_cases g : Dn (d'.set x true) y
    · rcases (s hl).1 g with g | g
      · exact .inl ⟨g, h3⟩
      · exact .inr (.inl g)
    · exact .inr (.inr ⟨h1, g⟩)
  have up2 : ∀ y, Dn d' y → Dn d2 y := fun y g => h2.up y ((s hl).2 (.inl g))
  refine ⟨by rw [h2.len, List.length_set, h.len], fun y g => up2 y (h.up y g), fun y h1 h3 z hz => ?_, fun y hy => ?_, fun y h1 h3 => ?_, fun y => ?_⟩
  · rcases nw y h1 h3 with ⟨g1, g2⟩ | rfl | ⟨g1, g2⟩
    · exact up2 z (h.shut y g1 g2 z hz)
    · obtain ⟨r', g3, g4⟩ := hz
      rw [hn2] at g3
      cases g3
      exact h2.here z (by rw [List.take_length]; exact g4)
    · exact h2.shut y g1 g2 z hz
  · rw [List.take_add_one, hx] at hy
    rcases List.mem_append.1 hy with g | g
    · exact up2 y (h.here y g)
    · obtain rfl : y = x := by simpa using g
      exact h2.up y ((s hl).2 (.inr rfl))
  · rcases nw y h1 h3 with ⟨g1, g2⟩ | rfl | ⟨g1, g2⟩
    · exact h.way y g1 g2
    · exact ⟨1, .one hkx⟩
    · obtain ⟨m, hm⟩ := h2.way y g1 g2
      exact ⟨m + 1, .step hkx hm⟩
  · rw [h2.out, ho, h.out]
    constructor
    · rintro ((g | ⟨rfl, g⟩) | ⟨g1, g2, g3⟩)
      · rcases g with g | ⟨g1, g2, g3⟩
        · exact .inl g
        · exact .inr ⟨up2 y g1, g2, g3⟩
      · exact .inr ⟨h2.up y ((s hl).2 (.inr rfl)), hxd, g⟩
      · exact .inr ⟨g1, fun g => g2 ((s hl).2 (.inl (h.up y g))), g3⟩
    · rintro (g | ⟨g1, g2, g3⟩)
      · exact .inl (.inl (.inl g))
      · rcases nw y g1 g2 with ⟨g4, _⟩ | rfl | ⟨_, g5⟩
        · exact .inl (.inl (.inr ⟨g4, g2, g3⟩))
        · exact .inl (.inr ⟨rfl, g3⟩)
        · exact .inr ⟨g1, g5, g3⟩
theorem Dfs.all (h : Dfs next V k r.length r d d' [] o') (hn : next[k]? = some r) (h0 : ∀ x, ¬ Dn d x) (y : Nat) : y ∈ o' ↔ V y ∧ ∃ m, Walk (Nx next) m k y := by
  have go : ∀ m a b, Walk (Nx next) m a b → (∀ c, Nx next a c → Dn d' c) → Dn d' b := by
    intro m a b hw
    induction hw with
    | one e => intro g; exact g _ e
    | step e _ ih => intro g; exact ih fun c hc => h.shut _ (g _ e) (h0 _) c hc
  rw [h.out]
  constructor
  · rintro (g | ⟨g1, g2, g3⟩)
    · cases g
    · exact ⟨g3, h.way y g1 g2⟩
  · rintro ⟨g1, m, g2⟩
    exact .inr ⟨go m k y g2 fun c ⟨r', e1, e2⟩ => by rw [hn] at e1; cases e1; exact h.here c (by rw [List.take_length]; exact e2), h0 y, g1⟩
end
inductive Steps {α : Type} (R : List α → α → Prop) (L : List α) : List α → Prop
  | nil : Steps R L []
  | snoc {o A B : List α} {x : α} : Steps R L o → L = A ++ x :: B → R o x → (∀ y ∈ A, ¬ R o y) → Steps R L (o ++ [x])
section
variable {α : Type} {R R' : List α → α → Prop} {L o o' : List α}
theorem first_one {P : α → Prop} {A B A' B' : List α} {x x' : α} (h : A ++ x :: B = A' ++ x' :: B') (hx : P x) (hA : ∀ y ∈ A, ¬ P y) (hx' : P x') (hA' : ∀ y ∈ A', ¬ P y) : x = x' := by
  induction A generalizing A' with
  | nil =>
    cases A' with
    | nil => exact (List.cons.inj h).1
    | cons a A' => exact absurd hx ((List.cons.inj h).1 ▸ hA' a (List.mem_cons_self ..))
  | cons a A ih =>
    cases A' with
    | nil => exact absurd hx' ((List.cons.inj h).1 ▸ hA a (List.mem_cons_self ..))
    | cons a' A' => exact ih (List.cons.inj h).2 (fun y hy => hA y (List.mem_cons_of_mem _ hy)) (fun y hy => hA' y (List.mem_cons_of_mem _ hy))
theorem Steps.imp (h : Steps R L o) (hR : ∀ p x, Steps R L p → (R p x ↔ R' p x)) : Steps R' L o := by
  induction h with
  | nil => exact .nil
  | snoc hs hL hx hA ih => exact .snoc ih hL ((hR _ _ hs).1 hx) fun y hy g => hA y hy ((hR _ _ hs).2 g)
theorem Steps.take (h : Steps R L o) (n : Nat) : Steps R L (o.take n) := by
  induction h with
  | nil => rw [List.take_nil]; exact .nil
  | @snoc o A B x hs hL hx hA ih =>
    rcases Nat.lt_or_ge o.length n with g | g
    · rw [List.take_of_length_le (by simp; omega)]; exact .snoc hs hL hx hA
    · rw [List.take_append_of_le_length g]; exact ih
theorem Steps.eq_of_len (h : Steps R L o) (h' : Steps R L o') (hl : o.length = o'.length) : o = o' := by
  induction h generalizing o' with
  | nil => exact (List.length_eq_zero_iff.1 hl.symm).symm
  | @snoc o A B x hs hL hx hA ih =>
    cases h' with
    | nil => simp at hl
    | snoc hs' hL' hx' hA' =>
      have := ih hs' (by simpa using hl)
      subst this
      rw [first_one (P := R o) (hL.symm.trans hL') hx hA hx' hA']
end
theorem ready_ex {n : Nat} {V : Nat → Prop} {R : Nat → Nat → Prop} (ht : ∀ a b c, R a b → R b c → R a c) (hirr : ∀ a, V a → ¬ R a a) (o : Nat → Prop) :
    ∀ x, x < n → V x → ¬ o x → ∃ y, y < n ∧ V y ∧ ¬ o y ∧ ∀ z, z < n → V z → R y z → o z := by
  classical
  intro x
  generalize hc : (List.range n).countP (fun y => decide (V y ∧ R x y ∧ ¬ o y)) = c
  induction c using Nat.strongRecOn generalizing x with
  | ind c ih =>
    intro hx hV ho
    by_cases h : ∃ z, z < n ∧ V z ∧ R x z ∧ ¬ o z
    · obtain ⟨z, h1, h2, h3, h4⟩ := h
      have hlt : (List.range n).countP (fun y => decide (V y ∧ R z y ∧ ¬ o y)) < (List.range n).countP (fun y => decide (V y ∧ R x y ∧ ¬ o y)) := by
        have key : ∀ l : List Nat, z ∈ l → l.countP (fun y => decide (V y ∧ R z y ∧ ¬ o y)) < l.countP (fun y => decide (V y ∧ R x y ∧ ¬ o y)) := by
          have le : ∀ l : List Nat, l.countP (fun y => decide (V y ∧ R z y ∧ ¬ o y)) ≤ l.countP (fun y => decide (V y ∧ R x y ∧ ¬ o y)) := fun l =>
            List.countP_mono_left fun y _ hy => by
              have := of_decide_eq_true hy
              exact decide_eq_true ⟨this.1, ht _ _ _ h3 this.2.1, this.2.2⟩
          intro l
          induction l with
          | nil => intro h; cases h
          | cons a l il =>
            intro hz
            rw [List.countP_cons, List.countP_cons]
            rcases List.mem_cons.1 hz with rfl | hz
            · rw [if_neg (by simp only [jA]; exact fun g => hirr _ h2 g.2.1), if_pos (decide_eq_true ⟨h2, h3, h4⟩)]
              have := le l
              omega
            · have := il hz
              by_cases g : V a ∧ R z a ∧ ¬ o a
              · rw [if_pos (decide_eq_true g), if_pos (decide_eq_true ⟨g.1, ht _ _ _ h3 g.2.1, g.2.2⟩)]; omega
              · rw [if_neg (by simpa using g)]; omega
        exact key _ (List.mem_range.2 h1)
      rw [hc] at hlt
      exact ih _ hlt z rfl h1 h2 h4
    · exact ⟨x, hx, hV, ho, fun z h1 h2 h3 => Classical.byContradiction fun h4 => h ⟨z, h1, h2, h3, h4⟩⟩
inductive ByF {α : Type} (E : α → α → Prop) (V : α → Prop) : α → α → Prop
  | one {a b : α} : E a b → ByF E V a b
  | step {a b c : α} : E a b → ¬ V b → ByF E V b c → ByF E V a c
theorem ByF.walk {α : Type} {E : α → α → Prop} {V : α → Prop} {a b : α} (h : ByF E V a b) : ∃ m, Walk E m a b := by
  induction h with
  | one e => exact ⟨1, .one e⟩
  | step e _ _ ih => obtain ⟨m, hm⟩ := ih; exact ⟨m + 1, .step e hm⟩
theorem byF_all {α : Type} {E : α → α → Prop} {V : α → Prop} {o : α → Prop} (hs : ∀ z, o z → ∀ m y, Walk E m z y → V y → o y) {x : α} :
    (∀ y, ByF E V x y → V y → o y) ↔ ∀ m y, Walk E m x y → V y → o y := by
  constructor
  · intro h m y hw
    induction hw with
    | one e => exact fun hv => h _ (.one e) hv
    | @step k a b c e w ih =>
      by_cases hb : V b
      · exact fun hv => hs b (h b (.one e) hb) _ _ w hv
      · exact ih fun y hy hv => h y (.step e hb hy) hv
  · intro h y hy hv
    obtain ⟨m, hm⟩ := hy.walk
    exact h m y hm hv
end Go.Proofs.Ytkhmimlgkjenfaa.HL
namespace Go.Proofs.Ytkhmimlgkjenfaa.HL
open Go
set_option linter.unusedVariables false

section
variable {T N : Type} {nm : T → N} {us : T → List N} {t t' : List T} {next : List (List Nat)} {i k m : Nat} {x y : T}
def NE (nm : T → N) (us : T → List N) (t : List T) (a b : N) : Prop := ∃ x, x ∈ t ∧ nm x = a ∧ b ∈ us x ∧ ∃ y, y ∈ t ∧ nm y = b
structure Net (nm : T → N) (us : T → List N) (t : List T) (next : List (List Nat)) : Prop where
  len : next.length = t.length
  lt : ∀ i k, Nx next i k → k < t.length
  iff : ∀ i k x y, t[i]? = some x → t[k]? = some y → (Nx next i k ↔ nm y ∈ us x)
theorem get_one (hd : (t.map nm).Nodup) (hi : t[i]? = some x) (hk : t[k]? = some y) (h : nm x = nm y) : i = k ∧ x = y := by
  have h1 : (t.map nm)[i]? = some (nm x) := by rw [List.getElem?_map, hi]; rfl
  have h2 : (t.map nm)[k]? = some (nm y) := by rw [List.getElem?_map, hk]; rfl
  obtain ⟨l1, e1⟩ := List.getElem?_eq_some_iff.1 h1
  obtain ⟨l2, e2⟩ := List.getElem?_eq_some_iff.1 h2
  have : i = k := (List.getElem_inj hd).1 (by rw [e1, e2, h])
  subst this
  rw [hi] at hk
  exact ⟨rfl, by cases hk; rfl⟩
theorem NE.at (hd : (t.map nm).Nodup) {a b : N} (h : NE nm us t a b) (hi : t[i]? = some x) (ha : nm x = a) : b ∈ us x ∧ ∃ (k : Nat) (y : T), t[k]? = some y ∧ nm y = b := by
  obtain ⟨x', hx, h1, h2, y, hy, h3⟩ := h
  obtain ⟨i', hi'⟩ := List.mem_iff_getElem?.1 hx
  obtain ⟨k, hk⟩ := List.mem_iff_getElem?.1 hy
  obtain ⟨_, rfl⟩ := get_one hd hi hi' (ha.trans h1.symm)
  exact ⟨h2, k, y, hk, h3⟩
theorem Net.ne (hN : Net nm us t next) (hd : (t.map nm).Nodup) (hi : t[i]? = some x) (hk : t[k]? = some y) : Nx next i k ↔ NE nm us t (nm x) (nm y) := by
  rw [hN.iff i k x y hi hk]
  exact ⟨fun h => ⟨x, List.mem_of_getElem? hi, rfl, h, y, List.mem_of_getElem? hk, rfl⟩, fun h => (h.at hd hi rfl).1⟩
theorem Net.walk (hN : Net nm us t next) (hd : (t.map nm).Nodup) (hi : t[i]? = some x) (hk : t[k]? = some y) : Walk (Nx next) m i k ↔ Walk (NE nm us t) m (nm x) (nm y) := by
  have up : ∀ m i k, Walk (Nx next) m i k → ∀ x y, t[i]? = some x → t[k]? = some y → Walk (NE nm us t) m (nm x) (nm y) := by
    intro m i k h
    induction h with
    | one e => intro x y hi hk; exact .one ((hN.ne hd hi hk).1 e)
    | step e _ ih =>
      intro x y hi hk
      have hl := hN.lt _ _ e
      exact .step ((hN.ne hd hi (List.getElem?_eq_getElem hl)).1 e) (ih _ _ (List.getElem?_eq_getElem hl) hk)
  have dn : ∀ m a b, Walk (NE nm us t) m a b → ∀ i k x y, t[i]? = some x → t[k]? = some y → nm x = a → nm y = b → Walk (Nx next) m i k := by
    intro m a b h
    induction h with
    | one e => rintro i k x y hi hk rfl rfl; exact .one ((hN.ne hd hi hk).2 e)
    | step e _ ih =>
      rintro i k x y hi hk rfl rfl
      obtain ⟨_, j, z, hj, rfl⟩ := e.at hd hi rfl
      exact .step ((hN.ne hd hi hj).2 e) (ih j k z y hj hk rfl rfl)
  exact ⟨fun h => up m i k h x y hi hk, fun h => dn _ _ _ h i k x y hi hk rfl rfl⟩
theorem Net.dist (hN : Net nm us t next) (hd : (t.map nm).Nodup) (hi : t[i]? = some x) (hk : t[k]? = some y) : Dist (Nx next) m i k ↔ Dist (NE nm us t) m (nm x) (nm y) := by
  unfold Dist
  rw [hN.walk hd hi hk]
  exact ⟨fun ⟨h1, h2⟩ => ⟨h1, fun j hj => h2 j ((hN.walk hd hi hk).2 hj)⟩, fun ⟨h1, h2⟩ => ⟨h1, fun j hj => h2 j ((hN.walk hd hi hk).1 hj)⟩⟩
theorem ne_perm (h : ∀ x, x ∈ t ↔ x ∈ t') : NE nm us t = NE nm us t' := by
  funext a b
  unfold NE
  simp only [h]
theorem Net.end (hN : Net nm us t next) (h : Walk (Nx next) m i k) : k < t.length := by
  induction h with
  | one e => exact hN.lt _ _ e
  | step _ _ ih => exact ih
theorem Net.start (hN : Net nm us t next) (h : Walk (Nx next) m i k) : i < t.length := by
  have : ∀ {a b}, Nx next a b → a < t.length := fun {a b} ⟨r, h1, _⟩ => by
    rw [← hN.len]
    rcases Nat.lt_or_ge a next.length with g | g
    · exact g
    · rw [List.getElem?_eq_none g] at h1; cases h1
  rcases h.cut with ⟨_, e⟩ | ⟨_, _, _, e, _⟩ <;> exact this e
theorem ne_mem' {a b : N} (h : NE nm us t a b) : ∃ (i : Nat) (x : T), t[i]? = some x ∧ nm x = b := by
  obtain ⟨_, _, _, _, y, hy, h1⟩ := h
  obtain ⟨i, hi⟩ := List.mem_iff_getElem?.1 hy
  exact ⟨i, y, hi, h1⟩
def FarD (next : List (List Nat)) (to : Nat) (d : List Int) : Prop :=
  d.length = next.length ∧ ∀ (i : Nat) (v : Int), d[i]? = some v → (v = -1 ∧ ∀ m, ¬ Walk (Nx next) m i to) ∨ ∃ k : Nat, v = (k : Int) ∧ Dist (Nx next) k i to
theorem far_farD {to : Nat} {d : List Int} (hI : FarI next to d) (hS : ∀ i k, Nx next i k → Still to d i k) : FarD next to d := ⟨hI.1, fun _ _ h => far_done hI hS h⟩
variable {lt : N → N → Prop} {va : T → Prop}
def BestC (nm : T → N) (lt : N → N → Prop) (va : T → Prop) (t : List T) (next : List (List Nat)) (n : Nat) (best : Option Nat) : Prop :=
  match best with
  | none => ∀ i x, i < n → t[i]? = some x → va x → ∀ m, ¬ Walk (Nx next) m i i
  | some b => ∃ xb k, t[b]? = some xb ∧ va xb ∧ Dist (Nx next) (k + 1) b b ∧ (∀ i x m, i < n → t[i]? = some x → va x → Walk (Nx next) m i i → k + 1 ≤ m) ∧ ∀ i x, i < n → t[i]? = some x → va x → Dist (Nx next) (k + 1) i i → i ≠ b → lt (nm xb) (nm x)
theorem BestC.none_cyc (hN : Net nm us t next) (hd : (t.map nm).Nodup) (h : BestC nm lt va t next t.length none) : CycS (NE nm us t) (fun a => ∃ x, x ∈ t ∧ nm x = a ∧ va x) lt [] := by
  refine .inl ⟨rfl, ?_⟩
  rintro a k ⟨x, hx, rfl, hv⟩ hw
  obtain ⟨i, hi⟩ := List.mem_iff_getElem?.1 hx
  have hl : i < t.length := (List.getElem?_eq_some_iff.1 hi).1
  exact h i x hl hi hv k ((hN.walk hd hi hi).2 hw)
theorem BestC.some_cyc (hN : Net nm us t next) (hd : (t.map nm).Nodup) {b : Nat} (h : BestC nm lt va t next t.length (some b)) :
    ∃ xb k, t[b]? = some xb ∧ Dist (Nx next) (k + 1) b b ∧ ∀ l, Told (NE nm us t) lt (nm xb) k (nm xb) l → CycS (NE nm us t) (fun a => ∃ x, x ∈ t ∧ nm x = a ∧ va x) lt (nm xb :: l) := by
  obtain ⟨xb, k, hb, hv, hD, h1, h2⟩ := h
  refine ⟨xb, k, hb, hD, fun l hl => .inr ⟨nm xb, k, l, rfl, ⟨xb, List.mem_of_getElem? hb, rfl, hv⟩, (hN.dist hd hb hb).1 hD, ?_, ?_, hl⟩⟩
  · rintro a m ⟨x, hx, rfl, hvx⟩ hw
    obtain ⟨i, hi⟩ := List.mem_iff_getElem?.1 hx
    exact h1 i x m (List.getElem?_eq_some_iff.1 hi).1 hi hvx ((hN.walk hd hi hi).2 hw)
  · rintro a ⟨x, hx, rfl, hvx⟩ hw hne
    obtain ⟨i, hi⟩ := List.mem_iff_getElem?.1 hx
    refine h2 i x (List.getElem?_eq_some_iff.1 hi).1 hi hvx ((hN.dist hd hi hi).2 hw) fun g => hne ?_
    subst g
    rw [hb] at hi
    cases hi
    rfl
theorem told_step (hN : Net nm us t next) (hd : (t.map nm).Nodup) {g a b : Nat} {xg xa xb : T} {k : Nat} {l : List N} (hg : t[g]? = some xg) (ha : t[a]? = some xa) (hb : t[b]? = some xb)
    (he : Nx next a b) (hD : Dist (Nx next) (k + 1) b g) (hm : ∀ c x, Nx next a c → Dist (Nx next) (k + 1) c g → c ≠ b → t[c]? = some x → lt (nm xb) (nm x)) (h : Told (NE nm us t) lt (nm xg) k (nm xb) l) :
    Told (NE nm us t) lt (nm xg) (k + 1) (nm xa) (nm xb :: l) := by
  refine .cons ((hN.ne hd ha hb).1 he) ((hN.dist hd hb hg).1 hD) (fun c hc hDc hne => ?_) h
  obtain ⟨j, x, hj, rfl⟩ := ne_mem' hc
  refine hm j x ((hN.ne hd ha hj).2 hc) ((hN.dist hd hj hg).2 hDc) (fun g => hne ?_) hj
  subst g
  rw [hb] at hj
  cases hj
  rfl
theorem dist_near {g a k : Nat} (h : Dist (Nx next) (k + 2) a g) : ∃ b, Nx next a b ∧ Dist (Nx next) (k + 1) b g := by
  rcases h.1.cut with ⟨h1, _⟩ | ⟨j, b, h1, h2, h3⟩
  · omega
  · obtain rfl : j = k + 1 := by omega
    obtain ⟨m, hm, hD⟩ := h3.dist
    have := h.2 _ (.step h2 hD.1)
    obtain rfl : m = k + 1 := by omega
    exact ⟨b, h2, hD⟩
end
end Go.Proofs.Ytkhmimlgkjenfaa.HL
namespace Go.Proofs.Ytkhmimlgkjenfaa.HL
open Go
set_option linter.unusedVariables false

section
variable {α : Type} {E : α → α → Prop} {V : α → Prop} {o L : List α} {x i : α}
def RdW (E : α → α → Prop) (V : α → Prop) (o : List α) (i : α) : Prop := V i ∧ i ∉ o ∧ ∀ m k, Walk E m i k → V k → k ∈ o
def RdF (E : α → α → Prop) (V : α → Prop) (o : List α) (i : α) : Prop := V i ∧ i ∉ o ∧ ∀ k, ByF E V i k → V k → k ∈ o
theorem steps_shut (h : Steps (RdW E V) L o) : ∀ z, z ∈ o → ∀ m y, Walk E m z y → V y → y ∈ o := by
  induction h with
  | nil => intro z hz; cases hz
  | snoc hs hL hx hA ih =>
    intro z hz m y hw hv
    rcases List.mem_append.1 hz with g | g
    · exact List.mem_append_left _ (ih z g m y hw hv)
    · obtain rfl := List.mem_singleton.1 g
      exact List.mem_append_left _ (hx.2.2 m y hw hv)
theorem rdW_F (h : Steps (RdW E V) L o) : RdW E V o x ↔ RdF E V o x := by
  unfold RdW RdF
  rw [byF_all (o := fun y => y ∈ o) (steps_shut h)]
theorem steps_W (h : Steps (RdF E V) L o) : Steps (RdW E V) L o := by
  induction h with
  | nil => exact .nil
  | snoc hs hL hx hA ih => exact .snoc ih hL ((rdW_F ih).2 hx) fun y hy g => hA y hy ((rdW_F ih).1 g)
theorem steps_mem (h : Steps (RdW E V) L o) : o.Nodup ∧ ∀ i, i ∈ o → i ∈ L ∧ V i := by
  induction h with
  | nil => exact ⟨List.nodup_nil, fun i hi => by cases hi⟩
  | @snoc o A B x hs hL hx hA ih =>
    refine ⟨List.nodup_append.2 ⟨ih.1, (by simp), fun a ha b hb => ?_⟩, fun i hi => ?_⟩
    · rw [List.mem_singleton.1 hb]
      exact fun g => hx.2.1 (g ▸ ha)
    · rcases List.mem_append.1 hi with g | g
      · exact ih.2 i g
      · obtain rfl := List.mem_singleton.1 g
        exact ⟨by rw [hL]; simp, hx.1⟩
end
section
variable {next : List (List Nat)} {V : Nat → Prop} {o L : List Nat} {x i n : Nat}
theorem walk_tr : ∀ a b c : Nat, (∃ m, Walk (Nx next) m a b) → (∃ m, Walk (Nx next) m b c) → ∃ m, Walk (Nx next) m a c := fun a b c ⟨m, h1⟩ ⟨k, h2⟩ => ⟨m + k, h1.app h2⟩
theorem rdW_ex (hc : ∀ a, V a → ∀ m, ¬ Walk (Nx next) m a a) (hn : ∀ i k, Nx next i k → k < n) (hx : x < n) (hv : V x) (ho : x ∉ o) : ∃ y, y < n ∧ RdW (Nx next) V o y := by
  obtain ⟨y, h1, h2, h3, h4⟩ := ready_ex (n := n) (V := V) (R := fun a b => ∃ m, Walk (Nx next) m a b) walk_tr (fun a ha ⟨m, hm⟩ => hc a ha m hm) (fun y => y ∈ o) x hx hv ho
  have hend : ∀ m a b, Walk (Nx next) m a b → b < n := by
    intro m a b h
    induction h with
    | one e => exact hn _ _ e
    | step _ _ ih => exact ih
  exact ⟨y, h1, h2, h3, fun m k hw hk => h4 k (hend _ _ _ hw) hk ⟨m, hw⟩⟩
theorem steps_all (h : Steps (RdW (Nx next) V) (List.range n) o) (hf : ∀ i, i < n → V i → i ∈ o) (p : Nat → Bool) (hp : ∀ i, i < n → (p i = true ↔ V i)) : o.length = (List.range n).countP p := by
  obtain ⟨h1, h2⟩ := steps_mem h
  rw [List.countP_eq_length_filter]
  refine List.Perm.length_eq ((List.perm_ext_iff_of_nodup h1 (List.nodup_range.filter _)).2 fun i => ?_)
  rw [List.mem_filter, List.mem_range]
  exact ⟨fun hi => ⟨List.mem_range.1 (h2 i hi).1, (hp i (List.mem_range.1 (h2 i hi).1)).2 (h2 i hi).2⟩, fun ⟨a, b⟩ => hf i a ((hp i a).1 b)⟩
theorem steps_le (h : Steps (RdW (Nx next) V) (List.range n) o) (p : Nat → Bool) (hp : ∀ i, i < n → (p i = true ↔ V i)) (hlt : o.length < (List.range n).countP p) : ∃ i, i < n ∧ V i ∧ i ∉ o := by
  refine Classical.byContradiction fun hx => ?_
  have := steps_all h (fun i hi hv => Classical.byContradiction fun g => hx ⟨i, hi, hv, g⟩) p hp
  omega
end
theorem steps_map {α β : Type} {R : List α → α → Prop} {R' : List β → β → Prop} {L o : List α} {f : α → β} (h : Steps R L o) (hR : ∀ p x, (∀ y, y ∈ p → y ∈ L) → x ∈ L → (R p x ↔ R' (p.map f) (f x))) (hm : ∀ y, y ∈ o → y ∈ L) : Steps R' (L.map f) (o.map f) := by
  induction h with
  | nil => exact .nil
  | @snoc o A B x hs hL hx hA ih =>
    have hm' : ∀ y, y ∈ o → y ∈ L := fun y hy => hm y (List.mem_append_left _ hy)
    rw [List.map_append]
    refine .snoc (ih hm') (A := A.map f) (B := B.map f) (by rw [hL]; simp) ((hR o x hm' (by rw [hL]; simp)).1 hx) fun y hy g => ?_
    obtain ⟨z, hz, rfl⟩ := List.mem_map.1 hy
    exact hA z hz ((hR o z hm' (by rw [hL]; simp [hz])).2 g)
end Go.Proofs.Ytkhmimlgkjenfaa.HL
namespace Go.Proofs.Ytkhmimlgkjenfaa.HL
open Go
attribute [local irreducible] goFn thenS blockS bodyS CW RW DW GW QW NW SC Pick Picks SubL Rd NN ResOk SrcW subE hops hseg AW hgen HC qv bldv
set_option linter.unusedVariables false
set_option linter.unusedSimpArgs false

abbrev Tx := List UInt8
def ltT (a b : Tx) : Prop := Op.bytesLess a b = true
theorem less_cons (c c' : UInt8) (t t' : Tx) : Op.bytesLess (c :: t) (c' :: t') = (decide (c < c') || (c == c' && Op.bytesLess t t')) := rfl
theorem u8_lt {c d : UInt8} : c < d ↔ c.toNat < d.toNat := UInt8.lt_iff_toNat_lt
theorem ltT_cons {c c' : UInt8} {t t' : Tx} : ltT (c :: t) (c' :: t') ↔ c < c' ∨ (c = c' ∧ ltT t t') := by
  unfold ltT
  rw [less_cons]
  simp [jD, jC]
theorem ltT_nil (t : Tx) : ¬ ltT t [] := by
  cases t <;> simp [ltT, Op.bytesLess]
theorem ltT_irr : ∀ a : Tx, ¬ ltT a a
  | [] => ltT_nil []
  | c :: t => by
    rw [ltT_cons, u8_lt]
    rintro (h | ⟨_, h⟩)
    · omega
    · exact ltT_irr t h
theorem ltT_tr : ∀ {a b c : Tx}, ltT a b → ltT b c → ltT a c
  | [], [], c, h, _ => absurd h (ltT_nil [])
  | [], _ :: _, [], _, h => absurd h (ltT_nil _)
  | [], _ :: _, _ :: _, _, _ => rfl
  | _ :: _, [], _, h, _ => absurd h (ltT_nil _)
  | _ :: _, _ :: _, [], _, h => absurd h (ltT_nil _)
  | x :: a, y :: b, z :: c, h1, h2 => by
    rw [ltT_cons, u8_lt] at h1 h2 ⊢
    rcases h1 with h1 | ⟨rfl, h1⟩
    · rcases h2 with h2 | ⟨rfl, _⟩ <;> exact .inl (by omega)
    · rcases h2 with h2 | ⟨rfl, h2⟩
      · exact .inl h2
      · exact .inr ⟨rfl, ltT_tr h1 h2⟩
theorem ltT_asym {a b : Tx} (h : ltT a b) : ¬ ltT b a := fun g => ltT_irr a (ltT_tr h g)
theorem ltT_tri : ∀ {a b : Tx}, ¬ ltT a b → ¬ ltT b a → a = b
  | [], [], _, _ => rfl
  | [], _ :: _, h, _ => absurd rfl h
  | _ :: _, [], _, h => absurd rfl h
  | x :: a, y :: b, h1, h2 => by
    rw [ltT_cons, u8_lt] at h1 h2
    have hxy : x = y := UInt8.toNat_inj.1 (by omega)
    subst hxy
    rw [ltT_tri (fun g => h1 (.inr ⟨rfl, g⟩)) (fun g => h2 (.inr ⟨rfl, g⟩))]
structure Vr where
  n : Tx
  a : Option Addr
  c : Nat
  u : List Tx
structure Fl where
  n : Tx
  va : Option Addr
  vc : Nat
  vs : List Vr
  fa : Option Addr
  fc : Nat
  fs : List Vr
  k : Int
structure Pk where
  p : Tx
  ia : Option Addr
  ic : Nat
  im : List Tx
  la : Option Addr
  lc : Nat
  fl : List Fl
structure Th where
  n : Tx
  v : Bool
  a : Option Addr
  c : Nat
  u : List Tx
def txs (l : List Tx) : List Value := l.map fun s => .string (bstr s)
def vrC (x : Vr) : List Value := [.string (bstr x.n), .slice x.a x.u.length x.c]
def flC (f : Fl) : List Value := [.string (bstr f.n), .slice f.va f.vs.length f.vc, .slice f.fa f.fs.length f.fc, .int .i64 f.k]
def pkC (p : Pk) : List Value := [.string (bstr p.p), .slice p.ia p.im.length p.ic, .slice p.la p.fl.length p.lc]
def thC (t : Th) : List Value := [.string (bstr t.n), .bool t.v, .slice t.a t.u.length t.c]
def UOk (H : Hp) (a : Option Addr) (c : Nat) (u : List Tx) : Prop := Rs H 1 a u.length c (txs u)
def vrOk (H : Hp) (x : Vr) : Prop := UOk H x.a x.c x.u
def thOk (H : Hp) (x : Th) : Prop := UOk H x.a x.c x.u
def flOk (H : Hp) (f : Fl) : Prop := Rs H 2 f.va f.vs.length f.vc (f.vs.flatMap vrC) ∧ Rs H 2 f.fa f.fs.length f.fc (f.fs.flatMap vrC) ∧ (∀ x, x ∈ f.vs → vrOk H x) ∧ ∀ x, x ∈ f.fs → vrOk H x
def pkOk (H : Hp) (p : Pk) : Prop := UOk H p.ia p.ic p.im ∧ Rs H 4 p.la p.fl.length p.lc (p.fl.flatMap flC) ∧ ∀ f, f ∈ p.fl → flOk H f
def thV (v : Bool) (x : Vr) : Th := ⟨x.n, v, x.a, x.c, x.u⟩
def things (f : Fl) : List Th := f.vs.map (thV true) ++ f.fs.map (thV false)
def allT (l : List Fl) : List Th := l.flatMap things
theorem things_ok {H : Hp} {f : Fl} (h : flOk H f) : ∀ x, x ∈ things f → thOk H x := by
  intro x hx
  rcases List.mem_append.1 hx with g | g
  · obtain ⟨y, hy, rfl⟩ := List.mem_map.1 g
    exact h.2.2.1 y hy
  · obtain ⟨y, hy, rfl⟩ := List.mem_map.1 g
    exact h.2.2.2 y hy
def signP (path : Bool) (i : Nat) (c : UInt8) : Bool :=
  let m := c.toNat
  let small := decide (97 ≤ m) && decide (m ≤ 122) || decide (m = 95)
  let digit := decide (48 ≤ m) && decide (m ≤ 57)
  if path then small || digit || decide (m = 45) || decide (m = 47)
  else small || decide (65 ≤ m) && decide (m ≤ 90) || digit && decide (i ≠ 0)
def initT : Tx := [105, 110, 105, 116]
def WordP (path : Bool) (s : Tx) : Prop := 1 ≤ s.length ∧ s.length ≤ 40 ∧ (∀ (i : Nat) c, s[i]? = some c → signP path i c = true) ∧ (path = true ∨ s ≠ initT)
end Go.Proofs.Ytkhmimlgkjenfaa.HL
namespace Go.Proofs.Ytkhmimlgkjenfaa.HL
open Go
set_option linter.unusedVariables false

theorem spl_flat {α : Type} {f : α → List Value} {z k : Nat} {xs : List α} [hz : Enc f z] (hk : k < xs.length) (y : α) : spl (xs.flatMap f) (k * z) (f y) = (xs.set k y).flatMap f := by
  unfold spl
  rw [hz.h y, show k * z + z = (k + 1) * z by rw [Nat.add_mul, Nat.one_mul], flat_take hz.h, flat_drop hz.h, List.set_eq_take_append_cons_drop, if_pos hk, List.flatMap_append, List.flatMap_cons, List.append_assoc]
instance : Enc vrC 2 := ⟨fun _ => rfl⟩
instance : Enc flC 4 := ⟨fun _ => rfl⟩
instance : Enc pkC 3 := ⟨fun _ => rfl⟩
instance : Enc thC 3 := ⟨fun _ => rfl⟩
end Go.Proofs.Ytkhmimlgkjenfaa.HL
namespace Go.Proofs.Ytkhmimlgkjenfaa.HL
open Go
set_option linter.unusedVariables false

def orO {α : Type} : Option α → Option α → Option α
  | some x, _ => some x
  | none, b => b
def firstO {α β : Type} (f : α → Option β) : List α → Option β
  | [] => none
  | x :: l => orO (f x) (firstO f l)
theorem firstO_app {α β : Type} {f : α → Option β} : ∀ (a b : List α), firstO f (a ++ b) = orO (firstO f a) (firstO f b)
  | [], b => rfl
  | x :: a, b => by
    show orO (f x) (firstO f (a ++ b)) = orO (orO (f x) (firstO f a)) (firstO f b)
    rw [firstO_app a b]
    cases f x <;> rfl
theorem firstO_none {α β : Type} {f : α → Option β} : ∀ {l : List α}, firstO f l = none ↔ ∀ x, x ∈ l → f x = none
  | [] => by simp [firstO]
  | x :: l => by
    have ih := firstO_none (f := f) (l := l)
    unfold firstO
    cases h : f x with
    | some y => simp [orO, h]
    | none => simp [orO, h, ih]
def thN (x : Vr) : Nat := 1 + x.u.length
def flN (f : Fl) : Nat := f.k.toNat + (f.vs.map thN).sum + (f.fs.map thN).sum
def pkN (p : Pk) : Nat := p.im.length + p.fl.length + (p.fl.map flN).sum
def allN (l : List Pk) : Nat := l.length + (l.map pkN).sum
def badI (l : List Pk) : Prop := ∃ p, p ∈ l ∧ ∃ f, f ∈ p.fl ∧ (f.k < 0 ∨ 1024 < f.k)
noncomputable def wordO (path : Bool) (s : Tx) : Option Tx := by classical exact if WordP path s then none else some s
def lenO (s : Tx) : Option Tx := if 1 ≤ s.length ∧ s.length ≤ 40 then none else some s
noncomputable def formFl (f : Fl) : Option Tx := orO (lenO f.n) (firstO (fun x : Th => wordO false x.n) (things f))
noncomputable def formPk (p : Pk) : Option Tx := orO (wordO true p.p) (firstO formFl p.fl)
noncomputable def formO (l : List Pk) : Option Tx := firstO formPk l
theorem wordO_none {path : Bool} {s : Tx} : wordO path s = none ↔ WordP path s := by
  unfold wordO
  split <;> simp [*]
theorem orO_none {α : Type} {a b : Option α} : orO a b = none ↔ a = none ∧ b = none := by
  cases a <;> simp [orO]
theorem form_words {l : List Pk} (h : formO l = none) {p : Pk} (hp : p ∈ l) : WordP true p.p ∧ ∀ x, x ∈ allT p.fl → WordP false x.n := by
  have h1 := orO_none.1 (firstO_none.1 h p hp)
  refine ⟨wordO_none.1 h1.1, fun x hx => ?_⟩
  obtain ⟨f, hf, hx⟩ := List.mem_flatMap.1 hx
  have h2 := orO_none.1 (firstO_none.1 h1.2 f hf)
  exact wordO_none.1 (firstO_none.1 h2.2 x hx)
def dupO (s : List Tx) : List Tx → Option Tx
  | [] => none
  | x :: l => if x ∈ s then some x else dupO (s ++ [x]) l
def dupF (fs ns : List Tx) : List Fl → Option Tx
  | [] => none
  | f :: l => if f.n ∈ fs then some f.n else orO (dupO ns ((things f).map Th.n)) (dupF (fs ++ [f.n]) (ns ++ (things f).map Th.n) l)
def dupP (ps : List Tx) : List Pk → Option Tx
  | [] => none
  | p :: l => if p.p ∈ ps then some p.p else orO (dupO [] p.im) (orO (dupF [] [] p.fl) (dupP (ps ++ [p.p]) l))
theorem dupO_none : ∀ {l s : List Tx}, dupO s l = none → l.Nodup ∧ ∀ x, x ∈ l → x ∉ s
  | [], s, _ => ⟨List.nodup_nil, fun x hx => by cases hx⟩
  | y :: l, s, h => by
    unfold dupO at h
    split at h
    · cases h
    · next hy =>
      obtain ⟨h1, h2⟩ := dupO_none h
      refine ⟨List.nodup_cons.2 ⟨fun g => h2 y g (by simp), h1⟩, fun x hx => ?_⟩
      rcases List.mem_cons.1 hx with rfl | hx
      · exact hy
      · exact fun g => h2 x hx (List.mem_append_left _ g)
theorem dupF_none : ∀ {l : List Fl} {fs ns : List Tx}, dupF fs ns l = none → ((l.map Fl.n).Nodup ∧ ∀ f, f ∈ l → f.n ∉ fs) ∧ ((allT l).map Th.n).Nodup ∧ ∀ x, x ∈ allT l → x.n ∉ ns
  | [], fs, ns, _ => ⟨⟨List.nodup_nil, fun x hx => (by cases hx)⟩, List.nodup_nil, fun x hx => (by cases hx)⟩
  | f :: l, fs, ns, h => by
    unfold dupF at h
    split at h
    · cases h
    · next hf =>
      obtain ⟨h1, h2⟩ := orO_none.1 h
      obtain ⟨d1, d2⟩ := dupO_none h1
      obtain ⟨⟨f1, f2⟩, t1, t2⟩ := dupF_none h2
      refine ⟨⟨List.nodup_cons.2 ⟨fun g => ?_, f1⟩, fun x hx => ?_⟩, ?_, fun x hx => ?_⟩
      · obtain ⟨y, hy, e⟩ := List.mem_map.1 g
        exact f2 y hy (by rw [e]; simp)
      · rcases List.mem_cons.1 hx with rfl | hx
        · exact hf
        · exact fun g => f2 x hx (List.mem_append_left _ g)
      · show ((things f ++ allT l).map Th.n).Nodup
        rw [List.map_append]
        refine List.nodup_append.2 ⟨d1, t1, fun a ha b hb e => ?_⟩
        subst e
        obtain ⟨y, hy, e⟩ := List.mem_map.1 hb
        exact t2 y hy (by rw [e]; exact List.mem_append_right _ ha)
      · rcases List.mem_append.1 (show x ∈ things f ++ allT l from hx) with g | g
        · exact d2 _ (List.mem_map.2 ⟨x, g, rfl⟩)
        · exact fun k => t2 x g (List.mem_append_left _ k)
theorem dupP_none : ∀ {l : List Pk} {ps : List Tx}, dupP ps l = none → (l.map Pk.p).Nodup ∧ (∀ p, p ∈ l → p.p ∉ ps) ∧ ∀ p, p ∈ l → p.im.Nodup ∧ (p.fl.map Fl.n).Nodup ∧ ((allT p.fl).map Th.n).Nodup
  | [], ps, _ => ⟨List.nodup_nil, fun x hx => (by cases hx), fun x hx => (by cases hx)⟩
  | p :: l, ps, h => by
    unfold dupP at h
    split at h
    · cases h
    · next hp =>
      obtain ⟨h1, h2⟩ := orO_none.1 h
      obtain ⟨h3, h4⟩ := orO_none.1 h2
      obtain ⟨g1, g2, g3⟩ := dupP_none h4
      obtain ⟨⟨f1, _⟩, t1, _⟩ := dupF_none h3
      refine ⟨List.nodup_cons.2 ⟨fun g => ?_, g1⟩, fun x hx => ?_, fun x hx => ?_⟩
      · obtain ⟨y, hy, e⟩ := List.mem_map.1 g
        exact g2 y hy (by rw [e]; simp)
      · rcases List.mem_cons.1 hx with rfl | hx
        · exact hp
        · exact fun g => g2 x hx (List.mem_append_left _ g)
      · rcases List.mem_cons.1 hx with rfl | hx
        · exact ⟨(dupO_none h1).1, f1, t1⟩
        · exact g3 x hx
def lastPt : Tx → Option Nat
  | [] => none
  | c :: t => match lastPt t with
    | some k => some (k + 1)
    | none => if c = 46 then some 0 else none
theorem lastPt_none : ∀ {s : Tx}, lastPt s = none ↔ ∀ i : Nat, s[i]? ≠ some 46
  | [] => by simp [lastPt]
  | c :: t => by
    have ih := lastPt_none (s := t)
    constructor
    · intro h i
      unfold lastPt at h
      split at h
      · cases h
      · next hn =>
        split at h
        · cases h
        · cases i with
          | zero => simpa using ‹¬ c = 46›
          | succ i => simpa using ih.1 hn i
    · intro h
      have h1 := ih.2 fun i => by simpa using h (i + 1)
      have h2 : ¬ c = 46 := by simpa using h 0
      unfold lastPt
      rw [h1]
      simp [h2]
theorem lastPt_some : ∀ {s : Tx} {k : Nat}, lastPt s = some k ↔ s[k]? = some 46 ∧ ∀ i : Nat, k < i → s[i]? ≠ some 46
  | [], k => by simp [lastPt]
  | c :: t, k => by
    unfold lastPt
    cases h : lastPt t with
    | some j =>
      have := (lastPt_some (s := t) (k := j)).1 h
      simp only [Option.some.injEq]
      constructor
      · rintro rfl
        refine ⟨by simpa using this.1, fun i hi => ?_⟩
        cases i with
        | zero => omega
        | succ i => simpa using this.2 i (by omega)
      · rintro ⟨h1, h2⟩
        have := h2 (j + 1)
        cases k with
        | zero => exact absurd (by simpa using (lastPt_some (s := t) (k := j)).1 h |>.1) (h2 (j + 1) (by omega))
        | succ k =>
          have a := ((lastPt_some (s := t) (k := k)).2 ⟨by simpa using h1, fun i hi => by simpa using h2 (i + 1) (by omega)⟩)
          rw [h] at a
          cases a; rfl
    | none =>
      have hn := lastPt_none.1 h
      by_cases hc : c = 46
      · rw [if_pos hc]
        constructor
        · intro e
          cases e
          refine ⟨by simp [hc], fun i hi => ?_⟩
          cases i with
          | zero => omega
          | succ i => simpa using hn i
        · rintro ⟨h1, h2⟩
          cases k with
          | zero => rfl
          | succ k => exact absurd (by simpa using h1) (hn k)
      · rw [if_neg hc]
        constructor
        · intro e; cases e
        · rintro ⟨h1, h2⟩
          cases k with
          | zero => exact absurd (by simpa using h1) hc
          | succ k => exact absurd (by simpa using h1) (hn k)
theorem word_pt {path : Bool} {s : Tx} (h : WordP path s) : lastPt s = none := by
  refine lastPt_none.2 fun i hi => ?_
  have := h.2.2.1 i 46 hi
  cases path <;> simp [signP] at this
end Go.Proofs.Ytkhmimlgkjenfaa.HL
