/- WholeA: NumA: numerals of any base, the least digit first: plain laws. No condition. NumB: decimal digits as bytes, bits of a number: plain laws. No condition. NumC: steps of sums, products and divisions digit by digit: plain laws. No condition. NumD: whole numbers in memory: what is read of one, what is one's own. No condition. NumE: put: words put into a number, without noughts behind. Condition: the row's length. NumF: compare: words held against words. Condition: the rows' lengths. NumG: slices.Clone of words; Set, Abs, Sign of a number. Condition: the row's length. -/
import Derived.Test.YtnhbipachchlgaaGreatHLmX
import Derived.Lib.ItoaNum
import Derived.Test.YtnhbipachchlgaaGreatFactsX
import Derived.Test.YtnhbipachchlgaaGreatEngX
namespace Go.Proofs.YtnhbipachchlgaaGreat.HL
open Go
attribute [local irreducible] goFn thenS blockS bodyS CW RW DW GW QW NW SC Pick Picks SubL Rd NN ResOk SrcW subE hops hseg AW hgen HC qv bldv
set_option maxHeartbeats 8000000
set_option maxRecDepth 100000
set_option linter.unusedVariables false
set_option linter.unusedSimpArgs false

def nv (B : Nat) : List Nat → Nat
  | [] => 0
  | d :: r => d + B * nv B r
def Dg (B : Nat) (l : List Nat) : Prop := ∀ d ∈ l, d < B
def dgs (B n : Nat) : List Nat := if h : 1 < B ∧ 0 < n then n % B :: dgs B (n / B) else []
termination_by n
decreasing_by exact Nat.div_lt_self h.2 h.1
theorem dgs_zero (B : Nat) : dgs B 0 = [] := by rw [dgs, dif_neg (by omega)]
theorem dgs_pos {B n : Nat} (hB : 1 < B) (hn : 0 < n) : dgs B n = n % B :: dgs B (n / B) := by rw [dgs, dif_pos ⟨hB, hn⟩]
theorem nv_dgs {B : Nat} (hB : 1 < B) (n : Nat) : nv B (dgs B n) = n := by
  induction n using Nat.strongRecOn with
  | _ n ih =>
    rcases Nat.eq_zero_or_pos n with rfl | hn
    · rw [dgs_zero]; rfl
    · rw [dgs_pos hB hn, nv, ih _ (Nat.div_lt_self hn hB)]
      exact Nat.mod_add_div n B
theorem dgs_dg {B : Nat} (hB : 1 < B) (n : Nat) : Dg B (dgs B n) := by
  induction n using Nat.strongRecOn with
  | _ n ih =>
    rcases Nat.eq_zero_or_pos n with rfl | hn
    · rw [dgs_zero]; intro d hd; cases hd
    · rw [dgs_pos hB hn]
      intro d hd
      rcases List.mem_cons.1 hd with rfl | hd
      · exact Nat.mod_lt _ (by omega)
      · exact ih _ (Nat.div_lt_self hn hB) d hd
theorem dg_cons {B d : Nat} {l : List Nat} : Dg B (d :: l) ↔ d < B ∧ Dg B l := by
  unfold Dg; simp
theorem dg_append {B : Nat} {a b : List Nat} : Dg B (a ++ b) ↔ Dg B a ∧ Dg B b := by
  unfold Dg; simp only [List.mem_append]
  exact ⟨fun h => ⟨fun d hd => h d (.inl hd), fun d hd => h d (.inr hd)⟩, fun h d hd => hd.elim (h.1 d) (h.2 d)⟩
theorem dg_take {B : Nat} {a : List Nat} (h : Dg B a) (k : Nat) : Dg B (a.take k) := fun d hd => h d (List.mem_of_mem_take hd)
theorem dg_drop {B : Nat} {a : List Nat} (h : Dg B a) (k : Nat) : Dg B (a.drop k) := fun d hd => h d (List.mem_of_mem_drop hd)
theorem dg_at {B : Nat} {a : List Nat} (h : Dg B a) {k d : Nat} (hk : a[k]? = some d) : d < B := h d (List.mem_of_getElem? hk)
theorem dg_set {B : Nat} {a : List Nat} (h : Dg B a) {k v : Nat} (hv : v < B) : Dg B (a.set k v) := fun d hd => by
  rcases List.mem_or_eq_of_mem_set hd with h1 | h1
  · exact h d h1
  · rw [h1]; exact hv
theorem dg_zeros {B : Nat} (hB : 0 < B) (n : Nat) : Dg B (List.replicate n 0) := fun d hd => by rw [(List.mem_replicate.1 hd).2]; exact hB
theorem nv_app (B : Nat) : ∀ (a b : List Nat), nv B (a ++ b) = nv B a + B ^ a.length * nv B b
  | [], b => by simp [nv]
  | d :: a, b => by
    rw [jM, nv, nv, nv_app B a b, List.length_cons, Nat.pow_succ, Nat.mul_add, ← Nat.mul_assoc, Nat.mul_comm B (B ^ a.length), Nat.add_assoc]
theorem nv_lt {B : Nat} : ∀ {l : List Nat}, Dg B l → nv B l < B ^ l.length
  | [], _ => by simp [nv]
  | d :: l, h => by
    have h1 := (dg_cons.1 h).1
    have h2 := nv_lt (dg_cons.1 h).2
    rw [nv, List.length_cons, Nat.pow_succ]
    have h3 : B * (nv B l + 1) ≤ B * B ^ l.length := Nat.mul_le_mul_left B h2
    rw [Nat.mul_add, Nat.mul_one] at h3
    rw [Nat.mul_comm (B ^ l.length) B]
    omega
theorem nv_zeros (B n : Nat) : nv B (List.replicate n 0) = 0 := by
  induction n with
  | zero => rfl
  | succ n ih => rw [List.replicate_succ, nv, ih]; simp
theorem nv_take {B : Nat} {l : List Nat} {k d : Nat} (h : l[k]? = some d) : nv B (l.take (k + 1)) = nv B (l.take k) + B ^ k * d := by
  have hlt : k < l.length := by
    rcases Nat.lt_or_ge k l.length with h' | h'
    · exact h'
    · rw [List.getElem?_eq_none h'] at h; cases h
  rw [List.take_add_one, h, nv_app, List.length_take, Nat.min_eq_left (by omega)]
  simp [nv]
theorem nv_drop {B : Nat} {l : List Nat} {k d : Nat} (h : l[k]? = some d) : nv B (l.drop k) = d + B * nv B (l.drop (k + 1)) := by
  have hlt : k < l.length := by
    rcases Nat.lt_or_ge k l.length with h' | h'
    · exact h'
    · rw [List.getElem?_eq_none h'] at h; cases h
  rw [List.getElem?_eq_getElem hlt] at h
  rw [List.drop_eq_getElem_cons hlt, nv, Option.some.inj h]
theorem nv_split (B : Nat) (l : List Nat) (k : Nat) (hk : k ≤ l.length) : nv B l = nv B (l.take k) + B ^ k * nv B (l.drop k) := by
  have := nv_app B (l.take k) (l.drop k)
  rw [List.take_append_drop, List.length_take, Nat.min_eq_left hk] at this
  exact this
theorem nv_set {B : Nat} {l : List Nat} {k d : Nat} (v : Nat) (h : l[k]? = some d) : nv B (l.set k v) + B ^ k * d = nv B l + B ^ k * v := by
  have hlt : k < l.length := by
    rcases Nat.lt_or_ge k l.length with h' | h'
    · exact h'
    · rw [List.getElem?_eq_none h'] at h; cases h
  have h1 := nv_split B (l.set k v) k (by rw [List.length_set]; omega)
  have h2 := nv_split B l k (by omega)
  have h3 : (l.set k v)[k]? = some v := List.getElem?_set_self hlt
  rw [nv_drop h3, List.take_set_of_le (Nat.le_refl k), List.drop_set_of_lt (by omega)] at h1
  rw [nv_drop h] at h2
  rw [h1, h2, Nat.mul_add, Nat.mul_add]
  omega
theorem norm_eq {B : Nat} (hB : 1 < B) : ∀ {l : List Nat}, Dg B l → (∀ k, l.length = k + 1 → l[k]? ≠ some 0) → l = dgs B (nv B l)
  | [], _, _ => by rw [nv, dgs_zero]
  | d :: l, h, hl => by
    have hd := (dg_cons.1 h).1
    have ih := norm_eq hB (dg_cons.1 h).2 (fun k hk => by
      have := hl (k + 1) (by rw [List.length_cons, hk])
      simpa using this)
    have hpos : 0 < d + B * nv B l := by
      cases l with
      | nil =>
        have := hl 0 rfl
        simp at this
        omega
      | cons e l =>
        have : 0 < nv B (e :: l) := by
          rcases Nat.eq_zero_or_pos (nv B (e :: l)) with h0 | h0
          · rw [h0, dgs_zero] at ih; cases ih
          · exact h0
        have := Nat.mul_pos (show 0 < B by omega) this
        omega
    rw [nv, dgs_pos hB hpos, Nat.add_mul_mod_self_left, Nat.mod_eq_of_lt hd, Nat.add_mul_div_left _ _ (by omega), Nat.div_eq_of_lt hd, Nat.zero_add, ← ih]
theorem dgs_top {B n : Nat} (hB : 1 < B) {k : Nat} (hk : (dgs B n).length = k + 1) : (dgs B n)[k]? ≠ some 0 := by
  induction n using Nat.strongRecOn generalizing k with
  | _ n ih =>
    rcases Nat.eq_zero_or_pos n with rfl | hn
    · rw [dgs_zero] at hk; cases hk
    · rw [dgs_pos hB hn] at hk ⊢
      rw [List.length_cons] at hk
      have hk : (dgs B (n / B)).length = k := by omega
      cases k with
      | zero =>
        have h0 : dgs B (n / B) = [] := List.length_eq_zero_iff.1 hk
        have h1 := nv_dgs hB (n / B)
        rw [h0] at h1
        simp only [nv] at h1
        have h2 := Nat.div_add_mod n B
        rw [← h1] at h2
        simp only [List.getElem?_cons_zero]
        intro h
        have := Option.some.inj h
        omega
      | succ k =>
        rw [List.getElem?_cons_succ]
        exact ih _ (Nat.div_lt_self hn hB) hk
theorem dgs_nil {B n : Nat} (hB : 1 < B) : dgs B n = [] ↔ n = 0 := by
  constructor
  · intro h
    have := nv_dgs hB n
    rw [h] at this
    exact this.symm
  · rintro rfl; exact dgs_zero B
theorem dgs_len_lt {B n : Nat} (hB : 1 < B) : n < B ^ (dgs B n).length := by
  have := nv_lt (dgs_dg hB n)
  rwa [nv_dgs hB] at this
theorem dgs_len_ge {B n k : Nat} (hB : 1 < B) (hk : (dgs B n).length = k + 1) : B ^ k ≤ n := by
  have h1 := dgs_top hB hk
  obtain ⟨d, hd⟩ : ∃ d, (dgs B n)[k]? = some d := ⟨_, List.getElem?_eq_getElem (by omega)⟩
  have h2 := nv_take (B := B) hd
  rw [List.take_of_length_le (by omega), nv_dgs hB] at h2
  have h3 : d ≠ 0 := fun e => h1 (by rw [hd, e])
  have h4 : B ^ k * 1 ≤ B ^ k * d := Nat.mul_le_mul_left _ (by omega)
  omega
theorem dgs_len_mono {B m n : Nat} (hB : 1 < B) (h : (dgs B m).length < (dgs B n).length) : m < n := by
  obtain ⟨k, hk⟩ : ∃ k, (dgs B n).length = k + 1 := ⟨(dgs B n).length - 1, by omega⟩
  have h1 := dgs_len_ge hB hk
  have h2 := dgs_len_lt hB (n := m)
  have h3 : B ^ (dgs B m).length ≤ B ^ k := Nat.pow_le_pow_right (by omega) (by omega)
  omega
theorem dgs_inj {B m n : Nat} (hB : 1 < B) (h : dgs B m = dgs B n) : m = n := by
  have := congrArg (nv B) h
  rwa [nv_dgs hB, nv_dgs hB] at this
theorem nv_cmp {B : Nat} {a b : List Nat} {k x y : Nat} (ha : Dg B a) (hb : Dg B b) (hl : a.length = b.length) (hx : a[k]? = some x) (hy : b[k]? = some y) (hd : a.drop (k + 1) = b.drop (k + 1)) (hxy : x < y) : nv B a < nv B b := by
  have hlt : k < a.length := by
    rcases Nat.lt_or_ge k a.length with h' | h'
    · exact h'
    · rw [List.getElem?_eq_none h'] at hx; cases hx
  rw [nv_split B a k (by omega), nv_split B b k (by omega), nv_drop hx, nv_drop hy, hd]
  have h1 := nv_lt (dg_take ha k)
  rw [List.length_take, Nat.min_eq_left (by omega)] at h1
  have h2 : B ^ k * (x + 1) ≤ B ^ k * y := Nat.mul_le_mul_left _ hxy
  rw [Nat.mul_add, Nat.mul_one] at h2
  rw [Nat.mul_add, Nat.mul_add]
  omega
end Go.Proofs.YtnhbipachchlgaaGreat.HL
namespace Go.Proofs.YtnhbipachchlgaaGreat.HL
open Go
attribute [local irreducible] goFn thenS blockS bodyS CW RW DW GW QW NW SC Pick Picks SubL Rd NN ResOk SrcW subE hops hseg AW hgen HC qv bldv
set_option linter.unusedVariables false
set_option linter.unusedSimpArgs false

def dv (l : List UInt8) : Nat := l.foldl (fun a c => a * 10 + (c.toNat - 48)) 0
def isDg (l : List UInt8) : Prop := ∀ c ∈ l, 48 ≤ c.toNat ∧ c.toNat ≤ 57
theorem dv_snoc (l : List UInt8) (c : UInt8) : dv (l ++ [c]) = dv l * 10 + (c.toNat - 48) := by unfold dv; rw [List.foldl_append]; rfl
theorem dv_app (l : List UInt8) : ∀ m : List UInt8, dv (l ++ m) = dv l * 10 ^ m.length + dv m := by
  intro m
  induction hn : m.length generalizing m with
  | zero =>
    have : m = [] := List.length_eq_zero_iff.1 hn
    subst this; simp [dv]
  | succ n ih =>
    obtain ⟨k, c, rfl⟩ : ∃ k c, m = k ++ [c] := by
      have hne : m ≠ [] := fun h => by rw [h] at hn; cases hn
      exact ⟨m.dropLast, m.getLast hne, (List.dropLast_concat_getLast hne).symm⟩
    have hk : k.length = n := by rw [List.length_append] at hn; simpa using hn
    rw [← List.append_assoc, dv_snoc, dv_snoc, ih k hk, Nat.pow_succ, Nat.add_mul, Nat.mul_assoc]
    omega
def digB (u : Nat) : UInt8 := UInt8.ofNat (48 + u)
theorem digB_nat {u : Nat} (h : u < 10) : (digB u).toNat = 48 + u := by
  unfold digB; rw [UInt8.toNat_ofNat']; omega
theorem dec_small {u : Nat} (h : u < 10) : Lib.decDigits u = [digB u] := by rw [Lib.decDigits, dif_pos h]; rfl
theorem dec_step {u : Nat} (h : ¬ u < 10) : Lib.decDigits u = Lib.decDigits (u / 10) ++ [digB (u % 10)] := by rw [Lib.decDigits, dif_neg h]; rfl
theorem dec_dv (n : Nat) : dv (Lib.decDigits n) = n := by
  induction n using Nat.strongRecOn with
  | _ n ih =>
    by_cases h : n < 10
    · rw [dec_small h]
      show 0 * 10 + ((digB n).toNat - 48) = n
      rw [digB_nat h]; omega
    · rw [dec_step h, dv_snoc, ih _ (by omega), digB_nat (by omega)]
      omega
theorem dec_isDg (n : Nat) : isDg (Lib.decDigits n) := by
  induction n using Nat.strongRecOn with
  | _ n ih =>
    intro c hc
    by_cases h : n < 10
    · rw [dec_small h] at hc
      rw [List.mem_singleton.1 hc, digB_nat h]; omega
    · rw [dec_step h] at hc
      rcases List.mem_append.1 hc with hc | hc
      · exact ih _ (by omega) c hc
      · rw [List.mem_singleton.1 hc, digB_nat (by omega)]; omega
theorem dec_ne (n : Nat) : Lib.decDigits n ≠ [] := by
  by_cases h : n < 10
  · rw [dec_small h]; simp
  · rw [dec_step h]; simp
theorem dec_pos_len (n : Nat) : 0 < (Lib.decDigits n).length := List.length_pos_iff.2 (dec_ne n)
theorem dec_head (n : Nat) : ∃ c t, Lib.decDigits n = c :: t ∧ (c = 48 → n = 0 ∧ t = []) := by
  induction n using Nat.strongRecOn with
  | _ n ih =>
    by_cases h : n < 10
    · refine ⟨digB n, [], dec_small h, fun e => ⟨?_, rfl⟩⟩
      have := digB_nat h
      rw [e] at this
      have e2 : (48 : UInt8).toNat = 48 := rfl
      omega
    · obtain ⟨c, t, h1, h2⟩ := ih (n / 10) (by omega)
      refine ⟨c, t ++ [digB (n % 10)], by rw [dec_step h, h1]; rfl, fun e => ?_⟩
      have := (h2 e).1
      omega
theorem dec_of : ∀ (l : List UInt8), l ≠ [] → isDg l → (∀ t, l = 48 :: t → t = []) → Lib.decDigits (dv l) = l := by
  intro l
  induction hn : l.length generalizing l with
  | zero => intro h; exact absurd (List.length_eq_zero_iff.1 hn) h
  | succ n ih =>
    intro hne hd h0
    obtain ⟨k, c, rfl⟩ : ∃ k c, l = k ++ [c] := ⟨l.dropLast, l.getLast hne, (List.dropLast_concat_getLast hne).symm⟩
    have hk : k.length = n := by rw [List.length_append] at hn; simpa using hn
    have hc := hd c (by simp)
    have hcb : digB (c.toNat - 48) = c := by
      apply UInt8.toNat_inj.1
      rw [digB_nat (by omega)]; omega
    rw [dv_snoc]
    cases k with
    | nil =>
      show Lib.decDigits (0 * 10 + (c.toNat - 48)) = _
      rw [Nat.zero_mul, Nat.zero_add, dec_small (by omega), hcb]; rfl
    | cons x k =>
      have hx := hd x (by simp)
      have hk0 : ∀ t, x :: k = 48 :: t → t = [] := by
        intro t ht
        have := h0 (t ++ [c]) (by rw [ht]; rfl)
        simp at this
      have ih2 := ih (x :: k) hk (by simp) (fun d hd' => hd d (List.mem_append_left _ hd')) hk0
      have hx48 : x ≠ 48 := by
        rintro rfl
        have := h0 (k ++ [c]) rfl
        simp at this
      have hpos : 0 < dv (x :: k) := by
        rcases Nat.eq_zero_or_pos (dv (x :: k)) with h | h
        · rw [h, dec_small (by decide)] at ih2
          injection ih2 with e1 e2
          exact absurd e1.symm hx48
        · exact h
      rw [dec_step (by omega), show (dv (x :: k) * 10 + (c.toNat - 48)) / 10 = dv (x :: k) by omega, show (dv (x :: k) * 10 + (c.toNat - 48)) % 10 = c.toNat - 48 by omega, ih2, hcb]
theorem dec_inj {m n : Nat} (h : Lib.decDigits m = Lib.decDigits n) : m = n := by
  have := congrArg dv h
  rwa [dec_dv, dec_dv] at this
theorem dec_len_lt (n k : Nat) : n < 10 ^ (k + 1) ↔ (Lib.decDigits n).length ≤ k + 1 := by
  induction k generalizing n with
  | zero =>
    constructor
    · intro h; rw [dec_small (by simpa using h)]; simp
    · intro h
      by_cases h1 : n < 10
      · simpa using h1
      · rw [dec_step h1, List.length_append] at h
        have := dec_pos_len (n / 10)
        rw [List.length_singleton] at h; omega
  | succ k ih =>
    by_cases h1 : n < 10
    · rw [dec_small h1]
      have : 10 ^ 1 ≤ 10 ^ (k + 1 + 1) := Nat.pow_le_pow_right (by decide) (by omega)
      simp; omega
    · rw [dec_step h1, List.length_append, List.length_singleton]
      have := ih (n / 10)
      rw [Nat.pow_succ]
      constructor
      · intro h
        have := this.1 (by omega)
        omega
      · intro h
        have := this.2 (by omega)
        omega
theorem dgs_bit {W n : Nat} (hW : 1 < W) : ∀ i : Nat, (dgs W n).getD i 0 = n / W ^ i % W := by
  intro i
  induction i generalizing n with
  | zero =>
    rcases Nat.eq_zero_or_pos n with rfl | hn
    · rw [dgs_zero]; simp
    · rw [dgs_pos hW hn]; simp
  | succ i ih =>
    rcases Nat.eq_zero_or_pos n with rfl | hn
    · rw [dgs_zero]; simp
    · rw [dgs_pos hW hn, List.getD_cons_succ, ih, Nat.pow_succ, Nat.mul_comm (W ^ i) W, Nat.div_div_eq_div_mul]
theorem word_bit (n i : Nat) : n / (2 ^ 32) ^ (i / 32) % 2 ^ 32 / 2 ^ (i % 32) % 2 = n / 2 ^ i % 2 := by
  have h1 : (2 ^ 32) ^ (i / 32) = 2 ^ (32 * (i / 32)) := by rw [← Nat.pow_mul]
  have h2 : 2 ^ i = 2 ^ (32 * (i / 32)) * 2 ^ (i % 32) := by rw [← Nat.pow_add, Nat.div_add_mod]
  rw [h1, h2, ← Nat.div_div_eq_div_mul]
  generalize n / 2 ^ (32 * (i / 32)) = m
  have h3 : i % 32 < 32 := Nat.mod_lt _ (by decide)
  generalize i % 32 = j at h3 ⊢
  have e1 : m % 2 ^ 32 / 2 ^ j % 2 = ((m % 2 ^ 32).testBit j).toNat := by rw [Nat.testBit_eq_decide_div_mod_eq]; have := Nat.mod_two_eq_zero_or_one (m % 2 ^ 32 / 2 ^ j); rcases this with h | h <;> simp [h]
  have e2 : m / 2 ^ j % 2 = (m.testBit j).toNat := by rw [Nat.testBit_eq_decide_div_mod_eq]; have := Nat.mod_two_eq_zero_or_one (m / 2 ^ j); rcases this with h | h <;> simp [h]
  rw [e1, e2, Nat.testBit_mod_two_pow]
  simp [h3]
end Go.Proofs.YtnhbipachchlgaaGreat.HL
namespace Go.Proofs.YtnhbipachchlgaaGreat.HL
open Go
attribute [local irreducible] goFn thenS blockS bodyS CW RW DW GW QW NW SC Pick Picks SubL Rd NN ResOk SrcW subE hops hseg AW hgen HC qv bldv
set_option linter.unusedVariables false
set_option linter.unusedSimpArgs false

theorem take_set {l : List Nat} {i v : Nat} (hi : i < l.length) : (l.set i v).take (i + 1) = l.take i ++ [v] := by
  rw [List.take_add_one, List.getElem?_set_self hi, List.take_set_of_le (Nat.le_refl i)]; rfl
theorem split_mul (W j t : Nat) : W ^ j * (t % W) + W ^ (j + 1) * (t / W) = W ^ j * t := by
  rw [Nat.pow_succ, Nat.mul_assoc, ← Nat.mul_add, Nat.mod_add_div]
theorem mul_dig {W : Nat} {out : List Nat} {j o t x : Nat} (ho : out[j]? = some o) (ht : t = x + o) : nv W (out.set j (t % W)) + W ^ (j + 1) * (t / W) = nv W out + W ^ j * x := by
  have h1 := nv_set (B := W) (t % W) ho
  have h2 := split_mul W j t
  have h3 : W ^ j * t = W ^ j * x + W ^ j * o := by rw [ht, Nat.mul_add]
  omega
theorem div_dig {W : Nat} {a out : List Nat} {i ai b r : Nat} (ha : a[i]? = some ai) (hi : i < out.length) (h : nv W (a.drop (i + 1)) = b * nv W (out.drop (i + 1)) + r) :
    nv W (a.drop i) = b * nv W ((out.set i ((r * W + ai) / b)).drop i) + (r * W + ai) % b := by
  rw [nv_drop ha, h, nv_drop (l := out.set i ((r * W + ai) / b)) (k := i) (List.getElem?_set_self hi), List.drop_set_of_lt (by omega)]
  have h1 := Nat.div_add_mod (r * W + ai) b
  generalize (r * W + ai) / b = q at h1 ⊢
  generalize (r * W + ai) % b = s at h1 ⊢
  rw [Nat.mul_add, Nat.mul_add b q, Nat.mul_comm W r, ← Nat.mul_assoc, ← Nat.mul_assoc, Nat.mul_comm W b]
  omega
theorem mul_step {W i k xi yk A B C c p : Nat} (h : B + W ^ (i + k) * c = C + W ^ i * (xi * A)) (hp : p = xi * yk) : B + W ^ (i + k) * (c + p) = C + W ^ i * (xi * (A + W ^ k * yk)) := by
  rw [Nat.mul_add, ← Nat.add_assoc, h, hp, Nat.mul_add xi, Nat.mul_add (W ^ i), Nat.pow_add, Nat.add_assoc]
  congr 2
  rw [Nat.mul_assoc, Nat.mul_left_comm (W ^ k)]
theorem set_drop {l : List Nat} {i j v : Nat} (h : i < j) : (l.set i v).drop j = l.drop j := List.drop_set_of_lt h
theorem dec_rev (n : Nat) (h : 0 < n) : Lib.decDigits n = ((dgs 10 n).map digB).reverse := by
  induction n using Nat.strongRecOn with
  | _ n ih =>
    rw [dgs_pos (by decide) h, List.map_cons, List.reverse_cons]
    by_cases h1 : n < 10
    · rw [dec_small h1, Nat.div_eq_of_lt h1, dgs_zero, Nat.mod_eq_of_lt h1]; rfl
    · rw [dec_step h1, ih (n / 10) (by omega) (by omega)]
def padD : Nat → Nat → List Nat
  | 0, _ => []
  | k + 1, n => n % 10 :: padD k (n / 10)
theorem padD_dgs : ∀ (k n m : Nat), n < 10 ^ k → 0 < m → padD k n ++ dgs 10 m = dgs 10 (n + 10 ^ k * m)
  | 0, n, m, h, hm => by
    have : n = 0 := by simpa using h
    subst this; simp [padD]
  | k + 1, n, m, h, hm => by
    have hp : 0 < 10 ^ (k + 1) * m := Nat.mul_pos (Nat.pow_pos (by decide)) hm
    have e1 : 10 ^ (k + 1) * m = 10 * (10 ^ k * m) := by rw [Nat.pow_succ, Nat.mul_comm (10 ^ k) 10, Nat.mul_assoc]
    rw [padD, jM, padD_dgs k (n / 10) m (by rw [Nat.pow_succ] at h; omega) hm, e1, dgs_pos (n := n + 10 * (10 ^ k * m)) (by decide) (by omega)]
    congr 1
    · omega
    · congr 1; omega
end Go.Proofs.YtnhbipachchlgaaGreat.HL
namespace Go.Proofs.YtnhbipachchlgaaGreat.HL
open Go
set_option linter.unusedSimpArgs false
set_option linter.unusedVariables false

abbrev W32 : Nat := 4294967296
abbrev ws (l : List Nat) : List Value := l.map fun (d : Nat) => Value.int .u32 (d : Int)
abbrev wd (z : Int) : List Nat := dgs W32 z.natAbs
theorem ws_one (l : List Nat) : (ws l).all isOne = true := by simp [List.all_map, isOne]
theorem ws_len (l : List Nat) : (ws l).length = l.length := List.length_map _
theorem ws_at {l : List Nat} {k d : Nat} (h : l[k]? = some d) (j : Int) (hj : j.toNat = k) : ((ws l).drop (j.toNat * 1)).take 1 = [.int .u32 (d : Int)] := by
  have hlt : k < l.length := by
    rcases Nat.lt_or_ge k l.length with h' | h'
    · exact h'
    · rw [List.getElem?_eq_none h'] at h; cases h
  have h2 : (ws l)[k]? = some (.int .u32 (d : Int)) := by rw [List.getElem?_map, h]; rfl
  rw [hj, Nat.mul_one, List.drop_eq_getElem_cons (by rw [List.length_map]; exact hlt)]
  rw [List.getElem?_eq_getElem (by rw [List.length_map]; exact hlt)] at h2
  rw [Option.some.inj h2]; rfl
section
variable {H : Hp} {L L' : List Res}
theorem Rd.sub {p : Option Addr} {n : Nat} {vs : List Value} (h : Rd H L p n vs) (hs : SubL L L') : Rd H L' p n vs := fun G hg => h G (hg.sub hs)
def IntW (H : Hp) (L : List Res) (b off : Nat) (z : Int) : Prop := ∃ (a : Option Addr) (c : Nat), Rd H L (some ⟨b, off, none⟩) 1 [.bool (decide (z < 0))] ∧ Rd H L (some ⟨b, off + 1, none⟩) 1 [.slice a (wd z).length c] ∧ Rs H 1 a (wd z).length c (ws (wd z))
theorem IntW.sub {b off : Nat} {z : Int} (h : IntW H L b off z) (hs : SubL L L') : IntW H L' b off z := by
  obtain ⟨a, c, h1, h2, h3⟩ := h
  exact ⟨a, c, h1.sub hs, h2.sub hs, h3⟩
theorem own_less {G : Hp} {e : TypeId} {z n k c : Nat} {a : Option Addr} {cs : List Value} {fp : Foot} (h : (Res.own e z a n c cs).holds G fp) (hk : k ≤ n) : (Res.own e z a k c (cs.take (k * z))).holds G fp := by
  obtain ⟨h1, h2, h3⟩ := h
  have hkz : k * z ≤ n * z := Nat.mul_le_mul_right z hk
  refine ⟨fun x => (h1 x).trans ?_, by rw [List.length_take]; omega, ?_⟩
  · cases a with
    | none => exact Iff.rfl
    | some a => exact Iff.rfl
  · rcases h3 with ⟨h4, h5⟩ | ⟨b, cap, rest, lo, hi, h4, h5, h6, h7, h8⟩
    · cases h4
      exact .inl ⟨by rw [show k = 0 by omega], by omega⟩
    · cases h4
      refine .inr ⟨b, c, cs.drop (k * z) ++ rest, lo, hi, rfl, by rw [← List.append_assoc, List.take_append_drop]; exact h5, ?_, by omega, ?_⟩
      · rw [List.length_append, List.length_drop, h6, h2, ← Nat.sub_mul, ← Nat.add_mul]
        congr 1; omega
      · rw [← List.append_assoc, List.take_append_drop]; exact h8
theorem subl_less {e : TypeId} {z n k c : Nat} {a : Option Addr} {cs : List Value} (hp : Pick L (.own e z a n c cs) L') (hk : k ≤ n) {M : List Res} (h : SubL M L') : SubL (.own e z a k c (cs.take (k * z)) :: M) L := by
  intro U G hs
  obtain ⟨fp, h1, h2, h3⟩ := hp U G hs
  exact ⟨fp, own_less h1 hk, h2, h _ _ h3⟩
end
end Go.Proofs.YtnhbipachchlgaaGreat.HL
namespace Go.Proofs.YtnhbipachchlgaaGreat.HL
open Go
attribute [local irreducible] goFn thenS blockS bodyS CW RW DW GW QW NW SC Pick Picks SubL Rd NN ResOk SrcW subE hops hseg AW hgen HC qv bldv
set_option linter.unusedVariables false
set_option linter.unusedSimpArgs false

theorem put_spec (b off : Nat) (TB : TypeId) (cs : List Value) (s : Bool) (ds : List Nat) (a : Option Addr) (n c : Nat) (H : Hp) (hoff : off + 1 < cs.length) (hx : Rs H 1 a n c (ws ds)) (hn : ds.length = n) (hN : n ≤ 1099511627776) (hd : Dg W32 ds) :
    SC Tryz.prog 111 [.pointer (some ⟨b, off, none⟩), .bool s, .slice a n c] H [.box b TB cs]
      (fun v M => v = .pointer (some ⟨b, off, none⟩) ∧ M = [.box b TB ((cs.set off (.bool (s && decide (0 < nv W32 ds)))).set (off + 1) (.slice a (dgs W32 (nv W32 ds)).length c))]) := by
  (refine SC_intro Tryz.func111 rfl (by kernel_rfl) (by rw [Tryz.ntmps111]; exact Nat.le_of_ble_eq_true rfl) ?_; simp only [Tryz.ntmps111, argE, Nat.reduceAdd])
  repeat' (first | (apply RW.q1; exact qt) | (apply RW.qg; exact gvx; refine hgx tst ?_; intro hg hg'; exact qu) | refine xsg cts ?_ | (apply CW_condT; exact rfl; exact ar) | (apply CW_condF; exact rfl; exact ar) | ((first | apply RW.s1 | apply RW.s0); exact gva) | (refine hK _ _ ?_; clear hK; refine xsg xsl ?_) | ((first | apply RW.a1 | apply RW.a0 | (apply RW.at; exact gva)); (first | (apply gw_asg; exact rfl) | (refine gw_stx sto ?_) | (fail))) | (apply CW_region; intro K hK) | (apply CW_condX; exact rfl; exact tst; exact tst; all_goals (intro hq hc; try exact no)))
  refine CW_loop (fun m l L => ∃ (k : Nat), m = k + 1 ∧ l = [(0, true, .pointer (some ⟨b, off, none⟩)), (1, true, .bool s), (2, true, .slice a k c)] ∧ L = [.box b TB cs] ∧ k ≤ n ∧ nv W32 (ds.take k) = nv W32 ds)
    ⟨_, _, _, ⟨n, rfl, rfl, rfl, Nat.le_refl _, by rw [List.take_of_length_le (by omega)]⟩, by exact sbe, by exact sbl⟩ ?_
  rintro m l L ⟨k, rfl, rfl, rfl, h1, h2⟩
  have hrk := rs_take hx h1
  have hlast : (0 < k → ∃ d, ds[k - 1]? = some d ∧ nv W32 (ds.take k) = nv W32 (ds.take (k - 1)) + W32 ^ (k - 1) * d) := by
    intro h
    obtain ⟨d, hd⟩ : ∃ d, ds[k - 1]? = some d := ⟨_, List.getElem?_eq_getElem (by omega)⟩
    have := nv_take (B := W32) hd
    rw [show k - 1 + 1 = k by omega] at this
    exact ⟨d, hd, this⟩
  by_cases hz : 0 < k ∧ ds[k - 1]? = some 0
  · obtain ⟨hz1, hz2⟩ := hz
    obtain ⟨d, hd1, hd2⟩ := hlast hz1
    obtain rfl : 0 = d := Option.some.inj (hz2.symm.trans hd1)
    have hrd : ∀ j : Int, j.toNat = k - 1 → (((ws ds).take (k * 1)).drop (j.toNat * 1)).take 1 = [.int .u32 (0 : Int)] := by
      intro j hj
      rw [show (ws ds).take (k * 1) = ws (ds.take k) by rw [Nat.mul_one]; exact (List.map_take ..).symm]
      exact ws_at (l := ds.take k) (k := k - 1) (by rw [List.getElem?_take_of_lt (by omega)]; exact hz2) j hj
    
    repeat' (first | (apply RW.q1; (first | (apply q_ldr; exact rfl; exact rfl; exact hrk; exact hrd _ (by omega)) | exact qt)) | (apply RW.qg; exact gvx; refine hgx tst ?_; intro hg hg'; (first | (apply q_ldr; exact rfl; exact evgx; exact hrk; exact hrd _ (by omega)) | exact qu)) | refine xsg cts ?_ | (apply CW_condT; exact rfl; exact ar) | (apply CW_condF; exact rfl; exact ar) | ((first | apply RW.s1 | apply RW.s0); exact gva) | (refine hK _ _ ?_; clear hK; refine xsg xsl ?_) | ((first | apply RW.a1 | apply RW.a0 | (apply RW.at; exact gva)); (first | (apply gw_asg; exact rfl) | (refine gw_stx sto ?_) | (fail))) | (apply CW_region; intro K hK) | (apply CW_condX; exact rfl; exact tst; exact tst; all_goals (intro hq hc; try exact no)))
    refine ⟨_, _, _, ⟨k - 1, rfl, rfl, rfl, by omega, by rw [← h2, hd2]; simp⟩, ?_, by exact sbl, by omega⟩
    have e1 : ((k : Int) - 1).toNat = k - 1 := by omega
    rw [e1]
    exact sbe
  · have hend : ds.take k = dgs W32 (nv W32 ds) := by
      have := norm_eq (B := W32) (by decide) (dg_take hd k) (fun j hj => by
        rw [List.length_take, Nat.min_eq_left (by omega)] at hj
        rw [List.getElem?_take_of_lt (by omega)]
        intro e
        exact hz ⟨by omega, by rw [show k - 1 = j by omega]; exact e⟩)
      rw [h2] at this
      exact this
    have hlen : (dgs W32 (nv W32 ds)).length = k := by rw [← hend, List.length_take]; omega
    have hpos : decide (0 < nv W32 ds) = decide (0 < k) := by
      by_cases h0 : k = 0
      · subst h0
        rw [← h2]; rfl
      · have : nv W32 ds ≠ 0 := fun e => by rw [e, dgs_zero] at hlen; exact h0 hlen.symm
        rw [decide_eq_true (by omega), decide_eq_true (by omega)]
    rw [hlen, hpos]
    
    by_cases h0 : 0 < k
    · obtain ⟨d, hd1, hd2⟩ := hlast h0
      have hd0 : d ≠ 0 := fun e => hz ⟨h0, by rw [hd1, e]⟩
      have hrd : ∀ j : Int, j.toNat = k - 1 → (((ws ds).take (k * 1)).drop (j.toNat * 1)).take 1 = [.int .u32 (d : Int)] := by
        intro j hj
        rw [show (ws ds).take (k * 1) = ws (ds.take k) by rw [Nat.mul_one]; exact (List.map_take ..).symm]
        exact ws_at (l := ds.take k) (k := k - 1) (by rw [List.getElem?_take_of_lt (by omega)]; exact hd1) j hj
      repeat' (first | (apply RW.q1; (first | (apply q_ldr; exact rfl; exact rfl; exact hrk; exact hrd _ (by omega)) | exact qt)) | (apply RW.qg; exact gvx; refine hgx tst ?_; intro hg hg'; (first | (apply q_ldr; exact rfl; exact evgx; exact hrk; exact hrd _ (by omega)) | exact qu)) | refine xsg cts ?_ | (apply CW_condT; exact rfl; exact ar) | (apply CW_condF; exact rfl; exact ar) | ((first | apply RW.s1 | apply RW.s0); exact gva) | (refine hK _ _ ?_; clear hK; refine xsg xsl ?_) | ((first | apply RW.a1 | apply RW.a0 | (apply RW.at; exact gva)); (first | (apply gw_asg; exact rfl) | (refine gw_stx sto ?_) | (fail))) | (apply CW_region; intro K hK) | (apply CW_condX; exact rfl; exact tst; exact tst; all_goals (intro hq hc; try exact no)))
      all_goals (refine CW_ret ?_; refine xsg xsl ?_; refine bR [.tmp 6] [.box b TB _] ?_)
      all_goals exact ⟨rfl, by simp only [Nat.add_zero]; congr 4; simp⟩
    · repeat' (first | (apply RW.q1; exact qt) | (apply RW.qg; exact gvx; refine hgx tst ?_; intro hg hg'; exact qu) | refine xsg cts ?_ | (apply CW_condT; exact rfl; exact ar) | (apply CW_condF; exact rfl; exact ar) | ((first | apply RW.s1 | apply RW.s0); exact gva) | (refine hK _ _ ?_; clear hK; refine xsg xsl ?_) | ((first | apply RW.a1 | apply RW.a0 | (apply RW.at; exact gva)); (first | (apply gw_asg; exact rfl) | (refine gw_stx sto ?_) | (fail))) | (apply CW_region; intro K hK) | (apply CW_condX; exact rfl; exact tst; exact tst; all_goals (intro hq hc; try exact no)))
      all_goals (refine CW_ret ?_; refine xsg xsl ?_; refine bR [.tmp 6] [.box b TB _] ?_)
      all_goals exact ⟨rfl, by simp only [Nat.add_zero]; congr 4; simp⟩
end Go.Proofs.YtnhbipachchlgaaGreat.HL
namespace Go.Proofs.YtnhbipachchlgaaGreat.HL
open Go
attribute [local irreducible] goFn thenS blockS bodyS CW RW DW GW QW NW SC Pick Picks SubL Rd NN ResOk SrcW subE hops hseg AW hgen HC qv bldv
set_option linter.unusedVariables false
set_option linter.unusedSimpArgs false

theorem w1 : 1 < W32 := by decide
theorem drop_eq {α : Type} {l m : List α} {k : Nat} {x : α} (hl : l[k]? = some x) (hm : m[k]? = some x) (h : l.drop (k + 1) = m.drop (k + 1)) : l.drop k = m.drop k := by
  have a : ∀ {l : List α}, l[k]? = some x → l.drop k = x :: l.drop (k + 1) := by
    intro l hl
    have hlt : k < l.length := by
      rcases Nat.lt_or_ge k l.length with h' | h'
      · exact h'
      · rw [List.getElem?_eq_none h'] at hl; cases hl
    rw [List.getElem?_eq_getElem hlt] at hl
    rw [List.drop_eq_getElem_cons hlt, Option.some.inj hl]
  rw [a hl, a hm, h]
theorem compare_spec (x y : Nat) (a b : Option Addr) (n m c d : Nat) (H : Hp) (hn : (dgs W32 x).length = n) (hm : (dgs W32 y).length = m) (hx : Rs H 1 a n c (ws (dgs W32 x))) (hy : Rs H 1 b m d (ws (dgs W32 y))) (hN : n ≤ 1099511627776) (hM : m ≤ 1099511627776) :
    SC Tryz.prog 132 [.slice a n c, .slice b m d] H [] (fun v M => ∃ r : Int, v = .int .i64 r ∧ (r < 0 ↔ x < y) ∧ (r = 0 ↔ x = y) ∧ -1099511627776 ≤ r ∧ r ≤ 1099511627776 ∧ M = []) := by
  by_cases hl : n = m
  case neg =>
    (refine SC_intro Tryz.func132 rfl (by kernel_rfl) (by rw [Tryz.ntmps132]; exact Nat.le_of_ble_eq_true rfl) ?_; simp only [Tryz.ntmps132, argE, Nat.reduceAdd])
    
    repeat' (first | ((first | apply RW.q1 | (apply DW.q1; exact rfl)); exact qt) | refine xsg cts ?_ | (apply CW_condT; exact rfl; exact ar) | (apply CW_condF; exact rfl; exact ar) | (refine hK _ _ ?_; clear hK; refine xsg xsl ?_) | (refine xsg ahd ?_; (first | (apply gw_asg; exact rfl) | (fail))) | (apply CW_region; intro K hK) | (apply CW_condX; exact rfl; exact tst; exact tst; all_goals (intro hq hc; try exact no)) | (refine CW_draw (id := 6) [] [(0, false), (1, false), (2, false), (3, false), (4, false), (5, false), (6, false), (7, false), (8, false)] mixed (by kernel_rfl) (fun K hK => ?_)) | (refine CW_draw (id := 7) [] [(0, false), (1, false), (2, false), (3, false), (4, false), (5, false), (6, false), (7, false), (8, false)] mixed (by kernel_rfl) (fun K hK => ?_)))
    (refine CW_ret ?_; refine xsg xsl ?_; refine bR [.tmp 4] [] ?_)
    refine ⟨_, rfl, ?_, ?_, by omega, by omega, rfl⟩
    · constructor
      · intro h; exact dgs_len_mono w1 (by omega)
      · intro h
        rcases Nat.lt_or_ge n m with h1 | h1
        · omega
        · have := dgs_len_mono (B := W32) w1 (m := y) (n := x) (by omega); omega
    · constructor
      · intro h; omega
      · intro h; rw [h] at hn; omega
  subst hl
  (refine SC_intro Tryz.func132 rfl (by kernel_rfl) (by rw [Tryz.ntmps132]; exact Nat.le_of_ble_eq_true rfl) ?_; simp only [Tryz.ntmps132, argE, Nat.reduceAdd])
  
  repeat' (first | ((first | apply RW.q1 | (apply DW.q1; exact rfl)); exact qt) | refine xsg cts ?_ | (apply CW_condT; exact rfl; exact ar) | (apply CW_condF; exact rfl; exact ar) | (refine hK _ _ ?_; clear hK; refine xsg xsl ?_) | (refine xsg ahd ?_; (first | (apply gw_asg; exact rfl) | (fail))) | (apply CW_region; intro K hK) | (apply CW_condX; exact rfl; exact tst; exact tst; all_goals (intro hq hc; try exact no)) | (refine CW_draw (id := 6) [] [(0, false), (1, false), (2, false), (3, false), (4, false), (5, false), (6, false), (7, false), (8, false)] mixed (by kernel_rfl) (fun K hK => ?_)) | (refine CW_draw (id := 7) [] [(0, false), (1, false), (2, false), (3, false), (4, false), (5, false), (6, false), (7, false), (8, false)] mixed (by kernel_rfl) (fun K hK => ?_)))
  refine CW_loop (fun mm l L => ∃ (k : Nat), mm = k + 1 ∧ l = [(0, true, .slice a n c), (1, true, .slice b n d), (5, true, .int .i64 ((k : Int) - 1))] ∧ L = [] ∧ k ≤ n ∧ (dgs W32 x).drop k = (dgs W32 y).drop k)
    ⟨_, _, _, ⟨n, rfl, rfl, rfl, Nat.le_refl _, by rw [List.drop_eq_nil_of_le (by omega), List.drop_eq_nil_of_le (by omega)]⟩, by exact sbe, by exact sbl⟩ ?_
  rintro mm l L ⟨k, rfl, rfl, rfl, h1, h2⟩
  by_cases h0 : 0 < k
  · obtain ⟨p, ep⟩ : ∃ p, (dgs W32 x)[k - 1]? = some p := ⟨_, List.getElem?_eq_getElem (by omega)⟩
    obtain ⟨q, eq⟩ : ∃ q, (dgs W32 y)[k - 1]? = some q := ⟨_, List.getElem?_eq_getElem (by omega)⟩
    have h2' : (dgs W32 x).drop (k - 1 + 1) = (dgs W32 y).drop (k - 1 + 1) := by rw [show k - 1 + 1 = k by omega]; exact h2
    have hxy : p < q → x < y := fun h => by
      have := nv_cmp (dgs_dg w1 x) (dgs_dg w1 y) (by omega) ep eq h2' h
      rwa [nv_dgs w1, nv_dgs w1] at this
    have hyx : q < p → y < x := fun h => by
      have := nv_cmp (dgs_dg w1 y) (dgs_dg w1 x) (by omega) eq ep h2'.symm h
      rwa [nv_dgs w1, nv_dgs w1] at this
    
    repeat' (first | ((first | apply RW.q1 | (apply DW.q1; exact rfl)); (first | (apply q_ldr; exact rfl; exact rfl; (first | exact hx | exact hy); (first | exact ws_at ep _ (by omega) | exact ws_at eq _ (by omega))) | exact qt)) | refine xsg cts ?_ | (apply CW_condT; exact rfl; exact ar) | (apply CW_condF; exact rfl; exact ar) | (refine hK _ _ ?_; clear hK; refine xsg xsl ?_) | (refine xsg ahd ?_; (first | (apply gw_asg; exact rfl) | (fail))) | (apply CW_region; intro K hK) | (apply CW_condX; exact rfl; exact tst; exact tst; all_goals (intro hq hc; try exact no)) | (refine CW_draw (id := 6) [] [(0, false), (1, false), (2, false), (3, false), (4, false), (5, false), (6, false), (7, false), (8, false)] mixed (by kernel_rfl) (fun K hK => ?_)) | (refine CW_draw (id := 7) [] [(0, false), (1, false), (2, false), (3, false), (4, false), (5, false), (6, false), (7, false), (8, false)] mixed (by kernel_rfl) (fun K hK => ?_)))
    · (refine CW_ret ?_; refine xsg xsl ?_; refine bR [.tmp 4] [] ?_)
      have := hxy (by omega)
      exact ⟨-1, rfl, by omega, by omega, by omega, by omega, rfl⟩
    · (refine CW_ret ?_; refine xsg xsl ?_; refine bR [.tmp 4] [] ?_)
      have := hyx (by omega)
      exact ⟨1, rfl, by omega, by omega, by omega, by omega, rfl⟩
    · obtain rfl : p = q := by omega
      exact ⟨_, _, _, ⟨k - 1, rfl, rfl, rfl, by omega, drop_eq ep eq h2'⟩, by exact sbe, by exact sbl, by omega⟩
  · obtain rfl : k = 0 := by omega
    rw [List.drop_zero, List.drop_zero] at h2
    have := dgs_inj w1 h2
    
    repeat' (first | ((first | apply RW.q1 | (apply DW.q1; exact rfl)); exact qt) | refine xsg cts ?_ | (apply CW_condT; exact rfl; exact ar) | (apply CW_condF; exact rfl; exact ar) | (refine hK _ _ ?_; clear hK; refine xsg xsl ?_) | (refine xsg ahd ?_; (first | (apply gw_asg; exact rfl) | (fail))) | (apply CW_region; intro K hK) | (apply CW_condX; exact rfl; exact tst; exact tst; all_goals (intro hq hc; try exact no)) | (refine CW_draw (id := 6) [] [(0, false), (1, false), (2, false), (3, false), (4, false), (5, false), (6, false), (7, false), (8, false)] mixed (by kernel_rfl) (fun K hK => ?_)) | (refine CW_draw (id := 7) [] [(0, false), (1, false), (2, false), (3, false), (4, false), (5, false), (6, false), (7, false), (8, false)] mixed (by kernel_rfl) (fun K hK => ?_)))
    (refine CW_ret ?_; refine xsg xsl ?_; refine bR [.tmp 4] [] ?_)
    exact ⟨0, rfl, by omega, by omega, by omega, by omega, rfl⟩
end Go.Proofs.YtnhbipachchlgaaGreat.HL
namespace Go.Proofs.YtnhbipachchlgaaGreat.HL
open Go
attribute [local irreducible] goFn thenS blockS bodyS CW RW DW GW QW NW SC Pick Picks SubL Rd NN ResOk SrcW subE hops hseg AW hgen HC qv bldv
set_option linter.unusedVariables false
set_option linter.unusedSimpArgs false

theorem clone_spec (ds : List Nat) (a : Option Addr) (n c : Nat) (H : Hp) (hn : ds.length = n) (hN : n ≤ 1099511627776) (hx : Rs H 1 a n c (ws ds)) :
    SC Tryz.prog 131 [.slice a n c] H [] (fun v M => ∃ a' c', v = .slice a' n c' ∧ M = [.own 116 1 a' n c' (ws ds)]) := by
  have hl : (ws ds).length = n * 1 := by rw [ws_len]; omega
  cases a with
  | none =>
    have h0 : n = 0 := by
      rcases hx.2 with ⟨p, k, e, h⟩ | ⟨b, off, cap, e, _⟩
      · exact h
      · cases e
    subst h0
    obtain rfl : ds = [] := List.length_eq_zero_iff.1 hn
    (refine SC_intro Tryz.func131 rfl (by kernel_rfl) (by rw [Tryz.ntmps131]; exact Nat.le_of_ble_eq_true rfl) ?_; simp only [Tryz.ntmps131, argE, Nat.reduceAdd])
    repeat' (first | (apply RW.q1; exact qt) | refine xsg cts ?_ | (apply CW_condT; exact rfl; exact ar) | (apply CW_condF; exact rfl; exact ar) | (refine hK _ _ ?_; clear hK; refine xsg xsl ?_) | ((first | apply RW.a1 | apply RW.a0); (first | (apply gw_asg; exact rfl) | (apply gw_lit1; exact rfl; exact rfl; exact rfl; exact rfl; decide; intro b) | (apply gw_lit2; exact rfl; exact rfl; exact rfl; exact rfl; intro b) | (apply gw_lit3; exact rfl; exact rfl; exact rfl; exact rfl; exact rfl; intro b) | (apply gw_ap1; exact rfl; exact rfl; infer_instance; infer_instance; exact rfl; exact rfl; exact rfl; exact rfl; omega; intro a c) | (apply gw_ap1n; exact rfl; exact rfl; infer_instance; exact rfl; exact rfl; exact rfl; exact rfl; omega; intro a c) | (fail))) | (apply CW_region; intro K hK) | (apply CW_condX; exact rfl; exact tst; exact tst; all_goals (intro hq hc; try exact nx)))
    (refine CW_ret ?_; refine xsg xsl ?_; refine bR [.tmp 2] [.own 116 1 none 0 0 []] ?_)
    exact ⟨none, 0, rfl, rfl⟩
  | some a =>
    (refine SC_intro Tryz.func131 rfl (by kernel_rfl) (by rw [Tryz.ntmps131]; exact Nat.le_of_ble_eq_true rfl) ?_; simp only [Tryz.ntmps131, argE, Nat.reduceAdd])
    repeat' (first | (apply RW.q1; exact qt) | refine xsg cts ?_ | (apply CW_condT; exact rfl; exact ar) | (apply CW_condF; exact rfl; exact ar) | (refine hK _ _ ?_; clear hK; refine xsg xsl ?_) | ((first | apply RW.a1 | apply RW.a0); (first | (refine gw_litn (cs := []) rfl rfl rfl rfl rfl (by decide) (fun b => ?_)) | (refine gw_append (e := 116) (z := 1) (n := 0) (m := n) (cs := []) rfl rfl rfl rfl (by exact pkx) (src_rs hx) subl_refl hl (ws_one ds) (by omega) (by omega) (fun a' c' => ?_); rw [jL, Nat.zero_add]) | (apply gw_asg; exact rfl) | (apply gw_lit1; exact rfl; exact rfl; exact rfl; exact rfl; decide; intro b) | (apply gw_lit2; exact rfl; exact rfl; exact rfl; exact rfl; intro b) | (apply gw_lit3; exact rfl; exact rfl; exact rfl; exact rfl; exact rfl; intro b) | (apply gw_ap1; exact rfl; exact rfl; infer_instance; infer_instance; exact rfl; exact rfl; exact rfl; exact rfl; omega; intro a c) | (apply gw_ap1n; exact rfl; exact rfl; infer_instance; exact rfl; exact rfl; exact rfl; exact rfl; omega; intro a c) | (fail))) | (apply CW_region; intro K hK) | (apply CW_condX; exact rfl; exact tst; exact tst; all_goals (intro hq hc; try exact nx)))
    (refine CW_ret ?_; refine xsg xsl ?_; refine bR [.tmp 2] [.own 116 1 a' n c' (ws ds)] ?_)
    exact ⟨a', c', rfl, rfl⟩

abbrev intC (cs : List Value) (off : Nat) (z : Int) (a : Option Addr) (c : Nat) : List Value := (cs.set off (.bool (decide (z < 0)))).set (off + 1) (.slice a (wd z).length c)
abbrev intR (z : Int) (a : Option Addr) (c : Nat) : Res := .own 116 1 a (wd z).length c (ws (wd z))
theorem put_int (z : Int) : (decide (z < 0) && decide (0 < nv W32 (wd z))) = decide (z < 0) ∧ dgs W32 (nv W32 (wd z)) = wd z := by
  have h : nv W32 (wd z) = z.natAbs := nv_dgs w1 _
  rw [h]
  refine ⟨?_, rfl⟩
  by_cases h0 : z < 0
  · rw [decide_eq_true h0, decide_eq_true (by omega)]; rfl
  · rw [decide_eq_false h0]; rfl

theorem putI_spec (b off : Nat) (TB : TypeId) (cs : List Value) (z : Int) (a : Option Addr) (c : Nat) (H : Hp) (hoff : off + 1 < cs.length) (hx : Rs H 1 a (wd z).length c (ws (wd z))) (hN : (wd z).length ≤ 1099511627776) :
    SC Tryz.prog 111 [.pointer (some ⟨b, off, none⟩), .bool (decide (z < 0)), .slice a (wd z).length c] H [.box b TB cs] (fun v M => v = .pointer (some ⟨b, off, none⟩) ∧ M = [.box b TB (intC cs off z a c)]) := by
  have h := put_spec b off TB cs (decide (z < 0)) (wd z) a _ c H hoff hx rfl hN (dgs_dg w1 _)
  rw [(put_int z).1, (put_int z).2] at h
  exact h
theorem set_spec (b off : Nat) (TB : TypeId) (cs : List Value) (z : Int) (bx ox : Nat) (H : Hp) (hoff : off + 1 < cs.length) (hx : IntW H [.box b TB cs] bx ox z) (hN : (wd z).length ≤ 1099511627776) :
    SC Tryz.prog 112 [.pointer (some ⟨b, off, none⟩), .pointer (some ⟨bx, ox, none⟩)] H [.box b TB cs] (fun v M => v = .pointer (some ⟨b, off, none⟩) ∧ ∃ a c, M = [.box b TB (intC cs off z a c), intR z a c]) := by
  obtain ⟨xa, xc, x1, x2, x3⟩ := hx
  (refine SC_intro Tryz.func112 rfl (by kernel_rfl) (by rw [Tryz.ntmps112]; exact Nat.le_of_ble_eq_true rfl) ?_; simp only [Tryz.ntmps112, argE, Nat.reduceAdd])
  repeat' (first | ((first | apply RW.q1 | (apply DW.q1; exact rfl)); (first | (apply q_load; exact rfl; exact rfl; (first | exact Rd.sub x1 (by exact sbl) | exact Rd.sub x2 (by exact sbl))) | exact qt)) | refine xsg cts ?_ | (apply CW_condT; exact rfl; exact ar) | (apply CW_condF; exact rfl; exact ar) | (refine hK _ _ ?_; clear hK; refine xsg xsl ?_) | (refine xsg ahd ?_; (first | ((first | apply gw_call (f := 131) | apply gx_call (f := 131)); exact rfl; exact go131; intro G hG; refine SC.mono (clone_spec (wd z) xa _ xc G rfl hN (x3.ext hG.ext)) ?_; rintro v M ⟨ra, rc, rfl, rfl⟩; (try dsimp only [jL, jM])) | (apply gw_callc (f := 111) (M := [.box b TB cs]); exact rfl; exact go111; exact pcs; intro G hG; refine SC.mono (putI_spec b off TB cs z ra rc G hoff (sl_own (by exact pkx) hG) hN) ?_; rintro v M ⟨rfl, rfl⟩; (try dsimp only [jL, jM])) | (apply gw_asg; exact rfl) | (fail))) | (apply CW_region; intro K hK) | (apply CW_condX; exact rfl; exact tst; exact tst; all_goals (intro hq hc; try exact nx)) | (refine CW_draw (id := 1) [9] [(0, false), (1, false), (2, false), (3, false), (4, false), (5, false), (6, false), (7, false), (8, false), (9, true), (10, true), (11, false)] mixed (by kernel_rfl) (fun K hK => ?_)))
  (refine CW_ret ?_; refine xsg xsl ?_; refine bR [.tmp 4] [.box b TB (intC cs off z ra rc), intR z ra rc] ?_)
  exact ⟨rfl, ra, rc, rfl⟩
theorem abs_spec (b off : Nat) (TB : TypeId) (cs : List Value) (z : Int) (bx ox : Nat) (H : Hp) (hoff : off + 1 < cs.length) (hx : IntW H [.box b TB cs] bx ox z) (hN : (wd z).length ≤ 1099511627776) :
    SC Tryz.prog 100 [.pointer (some ⟨b, off, none⟩), .pointer (some ⟨bx, ox, none⟩)] H [.box b TB cs] (fun v M => v = .pointer (some ⟨b, off, none⟩) ∧ ∃ a c, M = [.box b TB (intC cs off (z.natAbs : Int) a c), intR (z.natAbs : Int) a c]) := by
  obtain ⟨xa, xc, x1, x2, x3⟩ := hx
  have e0 : decide (((z.natAbs : Nat) : Int) < 0) = false := decide_eq_false (by omega)
  have hP := fun G ra rc hr => putI_spec b off TB cs (z.natAbs : Int) ra rc G hoff hr hN
  rw [e0] at hP
  have e1 : wd ((z.natAbs : Nat) : Int) = wd z := by unfold wd; rw [Int.natAbs_natCast]
  (refine SC_intro Tryz.func100 rfl (by kernel_rfl) (by rw [Tryz.ntmps100]; exact Nat.le_of_ble_eq_true rfl) ?_; simp only [Tryz.ntmps100, argE, Nat.reduceAdd])
  repeat' (first | (apply RW.q1; (first | (apply q_load; exact rfl; exact rfl; (first | exact Rd.sub x1 (by exact sbl) | exact Rd.sub x2 (by exact sbl))) | exact qt)) | refine xsg cts ?_ | (apply CW_condT; exact rfl; exact ar) | (apply CW_condF; exact rfl; exact ar) | (refine hK _ _ ?_; clear hK; refine xsg xsl ?_) | ((first | apply RW.a1 | apply RW.a0); (first | (apply gw_call (f := 131); exact rfl; exact go131; intro G hG; refine SC.mono (clone_spec (wd z) xa _ xc G rfl hN (x3.ext hG.ext)) ?_; rintro v M ⟨ra, rc, rfl, rfl⟩; (try dsimp only [jL, jM])) | (apply gw_callc (f := 111) (M := [.box b TB cs]); exact rfl; exact go111; exact pcs; intro G hG; refine SC.mono (hP G ra rc (sl_own (by exact pkx) hG)) ?_; rintro v M ⟨rfl, rfl⟩; (try dsimp only [jL, jM])) | (apply gw_asg; exact rfl) | (fail))) | (apply CW_region; intro K hK) | (apply CW_condX; exact rfl; exact tst; exact tst; all_goals (intro hq hc; try exact nx)))
  (refine CW_ret ?_; refine xsg xsl ?_; refine bR [.tmp 4] [.box b TB (intC cs off (z.natAbs : Int) ra rc), intR (z.natAbs : Int) ra rc] ?_)
  exact ⟨rfl, ra, rc, rfl⟩
theorem sign_spec (z : Int) (bx ox : Nat) (H : Hp) (L : List Res) (hx : IntW H L bx ox z) : SC Tryz.prog 98 [.pointer (some ⟨bx, ox, none⟩)] H L (fun v M => v = .int .i64 z.sign ∧ M = L) := by
  obtain ⟨xa, xc, x1, x2, x3⟩ := hx
  have e : (wd z).length = 0 ↔ z = 0 := by rw [List.length_eq_zero_iff, dgs_nil w1, Int.natAbs_eq_zero]
  have eN : 0 < (wd z).length ↔ z ≠ 0 := by omega
  rcases Int.lt_trichotomy z 0 with h | h | h
  · rw [Int.sign_eq_neg_one_of_neg h]
    have h2 : decide (z < 0) = true := decide_eq_true h
    have h3 : ¬ ((wd z).length : Int) = 0 := by omega
    rw [h2] at x1
    (refine SC_intro Tryz.func98 rfl (by kernel_rfl) (by rw [Tryz.ntmps98]; exact Nat.le_of_ble_eq_true rfl) ?_; simp only [Tryz.ntmps98, argE, Nat.reduceAdd])
    
    repeat' (first | (apply RW.q1; (first | (apply q_load; exact rfl; exact rfl; (first | exact Rd.sub x1 (by exact sbl) | exact Rd.sub x2 (by exact sbl))) | exact qt)) | refine xsg cts ?_ | (apply CW_condT; exact rfl; exact ar) | (apply CW_condF; exact rfl; exact ar) | (refine hK _ _ ?_; clear hK; refine xsg xsl ?_) | ((first | apply RW.a1 | apply RW.a0); (first | (apply gw_asg; exact rfl) | (fail))) | (apply CW_region; intro K hK) | (apply CW_condX; exact rfl; exact tst; exact tst; all_goals (intro hq hc; try exact no)))
    all_goals (refine CW_ret ?_; refine xsg xsl ?_; refine bR [.tmp 2] L ?_)
    all_goals exact ⟨rfl, rfl⟩
  · subst h
    (refine SC_intro Tryz.func98 rfl (by kernel_rfl) (by rw [Tryz.ntmps98]; exact Nat.le_of_ble_eq_true rfl) ?_; simp only [Tryz.ntmps98, argE, Nat.reduceAdd])
    repeat' (first | (apply RW.q1; (first | (apply q_load; exact rfl; exact rfl; (first | exact Rd.sub x1 (by exact sbl) | exact Rd.sub x2 (by exact sbl))) | exact qt)) | refine xsg cts ?_ | (apply CW_condT; exact rfl; exact ar) | (apply CW_condF; exact rfl; exact ar) | (refine hK _ _ ?_; clear hK; refine xsg xsl ?_) | ((first | apply RW.a1 | apply RW.a0); (first | (apply gw_asg; exact rfl) | (fail))) | (apply CW_region; intro K hK) | (apply CW_condX; exact rfl; exact tst; exact tst; all_goals (intro hq hc; try exact no)))
    all_goals (refine CW_ret ?_; refine xsg xsl ?_; refine bR [.tmp 2] L ?_)
    all_goals exact ⟨rfl, rfl⟩
  · rw [Int.sign_eq_one_of_pos h]
    have h2 : decide (z < 0) = false := decide_eq_false (by omega)
    have h3 : ¬ ((wd z).length : Int) = 0 := by omega
    rw [h2] at x1
    (refine SC_intro Tryz.func98 rfl (by kernel_rfl) (by rw [Tryz.ntmps98]; exact Nat.le_of_ble_eq_true rfl) ?_; simp only [Tryz.ntmps98, argE, Nat.reduceAdd])
    
    repeat' (first | (apply RW.q1; (first | (apply q_load; exact rfl; exact rfl; (first | exact Rd.sub x1 (by exact sbl) | exact Rd.sub x2 (by exact sbl))) | exact qt)) | refine xsg cts ?_ | (apply CW_condT; exact rfl; exact ar) | (apply CW_condF; exact rfl; exact ar) | (refine hK _ _ ?_; clear hK; refine xsg xsl ?_) | ((first | apply RW.a1 | apply RW.a0); (first | (apply gw_asg; exact rfl) | (fail))) | (apply CW_region; intro K hK) | (apply CW_condX; exact rfl; exact tst; exact tst; all_goals (intro hq hc; try exact no)))
    all_goals (refine CW_ret ?_; refine xsg xsl ?_; refine bR [.tmp 2] L ?_)
    all_goals exact ⟨rfl, rfl⟩
end Go.Proofs.YtnhbipachchlgaaGreat.HL
