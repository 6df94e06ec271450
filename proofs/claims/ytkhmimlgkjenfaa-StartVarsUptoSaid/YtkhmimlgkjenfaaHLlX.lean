/- HLl: the rules of the operations over a base and resources. No condition. -/
import Derived.Test.YtkhmimlgkjenfaaHLkX
namespace Go.Proofs.Ytkhmimlgkjenfaa.HL
open Go
set_option linter.unusedVariables false
set_option linter.unusedSimpArgs false

/-! closed facts of the program's types, found by their number -/
class Und (P : Program) (t : TypeId) (d : outParam TypeDesc) : Prop where
  h : P.underlying t = some d
class Szc (P : Program) (t : TypeId) (n : outParam Nat) : Prop where
  h : szOf P t = some n
class Zec (P : Program) (t : TypeId) (z : outParam Value) : Prop where
  h : zeroOf P t = some z
class Bsc (P : Program) (t : TypeId) (n : outParam Nat) : Prop where
  h : bsOf P t = some n

section
variable {P : Program} {l : Ents} {H : Hp} {L : List Res} {d : Option Tmp} {T : TypeId} {pos : String} {aft : Array Edge} {gd : Option (Nat × Bool)} {ops : Array Oper}

theorem ev_t {t : Tmp} {v : Value} {g : Bool} (h : look l t = some (true, v)) : evg l g (.tmp t) = some v := by
  simp [evg, h]
theorem ev_g {t : Tmp} {v : Value} {gx : Bool} (h : look l t = some (gx, v)) (hg : gx = true) : evg l true (.tmp t) = some v := by
  simp [evg, h, hg]
theorem gv_n {op : Op} : gval ops l ⟨d, op, T, pos, aft, none⟩ = some true := rfl
theorem gv_1 {op : Op} {j : Nat} {t : Tmp} {b : Bool} (hd : (ops[j]?).bind (·.dst) = some t) (hl : look l t = some (true, .bool b)) : gval ops l ⟨d, op, T, pos, aft, some (j, true)⟩ = some b := by
  simp [gval, hd, hl]
theorem gv_0 {op : Op} {j : Nat} {t : Tmp} {b : Bool} (hd : (ops[j]?).bind (·.dst) = some t) (hl : look l t = some (true, .bool b)) : gval ops l ⟨d, op, T, pos, aft, some (j, false)⟩ = some (!b) := by
  simp [gval, hd, hl]
theorem gv_1g {op : Op} {j : Nat} {t : Tmp} {gx b : Bool} (hd : (ops[j]?).bind (·.dst) = some t) (hl : look l t = some (gx, .bool b)) : gval ops l ⟨d, op, T, pos, aft, some (j, true)⟩ = some (gx && b) := by
  simp [gval, hd, hl]
theorem gv_0g {op : Op} {j : Nat} {t : Tmp} {gx b : Bool} (hd : (ops[j]?).bind (·.dst) = some t) (hl : look l t = some (gx, .bool b)) : gval ops l ⟨d, op, T, pos, aft, some (j, false)⟩ = some (gx && !b) := by
  simp [gval, hd, hl]
theorem gv_is {o : Oper} {g b : Bool} (h : gval ops l o = some g) (e : g = b) : gval ops l o = some b := e ▸ h

theorem evs_n {g : Bool} : evs l g [] = some [] := rfl
theorem evs_c {g : Bool} {x : Operand} {r : List Operand} {v : Value} {vs : List Value} (h : evg l g x = some v) (hr : evs l g r = some vs) : evs l g (x :: r) = some (v :: vs) := by simp [evs, h, hr]

/-! quiet operations -/
theorem q_move {x : Operand} {v : Value} (h : evg l true x = some v) : QW P l H L ⟨d, .move x, T, pos, aft, gd⟩ v := fun _ _ => h
theorem q_asgn {x : Operand} {v : Value} (h : evg l true x = some v) : QW P l H L ⟨d, .assign x, T, pos, aft, gd⟩ v := fun _ _ => h

theorem q_pick {c x y : Operand} {t a b : Bool} (hc : evg l true c = some (.bool t)) (hx : evg l t x = some (.bool a)) (hy : evg l (!t) y = some (.bool b)) :
    QW P l H L ⟨d, .pick c x y, T, pos, aft, gd⟩ (.bool (bif t then a else b)) := fun _ _ => by simp [qv, hc, hx, hy, vite]
theorem q_and {c x : Operand} {t a : Bool} (hc : evg l true c = some (.bool t)) (hx : evg l t x = some (.bool a)) :
    QW P l H L ⟨d, .pick c x (.const (.bool false)), T, pos, aft, gd⟩ (.bool (t && a)) := fun _ _ => by
  have e : ∀ g, evg l g (.const (.bool false)) = some (.bool false) := fun _ => rfl
  cases t <;> simp [qv, hc, hx, vite, e]
theorem q_or {c y : Operand} {t b : Bool} (hc : evg l true c = some (.bool t)) (hy : evg l (!t) y = some (.bool b)) :
    QW P l H L ⟨d, .pick c (.const (.bool true)) y, T, pos, aft, gd⟩ (.bool (t || b)) := fun _ _ => by
  have e : ∀ g, evg l g (.const (.bool true)) = some (.bool true) := fun _ => rfl
  cases t <;> simp_all [qv, hc, hy, vite, e]
theorem ev_p {t : Tmp} {v : Value} {gx g : Bool} (h : look l t = some (gx, v)) (hg : g = true → gx = true) : evg l g (.tmp t) = some v := by
  simp only [evg, h]; cases g <;> simp_all
theorem q_pickT {c x y : Operand} {t : Bool} {v : Value} (hc : evg l true c = some (.bool t)) (ht : t = true) (hx : evg l true x = some v) (hy : ∃ u, evg l false y = some u) :
    QW P l H L ⟨d, .pick c x y, T, pos, aft, gd⟩ v := fun _ _ => by
  obtain ⟨u, hu⟩ := hy
  subst ht; simp [qv, hc, hx, hu, vite_eq]
theorem q_pickF {c x y : Operand} {t : Bool} {v : Value} (hc : evg l true c = some (.bool t)) (ht : t = false) (hy : evg l true y = some v) (hx : ∃ u, evg l false x = some u) :
    QW P l H L ⟨d, .pick c x y, T, pos, aft, gd⟩ v := fun _ _ => by
  obtain ⟨u, hu⟩ := hx
  subst ht; simp [qv, hc, hy, hu, vite_eq]

theorem q_bin {op : BinOp} {t ty : TypeId} {x y : Operand} {a b v : Value} (hx : evg l true x = some a) (hy : evg l true y = some b) (h : bin2 P true op t a b = some v) :
    QW P l H L ⟨d, .binOp op t x y ty, T, pos, aft, gd⟩ v := fun _ _ => by simp only [qv, hx, hy, bin3, h]
theorem q_cmp {op : BinOp} {t ty : TypeId} {x y : Operand} {k : IntKind} {a b : Int} {c : Bool} (hx : evg l true x = some (.int k a)) (hy : evg l true y = some (.int k b)) (h : cmpI op a b = some c) :
    QW P l H L ⟨d, .binOp op t x y ty, T, pos, aft, gd⟩ (.bool c) := q_bin hx hy (by cases op <;> simp_all [bin2, isSh, binI, cmpI])
theorem q_add {t ty : TypeId} {x y : Operand} {k : IntKind} {a b c : Int} (hx : evg l true x = some (.int k a)) (hy : evg l true y = some (.int k b)) (h : k.wrap (a + b) = c) :
    QW P l H L ⟨d, .binOp .add t x y ty, T, pos, aft, gd⟩ (.int k c) := q_bin hx hy (by simp [bin2, isSh, binI, h])
theorem q_sub {t ty : TypeId} {x y : Operand} {k : IntKind} {a b c : Int} (hx : evg l true x = some (.int k a)) (hy : evg l true y = some (.int k b)) (h : k.wrap (a - b) = c) :
    QW P l H L ⟨d, .binOp .sub t x y ty, T, pos, aft, gd⟩ (.int k c) := q_bin hx hy (by simp [bin2, isSh, binI, h])
theorem q_mul {t ty : TypeId} {x y : Operand} {k : IntKind} {a b c : Int} (hx : evg l true x = some (.int k a)) (hy : evg l true y = some (.int k b)) (h : k.wrap (a * b) = c) :
    QW P l H L ⟨d, .binOp .mul t x y ty, T, pos, aft, gd⟩ (.int k c) := q_bin hx hy (by simp [bin2, isSh, binI, h])
theorem q_quo {t ty : TypeId} {x y : Operand} {k : IntKind} {a b c : Int} (hx : evg l true x = some (.int k a)) (hy : evg l true y = some (.int k b)) (hb : b ≠ 0) (h : k.wrap (a.tdiv b) = c) :
    QW P l H L ⟨d, .binOp .quo t x y ty, T, pos, aft, gd⟩ (.int k c) := q_bin hx hy (by simp [bin2, isSh, binI, hb, h])
theorem q_rem {t ty : TypeId} {x y : Operand} {k : IntKind} {a b c : Int} (hx : evg l true x = some (.int k a)) (hy : evg l true y = some (.int k b)) (hb : b ≠ 0) (h : a.tmod b = c) :
    QW P l H L ⟨d, .binOp .rem t x y ty, T, pos, aft, gd⟩ (.int k c) := q_bin hx hy (by simp [bin2, isSh, binI, hb, h])
theorem q_shl {t ty : TypeId} {x y : Operand} {k k' : IntKind} {a b c : Int} (hx : evg l true x = some (.int k a)) (hy : evg l true y = some (.int k' b)) (hb : 0 ≤ b) (h : k.wrap (a * 2 ^ (min b.toNat k.bits)) = c) :
    QW P l H L ⟨d, .binOp .shl t x y ty, T, pos, aft, gd⟩ (.int k c) := q_bin hx hy (by simp [bin2, isSh, shI, hb, h])
theorem q_shr {t ty : TypeId} {x y : Operand} {k k' : IntKind} {a b c : Int} (hx : evg l true x = some (.int k a)) (hy : evg l true y = some (.int k' b)) (hb : 0 ≤ b) (h : a.fdiv (2 ^ (min b.toNat k.bits)) = c) :
    QW P l H L ⟨d, .binOp .shr t x y ty, T, pos, aft, gd⟩ (.int k c) := q_bin hx hy (by simp [bin2, isSh, shI, hb, h])
theorem q_bit {op : BinOp} {t ty : TypeId} {x y : Operand} {k : IntKind} {a b c : Int} (hx : evg l true x = some (.int k a)) (hy : evg l true y = some (.int k b)) (h : bitI op k a b = some c) :
    QW P l H L ⟨d, .binOp op t x y ty, T, pos, aft, gd⟩ (.int k c) := q_bin hx hy (by cases op <;> simp_all [bin2, isSh, binI, bitI])
theorem q_scmp {op : BinOp} {t ty : TypeId} {x y : Operand} {a b : ByteArray} {c : Bool} (hx : evg l true x = some (.string a)) (hy : evg l true y = some (.string b)) (h : cmpS op a b = some c) :
    QW P l H L ⟨d, .binOp op t x y ty, T, pos, aft, gd⟩ (.bool c) := q_bin hx hy (by cases op <;> simp_all [bin2, cmpS])
theorem q_sadd {t ty : TypeId} {x y : Operand} {a b : ByteArray} (hx : evg l true x = some (.string a)) (hy : evg l true y = some (.string b)) (h : ((a.size + b.size : Nat) : Int) ≤ 9223372036854775807) :
    QW P l H L ⟨d, .binOp .add t x y ty, T, pos, aft, gd⟩ (.string (a ++ b)) := q_bin hx hy (by simp only [bin2]; rw [if_pos]; simp only [Bool.not_true, Bool.false_or, i64max]; exact decide_eq_true h)
theorem q_beq {t ty : TypeId} {x y : Operand} {a b : Bool} [hu : Und P t .bool] (hx : evg l true x = some (.bool a)) (hy : evg l true y = some (.bool b)) :
    QW P l H L ⟨d, .binOp .eql t x y ty, T, pos, aft, gd⟩ (.bool (a == b)) := q_bin hx hy (by simp [bin2, hu.h])
theorem q_bne {t ty : TypeId} {x y : Operand} {a b : Bool} [hu : Und P t .bool] (hx : evg l true x = some (.bool a)) (hy : evg l true y = some (.bool b)) :
    QW P l H L ⟨d, .binOp .neq t x y ty, T, pos, aft, gd⟩ (.bool (!(a == b))) := q_bin hx hy (by simp [bin2, hu.h])
theorem q_slnil {t ty e : TypeId} {x y : Operand} {p : Option Addr} {n c : Nat} [hu : Und P t (.slice e)] (hx : evg l true x = some (.slice p n c)) (hy : evg l true y = some (.slice none 0 0)) :
    QW P l H L ⟨d, .binOp .eql t x y ty, T, pos, aft, gd⟩ (.bool p.isNone) := q_bin hx hy (by simp [bin2, hu.h])
theorem q_slnon {t ty e : TypeId} {x y : Operand} {p : Option Addr} {n c : Nat} [hu : Und P t (.slice e)] (hx : evg l true x = some (.slice p n c)) (hy : evg l true y = some (.slice none 0 0)) :
    QW P l H L ⟨d, .binOp .neq t x y ty, T, pos, aft, gd⟩ (.bool (!p.isNone)) := q_bin hx hy (by simp [bin2, hu.h])
theorem q_ptnil {t ty e : TypeId} {x y : Operand} {p : Option Addr} [hu : Und P t (.pointer e)] (hx : evg l true x = some (.pointer p)) (hy : evg l true y = some (.pointer none)) :
    QW P l H L ⟨d, .binOp .eql t x y ty, T, pos, aft, gd⟩ (.bool p.isNone) := q_bin hx hy (by simp [bin2, hu.h])
theorem q_ptnon {t ty e : TypeId} {x y : Operand} {p : Option Addr} [hu : Und P t (.pointer e)] (hx : evg l true x = some (.pointer p)) (hy : evg l true y = some (.pointer none)) :
    QW P l H L ⟨d, .binOp .neq t x y ty, T, pos, aft, gd⟩ (.bool (!p.isNone)) := q_bin hx hy (by simp [bin2, hu.h])

theorem q_not {t : TypeId} {x : Operand} {a : Bool} (hx : evg l true x = some (.bool a)) : QW P l H L ⟨d, .unOp .not t x, T, pos, aft, gd⟩ (.bool (!a)) := fun _ _ => by simp only [qv, hx, un1]
theorem q_neg {t : TypeId} {x : Operand} {k : IntKind} {a c : Int} (hx : evg l true x = some (.int k a)) (h : k.wrap (0 - a) = c) : QW P l H L ⟨d, .unOp .neg t x, T, pos, aft, gd⟩ (.int k c) := fun _ _ => by simp only [qv, hx, un1, h]
theorem q_cint {s t : TypeId} {x : Operand} {k k' : IntKind} {a c : Int} {ds : TypeDesc} [hs : Und P s ds] [hu : Und P t (.int k)] (hx : evg l true x = some (.int k' a)) (h : k.wrap a = c) :
    QW P l H L ⟨d, .convert s t x, T, pos, aft, gd⟩ (.int k c) := fun _ _ => by simp only [qv, hx, cnv, hs.h, hu.h, h]
theorem q_cstr {s t : TypeId} {x : Operand} {a : ByteArray} {ds : TypeDesc} [hs : Und P s ds] [hu : Und P t .string] (hx : evg l true x = some (.string a)) :
    QW P l H L ⟨d, .convert s t x, T, pos, aft, gd⟩ (.string a) := fun _ _ => by simp only [qv, hx, cnv, hs.h, hu.h]
theorem q_crune {s t : TypeId} {x : Operand} {k : IntKind} {a : Int} {ds : TypeDesc} [hs : Und P s ds] [hu : Und P t .string] (hx : evg l true x = some (.int k a)) :
    QW P l H L ⟨d, .convert s t x, T, pos, aft, gd⟩ (.string (Utf8.encode a)) := fun _ _ => by simp only [qv, hx, cnv, hs.h, hu.h]
theorem q_ext {x : Operand} {i : Nat} {vs : Array Value} {v : Value} (hx : evg l true x = some (.tuple vs)) (h : vs.toList[i]? = some v) : QW P l H L ⟨d, .extract x i, T, pos, aft, gd⟩ v := fun _ _ => by
  rw [Array.getElem?_toList] at h
  simp only [qv, hx, h]

/-! memory that is read -/
def pt (a : Option Addr) (k : Nat) : Option Addr := a.map fun x => ⟨x.block, x.off + k, none⟩
theorem pt_pt (a : Option Addr) (k j : Nat) : pt (pt a k) j = pt a (k + j) := by cases a <;> simp [pt, Nat.add_assoc]
def NN (H : Hp) (L : List Res) (a : Option Addr) : Prop := ∀ G, Hs H L G → ∃ b off, a = some ⟨b, off, none⟩
def Rd (H : Hp) (L : List Res) (p : Option Addr) (n : Nat) (vs : List Value) : Prop := ∀ G, Hs H L G → ∃ b off, p = some ⟨b, off, none⟩ ∧ rdN G ⟨b, off, none⟩ 0 n = some vs
abbrev Rs (H : Hp) (z : Nat) (a : Option Addr) (n c : Nat) (cs : List Value) : Prop := Sl H z (.slice a n c) n cs

theorem nn_box {b off : Nat} : NN H L (some ⟨b, off, none⟩) := fun _ _ => ⟨b, off, rfl⟩
theorem nn_pt {a : Option Addr} {k : Nat} (h : NN H L a) : NN H L (pt a k) := fun G hg => by
  obtain ⟨b, off, rfl⟩ := h G hg
  exact ⟨b, off + k, rfl⟩
theorem nn_own {a : Option Addr} {e z n c : Nat} {cs : List Value} {L' : List Res} (h : Pick L (.own e z a n c cs) L') (hn : 0 < n) : NN H L a := fun G hg => by
  obtain ⟨fp, ⟨_, h1, ⟨h2, h3⟩ | ⟨b, cap, rest, lo, hi, h2, _⟩⟩, _⟩ := hg.get h
  · omega
  · cases h2; exact ⟨b, 0, rfl⟩
theorem nn_rs {a : Option Addr} {z n c : Nat} {cs : List Value} (h : Rs H z a n c cs) (hn : 0 < n) : NN H L a := fun G hg => by
  obtain ⟨h1, ⟨p', c', h2, h3⟩ | ⟨b, off, cap, h2, _⟩⟩ := h
  · omega
  · cases h2; exact ⟨b, off, rfl⟩
theorem rdN_part {G : Hp} {b : Nat} : ∀ (m off i : Nat) (cs : List Value), rdN G ⟨b, off, none⟩ i m = some cs → ∀ (k n : Nat), k + n ≤ m → rdN G ⟨b, off + k, none⟩ i n = some ((cs.drop k).take n) := by
  have key : ∀ (m off i : Nat) (cs : List Value), rdN G ⟨b, off, none⟩ i m = some cs → cs.length = m ∧ ∀ j, j < m → G.cell? ⟨b, off + (i + j), none⟩ = cs[j]? := by
    intro m
    induction m with
    | zero => intro off i cs h; cases h; exact ⟨rfl, by omega⟩
    | succ m ih =>
      intro off i cs h
      simp only [rdN, add_none] at h
      cases hc : G.cell? ⟨b, off + i, none⟩ with
      | none => rw [hc] at h; cases h
      | some v =>
        rw [hc] at h
        obtain ⟨r, hr, rfl⟩ := Option.map_eq_some_iff.1 h
        obtain ⟨h1, h2⟩ := ih off (i + 1) r hr
        refine ⟨by simp [h1], fun j hj => ?_⟩
        cases j with
        | zero => simpa using hc
        | succ j =>
          rw [List.getElem?_cons_succ, ← h2 j (by omega)]
          congr 2; omega
  have mk : ∀ (n off i : Nat) (vs : List Value), vs.length = n → (∀ j, j < n → G.cell? ⟨b, off + (i + j), none⟩ = vs[j]?) → rdN G ⟨b, off, none⟩ i n = some vs := by
    intro n
    induction n with
    | zero => intro off i vs h _; rw [List.eq_nil_of_length_eq_zero h]; rfl
    | succ n ih =>
      intro off i vs h hc
      cases vs with
      | nil => cases h
      | cons v vs =>
        simp only [rdN, add_none]
        have h0 := hc 0 (by omega)
        rw [Nat.add_zero] at h0
        rw [h0]
        simp only [List.getElem?_cons_zero]
        rw [ih off (i + 1) vs (by simpa using h) (fun j hj => by
          have := hc (j + 1) (by omega)
          rw [List.getElem?_cons_succ] at this
          rw [← this]; congr 2; omega), Option.map_some]
  intro m off i cs h k n hk
  obtain ⟨h1, h2⟩ := key m off i cs h
  refine mk n (off + k) i _ (by simp; omega) fun j hj => ?_
  rw [List.getElem?_take, if_pos hj, List.getElem?_drop, ← h2 (k + j) (by omega)]
  congr 2; omega

theorem rd_box {b off n : Nat} {t : TypeId} {cs vs : List Value} {L' : List Res} (h : Pick L (.box b t cs) L') (hv : (cs.drop off).take n = vs) (hl : vs.length = n) (hn : 0 < n) : Rd H L (some ⟨b, off, none⟩) n vs := fun G hg => by
  obtain ⟨fp, ⟨_, h1⟩, _⟩ := hg.get h
  refine ⟨b, off, rfl, ?_⟩
  rw [rdN_of h1 n off 0 (by rw [← hv] at hl; simp at hl; omega), Nat.add_zero, hv]
theorem rd_own {a : Option Addr} {e z m c k n : Nat} {cs vs : List Value} {L' : List Res} (h : Pick L (.own e z a m c cs) L') (hv : (cs.drop k).take n = vs) (hl : vs.length = n) (hn : 0 < n) : Rd H L (pt a k) n vs := fun G hg => by
  obtain ⟨fp, ⟨_, h1, ⟨h2, h3⟩ | ⟨b, cap, rest, lo, hi, h2, h3, h4, h5, _⟩⟩, _⟩ := hg.get h
  · subst h3
    have : cs = [] := by simpa using h1
    subst this; subst hv; simp at hl; omega
  · cases h2
    refine ⟨b, 0 + k, rfl, ?_⟩
    have hk : k + n ≤ cs.length := by rw [← hv] at hl; simp at hl; omega
    rw [rdN_of h3 n (0 + k) 0 (by simp; omega), ← hv]
    congr 1
    rw [Nat.add_zero, Nat.zero_add, List.drop_append_of_le_length (by omega), List.take_append_of_le_length (by simp; omega)]
theorem rd_rs {a : Option Addr} {z m c k n : Nat} {cs vs : List Value} (h : Rs H z a m c cs) (hv : (cs.drop k).take n = vs) (hl : vs.length = n) (hn : 0 < n) : Rd H L (pt a k) n vs := fun G hg => by
  obtain ⟨h1, ⟨p', c', h2, h3⟩ | ⟨b, off, cap, h2, h3, h4⟩⟩ := h.ext hg.ext
  · subst h3
    have : cs = [] := by simpa using h1
    subst this; subst hv; simp at hl; omega
  · cases h2
    have hk : k + n ≤ m * z := by rw [← h1]; rw [← hv] at hl; simp at hl; omega
    exact ⟨b, off + k, rfl, by rw [rdN_part _ _ _ _ h4 k n hk, hv]⟩
theorem rd_cell {b off : Nat} {v : Value} (h : H.cell? ⟨b, off, none⟩ = some v) : Rd H L (some ⟨b, off, none⟩) 1 [v] := fun G hg => by
  refine ⟨b, off, rfl, ?_⟩
  simp only [rdN, add_none, Nat.add_zero]
  have : G.cell? ⟨b, off, none⟩ = some v := by
    unfold Hp.cell? at h ⊢
    cases hb : H b with
    | none => simp [hb] at h
    | some o => simp only [hg.ext _ _ hb]; simpa [hb] using h
  rw [this]; rfl
theorem q_load {t : TypeId} {x : Operand} {p : Option Addr} {v : Value} {ds : TypeDesc} [hu : Und P t ds] (hd : descAgg ds = false) (hx : evg l true x = some (.pointer p)) (hr : Rd H L p 1 [v]) :
    QW P l H L ⟨d, .load t x, T, pos, aft, gd⟩ v := fun G hg => by
  obtain ⟨b, off, rfl, hc⟩ := hr G hg
  simp only [rdN, add_none, Nat.add_zero] at hc
  have hc' : G.cell? ⟨b, off, none⟩ = some v := by
    cases h : G.cell? ⟨b, off, none⟩ with
    | none => rw [h] at hc; cases hc
    | some u => rw [h] at hc; simp at hc; rw [hc]
  simp only [qv, hx, ldv, hu.h, hd, Bool.false_eq_true, if_false, hc']
theorem q_loadN {t : TypeId} {x : Operand} {p : Option Addr} {n : Nat} {vs : List Value} {ds : TypeDesc} [hu : Und P t ds] [hz : Szc P t n] (hd : descAgg ds = true) (hx : evg l true x = some (.pointer p)) (hr : Rd H L p n vs) :
    QW P l H L ⟨d, .load t x, T, pos, aft, gd⟩ (.agg vs.toArray) := fun G hg => by
  obtain ⟨b, off, rfl, hc⟩ := hr G hg
  simp only [qv, hx, ldv, hu.h, hd, if_true, hz.h, hc, Option.map_some]
theorem resok_cell {b : Tmp} {t tb : TypeId} {k m : Nat} {cs vs : List Value} {rs : List ResultVar} {ds : TypeDesc} {L' : List Res} [hu : Und P t ds] [hz : Szc P t m] (hd : descAgg ds = true) (hv : evg l true (.tmp b) = some (.pointer (some ⟨k, 0, none⟩)))
    (hp : Pick L (.box k tb cs) L') (hl : cs.length = m) (hm : 0 < m) (h : ResOk P l H L rs vs) : ResOk P l H L (.cell b t :: rs) (.agg cs.toArray :: vs) := fun G hg => by
  obtain ⟨b', off, e, hc⟩ := rd_box hp (by rw [List.drop_zero, ← hl, List.take_length]) hl hm G hg
  cases e
  simp only [resg, hv, ldv, hu.h, hd, if_true, hz.h, hc, Option.map_some, h G hg]
theorem q_nilp {x : Operand} {p : Option Addr} (hx : evg l true x = some (.pointer p)) (hp : NN H L p) : QW P l H L ⟨d, .nilCheck x, T, pos, aft, gd⟩ (.pointer p) := fun G hg => by
  obtain ⟨b, off, rfl⟩ := hp G hg
  simp only [qv, hx, nilc]
theorem q_nilf {x : Operand} {f : FuncId} {a b : Array Value} (hx : evg l true x = some (.func (.func f) a b)) : QW P l H L ⟨d, .nilCheck x, T, pos, aft, gd⟩ (.func (.func f) a b) := fun G hg => by
  simp only [qv, hx, nilc]
theorem q_nilb {x : Operand} {b : Bool} (hx : evg l true x = some (.bool b)) : QW P l H L ⟨d, .nilCheck x, T, pos, aft, gd⟩ (.bool b) := fun G hg => by
  simp only [qv, hx, nilc]
theorem q_ixs {t e : TypeId} {z : Nat} {x i : Operand} {a : Option Addr} {n c : Nat} {k : IntKind} {j : Int} [hu : Und P t (.slice e)] [hz : Szc P e z] (hx : evg l true x = some (.slice a n c)) (hi : evg l true i = some (.int k j)) (hp : NN H L a) (h0 : 0 ≤ j) (h1 : j < n) :
    QW P l H L ⟨d, .indexAddr t x i, T, pos, aft, gd⟩ (.pointer (pt a (j.toNat * z))) := fun G hg => by
  obtain ⟨b, off, rfl⟩ := hp G hg
  simp only [qv, hx, hi, ixAddr, hu.h, hz.h, inR, h0, h1, decide_true, Bool.and_true, Bool.or_true, if_true, add_none, pt, Option.map_some]
theorem q_ixa {t e : TypeId} {z n : Nat} {x i : Operand} {a : Option Addr} {k : IntKind} {j : Int} [hu : Und P t (.array n e)] [hz : Szc P e z] (hx : evg l true x = some (.pointer a)) (hi : evg l true i = some (.int k j)) (hp : NN H L a) (h0 : 0 ≤ j) (h1 : j < n) :
    QW P l H L ⟨d, .indexAddr t x i, T, pos, aft, gd⟩ (.pointer (pt a (j.toNat * z))) := fun G hg => by
  obtain ⟨b, off, rfl⟩ := hp G hg
  simp only [qv, hx, hi, ixAddr, hu.h, hz.h, inR, h0, h1, decide_true, Bool.and_true, Bool.or_true, if_true, add_none, pt, Option.map_some]
theorem q_ixstr {t : TypeId} {x i : Operand} {s : ByteArray} {k : IntKind} {j : Int} [hu : Und P t .string] (hx : evg l true x = some (.string s)) (hi : evg l true i = some (.int k j)) (h0 : 0 ≤ j) (h1 : j < s.size) :
    QW P l H L ⟨d, .index t x i, T, pos, aft, gd⟩ (.int .u8 (bt s j)) := fun G hg => by
  simp only [qv, hx, hi, ixVal, hu.h, inR, h0, h1, decide_true, Bool.and_true, Bool.or_true, if_true]
theorem q_ixarr {t e : TypeId} {z n : Nat} {x i : Operand} {cs : Array Value} {k : IntKind} {j : Int} {v : Value} [hu : Und P t (.array n e)] [hz : Szc P e z] (hx : evg l true x = some (.agg cs)) (hi : evg l true i = some (.int k j)) (h0 : 0 ≤ j) (h1 : j < n) (hv : partv P e cs (j.toNat * z) = some v) :
    QW P l H L ⟨d, .index t x i, T, pos, aft, gd⟩ v := fun G hg => by
  simp only [qv, hx, hi, ixVal, hu.h, hz.h, inR, h0, h1, decide_true, Bool.and_true, Bool.or_true, if_true, hv]
theorem partv1 {t : TypeId} {cs : Array Value} {off : Nat} {v : Value} {ds : TypeDesc} [hu : Und P t ds] (hd : descAgg ds = false) (h : cs.toList[off]? = some v) : partv P t cs off = some v := by
  rw [Array.getElem?_toList] at h
  simp [partv, hu.h, hd, h]
theorem partvN {t : TypeId} {cs : Array Value} {off n : Nat} {v : List Value} {ds : TypeDesc} [hu : Und P t ds] [hz : Szc P t n] (hd : descAgg ds = true) (h : (cs.toList.drop off).take n = v) : partv P t cs off = some (.agg v.toArray) := by
  simp only [partv, hu.h, hd, if_true, hz.h, ← h]
  congr 2
  apply Array.ext'
  simp [List.drop_take]
theorem q_fda {t : TypeId} {x : Operand} {f : Nat} {p : Option Addr} {fs : Array Field} {fl : Field} {n : Nat} [hu : Und P t (.struct fs)] (hx : evg l true x = some (.pointer p)) (hf : fs.toList[f]? = some fl) (hz : Szc P fl.type (n + 1)) (hp : NN H L p) :
    QW P l H L ⟨d, .fieldAddr t x f, T, pos, aft, gd⟩ (.pointer (pt p fl.offset)) := fun G hg => by
  obtain ⟨b, off, rfl⟩ := hp G hg
  rw [Array.getElem?_toList] at hf
  simp only [qv, hx, fdAddr, hu.h, hf, hz.h, add_none, pt, Option.map_some]
theorem q_fdv {t : TypeId} {x : Operand} {f : Nat} {cs : Array Value} {fs : Array Field} {nm tg pk : String} {ft fo bo : Nat} {em : Bool} {v : Value} [hu : Und P t (.struct fs)] (hx : evg l true x = some (.agg cs)) (hf : fs.toList[f]? = some ⟨nm, ft, fo, em, tg, pk, bo⟩) (hv : partv P ft cs fo = some v) :
    QW P l H L ⟨d, .field t x f, T, pos, aft, gd⟩ v := fun G hg => by
  rw [Array.getElem?_toList] at hf
  simp only [qv, hx, fdVal, hu.h, hf, hv]

/-! the same, by what is known of the address -/
theorem q_ixo {t e e' : TypeId} {z z' : Nat} {x i : Operand} {a : Option Addr} {n c c' : Nat} {cs : List Value} {k : IntKind} {j : Int} {L' : List Res} [hu : Und P t (.slice e)] [hz : Szc P e z] (hx : evg l true x = some (.slice a n c)) (hp : POwn L a e' z' n c' cs L') (hi : evg l true i = some (.int k j)) (h : 0 ≤ j ∧ j < n) :
    QW P l H L ⟨d, .indexAddr t x i, T, pos, aft, gd⟩ (.pointer (pt a (j.toNat * z))) := q_ixs hx hi (nn_own hp.h (by omega)) h.1 h.2
theorem q_ixr {t e : TypeId} {z z' : Nat} {x i : Operand} {a : Option Addr} {n c : Nat} {cs : List Value} {k : IntKind} {j : Int} [hu : Und P t (.slice e)] [hz : Szc P e z] (hx : evg l true x = some (.slice a n c)) (hr : Rs H z' a n c cs) (hi : evg l true i = some (.int k j)) (h : 0 ≤ j ∧ j < n) :
    QW P l H L ⟨d, .indexAddr t x i, T, pos, aft, gd⟩ (.pointer (pt a (j.toNat * z))) := q_ixs hx hi (nn_rs hr (by omega)) h.1 h.2
theorem q_ixb {t e : TypeId} {z n b off : Nat} {x i : Operand} {k : IntKind} {j : Int} [hu : Und P t (.array n e)] [hz : Szc P e z] (hx : evg l true x = some (.pointer (some ⟨b, off, none⟩))) (hi : evg l true i = some (.int k j)) (h : 0 ≤ j ∧ j < n) :
    QW P l H L ⟨d, .indexAddr t x i, T, pos, aft, gd⟩ (.pointer (some ⟨b, off + j.toNat * z, none⟩)) := q_ixa hx hi nn_box h.1 h.2
theorem q_ixap {t e e' : TypeId} {z n z' n' c' kk : Nat} {x i : Operand} {a : Option Addr} {k : IntKind} {j : Int} {cs : List Value} {L' : List Res} [hu : Und P t (.array n e)] [hz : Szc P e z] (hx : evg l true x = some (.pointer (pt a kk))) (hp : POwn L a e' z' n' c' cs L') (hn : 0 < n') (hi : evg l true i = some (.int k j)) (h : 0 ≤ j ∧ j < n) :
    QW P l H L ⟨d, .indexAddr t x i, T, pos, aft, gd⟩ (.pointer (pt a (kk + j.toNat * z))) := by
  rw [← pt_pt]; exact q_ixa hx hi (nn_pt (nn_own hp.h hn)) h.1 h.2
theorem q_ixar {t e : TypeId} {z n z' n' c' kk : Nat} {x i : Operand} {a : Option Addr} {k : IntKind} {j : Int} {cs : List Value} [hu : Und P t (.array n e)] [hz : Szc P e z] (hx : evg l true x = some (.pointer (pt a kk))) (hr : Rs H z' a n' c' cs) (hn : 0 < n') (hi : evg l true i = some (.int k j)) (h : 0 ≤ j ∧ j < n) :
    QW P l H L ⟨d, .indexAddr t x i, T, pos, aft, gd⟩ (.pointer (pt a (kk + j.toNat * z))) := by
  rw [← pt_pt]; exact q_ixa hx hi (nn_pt (nn_rs hr hn)) h.1 h.2
theorem q_ldb {t tb : TypeId} {x : Operand} {b off : Nat} {cs : List Value} {v : Value} {ds : TypeDesc} {L' : List Res} [hu : Und P t ds] (hd : descAgg ds = false) (hx : evg l true x = some (.pointer (some ⟨b, off, none⟩))) (hp : PBox L b tb cs L') (hv : (cs.drop off).take 1 = [v]) :
    QW P l H L ⟨d, .load t x, T, pos, aft, gd⟩ v := q_load hd hx (rd_box hp.h hv rfl (by decide))
theorem q_ldo {t e : TypeId} {x : Operand} {a : Option Addr} {z n c k : Nat} {cs : List Value} {v : Value} {ds : TypeDesc} {L' : List Res} [hu : Und P t ds] (hd : descAgg ds = false) (hx : evg l true x = some (.pointer (pt a k))) (hp : POwn L a e z n c cs L') (hv : (cs.drop k).take 1 = [v]) :
    QW P l H L ⟨d, .load t x, T, pos, aft, gd⟩ v := q_load hd hx (rd_own hp.h hv rfl (by decide))
theorem q_ldr {t : TypeId} {x : Operand} {a : Option Addr} {z n c k : Nat} {cs : List Value} {v : Value} {ds : TypeDesc} [hu : Und P t ds] (hd : descAgg ds = false) (hx : evg l true x = some (.pointer (pt a k))) (hr : Rs H z a n c cs) (hv : (cs.drop k).take 1 = [v]) :
    QW P l H L ⟨d, .load t x, T, pos, aft, gd⟩ v := q_load hd hx (rd_rs hr hv rfl (by decide))
theorem q_ldc {t : TypeId} {x : Operand} {b off : Nat} {v : Value} {ds : TypeDesc} [hu : Und P t ds] (hd : descAgg ds = false) (hx : evg l true x = some (.pointer (some ⟨b, off, none⟩))) (hc : H.cell? ⟨b, off, none⟩ = some v) :
    QW P l H L ⟨d, .load t x, T, pos, aft, gd⟩ v := q_load hd hx (rd_cell hc)
theorem q_lab {t tb : TypeId} {x : Operand} {b off m : Nat} {cs vs : List Value} {ds : TypeDesc} {L' : List Res} [hu : Und P t ds] [hz : Szc P t m] (hd : descAgg ds = true) (hx : evg l true x = some (.pointer (some ⟨b, off, none⟩))) (hp : PBox L b tb cs L') (hv : (cs.drop off).take m = vs) (hl : vs.length = m) (hm : 0 < m) :
    QW P l H L ⟨d, .load t x, T, pos, aft, gd⟩ (.agg vs.toArray) := q_loadN hd hx (rd_box hp.h hv hl hm)
theorem q_lab0 {t tb : TypeId} {x : Operand} {b m : Nat} {cs : List Value} {ds : TypeDesc} {L' : List Res} [hu : Und P t ds] [hz : Szc P t m] (hd : descAgg ds = true) (hx : evg l true x = some (.pointer (some ⟨b, 0, none⟩))) (hp : PBox L b tb cs L') (hl : cs.length = m) (hm : 0 < m) :
    QW P l H L ⟨d, .load t x, T, pos, aft, gd⟩ (.agg cs.toArray) := q_lab hd hx hp (by rw [List.drop_zero, ← hl, List.take_length]) hl hm
theorem q_lao {t e : TypeId} {x : Operand} {a : Option Addr} {z n c k m : Nat} {cs vs : List Value} {ds : TypeDesc} {L' : List Res} [hu : Und P t ds] [hz : Szc P t m] (hd : descAgg ds = true) (hx : evg l true x = some (.pointer (pt a k))) (hp : POwn L a e z n c cs L') (hv : (cs.drop k).take m = vs) (hl : vs.length = m) (hm : 0 < m) :
    QW P l H L ⟨d, .load t x, T, pos, aft, gd⟩ (.agg vs.toArray) := q_loadN hd hx (rd_own hp.h hv hl hm)
theorem q_lar {t : TypeId} {x : Operand} {a : Option Addr} {z n c k m : Nat} {cs vs : List Value} {ds : TypeDesc} [hu : Und P t ds] [hz : Szc P t m] (hd : descAgg ds = true) (hx : evg l true x = some (.pointer (pt a k))) (hr : Rs H z a n c cs) (hv : (cs.drop k).take m = vs) (hl : vs.length = m) (hm : 0 < m) :
    QW P l H L ⟨d, .load t x, T, pos, aft, gd⟩ (.agg vs.toArray) := q_loadN hd hx (rd_rs hr hv hl hm)
theorem q_fdb {t : TypeId} {x : Operand} {f b off : Nat} {fs : Array Field} {nm tg pk : String} {ft fo bo n : Nat} {em : Bool} [hu : Und P t (.struct fs)] (hx : evg l true x = some (.pointer (some ⟨b, off, none⟩))) (hf : fs.toList[f]? = some ⟨nm, ft, fo, em, tg, pk, bo⟩) (hz : Szc P ft (n + 1)) :
    QW P l H L ⟨d, .fieldAddr t x f, T, pos, aft, gd⟩ (.pointer (some ⟨b, off + fo, none⟩)) := q_fda hx hf hz nn_box
theorem q_fdb0 {t : TypeId} {x : Operand} {f b : Nat} {fs : Array Field} {nm tg pk : String} {ft fo bo n : Nat} {em : Bool} [hu : Und P t (.struct fs)] (hx : evg l true x = some (.pointer (some ⟨b, 0, none⟩))) (hf : fs.toList[f]? = some ⟨nm, ft, fo, em, tg, pk, bo⟩) (hz : Szc P ft (n + 1)) :
    QW P l H L ⟨d, .fieldAddr t x f, T, pos, aft, gd⟩ (.pointer (some ⟨b, fo, none⟩)) := by
  have := q_fdb (t := t) (L := L) (H := H) (d := d) (T := T) (pos := pos) (aft := aft) (gd := gd) hx hf hz
  rwa [Nat.zero_add] at this
theorem q_fdo {t e : TypeId} {x : Operand} {f : Nat} {a : Option Addr} {z m c k : Nat} {cs : List Value} {L' : List Res} {fs : Array Field} {nm tg pk : String} {ft fo bo n : Nat} {em : Bool} [hu : Und P t (.struct fs)] (hx : evg l true x = some (.pointer (pt a k))) (hf : fs.toList[f]? = some ⟨nm, ft, fo, em, tg, pk, bo⟩) (hz : Szc P ft (n + 1)) (hp : POwn L a e z m c cs L') (hm : 0 < m) :
    QW P l H L ⟨d, .fieldAddr t x f, T, pos, aft, gd⟩ (.pointer (pt a (k + fo))) := by rw [← pt_pt]; exact q_fda hx hf hz (nn_pt (nn_own hp.h hm))
theorem q_fdr {t : TypeId} {x : Operand} {f : Nat} {a : Option Addr} {z m c k : Nat} {cs : List Value} {fs : Array Field} {nm tg pk : String} {ft fo bo n : Nat} {em : Bool} [hu : Und P t (.struct fs)] (hx : evg l true x = some (.pointer (pt a k))) (hf : fs.toList[f]? = some ⟨nm, ft, fo, em, tg, pk, bo⟩) (hz : Szc P ft (n + 1)) (hr : Rs H z a m c cs) (hm : 0 < m) :
    QW P l H L ⟨d, .fieldAddr t x f, T, pos, aft, gd⟩ (.pointer (pt a (k + fo))) := by rw [← pt_pt]; exact q_fda hx hf hz (nn_pt (nn_rs hr hm))
def inb (k : IntKind) (n : Int) : Prop := match k with
  | .i8 => -128 ≤ n ∧ n ≤ 127 | .i16 => -32768 ≤ n ∧ n ≤ 32767 | .i32 => -2147483648 ≤ n ∧ n ≤ 2147483647 | .i64 => -9223372036854775808 ≤ n ∧ n ≤ 9223372036854775807
  | .u8 => 0 ≤ n ∧ n ≤ 255 | .u16 => 0 ≤ n ∧ n ≤ 65535 | .u32 => 0 ≤ n ∧ n ≤ 4294967295 | .u64 => 0 ≤ n ∧ n ≤ 18446744073709551615
theorem w_in {k : IntKind} {n : Int} (h : inb k n) : k.wrap n = n := by
  cases k <;> first | exact IntWalk.i64_in n h | exact IntWalk.i32_in n h | exact IntWalk.u8_in n h | exact IntWalk.u64_in n h | exact IntWalk.u32_in n h | exact IntWalk.i8_in n h | exact IntWalk.i16_in n h | exact IntWalk.u16_in n h
theorem w_quo {k : IntKind} {x y : Int} (h : 0 ≤ x ∧ 1 ≤ y) (hb : inb k x) : k.wrap (x.tdiv y) = x / y := by
  have e : x.tdiv y = x / y := Int.tdiv_eq_ediv_of_nonneg h.1
  rw [e]
  have h1 : 0 ≤ x / y := Int.ediv_nonneg h.1 (by omega)
  have h2 : x / y ≤ x := by
    have := Int.ediv_le_self y h.1
    exact this
  exact w_in (by cases k <;> simp only [inb] at hb ⊢ <;> omega)

/-! parts of strings and slices -/
theorem q_str {t : TypeId} {x : Operand} {lo hi : Option Operand} {s : ByteArray} {vl vh : Option Value} {i j m : Nat} [hu : Und P t .string] (hx : evg l true x = some (.string s)) (hl : evo l true lo = some vl) (hh : evo l true hi = some vh)
    (hb : bnd true s.size s.size vl vh none = some (i, j, m)) : QW P l H L ⟨d, .slice t x lo hi none, T, pos, aft, gd⟩ (.string (s.extract i j)) := fun G hg => by
  have e : evo l true none = some none := rfl
  simp only [qv, hx, hl, hh, e, slv, hu.h, Option.isSome_none, Bool.false_eq_true, if_false, hb]
theorem q_sls {t e : TypeId} {z : Nat} {x : Operand} {lo hi mx : Option Operand} {a : Option Addr} {n c : Nat} {vl vh vm : Option Value} {i j m : Nat} [hu : Und P t (.slice e)] [hz : Szc P e z] (hx : evg l true x = some (.slice a n c)) (hl : evo l true lo = some vl) (hh : evo l true hi = some vh) (hm : evo l true mx = some vm)
    (hb : bnd true n c vl vh vm = some (i, j, m)) : QW P l H L ⟨d, .slice t x lo hi mx, T, pos, aft, gd⟩ (.slice (if m = i then a else a.map (·.add (i * z))) (j - i) (m - i)) := fun G hg => by
  simp only [qv, hx, hl, hh, hm, slv, hu.h, hz.h, hb]
theorem add_zero_addr (a : Addr) : a.add 0 = a := by unfold Addr.add; rfl
theorem q_slp {t e : TypeId} {z : Nat} {x hi : Operand} {a : Option Addr} {n c : Nat} {k : IntKind} {j : Int} [hu : Und P t (.slice e)] [hz : Szc P e z] (hx : evg l true x = some (.slice a n c)) (hh : evg l true hi = some (.int k j)) (h0 : 0 ≤ j ∧ j ≤ c) :
    QW P l H L ⟨d, .slice t x none (some hi) none, T, pos, aft, gd⟩ (.slice a j.toNat c) := fun G hg => by
  have e0 : evo l true none = some none := rfl
  have e1 : evo l true (some hi) = some (some (.int k j)) := by simp [evo, hh]
  have hb : bnd true n c none (some (.int k j)) none = some (0, j.toNat, c) := by simp [bnd, bndMax, bndHigh, bndLow, okB, h0.1, h0.2]
  simp only [qv, hx, e0, e1, slv, hu.h, hz.h, hb, Nat.zero_mul, Nat.sub_zero]
  congr 2
  split
  · rfl
  · cases a with
    | none => rfl
    | some a => rw [Option.map_some, add_zero_addr]
theorem own_cap {G : Hp} {e : TypeId} {z n c : Nat} {a : Option Addr} {cs : List Value} {L' : List Res} (hg : Hs H L G) (hp : Pick L (.own e z a n c cs) L') : n ≤ c := by
  obtain ⟨fp, ⟨_, _, ⟨h2, h3⟩ | ⟨b, cap, rest, lo, hi, h2, _, _, h5, _⟩⟩, _⟩ := hg.get hp
  · omega
  · cases h2; exact h5
theorem rs_cap {z n c : Nat} {a : Option Addr} {cs : List Value} (h : Rs H z a n c cs) : n ≤ c := by
  obtain ⟨_, ⟨p', c', h2, h3⟩ | ⟨b, off, cap, h2, h5, _⟩⟩ := h
  · omega
  · cases h2; exact h5
theorem q_slo {t e e' : TypeId} {z z' : Nat} {x hi : Operand} {a : Option Addr} {n c : Nat} {cs : List Value} {k : IntKind} {j : Int} {L' : List Res} [hu : Und P t (.slice e)] [hz : Szc P e z] (hx : evg l true x = some (.slice a n c)) (hh : evg l true hi = some (.int k j)) (hp : POwn L a e' z' n c cs L') (h0 : 0 ≤ j ∧ j ≤ n) :
    QW P l H L ⟨d, .slice t x none (some hi) none, T, pos, aft, gd⟩ (.slice a j.toNat c) := fun G hg => q_slp hx hh ⟨h0.1, by have := own_cap hg hp.h; omega⟩ G hg
theorem q_slrs {t e : TypeId} {z z' : Nat} {x hi : Operand} {a : Option Addr} {n c : Nat} {cs : List Value} {k : IntKind} {j : Int} [hu : Und P t (.slice e)] [hz : Szc P e z] (hx : evg l true x = some (.slice a n c)) (hh : evg l true hi = some (.int k j)) (hp : Rs H z' a n c cs) (h0 : 0 ≤ j ∧ j ≤ n) :
    QW P l H L ⟨d, .slice t x none (some hi) none, T, pos, aft, gd⟩ (.slice a j.toNat c) := fun G hg => q_slp hx hh ⟨h0.1, by have := rs_cap hp; omega⟩ G hg
theorem rs_take {z n c k : Nat} {a : Option Addr} {cs : List Value} (h : Rs H z a n c cs) (hk : k ≤ n) : Rs H z a k c (cs.take (k * z)) := by
  obtain ⟨h1, h2⟩ := h
  have hkz : k * z ≤ n * z := Nat.mul_le_mul_right z hk
  refine ⟨by rw [List.length_take]; omega, ?_⟩
  rcases h2 with ⟨p', c', h2, h3⟩ | ⟨b, off, cap, h2, h3, h4⟩
  · cases h2; exact .inl ⟨_, _, by rw [show k = 0 by omega], by omega⟩
  · cases h2
    refine .inr ⟨b, off, _, rfl, by omega, ?_⟩
    have := rdN_part _ _ _ _ h4 0 (k * z) (by omega)
    simpa using this
theorem bnd_lo {n c : Nat} {k : IntKind} {i : Int} (h0 : 0 ≤ i) (h1 : i ≤ n) (hc : n ≤ c) : bnd true n c (some (.int k i)) none none = some (i.toNat, n, c) := by
  simp [bnd, bndMax, bndHigh, bndLow, okB, h0, h1]
theorem bnd_hi {n c : Nat} {k : IntKind} {j : Int} (h0 : 0 ≤ j) (h1 : j ≤ c) : bnd true n c none (some (.int k j)) none = some (0, j.toNat, c) := by
  simp [bnd, bndMax, bndHigh, bndLow, okB, h0, h1]
theorem bnd_lh {n c : Nat} {k k' : IntKind} {i j : Int} (h0 : 0 ≤ i) (h1 : i ≤ j) (h2 : j ≤ c) : bnd true n c (some (.int k i)) (some (.int k' j)) none = some (i.toNat, j.toNat, c) := by
  have e : (0 : Int) ≤ j := by omega
  have e2 : i ≤ (j.toNat : Int) := by omega
  simp only [bnd, bndMax, bndHigh, bndLow, okB, h0, e, h2, e2, Option.isSome_none, Bool.not_true, Bool.false_or, decide_true, Bool.and_true, if_true]
theorem bnd_no {n c : Nat} : bnd true n c none none none = some (0, n, c) := by
  simp [bnd, bndMax, bndHigh, bndLow]

theorem q_func {f : FuncId} {fs cs : Array Operand} {vs us : List Value} (hf : evs l true fs.toList = some vs) (hc : evs l true cs.toList = some us) :
    QW P l H L ⟨d, .makeFunc (.func f) fs cs, T, pos, aft, gd⟩ (.func (.func f) vs.toArray us.toArray) := fun G hg => by
  simp only [qv, hf, hc]
theorem q_bld {t : TypeId} {ps : Array (Nat × Operand)} {vs : List (Nat × Value)} {v : Value} (hp : evp l true ps.toList = some vs) (hb : bldv P t vs = some v) : QW P l H L ⟨d, .build t ps, T, pos, aft, gd⟩ v := fun G hg => by
  simp only [qv, hp, hb]

theorem q_lens {x : Operand} {t : TypeId} {s : ByteArray} [hu : Und P t .string] (hx : evg l true x = some (.string s)) : QW P l H L ⟨d, .call ⟨.builtin .len, #[x], #[t]⟩, T, pos, aft, gd⟩ (.int .i64 s.size) := fun G hg => by
  simp [qv, evs, hx, bltv, lenv, hu.h]
theorem q_lenv {x : Operand} {t e : TypeId} {a : Option Addr} {n c : Nat} [hu : Und P t (.slice e)] (hx : evg l true x = some (.slice a n c)) : QW P l H L ⟨d, .call ⟨.builtin .len, #[x], #[t]⟩, T, pos, aft, gd⟩ (.int .i64 n) := fun G hg => by
  simp [qv, evs, hx, bltv, lenv, hu.h]
theorem q_lena {x : Operand} {t e : TypeId} {n : Nat} {v : Value} [hu : Und P t (.array n e)] (hx : evg l true x = some v) : QW P l H L ⟨d, .call ⟨.builtin .len, #[x], #[t]⟩, T, pos, aft, gd⟩ (.int .i64 n) := fun G hg => by
  simp [qv, evs, hx, bltv, lenv, hu.h]
theorem q_min2 {x y : Operand} {t s : TypeId} {k : IntKind} {a b : Int} (hx : evg l true x = some (.int k a)) (hy : evg l true y = some (.int k b)) : QW P l H L ⟨d, .call ⟨.builtin .min, #[x, y], #[t, s]⟩, T, pos, aft, gd⟩ (.int k (if b < a then b else a)) := fun G hg => by
  simp [qv, evs, hx, hy, bltv, fold2, mn2]
theorem q_max2 {x y : Operand} {t s : TypeId} {k : IntKind} {a b : Int} (hx : evg l true x = some (.int k a)) (hy : evg l true y = some (.int k b)) : QW P l H L ⟨d, .call ⟨.builtin .max, #[x, y], #[t, s]⟩, T, pos, aft, gd⟩ (.int k (if a < b then b else a)) := fun G hg => by
  simp [qv, evs, hx, hy, bltv, fold2, mx2]
theorem q_blt {b : Builtin} {xs : Array Operand} {ts : Array TypeId} {vs : List Value} {v : Value} (hx : evs l true xs.toList = some vs) (h : bltv P b ts.toList vs = some v) : QW P l H L ⟨d, .call ⟨.builtin b, xs, ts⟩, T, pos, aft, gd⟩ v := fun G hg => by
  simp only [qv, hx, h]
end
end Go.Proofs.Ytkhmimlgkjenfaa.HL
