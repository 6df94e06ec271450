/- HLb: what an operation yields that leaves the memory alone ('qv'), by cases of the model's own execOp; the entries of a frame ('look', 'EnvOk'); sound. No condition. -/
import Derived.Test.YtkhmimlgkjenfaaHLaX
import Derived.Laws.Slices
import Derived.Laws.Strings
import Derived.Laws.Bits
namespace Go.Proofs.Ytkhmimlgkjenfaa.HL
open Go
set_option linter.unusedVariables false
set_option linter.unusedSimpArgs false

abbrev Ents := List (Nat × Bool × Value)

def look : Ents → Nat → Option (Bool × Value)
  | [], _ => none
  | (i, e) :: r, j => if i = j then some e else look r j

structure EnvOk (n : Nat) (l : Ents) (a : Act) : Prop where
  defers : a.defers = []
  size : a.tmps.size = n
  val : ∀ i g v, look l i = some (g, v) → a.tmps[i]? = some (if g = true then v else undef)

def evg (l : Ents) (g : Bool) : Operand → Option Value
  | .tmp t => match look l t with
    | some (gx, v) => if (!g || gx) = true then some v else none
    | none => none
  | .const v => some v
  | .global n => some (.pointer (some ⟨n, 0, none⟩))
  | .func f => some (.func (.func f) #[] #[])

theorem evg_ok {n : Nat} {l : Ents} {a : Act} (h : EnvOk n l a) {x : Operand} {v : Value} (he : evg l true x = some v) : a.eval x = v := by
  cases x with
  | tmp t =>
    simp only [evg] at he
    cases hl : look l t with
    | none => rw [hl] at he; cases he
    | some p =>
      obtain ⟨gx, u⟩ := p
      rw [hl] at he
      simp only [Bool.not_true, Bool.false_or] at he
      split at he
      · rename_i hg
        cases he
        have := h.val t gx v hl
        rw [if_pos hg] at this
        simp [Act.eval, Array.getD_eq_getD_getElem?, this]
      · cases he
  | const c => cases he; rfl
  | global g => cases he; rfl
  | func f => cases he; rfl

def vite (t : Bool) (x y : Value) : Value :=
  match x, y with
  | .bool a, .bool b => .bool (bif t then a else b)
  | x, y => bif t then x else y
theorem vite_eq (t : Bool) (x y : Value) : vite t x y = bif t then x else y := by
  unfold vite
  split
  · cases t <;> rfl
  · rfl

def bt (s : ByteArray) (i : Int) : Int := ((s.data.toList.getD i.toNat 0).toNat : Int)

def i64max : Int := 9223372036854775807

def cmpI (op : BinOp) (x y : Int) : Option Bool :=
  match op with
  | .eql => some (decide (x = y))
  | .neq => some (!decide (x = y))
  | .lss => some (decide (x < y))
  | .leq => some (decide (x ≤ y))
  | .gtr => some (decide (y < x))
  | .geq => some (decide (y ≤ x))
  | _ => none

def sLt (a b : ByteArray) : Bool := Op.bytesLess a.data.toList b.data.toList
def cmpS (op : BinOp) (x y : ByteArray) : Option Bool :=
  match op with
  | .eql => some (decide (x = y))
  | .neq => some (!decide (x = y))
  | .lss => some (sLt x y)
  | .leq => some (sLt x y || decide (x = y))
  | .gtr => some (!(sLt x y || decide (x = y)))
  | .geq => some (!sLt x y)
  | _ => none

def bitI (op : BinOp) (k : IntKind) (x y : Int) : Option Int :=
  match op with
  | .and => some (k.wrap ((BitVec.ofInt k.bits x &&& BitVec.ofInt k.bits y).toNat : Int))
  | .or => some (k.wrap ((BitVec.ofInt k.bits x ||| BitVec.ofInt k.bits y).toNat : Int))
  | .xor => some (k.wrap ((BitVec.ofInt k.bits x ^^^ BitVec.ofInt k.bits y).toNat : Int))
  | .andNot => some (k.wrap ((BitVec.ofInt k.bits x &&& ~~~ BitVec.ofInt k.bits y).toNat : Int))
  | _ => none

def binI (g : Bool) (op : BinOp) (k : IntKind) (x y : Int) : Option Value :=
  match op with
  | .add => some (.int k (k.wrap (x + y)))
  | .sub => some (.int k (k.wrap (x - y)))
  | .mul => some (.int k (k.wrap (x * y)))
  | .quo => if (!g || !decide (y = 0)) = true then some (.int k (k.wrap (x.tdiv y))) else none
  | .rem => if (!g || !decide (y = 0)) = true then some (.int k (x.tmod y)) else none
  | .and | .or | .xor | .andNot => (bitI op k x y).map (Value.int k)
  | .eql | .neq | .lss | .leq | .gtr | .geq => (cmpI op x y).map Value.bool
  | _ => none

def shI (g : Bool) (op : BinOp) (k : IntKind) (x y : Int) : Option Value :=
  if (!g || decide (0 ≤ y)) = true then
    match op with
    | .shl => some (.int k (k.wrap (x * 2 ^ (min y.toNat k.bits))))
    | .shr => some (.int k (x.fdiv (2 ^ (min y.toNat k.bits))))
    | _ => none
  else none

def isSh : BinOp → Bool
  | .shl | .shr => true
  | _ => false

def intsOf (k : IntKind) : List Value → Option (List Int)
  | [] => some []
  | .int k' z :: r => if k' = k then (intsOf k r).map (z :: ·) else none
  | _ :: _ => none
theorem intsOf_eq {k : IntKind} : ∀ {cs : List Value} {a : List Int}, intsOf k cs = some a → cs = a.map (Value.int k)
  | [], a, h => by cases h; rfl
  | v :: cs, a, h => by
    unfold intsOf at h
    split at h
    · cases ‹_ :: _ = []›
    · rename_i k' z r heq
      cases heq
      split at h
      · rename_i hk
        obtain ⟨b, hb, rfl⟩ := Option.map_eq_some_iff.1 h
        rw [intsOf_eq hb, hk]; rfl
      · cases h
    · cases h
def fl2 (op : BinOp) (k : FloatKind) (x y : Nat) : Option Value :=
  match op with
  | .add => (k.format.add x y).map (Value.float k)
  | .sub => (k.format.sub x y).map (Value.float k)
  | .mul => (k.format.mul x y).map (Value.float k)
  | .quo => (k.format.div x y).map (Value.float k)
  | .eql => some (.bool (k.format.order x y == some .eq))
  | .neq => some (.bool (k.format.order x y != some .eq))
  | .lss => some (.bool (k.format.order x y == some .lt))
  | .leq => some (.bool (k.format.order x y == some .lt || k.format.order x y == some .eq))
  | .gtr => some (.bool (k.format.order x y == some .gt))
  | .geq => some (.bool (k.format.order x y == some .gt || k.format.order x y == some .eq))
  | _ => none
def bin2 (P : Program) (g : Bool) (op : BinOp) (t : TypeId) (a b : Value) : Option Value :=
  match a, b with
  | .int k x, .int k' y => if isSh op then shI g op k x y else if k = k' then binI g op k x y else none
  | .float k x, .float k' y => if k = k' then fl2 op k x y else none
  | .string x, .string y =>
    match op with
    | .add => if (!g || decide (((x.size + y.size : Nat) : Int) ≤ i64max)) = true then some (.string (x ++ y)) else none
    | op => (cmpS op x y).map Value.bool
  | .bool x, .bool y =>
    match P.underlying t with
    | some .bool => match op with
      | .eql => some (.bool (x == y))
      | .neq => some (.bool (!(x == y)))
      | _ => none
    | _ => none
  | .slice p _ _, .slice q _ _ =>
    match P.underlying t with
    | some (.slice _) => if p.isNone || q.isNone then match op with
        | .eql => some (.bool (p.isNone && q.isNone))
        | .neq => some (.bool (!(p.isNone && q.isNone)))
        | _ => none
      else none
    | _ => none
  | .pointer p, .pointer q =>
    match P.underlying t with
    | some (.pointer _) => if p.isNone || q.isNone then match op with
        | .eql => some (.bool (p.isNone && q.isNone))
        | .neq => some (.bool (!(p.isNone && q.isNone)))
        | _ => none
      else none
    | _ => none
  | .agg xs, .agg ys =>
    match P.underlying t with
    | some (.array n e) => match P.underlying e with
      | some (.int k) => match intsOf k xs.toList, intsOf k ys.toList with
        | some a, some b => if a.length = n ∧ b.length = n ∧ (P.info? e).map (·.size) = some 1 ∧ P.eqGuardType P.depth t = false then match op with
            | .eql => some (.bool (decide (a = b)))
            | .neq => some (.bool (!decide (a = b)))
            | _ => none
          else none
        | _, _ => none
      | _ => none
    | _ => none
  | _, _ => none

theorem seq_eq (a b : ByteArray) : (a.toList == b.toList) = decide (a = b) := by
  rw [ByteArray.toList_eq, ByteArray.toList_eq, Bool.eq_iff_iff, beq_iff_eq, decide_eq_true_iff]
  constructor
  · intro h
    cases a with | mk a => cases b with | mk b =>
    congr 1
    exact Array.toList_inj.1 h
  · rintro rfl; rfl

theorem eqGuard_plain {P : Program} {op : BinOp} {t : TypeId} {x y : Operand} {a b : Value} {w : World}
    (h : a ≠ .nilIface) (h' : ∀ c, a ≠ .agg c) : (eqGuard op t x y a b).run P w = .ok () w := by
  unfold eqGuard
  cases op <;> first | rfl | (cases a <;> first | rfl | (exact absurd rfl h) | (exact absurd rfl (h' _)))

theorem binI_ok {P : Program} {op : BinOp} {t : TypeId} {k : IntKind} {x y : Int} {v : Value} {w : World} (hs : isSh op = false)
    (h : binI true op k x y = some v) : (binOp op t (.int k x) (.int k y)).run P w = .ok v w := by
  cases op <;> simp only [isSh, Bool.true_eq_false] at hs <;>
    simp only [binI, cmpI, bitI, Option.map_some, Option.map_none, Bool.not_true, Bool.false_or, Bool.not_eq_true', decide_eq_false_iff_not, Option.some.injEq, reduceCtorEq] at h <;>
    first
      | (subst h; simp [binOp, Op.intArith, Op.intBits, Op.intCmp, pure, Sem.run]; done)
      | (split at h
         · rename_i hy; cases h; simp [binOp, Op.intDiv, hy, pure, Sem.run]
         · cases h)
      | (subst h; simp [binOp, Op.intCmp, pure, Sem.run, Bool.beq_eq_decide_eq, bne]; done)

theorem shI_ok {P : Program} {op : BinOp} {t : TypeId} {k k' : IntKind} {x y : Int} {v : Value} {w : World}
    (h : shI true op k x y = some v) : (binOp op t (.int k x) (.int k' y)).run P w = .ok v w := by
  unfold shI at h
  simp only [Bool.not_true, Bool.false_or, decide_eq_true_eq] at h
  split at h
  · rename_i hy
    have hy' : ¬ y < 0 := by omega
    cases op <;> simp only [reduceCtorEq, Option.some.injEq] at h <;> (subst h; simp [binOp, Op.shift, hy', pure, Sem.run])
  · cases h
end Go.Proofs.Ytkhmimlgkjenfaa.HL
