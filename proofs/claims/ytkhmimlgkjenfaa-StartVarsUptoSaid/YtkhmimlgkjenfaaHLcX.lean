/- HLc: 'qv': the value of an operation that leaves the memory alone, over a partial heap; sound against the model's execOp. No condition. -/
import Derived.Test.YtkhmimlgkjenfaaHLbX
namespace Go.Proofs.Ytkhmimlgkjenfaa.HL
open Go
set_option linter.unusedVariables false
set_option linter.unusedSimpArgs false
variable {Ω : World}

/-! run-equations, from closed facts of the program's types -/
theorem run_und {P : Program} {t : TypeId} {d : TypeDesc} {w : World} (h : P.underlying t = some d) : (underlying t).run P w = .ok d w := by
  unfold Go.underlying
  show (program >>= fun p => _).run P w = _
  rw [Sem.run_bind]
  show (Result.ok P w).andThen _ = _
  rw [Result.andThen_ok, h]; rfl
theorem run_info {P : Program} {t : TypeId} {i : TypeInfo} {w : World} (h : P.info? t = some i) : (typeInfo t).run P w = .ok i w := by
  unfold Go.typeInfo
  rw [Sem.run_bind]
  show (Result.ok P w).andThen _ = _
  rw [Result.andThen_ok, h]; rfl
theorem run_size {P : Program} {t : TypeId} {i : TypeInfo} {w : World} (h : P.info? t = some i) : (sizeOf t).run P w = .ok i.size w := by
  unfold Go.sizeOf
  rw [Sem.run_bind, run_info h]; rfl

def szOf (P : Program) (t : TypeId) : Option Nat := (P.info? t).map (·.size)
theorem run_sz {P : Program} {t : TypeId} {n : Nat} {w : World} (h : szOf P t = some n) : (sizeOf t).run P w = .ok n w := by
  unfold szOf at h
  obtain ⟨i, hi, rfl⟩ := Option.map_eq_some_iff.1 h
  exact run_size hi

def descAgg : TypeDesc → Bool
  | .struct _ | .array _ _ => true
  | _ => false
theorem run_isAgg {P : Program} {t : TypeId} {d : TypeDesc} {w : World} (h : P.underlying t = some d) : (isAgg t).run P w = .ok (descAgg d) w := by
  unfold Go.isAgg
  rw [Sem.run_bind, run_und h, Result.andThen_ok]
  cases d <;> rfl

def rdN (H : Hp) (a : Addr) : Nat → Nat → Option (List Value)
  | _, 0 => some []
  | i, n + 1 => match H.cell? (a.add i) with
    | some v => (rdN H a (i + 1) n).map (v :: ·)
    | none => none
theorem run_loadFrom {P : Program} {H : Hp} {w : World} (f : Fit Ω H w) (a : Addr) : ∀ (n i : Nat) (acc : Array Value) (l : List Value),
    rdN H a i n = some l → (loadCellsFrom a i n acc).run P w = .ok (acc ++ l.toArray) w := by
  intro n
  induction n with
  | zero => intro i acc l h; cases h; simp [loadCellsFrom, pure, Sem.run]
  | succ n ih =>
    intro i acc l h
    simp only [rdN] at h
    cases hc : H.cell? (a.add i) with
    | none => rw [hc] at h; cases h
    | some v =>
      rw [hc] at h
      obtain ⟨r, hr, rfl⟩ := Option.map_eq_some_iff.1 h
      unfold loadCellsFrom
      have hl : (load (a.add i)).run P w = .ok v w := by
        show Sem.run P (.load .plain (a.add i) .pure) w = _
        simp only [Sem.run, f.cell hc]
      rw [Sem.run_bind, hl, Result.andThen_ok, ih (i + 1) _ _ hr]
      simp

def ldv (P : Program) (H : Hp) (t : TypeId) (a : Addr) : Option Value :=
  match P.underlying t with
  | none => none
  | some d => if descAgg d then
      match szOf P t with
      | some n => (rdN H a 0 n).map fun l => .agg l.toArray
      | none => none
    else H.cell? a
theorem ldv_ok {P : Program} {H : Hp} {w : World} (f : Fit Ω H w) {t : TypeId} {a : Addr} {v : Value} (h : ldv P H t a = some v) :
    (loadVar t a).run P w = .ok v w := by
  unfold ldv at h
  cases hd : P.underlying t with
  | none => rw [hd] at h; cases h
  | some d =>
    rw [hd] at h
    unfold loadVar
    rw [Sem.run_bind, run_isAgg hd, Result.andThen_ok]
    simp only at h
    split at h
    · rename_i ha
      rw [if_pos ha]
      cases hs : szOf P t with
      | none => rw [hs] at h; cases h
      | some n =>
        rw [hs] at h
        obtain ⟨l, hl, rfl⟩ := Option.map_eq_some_iff.1 h
        rw [Sem.run_bind, run_sz hs, Result.andThen_ok, Sem.run_bind]
        unfold loadCells
        rw [run_loadFrom f a n 0 #[] l hl]
        simp [pure, Sem.run]
    · rename_i ha
      rw [if_neg ha]
      show Sem.run P (.load .plain a .pure) w = _
      simp only [Sem.run, f.cell h]

def partv (P : Program) (t : TypeId) (cs : Array Value) (off : Nat) : Option Value :=
  match P.underlying t with
  | none => none
  | some d => if descAgg d then
      match szOf P t with
      | some n => some (.agg (cs.extract off (off + n)))
      | none => none
    else cs[off]?
theorem partv_ok {P : Program} {w : World} {t : TypeId} {cs : Array Value} {off : Nat} {v : Value} (h : partv P t cs off = some v) :
    (part t cs off).run P w = .ok v w := by
  unfold partv at h
  cases hd : P.underlying t with
  | none => rw [hd] at h; cases h
  | some d =>
    rw [hd] at h
    unfold Go.part
    rw [Sem.run_bind, run_isAgg hd, Result.andThen_ok]
    simp only at h
    split at h
    · rename_i ha
      rw [if_pos ha]
      cases hs : szOf P t with
      | none => rw [hs] at h; cases h
      | some n =>
        rw [hs] at h
        cases h
        rw [Sem.run_bind, run_sz hs, Result.andThen_ok]; rfl
    · rename_i ha
      rw [if_neg ha, h]; rfl

def inR (g : Bool) (i : Int) (n : Nat) : Bool := !g || (decide (0 ≤ i) && decide (i < n))
theorem inR_true {i : Int} {n : Nat} (h : inR true i n = true) : 0 ≤ i ∧ i < n := by simpa [inR] using h

def ixAddr (P : Program) (g : Bool) (t : TypeId) (x ix : Value) : Option Value :=
  match ix with
  | .int _ i =>
    match P.underlying t with
    | some (.slice e) => match x with
      | .slice (some a) n _ => match szOf P e with
        | some z => if inR g i n = true then some (.pointer (some (a.add (i.toNat * z)))) else none
        | none => none
      | _ => none
    | some (.array n e) => match x with
      | .pointer (some a) => match szOf P e with
        | some z => if inR g i n = true then some (.pointer (some (a.add (i.toNat * z)))) else none
        | none => none
      | _ => none
    | _ => none
  | _ => none
theorem ixAddr_ok {P : Program} {w : World} {t : TypeId} {x ix v : Value} (h : ixAddr P true t x ix = some v) : (Instr.indexAt t x ix).run P w = .ok v w := by
  unfold ixAddr at h
  cases ix <;> (try simp only [reduceCtorEq] at h)
  rename_i k i
  unfold Instr.indexAt
  rw [Sem.run_bind]
  show (Result.ok (k, i) w).andThen _ = _
  rw [Result.andThen_ok]
  simp only
  rw [Sem.run_bind]
  cases hd : P.underlying t with
  | none => rw [hd] at h; cases h
  | some d =>
    rw [hd] at h
    rw [run_und hd, Result.andThen_ok]
    cases d <;> (try simp only [reduceCtorEq] at h)
    · rename_i e
      cases x <;> (try simp only [reduceCtorEq] at h)
      rename_i p n c
      cases p <;> (try simp only [reduceCtorEq] at h)
      rename_i a
      cases hs : szOf P e <;> (try simp only [hs, reduceCtorEq] at h)
      split at h
      · rename_i hr
        cases h
        have hr := inR_true hr
        simp only [pure, Sem.run, Result.andThen_ok, Sem.run_bind, run_und hd, run_sz hs, if_pos hr]
      · cases h
    · rename_i n e
      cases x <;> (try simp only [reduceCtorEq] at h)
      rename_i p
      cases p <;> (try simp only [reduceCtorEq] at h)
      rename_i a
      cases hs : szOf P e <;> (try simp only [hs, reduceCtorEq] at h)
      split at h
      · rename_i hr
        cases h
        have hr := inR_true hr
        simp only [pure, Sem.run, Result.andThen_ok, Sem.run_bind, run_und hd, run_sz hs, if_pos hr, Instr.sureAddr]
      · cases h

def fdAddr (P : Program) (s : TypeId) (x : Value) (f : Nat) : Option Value :=
  match P.underlying s with
  | some (.struct fs) => match fs[f]? with
    | some fl => match szOf P fl.type with
      | some (n + 1) => match x with
        | .pointer (some a) => some (.pointer (some (a.add fl.offset)))
        | _ => none
      | _ => none
    | none => none
  | _ => none
theorem fdAddr_ok {P : Program} {w : World} {s : TypeId} {x v : Value} {f : Nat} (h : fdAddr P s x f = some v) : (Instr.fieldAt s x f).run P w = .ok v w := by
  unfold fdAddr at h
  unfold Instr.fieldAt
  cases hd : P.underlying s with
  | none => rw [hd] at h; cases h
  | some d =>
    rw [hd] at h
    cases d <;> (try simp only [reduceCtorEq] at h)
    rename_i fs
    rw [Sem.run_bind, run_und hd, Result.andThen_ok]
    cases hf : fs[f]? <;> (try simp only [hf, reduceCtorEq] at h)
    rename_i fl
    cases hs : szOf P fl.type <;> (try simp only [hs, reduceCtorEq] at h)
    rename_i n
    cases n <;> (try simp only [reduceCtorEq] at h)
    rename_i n
    cases x <;> (try simp only [reduceCtorEq] at h)
    rename_i p
    cases p <;> (try simp only [reduceCtorEq] at h)
    cases h
    simp only [hf, Sem.run_bind, Instr.sureAddr, pure, Sem.run, Result.andThen_ok, fieldPlace, run_sz hs, Nat.add_one_ne_zero, if_false]

def fdVal (P : Program) (s : TypeId) (x : Value) (f : Nat) : Option Value :=
  match P.underlying s with
  | some (.struct fs) => match fs[f]? with
    | some fl => match x with
      | .agg cs => partv P fl.type cs fl.offset
      | _ => none
    | none => none
  | _ => none
theorem fdVal_ok {P : Program} {w : World} {s : TypeId} {x v : Value} {f : Nat} (h : fdVal P s x f = some v) : (Instr.field s x f).run P w = .ok v w := by
  unfold fdVal at h
  unfold Instr.field
  cases hd : P.underlying s with
  | none => rw [hd] at h; cases h
  | some d =>
    rw [hd] at h
    cases d <;> (try simp only [reduceCtorEq] at h)
    rename_i fs
    rw [Sem.run_bind, run_und hd, Result.andThen_ok]
    cases hf : fs[f]? <;> (try simp only [hf, reduceCtorEq] at h)
    rename_i fl
    cases x <;> (try simp only [reduceCtorEq] at h)
    rename_i cs
    simp only [hf, Sem.run_bind, asAgg, pure, Sem.run, Result.andThen_ok, partv_ok h]

def ixVal (P : Program) (g : Bool) (t : TypeId) (x ix : Value) : Option Value :=
  match ix with
  | .int _ i =>
    match P.underlying t with
    | some .string => match x with
      | .string s => if inR g i s.size = true then some (.int .u8 (bt s i)) else none
      | _ => none
    | some (.array n e) => match x with
      | .agg cs => match szOf P e with
        | some z => if inR g i n = true then partv P e cs (i.toNat * z) else none
        | none => none
      | _ => none
    | _ => none
  | _ => none
theorem bt_get {s : ByteArray} {i : Int} (h0 : 0 ≤ i) (h1 : i < s.size) : ∃ b : UInt8, s[i.toNat]? = some b ∧ (b.toNat : Int) = bt s i := by
  have hlt : i.toNat < s.size := by omega
  refine ⟨s[i.toNat], by rw [getElem?_pos s i.toNat hlt], ?_⟩
  unfold bt
  have : s.data.toList.length = s.size := by rw [Array.length_toList]; rfl
  rw [List.getD_eq_getElem?_getD, List.getElem?_eq_getElem (by omega)]
  rfl
theorem ixVal_ok {P : Program} {w : World} {t : TypeId} {x ix v : Value} (h : ixVal P true t x ix = some v) : (Instr.index t x ix).run P w = .ok v w := by
  unfold ixVal at h
  cases ix <;> (try simp only [reduceCtorEq] at h)
  rename_i k i
  unfold Instr.index
  rw [Sem.run_bind]
  show (Result.ok (k, i) w).andThen _ = _
  rw [Result.andThen_ok]
  simp only
  cases hd : P.underlying t with
  | none => rw [hd] at h; cases h
  | some d =>
    rw [hd] at h
    rw [Sem.run_bind, run_und hd, Result.andThen_ok]
    cases d <;> (try simp only [reduceCtorEq] at h)
    · cases x <;> (try simp only [reduceCtorEq] at h)
      rename_i s
      split at h
      · rename_i hr
        cases h
        have hr := inR_true hr
        obtain ⟨b, hb, hv⟩ := bt_get hr.1 hr.2
        simp only [if_pos hr.1, hb, hv, pure, Sem.run]
      · cases h
    · rename_i n e
      cases x <;> (try simp only [reduceCtorEq] at h)
      rename_i cs
      cases hs : szOf P e <;> (try simp only [hs, reduceCtorEq] at h)
      split at h
      · rename_i hr
        have hr := inR_true hr
        simp only [if_pos hr, Sem.run_bind, run_sz hs, Result.andThen_ok, partv_ok h]
      · cases h

def okB (g : Bool) (i : Int) (n : Nat) : Bool := !g || (decide (0 ≤ i) && decide (i ≤ n))
def bndMax (g : Bool) (cap : Nat) : Option Value → Option Nat
  | none => some cap
  | some (.int _ i) => if okB g i cap = true then some i.toNat else none
  | some _ => none
def bndHigh (g : Bool) (len m : Nat) (has : Bool) : Option Value → Option Nat
  | none => if has = true then none else some len
  | some (.int _ i) => if okB g i m = true then some i.toNat else none
  | some _ => none
def bndLow (g : Bool) (h : Nat) : Option Value → Option Nat
  | none => some 0
  | some (.int _ i) => if okB g i h = true then some i.toNat else none
  | some _ => none
def bnd (g : Bool) (len cap : Nat) (low high max : Option Value) : Option (Nat × Nat × Nat) :=
  match bndMax g cap max with
  | none => none
  | some m => match bndHigh g len m max.isSome high with
    | none => none
    | some h => match bndLow g h low with
      | none => none
      | some l => some (l, h, m)
theorem run_bound {P : Program} {w : World} {k : IntKind} {i : Int} {n : Nat} {code : BoundsCode} (h : okB true i n = true) :
    (Instr.sliceBound (.int k i) n code).run P w = .ok i.toNat w := by
  have h : 0 ≤ i ∧ i ≤ n := by simpa [okB] using h
  unfold Instr.sliceBound
  rw [Sem.run_bind]
  show (Result.ok (k, i) w).andThen _ = _
  rw [Result.andThen_ok]
  simp only [if_pos h]; rfl
theorem bnd_ok {P : Program} {w : World} {is : Bool} {len cap : Nat} {low high max : Option Value} {r : Nat × Nat × Nat} (h : bnd true len cap low high max = some r) :
    (Instr.sliceBounds is len cap low high max).run P w = .ok r w := by
  unfold bnd at h
  cases hm : bndMax true cap max with
  | none => rw [hm] at h; cases h
  | some m =>
    rw [hm] at h
    simp only at h
    cases hh : bndHigh true len m max.isSome high with
    | none => rw [hh] at h; cases h
    | some hi =>
      rw [hh] at h
      simp only at h
      cases hl : bndLow true hi low with
      | none => rw [hl] at h; cases h
      | some l =>
        rw [hl] at h
        cases h
        unfold Instr.sliceBounds
        cases max with
        | none =>
          cases hm
          rw [Sem.run_bind]
          show (Result.ok cap w).andThen _ = _
          rw [Result.andThen_ok]
          cases high with
          | none =>
            cases hh
            rw [Sem.run_bind]
            show (Result.ok len w).andThen _ = _
            rw [Result.andThen_ok]
            cases low with
            | none => cases hl; rfl
            | some lv =>
              cases lv <;> simp only [bndLow, reduceCtorEq] at hl
              split at hl
              · rename_i hbl
                cases hl
                simp only [Result.andThen_ok]
                rw [Sem.run_bind, run_bound hbl]; rfl
              · cases hl
          | some hv =>
            cases hv <;> simp only [bndHigh, reduceCtorEq] at hh
            split at hh
            · rename_i hb
              cases hh
              simp only
              rw [Sem.run_bind, run_bound hb, Result.andThen_ok]
              cases low with
              | none => cases hl; rfl
              | some lv =>
                cases lv <;> simp only [bndLow, reduceCtorEq] at hl
                split at hl
                · rename_i hbl
                  cases hl
                  simp only [Result.andThen_ok]
                  rw [Sem.run_bind, run_bound hbl]; rfl
                · cases hl
            · cases hh
        | some mv =>
          cases mv <;> simp only [bndMax, reduceCtorEq] at hm
          split at hm
          · rename_i hb
            cases hm
            simp only
            rw [Sem.run_bind, run_bound hb, Result.andThen_ok]
            cases high with
            | none => simp only [bndHigh, Option.isSome_some, if_true, reduceCtorEq] at hh
            | some hv =>
              cases hv <;> simp only [bndHigh, reduceCtorEq] at hh
              split at hh
              · rename_i hb2
                cases hh
                simp only
                rw [Sem.run_bind, run_bound hb2, Result.andThen_ok]
                cases low with
                | none => cases hl; rfl
                | some lv =>
                  cases lv <;> simp only [bndLow, reduceCtorEq] at hl
                  split at hl
                  · rename_i hbl
                    cases hl
                    simp only [Result.andThen_ok]
                    rw [Sem.run_bind, run_bound hbl]; rfl
                  · cases hl
              · cases hh
          · cases hm

def slv (P : Program) (g : Bool) (t : TypeId) (x : Value) (low high max : Option Value) : Option Value :=
  match P.underlying t with
  | some .string => match x with
    | .string s => if max.isSome then none else match bnd g s.size s.size low high none with
      | some (l, h, _) => some (.string (s.extract l h))
      | none => none
    | _ => none
  | some (.slice e) => match x with
    | .slice a len cap => match szOf P e with
      | some z => match bnd g len cap low high max with
        | some (l, h, m) => some (.slice (if m = l then a else a.map (·.add (l * z))) (h - l) (m - l))
        | none => none
      | none => none
    | _ => none
  | some (.array n e) => match x with
    | .pointer (some a) => match szOf P e with
      | some z => match bnd g n n low high max with
        | some (l, h, m) => some (.slice (some (if m = l then a else a.add (l * z))) (h - l) (m - l))
        | none => none
      | none => none
    | _ => none
  | _ => none
theorem slv_ok {P : Program} {w : World} {t : TypeId} {x v : Value} {low high max : Option Value} (h : slv P true t x low high max = some v) :
    (Instr.sliceAt t x low high max).run P w = .ok v w := by
  unfold slv at h
  unfold Instr.sliceAt
  cases hd : P.underlying t with
  | none => rw [hd] at h; cases h
  | some d =>
    rw [hd] at h
    rw [Sem.run_bind, run_und hd, Result.andThen_ok]
    cases d <;> (try simp only [reduceCtorEq] at h)
    · -- string
      simp only [Instr.slice]
      rw [Sem.run_bind, run_und hd, Result.andThen_ok]
      cases x <;> (try simp only [reduceCtorEq] at h)
      rename_i s
      cases max with
      | some _ => simp at h
      | none =>
        simp only [Option.isSome_none, Bool.false_eq_true, if_false] at h
        cases hb : bnd true s.size s.size low high none with
        | none => rw [hb] at h; cases h
        | some r =>
          rw [hb] at h
          obtain ⟨l, hh, m⟩ := r
          cases h
          simp only [Option.isSome_none, Bool.false_eq_true, if_false, Sem.run_bind, pure, Sem.run, Result.andThen_ok, bnd_ok hb]
    · -- slice
      rename_i e
      simp only [Instr.slice]
      rw [Sem.run_bind, run_und hd, Result.andThen_ok]
      cases x <;> (try simp only [reduceCtorEq] at h)
      rename_i a len cap
      cases hs : szOf P e <;> (try simp only [hs, reduceCtorEq] at h)
      cases hb : bnd true len cap low high max with
      | none => rw [hb] at h; cases h
      | some r =>
        rw [hb] at h
        obtain ⟨l, hh, m⟩ := r
        cases h
        simp only [Sem.run_bind, pure, Sem.run, Result.andThen_ok, bnd_ok hb, run_sz hs]
    · -- array
      rename_i n e
      cases x <;> (try simp only [reduceCtorEq] at h)
      rename_i p
      cases p <;> (try simp only [reduceCtorEq] at h)
      rename_i a
      cases hs : szOf P e <;> (try simp only [hs, reduceCtorEq] at h)
      cases hb : bnd true n n low high max with
      | none => rw [hb] at h; cases h
      | some r =>
        rw [hb] at h
        obtain ⟨l, hh, m⟩ := r
        cases h
        simp only [Sem.run_bind, pure, Sem.run, Result.andThen_ok, bnd_ok hb, run_sz hs, Instr.sureAddr]

def un1 (op : UnOp) (x : Value) : Option Value :=
  match op, x with
  | .not, .bool b => some (.bool !b)
  | .neg, .int k n => some (.int k (k.wrap (0 - n)))
  | .neg, .float k n => some (.float k (Op.negFloat k n))
  | _, _ => none
theorem un1_ok {P : Program} {w : World} {op : UnOp} {x v : Value} (h : un1 op x = some v) : (Op.unary op x).run P w = .ok v w := by
  unfold un1 at h
  split at h
  · cases h; rfl
  · cases h; rfl
  · cases h; rfl
  · cases h

def cnv (P : Program) (src dst : TypeId) (x : Value) : Option Value :=
  match P.underlying src with
  | none => none
  | some _ => match P.underlying dst with
    | some (.int k) => match x with
      | .int _ n => some (.int k (k.wrap n))
      | .float s b => match (s.decode b).toInt .zero with
        | some n => if k.min ≤ n ∧ n ≤ k.max then some (.int k n) else none
        | none => none
      | _ => none
    | some (.float k) => match x with
      | .int _ n => some (.float k (k.nearest n))
      | .float s b => if s = k then some (.float k b) else none
      | _ => none
    | some .string => match x with
      | .string s => some (.string s)
      | .int _ n => some (.string (Utf8.encode n))
      | _ => none
    | _ => none
theorem cnv_ok {P : Program} {w : World} {src dst : TypeId} {x v : Value} (h : cnv P src dst x = some v) : (convert src dst x).run P w = .ok v w := by
  unfold cnv at h
  unfold Go.convert
  cases hs : P.underlying src with
  | none => rw [hs] at h; cases h
  | some ds =>
    rw [hs] at h
    simp only at h
    cases hd : P.underlying dst with
    | none => rw [hd] at h; cases h
    | some d =>
      rw [hd] at h
      rw [Sem.run_bind, run_und hs, Result.andThen_ok, Sem.run_bind, run_und hd, Result.andThen_ok]
      cases d <;> (try simp only [reduceCtorEq] at h)
      · cases x <;> (try simp only [reduceCtorEq] at h)
        · cases h
          cases ds <;> rfl
        · rename_i k s b
          split at h
          · rename_i n hn
            split at h
            · rename_i hk
              cases h
              have e : (Conv.floatToInt s b k).run P w = .ok (.int k n) w := by
                unfold Conv.floatToInt
                simp only [hn]
                rw [if_pos hk]; rfl
              cases ds <;> exact e
            · cases h
          · cases h
      · cases x <;> (try simp only [reduceCtorEq] at h)
        · cases h
          cases ds <;> rfl
        · rename_i k s b
          split at h
          · rename_i hk
            cases h
            have e : (Conv.floatToFloat s b k).run P w = .ok (.float k b) w := by
              unfold Conv.floatToFloat
              rw [if_pos hk]; rfl
            cases ds <;> exact e
          · cases h
      · cases x <;> (try simp only [reduceCtorEq] at h)
        · cases h
          cases ds <;> rfl
        · cases h
          cases ds <;> rfl

def lenv (P : Program) (t : TypeId) (x : Value) : Option Value :=
  match P.underlying t with
  | some .string => match x with
    | .string s => some (.int .i64 s.size)
    | _ => none
  | some (.slice _) => match x with
    | .slice _ n _ => some (.int .i64 n)
    | _ => none
  | some (.array n _) => some (.int .i64 n)
  | _ => none
def mn2 (x y : Value) : Option Value :=
  match x, y with
  | .int k x, .int _ y => some (.int k (if y < x then y else x))
  | _, _ => none
def mx2 (x y : Value) : Option Value :=
  match x, y with
  | .int k x, .int _ y => some (.int k (if x < y then y else x))
  | _, _ => none
def fold2 (f : Value → Value → Option Value) : Value → List Value → Option Value
  | x, [] => some x
  | x, y :: r => match f x y with
    | some z => fold2 f z r
    | none => none
theorem fold2_ok {P : Program} {w : World} {f : Value → Value → Option Value} {s : Value → Value → Sem Value}
    (hs : ∀ x y v, f x y = some v → (s x y).run P w = .ok v w) : ∀ (l : List Value) (x v : Value), fold2 f x l = some v → (l.foldlM s x).run P w = .ok v w := by
  intro l
  induction l with
  | nil => intro x v h; cases h; rfl
  | cons y r ih =>
    intro x v h
    simp only [fold2] at h
    cases hf : f x y with
    | none => rw [hf] at h; cases h
    | some z =>
      rw [hf] at h
      rw [List.foldlM_cons, Sem.run_bind, hs _ _ _ hf, Result.andThen_ok]
      exact ih _ _ h

def bltv (P : Program) (b : Builtin) (ts : List TypeId) (args : List Value) : Option Value :=
  match b with
  | .len => match ts, args with
    | t :: _, x :: _ => lenv P t x
    | _, _ => none
  | .min => match args with
    | x :: r => fold2 mn2 x r
    | [] => none
  | .max => match args with
    | x :: r => fold2 mx2 x r
    | [] => none
  | .unsafeSliceData => match args with
    | [.slice none _ _] => some (.pointer none)
    | [.slice (some a) _ c] => if c = 0 then none else some (.pointer (some a))
    | _ => none
  | _ => none
theorem bltv_ok {P : Program} {w : World} {b : Builtin} {ts : Array TypeId} {ty : TypeId} {cs : Array Bool} {args : Array Value} {v : Value}
    (h : bltv P b ts.toList args.toList = some v) : (builtin b ts ty cs args).run P w = .ok (.value v) w := by
  unfold bltv at h
  cases b <;> (try simp only [reduceCtorEq] at h)
  · -- len
    obtain ⟨ts⟩ := ts
    obtain ⟨args⟩ := args
    cases ts <;> (try simp only [reduceCtorEq] at h)
    rename_i t tr
    cases args <;> (try simp only [reduceCtorEq] at h)
    rename_i x xr
    simp only [Go.builtin]
    rw [Sem.run_bind]
    have : (Builtin.len_ { toList := t :: tr } ty { toList := x :: xr }).run P w = .ok v w := by
      unfold lenv at h
      cases hd : P.underlying t with
      | none => rw [hd] at h; cases h
      | some d =>
        rw [hd] at h
        simp only [Builtin.len_, List.getElem?_toArray, List.getElem?_cons_zero]
        rw [Sem.run_bind, run_und hd, Result.andThen_ok]
        cases d <;> (try simp only [reduceCtorEq] at h)
        · cases x <;> (try simp only [reduceCtorEq] at h)
          cases h; rfl
        · cases x <;> (try simp only [reduceCtorEq] at h)
          cases h; rfl
        · cases h; rfl
    rw [this]; rfl
  · -- max
    obtain ⟨args⟩ := args
    cases args <;> (try simp only [reduceCtorEq] at h)
    rename_i x xr
    simp only [Go.builtin]
    rw [Sem.run_bind]
    have : (Builtin.max_ ts ty { toList := x :: xr }).run P w = .ok v w := by
      show (xr.foldlM Builtin.max2 x).run P w = _
      refine fold2_ok (fun x y v h => ?_) xr x v h
      unfold mx2 at h
      split at h
      · cases h; rfl
      · cases h
    rw [this]; rfl
  · -- min
    obtain ⟨args⟩ := args
    cases args <;> (try simp only [reduceCtorEq] at h)
    rename_i x xr
    simp only [Go.builtin]
    rw [Sem.run_bind]
    have : (Builtin.min_ ts ty { toList := x :: xr }).run P w = .ok v w := by
      show (xr.foldlM Builtin.min2 x).run P w = _
      refine fold2_ok (fun x y v h => ?_) xr x v h
      unfold mn2 at h
      split at h
      · cases h; rfl
      · cases h
    rw [this]; rfl
  · -- unsafe.SliceData
    obtain ⟨args⟩ := args
    simp only [Go.builtin]
    rw [Sem.run_bind]
    have : (Builtin.unsafeSliceData_ ts ty { toList := args }).run P w = .ok v w := by
      split at h
      · rename_i n c he
        cases h
        simp only at he
        subst he
        rfl
      · rename_i a n c he
        simp only at he
        subst he
        split at h
        · cases h
        · rename_i hc
          cases h
          show Sem.run P (if c ≠ 0 then pure (Value.pointer (some a)) else _) w = _
          rw [if_pos hc]; rfl
      · cases h
    rw [this]; rfl
end Go.Proofs.Ytkhmimlgkjenfaa.HL
