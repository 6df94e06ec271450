/- HLd: a region's operations over the entries of a frame and a partial heap ('hops'), and code over them ('AW'): rules of sequence, test, block, loop, call; sound against the model's Code.wp and Calls. No condition. -/
import Derived.Test.YtkhmimlgkjenfaaHLcX
import Derived.Scope
import Derived.Laws.StructEq
namespace Go.Proofs.Ytkhmimlgkjenfaa.HL
open Go
set_option linter.unusedVariables false
set_option linter.unusedSimpArgs false
variable {Ω : World}

def evs (l : Ents) (g : Bool) : List Operand → Option (List Value)
  | [] => some []
  | x :: r => match evg l g x with
    | some v => (evs l g r).map (v :: ·)
    | none => none
theorem evs_ok {n : Nat} {l : Ents} {a : Act} (h : EnvOk n l a) : ∀ (xs : List Operand) (vs : List Value), evs l true xs = some vs → xs.map a.eval = vs := by
  intro xs
  induction xs with
  | nil => intro vs he; cases he; rfl
  | cons x r ih =>
    intro vs he
    simp only [evs] at he
    cases hx : evg l true x with
    | none => rw [hx] at he; cases he
    | some v =>
      rw [hx] at he
      obtain ⟨vr, hr, rfl⟩ := Option.map_eq_some_iff.1 he
      rw [List.map_cons, evg_ok h hx, ih _ hr]

def evo (l : Ents) (g : Bool) : Option Operand → Option (Option Value)
  | none => some none
  | some x => (evg l g x).map some
theorem evo_ok {n : Nat} {l : Ents} {a : Act} (h : EnvOk n l a) {x : Option Operand} {v : Option Value} (he : evo l true x = some v) : x.map a.eval = v := by
  cases x with
  | none => cases he; rfl
  | some x =>
    obtain ⟨u, hu, rfl⟩ := Option.map_eq_some_iff.1 he
    rw [Option.map_some, evg_ok h hu]

def nilc : Value → Option Value
  | .pointer (some a) => some (.pointer (some a))
  | .func (.func f) x y => some (.func (.func f) x y)
  | .bool b => some (.bool b)
  | _ => none

def places (P : Program) : List Field → Option (List (Nat × Nat))
  | [] => some []
  | f :: r => match szOf P f.type with
    | some n => (places P r).map ((f.offset, n) :: ·)
    | none => none
def zeroOf (P : Program) (t : TypeId) : Option Value := (P.info? t).bind (·.zero)
def bldv (P : Program) (t : TypeId) (parts : List (Nat × Value)) : Option Value :=
  match zeroOf P t with
  | none => none
  | some z => match P.underlying t with
    | some (.struct fs) => match places P fs.toList with
      | some ps => (Instr.fill (ps.toArray[·]?) z.cells parts).map Value.agg
      | none => none
    | some (.array _ e) => match szOf P e with
      | some n => (Instr.fill (fun i => some (i * n, n)) z.cells parts).map Value.agg
      | none => none
    | _ => none
theorem run_zero {P : Program} {t : TypeId} {z : Value} {w : World} (h : zeroOf P t = some z) : (zeroValue t).run P w = .ok z w := by
  unfold zeroOf at h
  obtain ⟨i, hi, hz⟩ := Option.bind_eq_some_iff.1 h
  unfold Go.zeroValue
  rw [Sem.run_bind, run_info hi, Result.andThen_ok, hz]; rfl
theorem run_places {P : Program} {w : World} : ∀ (fs : List Field) (ps : List (Nat × Nat)), places P fs = some ps →
    (fs.mapM fun f => (do pure (f.offset, ← sizeOf f.type) : Sem (Nat × Nat))).run P w = .ok ps w := by
  intro fs
  induction fs with
  | nil => intro ps h; cases h; rfl
  | cons f r ih =>
    intro ps h
    simp only [places] at h
    cases hs : szOf P f.type with
    | none => rw [hs] at h; cases h
    | some n =>
      rw [hs] at h
      obtain ⟨pr, hr, rfl⟩ := Option.map_eq_some_iff.1 h
      rw [List.mapM_cons, Sem.run_bind, Sem.run_bind, run_sz hs, Result.andThen_ok]
      show (Result.ok (f.offset, n) w).andThen _ = _
      rw [Result.andThen_ok, Sem.run_bind, ih _ hr]; rfl
theorem bldv_ok {P : Program} {w : World} {t : TypeId} {parts : Array (Nat × Value)} {v : Value} (h : bldv P t parts.toList = some v) : (Instr.build t parts).run P w = .ok v w := by
  unfold bldv at h
  cases hz : zeroOf P t with
  | none => rw [hz] at h; cases h
  | some z =>
    rw [hz] at h
    simp only at h
    unfold Instr.build
    rw [Sem.run_bind, run_zero hz, Result.andThen_ok]
    cases hd : P.underlying t with
    | none => rw [hd] at h; cases h
    | some d =>
      rw [hd] at h
      simp only
      rw [Sem.run_bind, run_und hd, Result.andThen_ok]
      cases d <;> (try simp only [reduceCtorEq] at h)
      · rename_i n e
        cases hs : szOf P e with
        | none => rw [hs] at h; cases h
        | some m =>
          rw [hs] at h
          simp only at h
          obtain ⟨cs, hc, rfl⟩ := Option.map_eq_some_iff.1 h
          simp only
          rw [Sem.run_bind, run_sz hs, Result.andThen_ok]
          simp only [hc]; rfl
      · rename_i fs
        cases hp : places P fs.toList with
        | none => rw [hp] at h; cases h
        | some ps =>
          rw [hp] at h
          simp only at h
          obtain ⟨cs, hc, rfl⟩ := Option.map_eq_some_iff.1 h
          simp only
          have hm : (fs.mapM fun f => (do pure (f.offset, ← sizeOf f.type) : Sem (Nat × Nat))).run P w = .ok ps.toArray w := by
            have := run_places (w := w) fs.toList ps hp
            rw [Array.mapM_eq_mapM_toList, Sem.run_map, this]; rfl
          rw [Sem.run_bind, hm, Result.andThen_ok]
          simp only [hc]; rfl

def evp (l : Ents) (g : Bool) : List (Nat × Operand) → Option (List (Nat × Value))
  | [] => some []
  | (i, x) :: r => match evg l g x with
    | some v => (evp l g r).map ((i, v) :: ·)
    | none => none
theorem evp_ok {n : Nat} {l : Ents} {a : Act} (h : EnvOk n l a) : ∀ (xs : List (Nat × Operand)) (vs : List (Nat × Value)), evp l true xs = some vs → xs.map (fun p => (p.1, a.eval p.2)) = vs := by
  intro xs
  induction xs with
  | nil => intro vs he; cases he; rfl
  | cons x r ih =>
    intro vs he
    obtain ⟨i, x⟩ := x
    simp only [evp] at he
    cases hx : evg l true x with
    | none => rw [hx] at he; cases he
    | some v =>
      rw [hx] at he
      obtain ⟨vr, hr, rfl⟩ := Option.map_eq_some_iff.1 he
      rw [List.map_cons, ih _ hr]
      simp only [evg_ok h hx]

def eqF (P : Program) : Nat → TypeId → Value → Value → Option Bool
  | 0, _, _, _ => none
  | d + 1, t, x, y => match P.underlying t with
    | some .bool => match x, y with
      | .bool a, .bool b => some (a == b)
      | _, _ => none
    | some (.int _) => match x, y with
      | .int k a, .int k' b => if k = k' then some (a == b) else none
      | _, _ => none
    | some .string => match x, y with
      | .string a, .string b => some (decide (a = b))
      | _, _ => none
    | some (.array n e) => match d, x, y with
      | _ + 1, .agg xs, .agg ys => match P.underlying e with
        | some (.int k) => match intsOf k xs.toList, intsOf k ys.toList with
          | some a, some b => if a.length = n ∧ b.length = n ∧ (P.info? e).map (·.size) = some 1 then some (decide (a = b)) else none
          | _, _ => none
        | _ => none
      | _, _, _ => none
    | some (.struct fs) => match x, y with
      | .agg xs, .agg ys => if P.stoodInHeld t = false then
          fs.toList.foldr (fun f r => if f.name = "_" then r else match partv P f.type xs f.offset, partv P f.type ys f.offset, r with
            | some a, some b, some c => (eqF P d f.type a b).map (· && c)
            | _, _, _ => none) (some true)
        else none
      | _, _ => none
    | _ => none
def stE (P : Program) (op : BinOp) (t : TypeId) (a b : Value) : Option Value := match a, b with
  | .agg xs, .agg ys => match P.underlying t with
    | some (.struct _) => if P.eqGuardType P.depth t = false then match eqF P 10000 t (.agg xs) (.agg ys) with
      | some r => match op with
        | .eql => some (.bool r)
        | .neq => some (.bool (!r))
        | _ => none
      | none => none
      else none
    | _ => none
  | _, _ => none
def bin3 (P : Program) (g : Bool) (op : BinOp) (t : TypeId) (a b : Value) : Option Value := match bin2 P g op t a b with
  | some v => some v
  | none => stE P op t a b

def qv (P : Program) (l : Ents) (g : Bool) (H : Hp) (o : Oper) : Option Value :=
  match o.op with
  | .move x => evg l g x
  | .assign x => evg l g x
  | .pick c a b => match evg l g c with
    | some (.bool t) => match evg l (g && t) a, evg l (g && !t) b with
      | some x, some y => some (vite t x y)
      | _, _ => none
    | _ => none
  | .binOp op t x y _ => match evg l g x, evg l g y with
    | some a, some b => bin3 P g op t a b
    | _, _ => none
  | .unOp op _ x => match evg l g x with
    | some v => un1 op v
    | none => none
  | .convert s d x => match evg l g x with
    | some v => cnv P s d v
    | none => none
  | .extract x i => match evg l g x with
    | some (.tuple vs) => vs[i]?
    | _ => none
  | .load t x => match evg l g x with
    | some (.pointer (some a)) => ldv P H t a
    | _ => none
  | .nilCheck x => match evg l g x with
    | some v => nilc v
    | none => none
  | .indexAddr t x i => match evg l g x, evg l g i with
    | some a, some b => ixAddr P g t a b
    | _, _ => none
  | .index t x i => match evg l g x, evg l g i with
    | some a, some b => ixVal P g t a b
    | _, _ => none
  | .fieldAddr t x f => match evg l g x with
    | some a => fdAddr P t a f
    | none => none
  | .field t x f => match evg l g x with
    | some a => fdVal P t a f
    | none => none
  | .slice t x lo hi mx => match evg l g x, evo l g lo, evo l g hi, evo l g mx with
    | some a, some b, some c, some d => slv P g t a b c d
    | _, _, _, _ => none
  | .makeFunc fn first captured => match evs l g first.toList, evs l g captured.toList with
    | some a, some b => some (.func fn a.toArray b.toArray)
    | _, _ => none
  | .build t parts => match evp l g parts.toList with
    | some ps => bldv P t ps
    | none => none
  | .call { callee := .builtin b, args := args, argTypes := ts } => match evs l g args.toList with
    | some vs => bltv P b ts.toList vs
    | none => none
  | _ => none

theorem equalIn_bool {P : Program} {w : World} {t : TypeId} {d : Nat} {p q : Bool} (h : P.underlying t = some .bool) :
    (Op.equalIn (d + 1) t (.bool p) (.bool q)).run P w = .ok (p == q) w := by
  unfold Op.equalIn; rw [Sem.run_bind, run_und h]; rfl
theorem equalIn_slice {P : Program} {w : World} {t e : TypeId} {d : Nat} {p q : Option Addr} {n1 c1 n2 c2 : Nat} (h : P.underlying t = some (.slice e)) (hn : (p.isNone || q.isNone) = true) :
    (Op.equalIn (d + 1) t (.slice p n1 c1) (.slice q n2 c2)).run P w = .ok (p.isNone && q.isNone) w := by
  unfold Op.equalIn; rw [Sem.run_bind, run_und h]
  cases p <;> cases q <;> first | rfl | (simp at hn; done)
theorem equalIn_pointer {P : Program} {w : World} {t e : TypeId} {d : Nat} {p q : Option Addr} (h : P.underlying t = some (.pointer e)) (hn : (p.isNone || q.isNone) = true) :
    (Op.equalIn (d + 1) t (.pointer p) (.pointer q)).run P w = .ok (p.isNone && q.isNone) w := by
  unfold Op.equalIn; rw [Sem.run_bind, run_und h]
  cases p <;> cases q <;> first | rfl | (simp at hn; done)
theorem run_eql {P : Program} {w : World} {t : TypeId} {x y : Value} {b : Bool} (h : (Op.equalIn (9999 + 1) t x y).run P w = .ok b w)
    (hb : binOp .eql t x y = (do pure (.bool (← Op.equal t x y)))) : (binOp .eql t x y).run P w = .ok (.bool b) w := by
  rw [hb, Sem.run_bind]
  show ((Op.equalIn (9999 + 1) t x y).run P w).andThen _ = _
  rw [h]; rfl
theorem run_neq {P : Program} {w : World} {t : TypeId} {x y : Value} {b : Bool} (h : (Op.equalIn (9999 + 1) t x y).run P w = .ok b w)
    (hb : binOp .neq t x y = (do pure (.bool (!(← Op.equal t x y))))) : (binOp .neq t x y).run P w = .ok (.bool !b) w := by
  rw [hb, Sem.run_bind]
  show ((Op.equalIn (9999 + 1) t x y).run P w).andThen _ = _
  rw [h]; rfl

theorem cmpS_ok {P : Program} {w : World} {op : BinOp} {t : TypeId} {p q : ByteArray} {b : Bool} (h : cmpS op p q = some b) :
    (binOp op t (.string p) (.string q)).run P w = .ok (.bool b) w := by
  cases op <;> simp only [cmpS, Option.some.injEq, reduceCtorEq] at h <;> subst h <;>
    (simp only [binOp, Op.stringOp, seq_eq, sLt]; (try simp only [ByteArray.toList_eq]); rfl)

theorem equalIn_int {P : Program} {w : World} {e : TypeId} {d : Nat} {k k' : IntKind} {x y : Int} (h : P.underlying e = some (.int k')) :
    (Op.equalIn (d + 1) e (.int k x) (.int k y)).run P w = .ok (x == y) w := by
  unfold Op.equalIn; rw [Sem.run_bind, run_und h]
  simp only [Result.andThen_ok, if_true]; rfl
theorem eq_loop {P : Program} {w : World} {e : TypeId} {d : Nat} {k : IntKind} {a b : List Int} (he : P.underlying e = some (.int k)) : ∀ (m s : Nat), s + m = a.length → s + m = b.length →
    (forIn (List.range' s m 1) ((none, ()) : Option Bool × Unit) (fun i __s => (do
      let x ← part e (a.map (Value.int k)).toArray i
      let y ← part e (b.map (Value.int k)).toArray i
      let r ← Op.equalIn (d + 1) e x y
      if (!r) = true then pure (ForInStep.done (some false, ())) else pure (ForInStep.yield (none, ())) : Sem (ForInStep (Option Bool × Unit))))).run P w = .ok (if a.drop s = b.drop s then (none, ()) else (some false, ())) w
  | 0, s, ha, hb => by
    rw [List.drop_eq_nil_of_le (by omega), List.drop_eq_nil_of_le (by omega)]; rfl
  | m + 1, s, ha, hb => by
    have ha' : s < a.length := by omega
    have hb' : s < b.length := by omega
    have pa : (part e (a.map (Value.int k)).toArray s).run P w = .ok (.int k a[s]) w := partv_ok (by
      unfold partv; rw [he]; simp [descAgg, ha'])
    have pb : (part e (b.map (Value.int k)).toArray s).run P w = .ok (.int k b[s]) w := partv_ok (by
      unfold partv; rw [he]; simp [descAgg, hb'])
    rw [List.range'_succ, List.forIn_cons, Sem.run_bind, Sem.run_bind, pa, Result.andThen_ok, Sem.run_bind, pb, Result.andThen_ok, Sem.run_bind, equalIn_int he, Result.andThen_ok]
    rw [List.drop_eq_getElem_cons ha', List.drop_eq_getElem_cons hb']
    by_cases h : a[s] = b[s]
    · have ih := eq_loop (w := w) (d := d) (a := a) (b := b) he m (s + 1) (by omega) (by omega)
      rw [if_neg (by simp [h])]
      show Sem.run P (forIn (List.range' (s + 1) m 1) _ _) w = _
      rw [ih, h]
      simp only [List.cons.injEq, true_and]
    · rw [if_pos (by simp [h]), if_neg (fun hh => h (List.cons.inj hh).1)]
      rfl
theorem equalIn_ints {P : Program} {w : World} {t e : TypeId} {n d : Nat} {k : IntKind} {a b : List Int} (ht : P.underlying t = some (.array n e)) (he : P.underlying e = some (.int k)) (hz : szOf P e = some 1)
    (ha : a.length = n) (hb : b.length = n) :
    (Op.equalIn (d + 1 + 1) t (.agg (a.map (Value.int k)).toArray) (.agg (b.map (Value.int k)).toArray)).run P w = .ok (decide (a = b)) w := by
  unfold Op.equalIn
  rw [Sem.run_bind, run_und ht]
  simp only [Result.andThen_ok]
  rw [Sem.run_bind, run_sz hz]
  simp only [Result.andThen_ok, Nat.mul_one]
  rw [Std.Legacy.Range.forIn_eq_forIn_range']
  have e1 : ([:n] : Std.Legacy.Range).size = n := by simp [Std.Legacy.Range.size]
  rw [e1, Sem.run_bind]
  have := eq_loop (w := w) (d := d) (a := a) (b := b) he n 0 (by omega) (by omega)
  rw [show (List.range' ([:n] : Std.Legacy.Range).start n ([:n] : Std.Legacy.Range).step) = List.range' 0 n 1 from rfl, this, List.drop_zero, List.drop_zero]
  by_cases h : a = b
  · rw [if_pos h, decide_eq_true h]; rfl
  · rw [if_neg h, decide_eq_false h]; rfl
theorem eqGuard_ints {P : Program} {w : World} {op : BinOp} {t : TypeId} {x y : Operand} {xs ys : Array Value} (hg : P.eqGuardType P.depth t = false) : (eqGuard op t x y (.agg xs) (.agg ys)).run P w = .ok () w := by
  unfold eqGuard
  cases op <;> first
    | rfl
    | (show ((do let p ← program; let q ← program; if (!p.eqGuardType q.depth t) = true then pure () else _) : Sem Unit).run P w = _
       rw [Sem.run_bind]
       show Sem.run P (do let q ← program; if (!P.eqGuardType q.depth t) = true then pure () else _) w = _
       rw [Sem.run_bind]
       show Sem.run P (if (!P.eqGuardType P.depth t) = true then pure () else _) w = _
       rw [hg]; rfl)
theorem fl2_ok {P : Program} {w : World} {op : BinOp} {t : TypeId} {k : FloatKind} {x y : Nat} {v : Value} (h : fl2 op k x y = some v) : (binOp op t (.float k x) (.float k y)).run P w = .ok v w := by
  have ar : ∀ (op : BinOp) (r : Option Nat), r.map (Value.float k) = some v → (do let result ← (pure r : Sem (Option Nat)); match result with | some r => pure (Value.float k r) | none => (do pure (.float k (← choose (.nanBits k x y)))) : Sem Value).run P w = .ok v w := by
    intro op r hr
    obtain ⟨z, rfl, rfl⟩ := Option.map_eq_some_iff.1 hr
    rfl
  have hk : ¬ (k ≠ k) := fun e => e rfl
  cases op <;> first
    | (cases h; done)
    | (simp only [fl2] at h; simp only [binOp, if_neg hk]; exact ar .add _ h)
    | (simp only [fl2] at h; cases h; simp only [binOp, if_neg hk]; rfl)
theorem bin2_ok {P : Program} {w : World} {op : BinOp} {t : TypeId} {x y : Operand} {a b v : Value} (h : bin2 P true op t a b = some v) :
    (do eqGuard op t x y a b; binOp op t a b : Sem Value).run P w = .ok v w := by
  unfold bin2 at h
  split at h
  · -- integers
    rename_i k p k' q
    rw [Sem.run_bind, eqGuard_plain (by simp) (by simp), Result.andThen_ok]
    split at h
    · rename_i hs
      exact shI_ok h
    · rename_i hs
      split at h
      · rename_i hk
        subst hk
        exact binI_ok (by simpa using hs) h
      · cases h
  · -- floats
    rename_i k p k' q
    rw [Sem.run_bind, eqGuard_plain (by simp) (by simp), Result.andThen_ok]
    split at h
    · rename_i hk
      subst hk
      exact fl2_ok h
    · cases h
  · -- strings
    rename_i p q
    rw [Sem.run_bind, eqGuard_plain (by simp) (by simp), Result.andThen_ok]
    split at h
    · split at h
      · rename_i hl
        cases h
        have : ¬ (((p.size + q.size : Nat) : Int) > IntKind.i64.max) := by
          have e : IntKind.i64.max = 9223372036854775807 := by decide
          have hl : ((p.size + q.size : Nat) : Int) ≤ i64max := of_decide_eq_true hl
          rw [e]; unfold i64max at hl; omega
        simp only [binOp, Op.stringOp, if_neg this]; rfl
      · cases h
    · obtain ⟨b, hb, rfl⟩ := Option.map_eq_some_iff.1 h
      exact cmpS_ok hb
  · -- bools
    rename_i p q
    rw [Sem.run_bind, eqGuard_plain (by simp) (by simp), Result.andThen_ok]
    split at h
    · rename_i hu
      split at h
      · cases h; exact run_eql (equalIn_bool hu) rfl
      · cases h; exact run_neq (equalIn_bool hu) rfl
      · cases h
    · cases h
  · -- slices
    rename_i p n1 c1 q n2 c2
    rw [Sem.run_bind, eqGuard_plain (by simp) (by simp), Result.andThen_ok]
    split at h
    · rename_i e hu
      split at h
      · rename_i hn
        split at h
        · cases h; exact run_eql (equalIn_slice hu hn) rfl
        · cases h; exact run_neq (equalIn_slice hu hn) rfl
        · cases h
      · cases h
    · cases h
  · -- pointers
    rename_i p q
    rw [Sem.run_bind, eqGuard_plain (by simp) (by simp), Result.andThen_ok]
    split at h
    · rename_i e hu
      split at h
      · rename_i hn
        split at h
        · cases h; exact run_eql (equalIn_pointer hu hn) (by cases p <;> cases q <;> rfl)
        · cases h; exact run_neq (equalIn_pointer hu hn) (by cases p <;> cases q <;> rfl)
        · cases h
      · cases h
    · cases h
  · -- arrays of integers
    rename_i xs ys
    split at h
    · rename_i n e ht
      split at h
      · rename_i k he
        split at h
        · rename_i a b ha hb
          split at h
          · rename_i hc
            obtain ⟨c1, c2, c3, c4⟩ := hc
            have hx : xs = (a.map (Value.int k)).toArray := by rw [← intsOf_eq ha]
            have hy : ys = (b.map (Value.int k)).toArray := by rw [← intsOf_eq hb]
            subst hx; subst hy
            rw [Sem.run_bind, eqGuard_ints c4, Result.andThen_ok]
            split at h
            · cases h; exact run_eql (equalIn_ints ht he c3 c1 c2) rfl
            · cases h; exact run_neq (equalIn_ints ht he c3 c1 c2) rfl
            · cases h
          · cases h
        · cases h
      · cases h
    · cases h
  · cases h

theorem eqFields_ok {P : Program} {w : World} {d : Nat} {xs ys : Array Value} (ih : ∀ t x y b, eqF P d t x y = some b → (Op.equalIn d t x y).run P w = .ok b w) : ∀ (fs : List Field) (b : Bool),
    fs.foldr (fun f r => if f.name = "_" then r else match partv P f.type xs f.offset, partv P f.type ys f.offset, r with
            | some a, some b, some c => (eqF P d f.type a b).map (· && c)
            | _, _, _ => none) (some true) = some b → (Op.eqFields d xs ys fs).run P w = .ok b w := by
  intro fs
  induction fs with
  | nil => intro b h; cases h; rfl
  | cons f fs ihf =>
    intro b h
    rw [List.foldr_cons] at h
    unfold Op.eqFields
    by_cases hn : f.name = "_"
    · rw [if_pos hn] at h
      rw [if_neg (by simpa using hn)]
      exact ihf b h
    · rw [if_neg hn] at h
      rw [if_pos hn]
      split at h
      · rename_i a' b' c' ha hb hc
        obtain ⟨r, hr, rfl⟩ := Option.map_eq_some_iff.1 h
        rw [Sem.run_bind, partv_ok ha, Result.andThen_ok, Sem.run_bind, partv_ok hb, Result.andThen_ok, Sem.run_bind, ih _ _ _ _ hr, Result.andThen_ok]
        cases r with
        | false => rfl
        | true =>
          rw [if_neg (by decide)]
          exact ihf c' hc
      · cases h
theorem eqF_ok {P : Program} {w : World} : ∀ (d : Nat) (t : TypeId) (x y : Value) (b : Bool), eqF P d t x y = some b → (Op.equalIn d t x y).run P w = .ok b w := by
  intro d
  induction d with
  | zero => intro t x y b h; cases h
  | succ d ih =>
    intro t x y b h
    unfold eqF at h
    split at h
    · rename_i ht
      split at h
      · cases h; exact equalIn_bool ht
      · cases h
    · rename_i ht
      split at h
      · split at h
        · rename_i e; subst e; cases h; exact equalIn_int ht
        · cases h
      · cases h
    · rename_i ht
      split at h
      · rename_i p q
        cases h
        rw [run_equalIn_string w d t p q ht, seq_eq]
      · cases h
    · rename_i n e ht
      split at h
      · rename_i d' xs ys
        split at h
        · rename_i k he
          split at h
          · rename_i p q ha hb
            split at h
            · rename_i hc
              obtain ⟨c1, c2, c3⟩ := hc
              cases h
              have hx : xs = (p.map (Value.int k)).toArray := by rw [← intsOf_eq ha]
              have hy : ys = (q.map (Value.int k)).toArray := by rw [← intsOf_eq hb]
              subst hx; subst hy
              exact equalIn_ints ht he c3 c1 c2
            · cases h
          · cases h
        · cases h
      · cases h
    · rename_i fs ht
      split at h
      · rename_i xs ys
        split at h
        · rename_i hp
          have hf : P.fieldsOf t = fs := by unfold Program.fieldsOf; rw [ht]
          rw [run_equalIn_struct w d t xs ys (by rw [hf]; exact ht) hp, hf]
          exact eqFields_ok ih _ _ h
        · cases h
      · cases h
    · cases h
theorem stE_ok {P : Program} {w : World} {op : BinOp} {t : TypeId} {x y : Operand} {a b v : Value} (h : stE P op t a b = some v) : (do eqGuard op t x y a b; binOp op t a b : Sem Value).run P w = .ok v w := by
  unfold stE at h
  split at h
  · rename_i xs ys
    split at h
    · split at h
      · rename_i hg
        split at h
        · rename_i r hr
          rw [Sem.run_bind, eqGuard_ints hg, Result.andThen_ok]
          split at h
          · cases h
            rw [run_eql_struct, eqF_ok _ _ _ _ _ hr]; rfl
          · cases h
            rw [run_neq_struct, eqF_ok _ _ _ _ _ hr]; rfl
          · cases h
        · cases h
      · cases h
    · cases h
  · cases h
theorem bin3_ok {P : Program} {w : World} {op : BinOp} {t : TypeId} {x y : Operand} {a b v : Value} (h : bin3 P true op t a b = some v) : (do eqGuard op t x y a b; binOp op t a b : Sem Value).run P w = .ok v w := by
  unfold bin3 at h
  split at h
  · rename_i v' hv
    cases h
    exact bin2_ok hv
  · exact stE_ok h

theorem run_v {P : Program} {w : World} {s : Sem Value} {v : Value} (h : s.run P w = .ok v w) : (do pure (.value (← s)) : Sem Next).run P w = .ok (.value v) w := by
  rw [Sem.run_bind, h]; rfl

theorem qv_ok {P : Program} {n : Nat} {l : Ents} {a : Act} {H : Hp} {w : World} {o : Oper} {v : Value}
    (he : EnvOk n l a) (f : Fit Ω H w) (h : qv P l true H o = some v) : (execOp a.eval o).run P w = .ok (.value v) w := by
  unfold qv at h
  unfold execOp
  split at h
  · rename_i x hx; rw [hx]; show (Result.ok (Next.value (a.eval x)) w) = _; rw [evg_ok he h]
  · rename_i x hx; rw [hx]; show (Result.ok (Next.value (a.eval x)) w) = _; rw [evg_ok he h]
  · rename_i c x y hx
    simp only [hx]
    split at h
    · rename_i t hc
      split at h
      · rename_i u u' hu hu'
        cases h
        rw [evg_ok he hc]
        rw [vite_eq]
        cases t
        · rw [show (true && !false) = true from rfl] at hu'
          rw [← evg_ok he hu']; rfl
        · rw [show (true && true) = true from rfl] at hu
          rw [← evg_ok he hu]; rfl
      · cases h
    · cases h
  · rename_i op t x y ty hx
    simp only [hx]
    split at h
    · rename_i p q hp hq
      rw [evg_ok he hp, evg_ok he hq]
      exact run_v (bin3_ok h)
    · cases h
  · rename_i op t x hx
    simp only [hx]
    split at h
    · rename_i p hp
      rw [evg_ok he hp]
      exact run_v (un1_ok h)
    · cases h
  · rename_i s d x hx
    simp only [hx]
    split at h
    · rename_i p hp
      rw [evg_ok he hp]
      exact run_v (cnv_ok h)
    · cases h
  · rename_i x i hx
    simp only [hx]
    split at h
    · rename_i vs hp
      rw [evg_ok he hp]
      refine run_v ?_
      simp only [Instr.extract, h]; rfl
    · cases h
  · rename_i t x hx
    simp only [hx]
    split at h
    · rename_i p hp
      rw [evg_ok he hp]
      refine run_v ?_
      simp only [Instr.loadAt, Instr.sureAddr]
      rw [Sem.run_bind]
      show (Result.ok p w).andThen _ = _
      rw [Result.andThen_ok]
      exact ldv_ok f h
    · cases h
  · rename_i x hx
    simp only [hx]
    split at h
    · rename_i p hp
      rw [evg_ok he hp]
      unfold nilc at h
      split at h
      · cases h; rfl
      · cases h; rfl
      · cases h; rfl
      · cases h
    · cases h
  · rename_i t x i hx
    simp only [hx]
    split at h
    · rename_i p q hp hq
      rw [evg_ok he hp, evg_ok he hq]
      exact run_v (ixAddr_ok h)
    · cases h
  · rename_i t x i hx
    simp only [hx]
    split at h
    · rename_i p q hp hq
      rw [evg_ok he hp, evg_ok he hq]
      exact run_v (ixVal_ok h)
    · cases h
  · rename_i t x i hx
    simp only [hx]
    split at h
    · rename_i p hp
      rw [evg_ok he hp]
      exact run_v (fdAddr_ok h)
    · cases h
  · rename_i t x i hx
    simp only [hx]
    split at h
    · rename_i p hp
      rw [evg_ok he hp]
      exact run_v (fdVal_ok h)
    · cases h
  · rename_i t x lo hi mx hx
    simp only [hx]
    split at h
    · rename_i p b c d hp hb hc hd
      rw [evg_ok he hp, evo_ok he hb, evo_ok he hc, evo_ok he hd]
      exact run_v (slv_ok h)
    · cases h
  · rename_i fn first captured hx
    simp only [hx]
    split at h
    · rename_i p q hp hq
      cases h
      have h1 : first.map a.eval = p.toArray := by
        rw [← evs_ok he _ _ hp, ← Array.toList_map]
      have h2 : captured.map a.eval = q.toArray := by
        rw [← evs_ok he _ _ hq, ← Array.toList_map]
      rw [h1, h2]; rfl
    · cases h
  · rename_i t parts hx
    simp only [hx]
    split at h
    · rename_i ps hp
      have h1 : (parts.map fun p => (p.1, a.eval p.2)).toList = ps := by
        rw [← evp_ok he _ _ hp] <;> simp
      exact run_v (bldv_ok (by rw [← h1] at h; exact h))
    · cases h
  · rename_i b args ts hx
    simp only [hx]
    split at h
    · rename_i vs hp
      have h1 : (args.map a.eval).toList = vs := by rw [← evs_ok he _ _ hp, ← Array.toList_map]
      simp only [resolve, pure]
      rw [Sem.run_bind]
      show (Result.ok _ w).andThen _ = _
      rw [Result.andThen_ok]
      simp only [invoke]
      exact bltv_ok (by rw [← h1] at h; exact h)
    · cases h
  · cases h
end Go.Proofs.Ytkhmimlgkjenfaa.HL
