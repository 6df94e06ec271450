/- HLf: the rules for operations that call, make or write memory, over a partial heap. No condition. -/
import Derived.Test.YtkhmimlgkjenfaaHLeX
namespace Go.Proofs.Ytkhmimlgkjenfaa.HL
open Go
set_option linter.unusedVariables false
set_option linter.unusedSimpArgs false

def Ext (H H' : Hp) : Prop := ∀ b o, H b = some o → H' b = some o
theorem Ext.refl (H : Hp) : Ext H H := fun _ _ h => h
theorem Ext.trans {H H1 H2 : Hp} (h : Ext H H1) (h' : Ext H1 H2) : Ext H H2 := fun b o hb => h' b o (h b o hb)
theorem Ext.upd {H : Hp} {b : Nat} (hb : H b = none) (o : Obj) : Ext H (H.upd b o) := by
  intro x o' hx
  unfold Hp.upd
  split
  · rename_i e; subst e; rw [hb] at hx; cases hx
  · exact hx
theorem upd_self (H : Hp) (b : Nat) (o : Obj) : (H.upd b o) b = some o := by simp [Hp.upd]
theorem upd_ne (H : Hp) {b x : Nat} (o : Obj) (h : x ≠ b) : (H.upd b o) x = H x := by simp [Hp.upd, h]
theorem fresh_ne {H : Hp} {b x : Nat} {o : Obj} (hb : H b = none) (hx : H x = some o) : x ≠ b := by
  rintro rfl; rw [hb] at hx; cases hx

theorem cell_of {H : Hp} {b off : Nat} {c : Array Value} {t : TypeId} {fr : Nat × Nat} (h : H b = some (.cells c t fr)) : H.cell? ⟨b, off, none⟩ = c[off]? := by
  simp [Hp.cell?, h]
theorem cell_list {H : Hp} {b off : Nat} {c : List Value} {t : TypeId} {fr : Nat × Nat} (h : H b = some (.cells c.toArray t fr)) : H.cell? ⟨b, off, none⟩ = c[off]? := by
  rw [cell_of h]; simp
theorem add_none (b off k : Nat) : (⟨b, off, none⟩ : Addr).add k = ⟨b, off + k, none⟩ := by
  unfold Addr.add
  split
  · rename_i h; subst h; rfl
  · rfl

def goFn (P : Program) (f : FuncId) : Bool :=
  match P.funcs[f]? with
  | some fn => fn.body.isSome && fn.name != "runtime.NumGoroutine"
  | none => false

section
variable {P : Program} {l : Ents} {H : Hp} {K : Value → Hp → Prop}

theorem hw_callFunc {f : FuncId} {args : Array Value} {K : Next → Hp → Prop} (hf : goFn P f = true) (h : K (.enter f args) H) : hw P (callFunc f args) H K := by
  unfold callFunc
  rw [hw_bind]
  show hw P _ H K
  unfold goFn at hf
  split at hf
  · rename_i fn hfn
    obtain ⟨h1, h2⟩ : fn.body.isSome = true ∧ (fn.name != "runtime.NumGoroutine") = true := by simpa using hf
    simp only [hfn]
    rw [if_neg (by simpa using h2), if_neg (by cases hb : fn.body <;> simp_all)]
    exact h
  · cases hf

theorem all_of_evs : ∀ (xs : List Operand) (vs : List Value), evs l true xs = some vs → xs.all (fun x => (evg l true x).isSome) = true ∧ xs.map (fun x => (evg l true x).getD undef) = vs := by
  intro xs
  induction xs with
  | nil => intro vs h; cases h; exact ⟨rfl, rfl⟩
  | cons x r ih =>
    intro vs h
    simp only [evs] at h
    cases hx : evg l true x with
    | none => rw [hx] at h; cases h
    | some v =>
      rw [hx] at h
      obtain ⟨vr, hr, rfl⟩ := Option.map_eq_some_iff.1 h
      obtain ⟨h1, h2⟩ := ih _ hr
      exact ⟨by rw [List.all_cons, hx, h1]; rfl, by rw [List.map_cons, hx, h2]; rfl⟩

theorem hgen_call {d : Option Tmp} {f : FuncId} {args : Array Operand} {ats : Array TypeId} {T : TypeId} {pos : String} {aft : Array Edge} {gd : Option (Nat × Bool)} {vs : List Value}
    (hv : evs l true args.toList = some vs) (hf : goFn P f = true) (h : HC P f vs H K) :
    hgen P l ⟨d, .call ⟨.value (.func f), args, ats⟩, T, pos, aft, gd⟩ H K := by
  obtain ⟨h1, h2⟩ := all_of_evs _ _ hv
  refine hgen_hw ?_ ?_
  · simp only [Op.operands, Call.operands, Array.toList_append, List.all_append, h1, Bool.and_true]
    rfl
  · simp only [execOp, resolve]
    rw [hw_bind]
    have hfv : evg l true (Operand.func f) = some (.func (.func f) #[] #[]) := rfl
    simp only [hfv, Option.getD_some, Deferred.ofValue, invoke]
    refine hw_callFunc hf ?_
    simp only [hnext]
    have : (#[] ++ args.map (fun x => (evg l true x).getD undef) ++ #[] : Array Value).toList = vs := by simp [h2]
    rw [this]; exact h

theorem hgen_callv {d : Option Tmp} {t : Tmp} {f : FuncId} {first captured : Array Value} {args : Array Operand} {ats : Array TypeId} {T : TypeId} {pos : String} {aft : Array Edge} {gd : Option (Nat × Bool)} {vs : List Value}
    (ht : evg l true (.tmp t) = some (.func (.func f) first captured)) (hv : evs l true args.toList = some vs) (hf : goFn P f = true) (h : HC P f (first.toList ++ vs ++ captured.toList) H K) :
    hgen P l ⟨d, .call ⟨.value (.tmp t), args, ats⟩, T, pos, aft, gd⟩ H K := by
  obtain ⟨h1, h2⟩ := all_of_evs _ _ hv
  refine hgen_hw ?_ ?_
  · simp only [Op.operands, Call.operands, Array.toList_append, List.all_append, h1, Bool.and_true]
    simp [ht]
  · simp only [execOp, resolve]
    rw [hw_bind]
    simp only [ht, Option.getD_some, Deferred.ofValue, invoke]
    refine hw_callFunc hf ?_
    simp only [hnext]
    have : (first ++ args.map (fun x => (evg l true x).getD undef) ++ captured : Array Value).toList = first.toList ++ vs ++ captured.toList := by simp [h2]
    rw [this]; exact h

theorem hw_zero {t : TypeId} {z : Value} {K : Value → Hp → Prop} (hz : zeroOf P t = some z) (h : K z H) : hw P (zeroValue t) H K := by
  unfold zeroOf at hz
  obtain ⟨i, hi, hz⟩ := Option.bind_eq_some_iff.1 hz
  unfold zeroValue typeInfo
  rw [hw_bind, hw_bind]
  show hw P (match P.info? t with | some i => pure i | none => stuck "no such type") H _
  rw [hi]
  show hw P (match i.zero with | some v => pure v | none => _) H K
  rw [hz]; exact h

theorem hw_und {t : TypeId} {d : TypeDesc} {K : TypeDesc → Hp → Prop} (hd : P.underlying t = some d) (h : K d H) : hw P (underlying t) H K := by
  unfold underlying
  rw [hw_bind]
  show hw P (match P.underlying t with | some d => pure d | none => stuck "no such type") H K
  rw [hd]; exact h

theorem hw_sz {t : TypeId} {n : Nat} {K : Nat → Hp → Prop} (hs : szOf P t = some n) (h : K n H) : hw P (sizeOf t) H K := by
  unfold szOf at hs
  obtain ⟨i, hi, rfl⟩ := Option.map_eq_some_iff.1 hs
  unfold sizeOf typeInfo
  rw [hw_bind, hw_bind]
  show hw P (match P.info? t with | some i => pure i | none => stuck "no such type") H _
  rw [hi]; exact h

def bsOf (P : Program) (t : TypeId) : Option Nat := (P.info? t).map (·.bytes)
theorem hw_bytes {t : TypeId} {n : Nat} {α : Type} {s : TypeInfo → Sem α} {K : α → Hp → Prop} (hs : bsOf P t = some n) (h : ∀ i : TypeInfo, i.bytes = n → hw P (s i) H K) : hw P (typeInfo t >>= s) H K := by
  unfold bsOf at hs
  obtain ⟨i, hi, rfl⟩ := Option.map_eq_some_iff.1 hs
  unfold typeInfo
  rw [hw_bind, hw_bind]
  show hw P (match P.info? t with | some i => pure i | none => stuck "no such type") H _
  rw [hi]; exact h i rfl

def newK (H : Hp) (o : Obj) (K : Nat → Hp → Prop) : Prop := ∀ b H1, H b = none → Ext H H1 → H1 b = some o → K b H1
theorem hw_newRow {t : TypeId} {cs : Array Value} {K : Addr → Hp → Prop} (h : newK H (.cells cs t (0, 0)) fun b H1 => K ⟨b, 0, none⟩ H1) : hw P (newRow t cs) H K := by
  unfold newRow newObj
  rw [hw_bind]
  intro b hb
  exact h b _ hb (Ext.upd hb _) (upd_self _ _ _)

theorem hgen_alloc {d : Option Tmp} {t : TypeId} {T : TypeId} {pos : String} {aft : Array Edge} {gd : Option (Nat × Bool)} {z : Value}
    (hz : zeroOf P t = some z) (h : newK H (.cells z.cells t (0, 0)) fun b H1 => K (.pointer (some ⟨b, 0, none⟩)) H1) :
    hgen P l ⟨d, .alloc t, T, pos, aft, gd⟩ H K := by
  refine hgen_hw rfl ?_
  simp only [execOp, Instr.alloc]
  rw [hw_bind, hw_bind]
  refine hw_zero hz ?_
  rw [hw_bind]
  exact hw_newRow h

theorem hgen_box {d : Option Tmp} {t : TypeId} {x : Operand} {T : TypeId} {pos : String} {aft : Array Edge} {gd : Option (Nat × Bool)} {v : Value}
    (hv : evg l true x = some v) (h : newK H (.cells v.cells t (0, 0)) fun b H1 => K (.pointer (some ⟨b, 0, none⟩)) H1) :
    hgen P l ⟨d, .box t x, T, pos, aft, gd⟩ H K := by
  refine hgen_hw (by simp [Op.operands, hv]) ?_
  simp only [execOp, Instr.box, hv, Option.getD_some]
  rw [hw_bind, hw_bind]
  exact hw_newRow h

theorem hw_store1 {a : Addr} {o : Obj} {v : Value} {K : Unit → Hp → Prop} (ho : H a.block = some o) (h1 : isOne v = true) (hc : (H.cell? a).isSome = true) (hz : H.frozen? a = false)
    (h : K () (H.upd a.block (objSet o a v))) : hw P (store a v) H K := ⟨h1, o, ho, hc, hz, h⟩

def spl (c : List Value) (i : Nat) (vs : List Value) : List Value := c.take i ++ vs ++ c.drop (i + vs.length)

theorem frozen_of {H : Hp} {b off : Nat} {c : Array Value} {t : TypeId} {lo hi : Nat} (h : H b = some (.cells c t (lo, hi))) :
    H.frozen? ⟨b, off, none⟩ = (decide (lo ≤ off) && decide (off < hi)) := by
  simp [Hp.frozen?, h]

theorem hw_storeCells {b : Nat} {t : TypeId} {lo hi : Nat} : ∀ (vs : List Value) (c : List Value) (off i : Nat) (H : Hp) (K : Unit → Hp → Prop), H b = some (.cells c.toArray t (lo, hi)) →
    off + i + vs.length ≤ c.length → (vs.all isOne = true) → (off + i + vs.length ≤ lo ∨ hi ≤ off + i ∨ hi ≤ lo) →
    (∀ H1, (∀ x, x ≠ b → H1 x = H x) → H1 b = some (.cells (spl c (off + i) vs).toArray t (lo, hi)) → K () H1) → hw P (storeCells ⟨b, off, none⟩ vs i) H K := by
  intro vs
  induction vs with
  | nil =>
    intro c off i H K hb _ _ _ h
    refine h H (fun _ _ => rfl) ?_
    rw [hb]; simp [spl]
  | cons v r ih =>
    intro c off i H K hb hl ha hf h
    rw [List.all_cons, Bool.and_eq_true] at ha
    simp only [List.length_cons] at hl hf
    unfold storeCells
    rw [hw_bind, add_none]
    have hlt : off + i < c.length := by omega
    refine hw_store1 (o := .cells c.toArray t (lo, hi)) hb ha.1 ?_ ?_ ?_
    · rw [cell_list hb]; simp [hlt]
    · rw [frozen_of hb]
      rw [Bool.and_eq_false_iff, decide_eq_false_iff_not, decide_eq_false_iff_not]; omega
    · refine ih (c.set (off + i) v) off (i + 1) _ K ?_ (by simp; omega) ha.2 (by omega) ?_
      · simp [upd_self, objSet]
      · intro H1 h1 h2
        refine h H1 (fun x hx => by rw [h1 x hx, upd_ne _ _ hx]) ?_
        rw [h2]
        congr 3
        unfold spl
        have e1 : (c.set (off + i) v).take (off + (i + 1)) = c.take (off + i) ++ [v] := by
          rw [show off + (i + 1) = (off + i) + 1 by omega, List.take_succ_eq_append_getElem (by simp; omega)]
          simp [List.take_set_of_le]
        have e2 : (c.set (off + i) v).drop (off + (i + 1) + r.length) = c.drop (off + i + (v :: r).length) := by
          rw [List.drop_set_of_lt (by omega)]
          simp only [List.length_cons]
          congr 1; omega
        rw [e1, e2]; simp

theorem hgen_store {lo hi : Nat} {d : Option Tmp} {t : TypeId} {x y : Operand} {T : TypeId} {pos : String} {aft : Array Edge} {gd : Option (Nat × Bool)} {v : Value} {b off : Nat} {c : List Value} {et : TypeId}
    (hx : evg l true x = some (.pointer (some ⟨b, off, none⟩))) (hy : evg l true y = some v) (hs : szOf P t = some v.cells.size) (hb : H b = some (.cells c.toArray et (lo, hi)))
    (hl : off + v.cells.size ≤ c.length) (ha : v.cells.toList.all isOne = true) (hf : c.length ≤ lo ∨ hi ≤ lo)
    (h : ∀ H1, (∀ x, x ≠ b → H1 x = H x) → H1 b = some (.cells (spl c off v.cells.toList).toArray et (lo, hi)) → K undef H1) :
    hgen P l ⟨d, .store t x y, T, pos, aft, gd⟩ H K := by
  refine hgen_hw (by simp [Op.operands, hx, hy]) ?_
  simp only [execOp, Instr.storeAt, hx, hy, Option.getD_some, Instr.sureAddr]
  rw [hw_bind, hw_bind]
  show hw P (storeVar t ⟨b, off, none⟩ v) H _
  unfold storeVar
  rw [hw_bind]
  refine hw_sz hs ?_
  simp only [ne_eq, not_true_eq_false, if_false]
  refine hw_storeCells v.cells.toList c off 0 H _ hb (by simpa using hl) ha (by simp only [Array.length_toList]; omega) ?_
  intro H1 h1 h2
  exact h H1 h1 h2

end

theorem subE_nil (l : Ents) : subE [] l := fun i p h => by cases h
theorem subE_cons {i : Nat} {p : Bool × Value} {r l : Ents} (h : look l i = some p) (hr : subE r l) : subE ((i, p) :: r) l := by
  intro j q hj
  simp only [look] at hj
  split at hj
  · rename_i e; subst e; cases hj; exact h
  · exact hr j q hj
end Go.Proofs.Ytkhmimlgkjenfaa.HL
