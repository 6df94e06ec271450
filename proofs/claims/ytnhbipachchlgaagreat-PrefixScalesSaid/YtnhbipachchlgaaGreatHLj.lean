/- HLj: the library's strings.Builder: addresses seen as unsafe ones, bytes as a string, over a partial heap. No condition. -/
import Derived.Test.YtnhbipachchlgaaGreatHLh
import Derived.Test.YtnhbipachchlgaaGreatHLi
import Derived.Lib.UnsafeStr
namespace Go.Proofs.YtnhbipachchlgaaGreat.HL
open Go
set_option linter.unusedVariables false
set_option linter.unusedSimpArgs false
section
variable {P : Program} {l : Ents} {H : Hp} {K : Value → Hp → Prop}

theorem hw_shape {r : Nat} {o : Obj} {K : Option (TypeId × Nat) → Hp → Prop} (h : H r = some o) (hk : K (objShape o) H) : hw P (shape r) H K := ⟨o, h, hk⟩
theorem hw_viewAt {r : Nat} {c : Array Value} {e : TypeId} {fr : Nat × Nat} {K : Option (Addr × TypeId) → Hp → Prop} (h : H r = some (.cells c e fr)) (hk : K none H) : hw P (viewAt r) H K := by
  unfold viewAt
  rw [hw_bind]
  refine hw_shape h ?_
  simp only [objShape, Option.isSome_some, if_true]
  exact hk
theorem hw_seenAt {a : Addr} {c : Array Value} {e : TypeId} {fr : Nat × Nat} {K : Addr → Hp → Prop} (h : H a.block = some (.cells c e fr)) (hk : K a H) : hw P (Conv.seenAt a) H K := by
  unfold Conv.seenAt
  rw [hw_bind]
  exact hw_viewAt h hk
theorem hw_cellsIn {r : Nat} {c : Array Value} {e : TypeId} {fr : Nat × Nat} {K : Option Nat → Hp → Prop} (h : H r = some (.cells c e fr)) (hk : K (some c.size) H) : hw P (cellsIn r) H K := by
  unfold cellsIn
  rw [hw_bind]
  refine hw_shape h ?_
  simp only [objShape]
  exact hk
theorem hw_variablesAt {a : Addr} {u : TypeId} {n : Nat} {c : Array Value} {e : TypeId} {fr : Nat × Nat} {K : Bool → Hp → Prop} (h : H a.block = some (.cells c e fr)) (hk : K (liesAt P P.depth e (c.size / P.cellsOf e) a.off u n) H) : hw P (variablesAt a u n) H K := by
  unfold variablesAt
  rw [hw_bind]
  show hw P (shape a.block >>= _) H K
  rw [hw_bind]
  refine hw_shape h ?_
  simp only [objShape]
  exact hk

/-- a pointer as an unsafe one -/
theorem hgen_toUnsafe {d : Option Tmp} {src dst t : TypeId} {x : Operand} {T : TypeId} {pos : String} {aft : Array Edge} {gd : Option (Nat × Bool)} {b off n : Nat} {c : Array Value} {e : TypeId} {fr : Nat × Nat}
    (hx : evg l true x = some (.pointer (some ⟨b, off, none⟩))) (hs : P.underlying src = some (.pointer t)) (hd : P.underlying dst = some .unsafePointer) (hz : szOf P t = some (n + 1)) (hb : H b = some (.cells c e fr)) (hl : off < c.size)
    (h : K (.pointer (some ⟨b, off, none⟩)) H) : hgen P l ⟨d, .convert src dst x, T, pos, aft, gd⟩ H K := by
  refine hgen_hw (by simp [Op.operands, hx]) ?_
  simp only [execOp, hx, Option.getD_some, convert]
  rw [hw_bind, hw_bind]
  refine hw_und hs ?_
  rw [hw_bind]
  refine hw_und hd ?_
  show hw P (Conv.unsafePointer src dst _) H _
  unfold Conv.unsafePointer
  rw [hw_bind]
  refine hw_und hs ?_
  rw [hw_bind]
  refine hw_und hd ?_
  simp only
  rw [hw_bind]
  refine hw_seenAt hb ?_
  rw [hw_bind]
  refine hw_cellsIn hb ?_
  rw [hw_bind]
  refine hw_sz hz ?_
  have : (decide (n + 1 = 0) || (decide (off ≥ c.size) && (none : Option Nat).isNone)) = false := by
    have : ¬ off ≥ c.size := by omega
    simp [this]
  simp only [this, Bool.false_eq_true, if_false]
  exact h

/-- and back -/
theorem hgen_ofUnsafe {d : Option Tmp} {src dst u : TypeId} {x : Operand} {T : TypeId} {pos : String} {aft : Array Edge} {gd : Option (Nat × Bool)} {b off n : Nat} {c : Array Value} {e : TypeId} {fr : Nat × Nat}
    (hx : evg l true x = some (.pointer (some ⟨b, off, none⟩))) (hs : P.underlying src = some .unsafePointer) (hd : P.underlying dst = some (.pointer u)) (hz : szOf P u = some (n + 1)) (hb : H b = some (.cells c e fr))
    (hl : liesAt P P.depth e (c.size / P.cellsOf e) off u 1 = true)
    (h : K (.pointer (some ⟨b, off, none⟩)) H) : hgen P l ⟨d, .convert src dst x, T, pos, aft, gd⟩ H K := by
  refine hgen_hw (by simp [Op.operands, hx]) ?_
  simp only [execOp, hx, Option.getD_some, convert]
  rw [hw_bind, hw_bind]
  refine hw_und hs ?_
  rw [hw_bind]
  refine hw_und hd ?_
  show hw P (Conv.unsafePointer src dst _) H _
  unfold Conv.unsafePointer
  rw [hw_bind]
  refine hw_und hs ?_
  rw [hw_bind]
  refine hw_und hd ?_
  simp only
  rw [hw_bind]
  refine hw_seenAt hb ?_
  rw [hw_bind]
  refine hw_sz hz ?_
  rw [hw_bind]
  refine hw_variablesAt hb ?_
  simp only [hl, Nat.add_one_ne_zero, decide_false, Bool.or_true, if_true]
  exact h

/-- a call of a function without a body, by its row in the model's table -/
theorem hgen_extern {d : Option Tmp} {f : FuncId} {args : Array Operand} {ats : Array TypeId} {T : TypeId} {pos : String} {aft : Array Edge} {gd : Option (Nat × Bool)} {vs : List Value} {fn : Func} {e : Array Value → Sem Value}
    (hv : evs l true args.toList = some vs) (hf : P.funcs[f]? = some fn) (hb : fn.body.isNone = true) (hn : (fn.name == "runtime.NumGoroutine") = false) (h1 : (Extern.findNext fn).isNone = true) (h2 : Extern.find fn = some e)
    (h : hw P (e vs.toArray) H K) :
    hgen P l ⟨d, .call ⟨.value (.func f), args, ats⟩, T, pos, aft, gd⟩ H K := by
  obtain ⟨g1, g2⟩ := all_of_evs _ _ hv
  refine hgen_hw ?_ ?_
  · simp only [Op.operands, Call.operands, Array.toList_append, List.all_append, g1, Bool.and_true]
    rfl
  · simp only [execOp, resolve]
    rw [hw_bind]
    have hfv : evg l true (Operand.func f) = some (.func (.func f) #[] #[]) := rfl
    simp only [hfv, Option.getD_some, Deferred.ofValue, invoke]
    rw [hw_pure]
    have ha : (#[] ++ args.map (fun x => (evg l true x).getD undef) ++ #[] : Array Value) = vs.toArray := by
      apply Array.ext'; simp [g2]
    show hw P (callFunc f (#[] ++ args.map (fun x => (evg l true x).getD undef) ++ #[])) H _
    rw [ha]
    unfold callFunc
    rw [hw_bind]
    show hw P _ H _
    show hw P (match P.funcs[f]? with | none => _ | some fn => _) H _
    rw [hf]
    simp only
    rw [if_neg (by rw [hn]; simp), if_pos hb, hw_bind]
    show hw P _ H _
    cases hfn : Extern.findNext fn with
    | some x => rw [hfn] at h1; cases h1
    | none =>
      rw [h2]
      show hw P (e vs.toArray >>= fun a => pure (Next.value a)) H _
      rw [hw_bind]
      exact hw_mono _ h fun _ _ hk => hk

/-- bytes of one's own as a string, without a copy -/
theorem hgen_unsafeString {d : Option Tmp} {x y : Operand} {T : TypeId} {pos : String} {aft : Array Edge} {gd : Option (Nat × Bool)} {pt lt e : TypeId} {v : Value} {bs : List UInt8} {pv : Value}
    (hx : evg l true x = some pv) (hy : evg l true y = some (.int .i64 bs.length)) (hp : P.underlying pt = some (.pointer e)) (hc : P.cellsOf e = 1)
    (ho : Own H e 1 v bs.length (bs.map fun b => .int .u8 b.toNat)) (hpv : (∃ a n c, v = .slice (some a) n c ∧ pv = .pointer (some a)) ∨ (bs = [] ∧ ∃ p, pv = .pointer p)) (hlen : bs.length < 2 ^ 62)
    (h : ∀ H', (∀ x, blk v ≠ some x → H' x = H x) → K (.string (bstr bs)) H') :
    hgen P l ⟨d, .call ⟨.builtin .unsafeString, #[x, y], #[pt, lt]⟩, T, pos, aft, gd⟩ H K := by
  refine ⟨by simp [Op.operands, Call.operands, hx, hy], fun Ω w f => ?_⟩
  have key : ∀ (w' : World) (s : ByteArray), (Builtin.unsafeString_ #[pt, lt] T #[pv, .int .i64 bs.length]).run P w = .ok (.string s) w' →
      (execOp (fun x => (evg l true x).getD undef) ⟨d, .call ⟨.builtin .unsafeString, #[x, y], #[pt, lt]⟩, T, pos, aft, gd⟩).run P w = .ok (.value (.string s)) w' := by
    intro w' s hr
    simp only [execOp, resolve]
    rw [Sem.run_bind]
    show (Result.ok _ w).andThen _ = _
    rw [Result.andThen_ok]
    simp only [invoke, builtin]
    rw [Sem.run_bind]
    simp only [List.map_toArray, List.map_cons, List.map_nil, hx, hy, Option.getD_some]
    rw [hr]; rfl
  by_cases hb0 : bs = []
  · subst hb0
    have hpp : ∃ p, pv = .pointer p := by
      rcases hpv with ⟨a, n, c, _, rfl⟩ | ⟨_, p, rfl⟩
      · exact ⟨_, rfl⟩
      · exact ⟨_, rfl⟩
    obtain ⟨p, rfl⟩ := hpp
    exact ⟨_, w, H, key w _ (Lib.run_unsafeString_none w pt lt T p), f, h H fun _ _ => rfl⟩
  · rcases hpv with ⟨a, n, c, rfl, rfl⟩ | ⟨h0, _⟩
    · rcases ho with ⟨h1, ⟨h2, _⟩ | ⟨b, cap, rest, lo, hi, h2, h3, h4, h5, h6⟩⟩
      · cases h2
      · cases h2
        have hn0 : bs.length ≠ 0 := by intro e; exact hb0 (List.eq_nil_of_length_eq_zero e)
        have hsh : w.shape? b = some (e, (bs.map (fun b => Value.int .u8 b.toNat) ++ rest).length) := by
          unfold World.shape?
          rw [f _ _ h3]; simp
        have hr := Lib.run_unsafeString_row (P := P) w pt lt T e hp hc b _ hsh bs hb0 (by simp) (by omega) (by
          intro j x hj
          refine f.cell ?_
          rw [add_none, Nat.zero_add, cell_list h3]
          have hlt : j < bs.length := by
            rcases Nat.lt_or_ge j bs.length with h | h
            · exact h
            · rw [List.getElem?_eq_none h] at hj; cases hj
          rw [List.getElem?_append_left (by simpa using hlt), List.getElem?_map, hj]; rfl)
        refine ⟨_, _, H.upd b (objFreeze (.cells (bs.map (fun b => Value.int .u8 b.toNat) ++ rest).toArray e (lo, hi)) 0 bs.length), key _ _ hr, ?_, h _ fun x hx => upd_ne H _ (fun e => hx (by rw [e]; rfl))⟩
        · unfold World.freeze
          rw [if_neg hn0]
          exact f.modify h3 (fun o => objFreeze o 0 bs.length)
    · exact absurd h0 hb0
theorem hw_eqGuard {op : BinOp} {t : TypeId} {x y : Operand} {a b : Value} {K : Unit → Hp → Prop} (h : a ≠ .nilIface) (h' : ∀ c, a ≠ .agg c) (hk : K () H) : hw P (eqGuard op t x y a b) H K := by
  unfold eqGuard
  cases op <;> first | exact hk | (cases a <;> first | exact hk | (exact absurd rfl h) | (exact absurd rfl (h' _)))

/-- two addresses in one block, held against each other -/
theorem hw_equal_at {t e : TypeId} {n : Nat} {a c : Addr} {K : Bool → Hp → Prop} (hu : P.underlying t = some (.pointer e)) (hz : szOf P e = some (n + 1)) (hb : a.block = c.block) (hk : K (a == c) H) : hw P (Op.equal t (.pointer (some a)) (.pointer (some c))) H K := by
  show hw P (Op.equalIn (9999 + 1) t _ _) H K
  unfold Op.equalIn
  rw [hw_bind]
  refine hw_und hu ?_
  simp only
  rw [hw_bind]
  refine hw_sz hz ?_
  rw [if_pos (by simp)]
  unfold sameAddr
  rw [if_pos (by simp [hb])]
  exact hk
theorem hgen_eql_at {d : Option Tmp} {t e : TypeId} {x y : Operand} {ty : TypeId} {T : TypeId} {pos : String} {aft : Array Edge} {gd : Option (Nat × Bool)} {n : Nat} {a c : Addr}
    (hx : evg l true x = some (.pointer (some a))) (hy : evg l true y = some (.pointer (some c))) (hu : P.underlying t = some (.pointer e)) (hz : szOf P e = some (n + 1)) (hb : a.block = c.block)
    (h : K (.bool (a == c)) H) : hgen P l ⟨d, .binOp .eql t x y ty, T, pos, aft, gd⟩ H K := by
  refine hgen_hw (by simp [Op.operands, hx, hy]) ?_
  simp only [execOp, hx, hy, Option.getD_some]
  rw [hw_bind, hw_bind]
  refine hw_eqGuard (by simp) (by simp) ?_
  simp only [binOp]
  rw [hw_bind]
  exact hw_equal_at hu hz hb h
theorem hgen_neq_at {d : Option Tmp} {t e : TypeId} {x y : Operand} {ty : TypeId} {T : TypeId} {pos : String} {aft : Array Edge} {gd : Option (Nat × Bool)} {n : Nat} {a c : Addr}
    (hx : evg l true x = some (.pointer (some a))) (hy : evg l true y = some (.pointer (some c))) (hu : P.underlying t = some (.pointer e)) (hz : szOf P e = some (n + 1)) (hb : a.block = c.block)
    (h : K (.bool (!(a == c))) H) : hgen P l ⟨d, .binOp .neq t x y ty, T, pos, aft, gd⟩ H K := by
  refine hgen_hw (by simp [Op.operands, hx, hy]) ?_
  simp only [execOp, hx, hy, Option.getD_some]
  rw [hw_bind, hw_bind]
  refine hw_eqGuard (by simp) (by simp) ?_
  simp only [binOp]
  rw [hw_bind]
  exact hw_equal_at hu hz hb h
end
end Go.Proofs.YtnhbipachchlgaaGreat.HL
