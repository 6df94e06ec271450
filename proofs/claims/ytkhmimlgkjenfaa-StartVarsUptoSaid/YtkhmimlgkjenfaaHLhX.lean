/- HLh: make, literals of slices, copy, conversions between strings, bytes and runes, over a partial heap. No condition. -/
import Derived.Test.YtkhmimlgkjenfaaHLgX
import Derived.IntWalk
namespace Go.Proofs.Ytkhmimlgkjenfaa.HL
open Go
set_option linter.unusedVariables false
set_option linter.unusedSimpArgs false

def zrow (zs : List Value) (c : Nat) : List Value := (List.replicate c zs).flatten
theorem zrow_len (zs : List Value) (c : Nat) : (zrow zs c).length = c * zs.length := by simp [zrow, List.length_flatten]
theorem zrow_one (v : Value) (c : Nat) : zrow [v] c = List.replicate c v := by
  induction c with
  | zero => rfl
  | succ c ih => unfold zrow at ih ⊢; rw [List.replicate_succ, List.flatten_cons, ih, List.replicate_succ]; rfl
theorem zrow_range (zs : Array Value) (c : Nat) : ((Array.range (c * zs.size)).map fun i => zs[i % zs.size]!) = (zrow zs.toList c).toArray := by
  apply Array.ext'
  rw [Array.toList_map, Array.toList_range]
  show _ = zrow zs.toList c
  induction c with
  | zero => simp [zrow]
  | succ c ih =>
    rw [Nat.add_mul, Nat.one_mul, List.range_add, List.map_append, ih]
    have e : (List.map (fun i => zs[i % zs.size]!) (List.map (fun x => c * zs.size + x) (List.range zs.size))) = zs.toList := by
      rw [List.map_map]
      apply List.ext_getElem
      · simp
      · intro i h1 h2
        simp at h1
        simp only [List.getElem_map, List.getElem_range, Function.comp, Array.getElem_toList]
        rw [show (c * zs.size + i) % zs.size = i by rw [Nat.mul_comm, Nat.mul_add_mod]; exact Nat.mod_eq_of_lt h1]
        simp [h1]
    rw [e]
    unfold zrow
    rw [List.replicate_succ', List.flatten_append]
    simp

section
variable {P : Program} {l : Ents} {H : Hp} {K : Value → Hp → Prop}

theorem hw_ask {b : Nat} {K : Unit → Hp → Prop} (h : K () H) : hw P (askRoom b) H K := by
  unfold askRoom
  split
  · exact h
  · exact h

theorem wrap_id {n : Int} (h0 : 0 ≤ n) (h1 : n < 2 ^ 62) : IntKind.i64.wrap n = n := IntWalk.i64_in n ⟨by omega, by omega⟩

theorem hgen_makeSlice {d : Option Tmp} {t e : TypeId} {x y : Operand} {T : TypeId} {pos : String} {aft : Array Edge} {gd : Option (Nat × Bool)} {k k' : IntKind} {n c : Int} {bs : Nat} {zv : Value}
    (hx : evg l true x = some (.int k n)) (hy : evg l true y = some (.int k' c)) (hd : P.underlying t = some (.slice e)) (hz : szOf P e = some zv.cells.size) (hzv : zeroOf P e = some zv) (hbs : bsOf P e = some bs)
    (h0 : 0 ≤ n) (h1 : n ≤ c) (h2 : c < 2 ^ 62) (h3 : bs * c ≤ 2 ^ 48)
    (h : newK H (.cells (zrow zv.cells.toList c.toNat).toArray e (0, 0)) fun b H1 => K (.slice (some ⟨b, 0, none⟩) n.toNat c.toNat) H1) :
    hgen P l ⟨d, .makeSlice t x y, T, pos, aft, gd⟩ H K := by
  refine hgen_hw (by simp [Op.operands, hx, hy]) ?_
  simp only [execOp, Instr.makeSlice, hx, hy, Option.getD_some]
  rw [hw_bind, hw_bind]
  refine hw_und hd ?_
  simp only [asInt, asIntOf]
  rw [hw_bind, hw_bind, hw_pure, hw_pure, hw_bind, hw_bind, hw_pure, hw_pure]
  refine hw_bytes hbs fun i hi => ?_
  simp only [wrap_id h0 (by omega), wrap_id (show 0 ≤ c by omega) h2, hi]
  have hc : ((decide (c < 0) || decide ((bs : Int) * c > 2 ^ 48)) || decide (n < 0) || decide (n > c)) = false := by
    have a1 : ¬ c < 0 := by omega
    have a2 : ¬ (bs : Int) * c > 2 ^ 48 := by omega
    have a3 : ¬ n < 0 := by omega
    have a4 : ¬ n > c := by omega
    simp only [decide_eq_false a1, decide_eq_false a2, decide_eq_false a3, decide_eq_false a4, Bool.or_false]
  rw [if_neg (by rw [hc]; simp)]
  rw [hw_bind]
  refine hw_ask ?_
  rw [hw_bind]
  refine hw_sz hz ?_
  by_cases hn : c.toNat * zv.cells.size = 0
  · rw [if_pos hn, hw_bind, hw_pure, hw_bind]
    refine hw_newRow ?_
    have e2 : ((Array.range (c.toNat * zv.cells.size)).map fun x => (#[] : Array Value)[x % (#[] : Array Value).size]!) = (zrow zv.cells.toList c.toNat).toArray := by
      have : (zrow zv.cells.toList c.toNat).length = 0 := by rw [zrow_len]; simpa using hn
      rw [List.eq_nil_of_length_eq_zero this, hn]; simp
    rw [e2]; exact h
  · rw [if_neg hn, hw_bind]
    refine hw_zero hzv ?_
    rw [hw_bind, hw_pure, hw_bind]
    refine hw_newRow ?_
    rw [zrow_range]; exact h

def bslv (z : Nat) (zv : Value) (n : Nat) (ps : List (Nat × Value)) : Option (List Value) :=
  (Instr.fill (fun i => some (i * z, z)) (zrow zv.cells.toList n).toArray ps).map (·.toList)

theorem all_of_evp : ∀ (xs : List (Nat × Operand)) (vs : List (Nat × Value)), evp l true xs = some vs → xs.all (fun x => (evg l true x.2).isSome) = true ∧ xs.map (fun x => (x.1, (evg l true x.2).getD undef)) = vs := by
  intro xs
  induction xs with
  | nil => intro vs h; cases h; exact ⟨rfl, rfl⟩
  | cons x r ih =>
    intro vs h
    obtain ⟨i, x⟩ := x
    simp only [evp] at h
    cases hx : evg l true x with
    | none => rw [hx] at h; cases h
    | some v =>
      rw [hx] at h
      obtain ⟨vr, hr, rfl⟩ := Option.map_eq_some_iff.1 h
      obtain ⟨h1, h2⟩ := ih _ hr
      refine ⟨by rw [List.all_cons, h1]; simp [hx], by rw [List.map_cons, h2]; simp [hx]⟩

theorem hgen_buildSlice {d : Option Tmp} {t e : TypeId} {n : Nat} {parts : Array (Nat × Operand)} {T : TypeId} {pos : String} {aft : Array Edge} {gd : Option (Nat × Bool)} {zv : Value} {ps : List (Nat × Value)} {cs : List Value}
    (hp : evp l true parts.toList = some ps) (hd : P.underlying t = some (.slice e)) (hz : szOf P e = some zv.cells.size) (hzv : zeroOf P e = some zv) (hc : bslv zv.cells.size zv n ps = some cs) (hn : n * zv.cells.size ≤ 2 ^ 24)
    (h : newK H (.cells cs.toArray e (0, 0)) fun b H1 => K (.slice (some ⟨b, 0, none⟩) n n) H1) :
    hgen P l ⟨d, .buildSlice t n parts, T, pos, aft, gd⟩ H K := by
  obtain ⟨h1, h2⟩ := all_of_evp _ _ hp
  refine hgen_hw ?_ ?_
  · simp only [Op.operands]
    rw [List.all_eq_true] at h1 ⊢
    intro x hx
    simp at hx
    obtain ⟨i, hi⟩ := hx
    exact h1 (i, x) (by simpa using hi)
  · simp only [execOp, Instr.buildSlice]
    rw [hw_bind, hw_bind]
    refine hw_und hd ?_
    simp only
    rw [hw_bind]
    refine hw_sz hz ?_
    rw [if_neg (by omega)]
    have hps : (parts.map fun x => (x.1, (evg l true x.2).getD undef)).toList = ps := by simp [h2]
    have fin : ∀ zs : Array Value, ((Array.range (n * zv.cells.size)).map fun i => zs[i % zs.size]!) = (zrow zv.cells.toList n).toArray →
        hw P (match Instr.fill (fun i => some (i * zv.cells.size, zv.cells.size)) ((Array.range (n * zv.cells.size)).map fun i => zs[i % zs.size]!) ps with
          | some cells => (do pure (.slice (some (← newRow e cells)) n n) : Sem Value)
          | x => stuck "buildSlice: a part of the wrong size") H fun a H' => hw P (pure (Next.value a)) H' (hnext P K) := by
      intro zs hzs
      rw [hzs]
      unfold bslv at hc
      obtain ⟨cs', hf, rfl⟩ := Option.map_eq_some_iff.1 hc
      rw [hf]
      simp only
      rw [hw_bind]
      exact hw_newRow h
    by_cases hnz : n * zv.cells.size = 0
    · rw [if_pos hnz, hw_bind, hw_pure]
      rw [hps]
      refine fin #[] ?_
      have : (zrow zv.cells.toList n).length = 0 := by rw [zrow_len]; simpa using hnz
      rw [List.eq_nil_of_length_eq_zero this, hnz]; simp
    · rw [if_neg hnz, hw_bind]
      refine hw_zero hzv ?_
      rw [hw_bind, hw_pure, hps]
      exact fin zv.cells (zrow_range _ _)

def bstr (l : List UInt8) : ByteArray := ⟨l.toArray⟩
theorem hgen_stringToBytes {d : Option Tmp} {src dst e : TypeId} {x : Operand} {T : TypeId} {pos : String} {aft : Array Edge} {gd : Option (Nat × Bool)} {s : ByteArray} {ds : TypeDesc}
    (hx : evg l true x = some (.string s)) (hs : P.underlying src = some .string) (hd : P.underlying dst = some (.slice e)) (he : P.underlying e = some (.int .u8))
    (h : ∀ v H1, Own H1 e 1 v s.size (s.data.toList.map fun b => .int .u8 b.toNat) → Ext H H1 → (∀ b, blk v = some b → H b = none) → K v H1) :
    hgen P l ⟨d, .convert src dst x, T, pos, aft, gd⟩ H K := by
  refine hgen_hw (by simp [Op.operands, hx]) ?_
  simp only [execOp, hx, Option.getD_some, convert]
  rw [hw_bind, hw_bind]
  refine hw_und hs ?_
  rw [hw_bind]
  refine hw_und hd ?_
  simp only
  rw [hw_bind]
  refine hw_und he ?_
  simp only [Conv.stringToBytes]
  rw [hw_bind]
  refine ⟨fun hq => by simp [Question.forced] at hq, fun _ t => ?_⟩
  simp only [hw]
  have hcut : s.size ≤ Question.cut (.appendCap s.size 0 e) t := by simp [Question.cut]
  generalize Question.cut (.appendCap s.size 0 e) t = nc at hcut ⊢
  rw [hw_bind]
  refine hw_newRow ?_
  intro b H1 hb hk1 hk2
  rw [hw_bind]
  unfold markStringish
  rw [hw_bind]
  show hw P (shape b) H1 _
  refine ⟨_, hk2, ?_⟩
  simp only [objShape]
  show hw P (Sem.freeze _ 1 (.pure ())) H1 _
  rw [show ∀ (a : Addr) (k : Sem Unit) (K' : Unit → Hp → Prop), hw P (Sem.freeze a 1 k) H1 K' = ∃ o, H1 a.block = some o ∧ hw P k (H1.upd a.block (objFreeze o a.off 1)) K' from fun a k K' => by simp [hw]]
  refine ⟨_, hk2, ?_⟩
  have hlen : s.data.toList.length = s.size := by rw [Array.length_toList]; rfl
  show K _ _
  have hsz : s.data.size = s.size := rfl
  refine h _ _ ⟨by simp only [List.length_map, hlen, Nat.mul_one], .inr ⟨b, nc, List.replicate (nc - s.size) (.int .u8 0), s.size + (nc - s.size), s.size + (nc - s.size) + 1, rfl, ?_, by simp, hcut, ?_⟩⟩ ?_ ?_
  · rw [upd_self]
    simp only [objFreeze, beq_self_eq_true, if_true, Array.size_append, Array.size_map, Array.size_replicate, hsz]
    congr 2
    apply Array.ext'; simp
  · left; simp [hlen, hsz]
  · intro x o hx
    rw [upd_ne _ _ (fresh_ne hb hx)]; exact hk1 _ _ hx
  · intro b' hb'; cases hb'; exact hb

end

theorem foldl_set (off : Nat) : ∀ (l : List Value) (k : Nat) (init : List Value), off + k + l.length ≤ init.length →
    (l.zipIdx k).foldl (fun (cs : Array Value) (x : Value × Nat) => cs.setIfInBounds (off + x.2) x.1) init.toArray = (spl init (off + k) l).toArray := by
  intro l
  induction l with
  | nil => intro k init h; simp [spl]
  | cons c r ih =>
    intro k init h
    simp only [List.length_cons] at h
    rw [List.zipIdx_cons, List.foldl_cons]
    simp only [List.setIfInBounds_toArray]
    rw [ih (k + 1) _ (by simp; omega)]
    congr 1
    unfold spl
    have e1 : (init.set (off + k) c).take (off + (k + 1)) = init.take (off + k) ++ [c] := by
      rw [show off + (k + 1) = (off + k) + 1 by omega, List.take_succ_eq_append_getElem (by simp; omega)]
      simp [List.take_set_of_le]
    have e2 : (init.set (off + k) c).drop (off + (k + 1) + r.length) = init.drop (off + k + (c :: r).length) := by
      rw [List.drop_set_of_lt (by omega)]
      simp only [List.length_cons]
      congr 1; omega
    rw [e1, e2]; simp
theorem fill_one {place : Nat → Option (Nat × Nat)} {off : Nat} {i : Nat} {v : Value} {init : List Value} {rest : List (Nat × Value)} (hp : place i = some (off, v.cells.size)) (hl : off + v.cells.size ≤ init.length) :
    Instr.fill place init.toArray ((i, v) :: rest) = Instr.fill place (spl init off v.cells.toList).toArray rest := by
  rw [Instr.fill, hp]
  simp only
  rw [if_neg (by simp; omega)]
  congr 1
  have := foldl_set off v.cells.toList 0 init (by simpa using hl)
  rw [Nat.add_zero] at this
  rw [← this, ← Array.foldl_toList, Array.toList_zipIdx]
theorem bslv_one {zv v : Value} (hv : v.cells.size = zv.cells.size) : bslv zv.cells.size zv 1 [(0, v)] = some v.cells.toList := by
  unfold bslv
  rw [fill_one (off := 0) (by simp [hv]) (by rw [zrow_len]; simp [hv])]
  simp [Instr.fill, spl, zrow, hv]

end Go.Proofs.Ytkhmimlgkjenfaa.HL
