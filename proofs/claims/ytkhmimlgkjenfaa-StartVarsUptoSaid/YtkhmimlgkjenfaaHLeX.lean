/- HLe: a region's operations ('hops'), code ('AW'), calls ('HC'), over the entries of a frame and a partial heap; sound against the model's wpList, Code.wp, Calls. No condition. -/
import Derived.Test.YtkhmimlgkjenfaaHLdX
namespace Go.Proofs.Ytkhmimlgkjenfaa.HL
open Go
set_option linter.unusedVariables false
set_option linter.unusedSimpArgs false
variable {Ω : World}

def HC (P : Program) (f : FuncId) (args : List Value) (H : Hp) (K : Value → Hp → Prop) : Prop :=
  ∀ Ω w, Fit Ω H w → Calls P f args.toArray w fun e w' => ∃ v H', e = .returned v ∧ Fit Ω H' w' ∧ K v H'

theorem HC.mono {P : Program} {f : FuncId} {args : List Value} {H : Hp} {K K' : Value → Hp → Prop} (h : HC P f args H K) (hk : ∀ v H', K v H' → K' v H') :
    HC P f args H K' :=
  fun Ω w fw => (h Ω w fw).mono fun e w' ⟨v, H', he, hf, hq⟩ => ⟨v, H', he, hf, hk _ _ hq⟩

theorem HC.weaken {P : Program} {f : FuncId} {args : List Value} {H H2 : Hp} {K : Value → Hp → Prop} (h : HC P f args H K) (hs : ∀ b o, H b = some o → H2 b = some o) :
    HC P f args H2 K :=
  fun Ω w fw => h Ω w (fw.weaken hs)

def hnext (P : Program) (K : Value → Hp → Prop) : Next → Hp → Prop
  | .value v, H => K v H
  | .skip, H => K undef H
  | .enter f args, H => HC P f args.toList H K
  | _, _ => False

def hgen (P : Program) (l : Ents) (o : Oper) (H : Hp) (K : Value → Hp → Prop) : Prop :=
  o.op.operands.toList.all (fun x => (evg l true x).isSome) = true ∧ ∀ Ω w, Fit Ω H w → ∃ nx w' H', (execOp (fun x => (evg l true x).getD undef) o).run P w = .ok nx w' ∧ Fit Ω H' w' ∧ hnext P K nx H'
theorem hgen_hw {P : Program} {l : Ents} {o : Oper} {H : Hp} {K : Value → Hp → Prop} (h : o.op.operands.toList.all (fun x => (evg l true x).isSome) = true)
    (h' : hw P (execOp (fun x => (evg l true x).getD undef) o) H (hnext P K)) : hgen P l o H K :=
  ⟨h, fun Ω w f => hw_run P _ H w _ h' f⟩

def gval (ops : Array Oper) (l : Ents) (o : Oper) : Option Bool :=
  match o.guard with
  | none => some true
  | some (j, want) => match (ops[j]?).bind (·.dst) with
    | some d => match look l d with
      | some (gx, .bool t) => some (gx && (if want then t else !t))
      | _ => none
    | none => none

def putE (l : Ents) (dst : Option Tmp) (g : Bool) (v : Value) : Ents :=
  match dst with
  | some d => (d, g, v) :: l
  | none => l

def hops (P : Program) (ops : Array Oper) : List Oper → Ents → Hp → (Ents → Hp → Prop) → Prop
  | [], l, H, K => K l H
  | o :: rest, l, H, K =>
    ∃ g, gval ops l o = some g ∧ ((∃ v, (g = true → qv P l true H o = some v) ∧ hops P ops rest (putE l o.dst g v) H K) ∨
      ((g = true → hgen P l o H fun v H' => hops P ops rest (putE l o.dst true v) H' K) ∧ (g = false → ∃ u, hops P ops rest (putE l o.dst false u) H K)))

theorem hgen_mono {P : Program} {l : Ents} {o : Oper} {H : Hp} {K K' : Value → Hp → Prop} (h : hgen P l o H K) (hk : ∀ v H', K v H' → K' v H') : hgen P l o H K' := by
  obtain ⟨h1, h2⟩ := h
  refine ⟨h1, fun Ω w f => ?_⟩
  obtain ⟨nx, w', H', hr, hf, hn⟩ := h2 Ω w f
  refine ⟨nx, w', H', hr, hf, ?_⟩
  cases nx <;> simp only [hnext] at hn ⊢
  all_goals first | exact hk _ _ hn | exact HC.mono hn hk | exact hn
theorem EnvOk.put {n : Nat} {l : Ents} {a : Act} (h : EnvOk n l a) {dst : Option Tmp} (hd : dst.all (· < n) = true) (g : Bool) (v : Value) :
    EnvOk n (putE l dst g v) (a.put dst (if g = true then v else undef)) := by
  cases dst with
  | none => exact h
  | some d =>
    have hlt : d < n := by simpa using hd
    refine ⟨h.defers, by simp [Act.put, h.size], ?_⟩
    intro i gx u hl
    simp only [putE, look] at hl
    show (a.tmps.setIfInBounds d _)[i]? = _
    by_cases e : d = i
    · subst e
      rw [if_pos rfl] at hl
      cases hl
      rw [Array.getElem?_setIfInBounds_self_of_lt (by rw [h.size]; exact hlt)]
    · rw [if_neg e] at hl
      rw [Array.getElem?_setIfInBounds_ne e]
      exact h.val i gx u hl

theorem gval_ok {n : Nat} {l : Ents} {a : Act} (h : EnvOk n l a) {ops : Array Oper} {o : Oper} {g : Bool} (hg : gval ops l o = some g) :
    Region.wanted o (yielded ops a.tmps) = g := by
  unfold gval at hg
  unfold Region.wanted
  cases ho : o.guard with
  | none => rw [ho] at hg; cases hg; rfl
  | some p =>
    obtain ⟨j, want⟩ := p
    rw [ho] at hg
    simp only at hg ⊢
    unfold yielded
    cases hd : (ops[j]?).bind (·.dst) with
    | none => rw [hd] at hg; cases hg
    | some d =>
      rw [hd] at hg
      simp only at hg
      split at hg
      · rename_i gx t hl
        cases hg
        have := h.val d gx (.bool t) hl
        simp only [Option.bind_some, this]
        cases gx <;> cases t <;> cases want <;> rfl
      · cases hg

theorem mapM_congr {α β : Type} {f g : α → Sem β} : ∀ (l : List α), (∀ x ∈ l, f x = g x) → l.mapM f = l.mapM g := by
  intro l
  induction l with
  | nil => intro _; rfl
  | cons x r ih =>
    intro h
    rw [List.mapM_cons, List.mapM_cons, h x (by simp), ih fun y hy => h y (by simp [hy])]

theorem execOp_congr {ρ ρ' : Operand → Value} {o : Oper} (h : ∀ x ∈ o.op.operands.toList, ρ x = ρ' x) : execOp ρ o = execOp ρ' o := by
  have arr : ∀ (xs : Array Operand), (∀ x ∈ xs.toList, ρ x = ρ' x) → xs.map ρ = xs.map ρ' := by
    intro xs hx
    refine Array.map_congr_left fun x hm => hx x (by simpa using hm)
  have opt : ∀ (x : Option Operand), (∀ y ∈ x.toArray.toList, ρ y = ρ' y) → x.map ρ = x.map ρ' := by
    intro x hx
    cases x with
    | none => rfl
    | some y => exact congrArg some (hx y (by simp))
  have prt : ∀ (ps : Array (Nat × Operand)), (∀ x ∈ (ps.toList.map (·.2)).toArray.toList, ρ x = ρ' x) → ps.map (fun (i, x) => (i, ρ x)) = ps.map (fun (i, x) => (i, ρ' x)) := by
    intro ps hx
    refine Array.map_congr_left fun p hm => ?_
    have := hx p.2 (by simp; exact ⟨p.1, hm⟩)
    simp only [this]
  have cal : ∀ (c : Call) (t : TypeId), (∀ x ∈ c.operands.toList, ρ x = ρ' x) → resolve ρ c t = resolve ρ' c t := by
    intro c t hx
    obtain ⟨callee, args, ats⟩ := c
    have ha : args.map ρ = args.map ρ' := arr args fun x hm => hx x (by unfold Call.operands; simp only [Array.toList_append, List.mem_append]; exact .inr hm)
    unfold resolve
    simp only [ha]
    cases callee with
    | value f => simp only [hx f (by simp [Call.operands])]
    | invoke r m => simp only [hx r (by simp [Call.operands])]
    | builtin b => rfl
  unfold execOp
  cases hop : o.op <;> rw [hop] at h <;> simp only [Op.operands, Array.mem_toList_iff, List.mem_toArray, Array.toList_append, List.mem_append, List.toList_toArray] at h ⊢
  case move x => rw [h x (by simp)]
  case assign x => rw [h x (by simp)]
  case pick c x y => rw [h c (by simp), h x (by simp), h y (by simp)]
  case box t x => rw [h x (by simp)]
  case build t ps => rw [prt ps (fun x hx => h x (by simpa using hx))]
  case buildSlice t n ps => rw [prt ps (fun x hx => h x (by simpa using hx))]
  case insert m x k v => rw [h x (by simp), h k (by simp), h v (by simp)]
  case load t x => rw [h x (by simp)]
  case store t x y => rw [h x (by simp), h y (by simp)]
  case nilCheck x => rw [h x (by simp)]
  case binOp op t x y ty =>
    have hx := h x (by simp)
    have hy := h y (by simp)
    rw [hx, hy]
  case unOp op t x => rw [h x (by simp)]
  case convert s d x => rw [h x (by simp)]
  case sliceToArrayPointer d x => rw [h x (by simp)]
  case makeInterface t x => rw [h x (by simp)]
  case makeFunc fn f c => rw [arr f (fun x hx => h x (.inl (by simpa using hx))), arr c (fun x hx => h x (.inr (by simpa using hx)))]
  case makeMap t r => rw [opt r (fun x hx => h x (by simpa using hx))]
  case makeChan t x => rw [h x (by simp)]
  case makeSlice t x y => rw [h x (by simp), h y (by simp)]
  case slice t x lo hi mx =>
    rw [h x (by simp), opt lo (fun y hy => h y (by simp at hy ⊢; simp [hy])), opt hi (fun y hy => h y (by simp at hy ⊢; simp [hy])), opt mx (fun y hy => h y (by simp at hy ⊢; simp [hy]))]
  case fieldAddr t x f => rw [h x (by simp)]
  case field t x f => rw [h x (by simp)]
  case indexAddr t x i => rw [h x (by simp), h i (by simp)]
  case index t x i => rw [h x (by simp), h i (by simp)]
  case lookup t x i ok => rw [h x (by simp), h i (by simp)]
  case mapUpdate t m k v => rw [h m (by simp), h k (by simp), h v (by simp)]
  case mapEntry t m k => rw [h m (by simp), h k (by simp)]
  case entryStore t m s v => rw [h m (by simp), h s (by simp), h v (by simp)]
  case range t x => rw [h x (by simp)]
  case next x s => rw [h x (by simp)]
  case entry x => rw [h x (by simp)]
  case typeAssert x t a ok => rw [h x (by simp)]
  case extract x i => rw [h x (by simp)]
  case call c => rw [cal c _ (fun x hx => h x (by simpa using hx))]
  case go c => rw [cal c _ (fun x hx => h x (by simpa using hx))]
  case defer c => rw [cal c _ (fun x hx => h x (by simpa using hx))]
  case panic x => rw [h x (by simp)]
  case send c x => rw [h c (by simp), h x (by simp)]
  case recv t c ok => rw [h c (by simp)]
  case select cs b =>
    have : ∀ s ∈ cs, ρ s.chan = ρ' s.chan ∧ s.send.map ρ = s.send.map ρ' := by
      intro s hs
      refine ⟨h _ (by simp; exact ⟨s, hs, .inl rfl⟩), ?_⟩
      cases hsd : s.send with
      | none => rfl
      | some y => exact congrArg some (h y (by simp; exact ⟨s, hs, .inr (by simp [hsd])⟩))
    have e : ∀ s ∈ cs, (fun s : SelectCase => (do pure { chan := ρ s.chan, send := s.send.map ρ, zero := ← zeroValue s.elem : CommCase } : Sem CommCase)) s =
        (fun s : SelectCase => (do pure { chan := ρ' s.chan, send := s.send.map ρ', zero := ← zeroValue s.elem : CommCase } : Sem CommCase)) s := by
      intro s hs
      simp only [(this s hs).1, (this s hs).2]
    have e2 : cs.mapM (fun s : SelectCase => (do pure { chan := ρ s.chan, send := s.send.map ρ, zero := ← zeroValue s.elem : CommCase } : Sem CommCase)) =
        cs.mapM (fun s : SelectCase => (do pure { chan := ρ' s.chan, send := s.send.map ρ', zero := ← zeroValue s.elem : CommCase } : Sem CommCase)) := by
      rw [Array.mapM_eq_mapM_toList, Array.mapM_eq_mapM_toList]
      congr 1
      exact mapM_congr _ (fun s hs => e s (by simpa using hs))
    simp only [e2]

theorem hgen_ok {P : Program} {n : Nat} {l : Ents} {a : Act} {H : Hp} {w : World} {o : Oper} {K : Value → Hp → Prop} {next : Act → World → Prop} {Q : Exit → Act → World → Prop}
    (he : EnvOk n l a) (f : Fit Ω H w) (h : hgen P l o H K) (hn : ∀ v H' w', K v H' → Fit Ω H' w' → next (a.put o.dst v) w') : o.wp P a w next Q := by
  obtain ⟨hc, h⟩ := h
  have e : execOp a.eval o = execOp (fun x => (evg l true x).getD undef) o := by
    refine execOp_congr fun x hx => ?_
    have := List.all_eq_true.1 hc x hx
    obtain ⟨v, hv⟩ := Option.isSome_iff_exists.1 this
    rw [hv]; exact evg_ok he hv
  unfold Oper.wp
  rw [e]
  obtain ⟨nx, w', H', hr, hf, hk⟩ := h Ω w f
  rw [hr]
  cases nx <;> simp only [hnext] at hk
  · exact hn _ _ _ hk hf
  · exact hn _ _ _ hk hf
  · rename_i fn args
    refine (hk Ω w' hf).mono ?_
    rintro e w'' ⟨v, H'', rfl, hf2, hk2⟩
    exact hn _ _ _ hk2 hf2

theorem hops_ok {P : Program} {n : Nat} {ops : Array Oper} {K : Ents → Hp → Prop} {Q : Exit → Act → World → Prop}
    (hQ : ∀ l H a w, K l H → EnvOk n l a → Fit Ω H w → Q .normal a w) : ∀ (os : List Oper), os.all (fun o => o.dst.all (· < n)) = true →
    ∀ (l : Ents) (H : Hp) (a : Act) (w : World), hops P ops os l H K → EnvOk n l a → Fit Ω H w → wpList P ops Q os a w := by
  intro os
  induction os with
  | nil => exact fun _ l H a w h he f => hQ l H a w h he f
  | cons o rest ih =>
    intro hd l H a w h he f
    rw [List.all_cons, Bool.and_eq_true] at hd
    obtain ⟨hd0, hd1⟩ := hd
    have ih := ih hd1
    obtain ⟨g, hg, h⟩ := h
    have hw := gval_ok he hg
    unfold wpList
    rw [hw]
    rcases h with ⟨v, hq, h⟩ | h
    · have hp := he.put hd0 g v
      cases g with
      | true =>
        rw [if_pos rfl]
        rw [if_pos rfl] at hp
        refine .inl ?_
        unfold Oper.wp
        rw [qv_ok he f (hq rfl)]
        exact ih _ _ _ _ h hp f
      | false =>
        rw [if_neg (by simp)]
        rw [if_neg (by simp)] at hp
        exact ih _ _ _ _ h hp f
    · cases g with
      | true =>
        rw [if_pos rfl]
        refine .inl (hgen_ok he f (h.1 rfl) fun v H' w' hk hf => ?_)
        have hp := he.put hd0 true v
        rw [if_pos rfl] at hp
        exact ih _ _ _ _ hk hp hf
      | false =>
        rw [if_neg (by simp)]
        obtain ⟨u, hu⟩ := h.2 rfl
        have hp := he.put hd0 false u
        rw [if_neg (by simp)] at hp
        exact ih _ _ _ _ hu hp f

def dstOk (n : Nat) : Code → Bool
  | .region _ ops _ => ops.toList.all fun o => o.dst.all (· < n)
  | .seq x y => dstOk n x && dstOk n y
  | .cond _ x y => dstOk n x && dstOk n y
  | .block _ x => dstOk n x
  | .loop x => dstOk n x
  | .scope x => dstOk n x
  | .rangeFunc _ _ x y => dstOk n x && dstOk n y
  | _ => true

def AW (P : Program) (n : Nat) (c : Code) (l : Ents) (H : Hp) (Q : Exit → Ents → Hp → Prop) : Prop :=
  dstOk n c = true → ∀ Ω a w, EnvOk n l a → Fit Ω H w → c.wp P (fun e a' w' => ∃ l' H', EnvOk n l' a' ∧ Fit Ω H' w' ∧ Q e l' H') a w

section
variable {P : Program} {n : Nat} {l : Ents} {H : Hp} {Q : Exit → Ents → Hp → Prop}

theorem AW.mono {c : Code} {Q' : Exit → Ents → Hp → Prop} (h : AW P n c l H Q) (hq : ∀ e l H, Q e l H → Q' e l H) : AW P n c l H Q' :=
  fun hd Ω a w he f => wp_mono (h hd Ω a w he f) fun e a' w' ⟨l', H', h1, h2, h3⟩ => ⟨l', H', h1, h2, hq _ _ _ h3⟩

def subE (l' l : Ents) : Prop := ∀ i p, look l' i = some p → look l i = some p
theorem EnvOk.sub {l l' : Ents} {a : Act} (h : EnvOk n l a) (hs : subE l' l) : EnvOk n l' a :=
  ⟨h.defers, h.size, fun i g v hl => h.val i g v (hs i _ hl)⟩
theorem AW.weaken {c : Code} {l' : Ents} {H' : Hp} (h : AW P n c l' H' Q) (hs : subE l' l) (hh : ∀ b o, H' b = some o → H b = some o) : AW P n c l H Q :=
  fun hd Ω a w he f => h hd Ω a w (he.sub hs) (f.weaken hh)

def thenQ (next : Ents → Hp → Prop) (Q : Exit → Ents → Hp → Prop) : Exit → Ents → Hp → Prop
  | .normal, l, H => next l H
  | e, l, H => Q e l H

theorem AW_seq {x y : Code} (h : AW P n x l H (thenQ (fun l' H' => AW P n y l' H' Q) Q)) : AW P n (.seq x y) l H Q := by
  intro hd Ω a w he f
  have hd : dstOk n x = true ∧ dstOk n y = true := by simpa [dstOk] using hd
  refine wp_seq (wp_mono (h hd.1 Ω a w he f) ?_)
  rintro e a' w' ⟨l', H', h1, h2, h3⟩
  cases e <;> first | exact h3 hd.2 Ω a' w' h1 h2 | exact ⟨l', H', h1, h2, h3⟩

theorem AW_region {id : Nat} {ops : Array Oper} (h : hops P ops ops.toList l H fun l' H' => Q .normal l' H') : AW P n (.region id ops false) l H Q := by
  intro hd Ω a w he f
  exact wp_region_list (hops_ok (n := n) (K := fun l' H' => Q .normal l' H') (fun l' H' a' w' hk h1 h2 => ⟨l', H', h1, h2, hk⟩) ops.toList hd l H a w h he f)

theorem AW_skip (h : Q .normal l H) : AW P n .skip l H Q := fun _ Ω a w he f => wp_skip ⟨l, H, he, f, h⟩
theorem AW_label {k : Nat} (h : Q .normal l H) : AW P n (.label k) l H Q := fun _ Ω a w he f => wp_label ⟨l, H, he, f, h⟩
theorem AW_exit {id : Nat} (h : Q (.exit id) l H) : AW P n (.exit id) l H Q := fun _ Ω a w he f => wp_exit ⟨l, H, he, f, h⟩
theorem AW_goto {k : Nat} (h : Q (.goto k) l H) : AW P n (.goto k) l H Q := fun _ Ω a w he f => wp_goto ⟨l, H, he, f, h⟩
theorem AW_ret (h : Q .ret l H) : AW P n .ret l H Q := fun _ Ω a w he f => wp_ret ⟨l, H, he, f, h⟩

theorem AW_cond {c : Operand} {x y : Code} {t : Bool} (hc : evg l true c = some (.bool t)) (ht : t = true → AW P n x l H Q) (hf : t = false → AW P n y l H Q) :
    AW P n (.cond c x y) l H Q := by
  intro hd Ω a w he f
  have hd : dstOk n x = true ∧ dstOk n y = true := by simpa [dstOk] using hd
  exact wp_cond_split (evg_ok he hc) (fun e => ht e hd.1 Ω a w he f) (fun e => hf e hd.2 Ω a w he f)

def blockQ (id : Nat) (Q : Exit → Ents → Hp → Prop) : Exit → Ents → Hp → Prop
  | .exit id', l, H => if id' = id then Q .normal l H else Q (.exit id') l H
  | e, l, H => Q e l H
theorem AW_block {id : Nat} {c : Code} (h : AW P n c l H (blockQ id Q)) : AW P n (.block id c) l H Q := by
  intro hd Ω a w he f
  refine wp_block (wp_mono (h hd Ω a w he f) ?_)
  rintro e a' w' ⟨l', H', h1, h2, h3⟩
  cases e <;> first | exact ⟨l', H', h1, h2, h3⟩ | skip
  rename_i id'
  simp only [blockQ] at h3
  simp only [Exit.inBlock]
  split at h3
  · rename_i e; rw [if_pos e]; exact ⟨l', H', h1, h2, h3⟩
  · rename_i e; rw [if_neg e]; exact ⟨l', H', h1, h2, h3⟩

theorem AW_loop {c : Code} {σ : Type} (E : σ → Ents) (G : σ → Hp) (inv : σ → Prop) (μ : σ → Nat) (s₀ : σ) (h₀ : inv s₀) (hl : subE (E s₀) l) (hH : ∀ b o, G s₀ b = some o → H b = some o)
    (round : ∀ s, inv s → AW P n c (E s) (G s) (thenQ (fun l' H' => ∃ s', inv s' ∧ subE (E s') l' ∧ (∀ b o, G s' b = some o → H' b = some o) ∧ μ s' < μ s) Q)) :
    AW P n (.loop c) l H Q := by
  intro hd Ω a w he f b k cs
  have key : ∀ m s a w, μ s = m → inv s → EnvOk n (E s) a → Fit Ω (G s) w →
      ∃ e a' w', (∃ l' H', EnvOk n l' a' ∧ Fit Ω H' w' ∧ Q e l' H') ∧ Arrives P (lone (b.at a (.code c :: .inLoop c :: k)) cs w) b k cs e a' w' := by
    intro m
    induction m using Nat.strongRecOn with
    | _ m ih =>
      intro s a w hm hi he f
      obtain ⟨e, a₁, w₁, ⟨l', H', h1, h2, h3⟩, harr⟩ := round s hi hd Ω a w he f b (.inLoop c :: k) cs
      cases e with
      | normal =>
        obtain ⟨s', hi', hs', hh', hlt⟩ := h3
        obtain ⟨e₂, a₂, w₂, hq₂, harr₂⟩ := ih (μ s') (hm ▸ hlt) s' a₁ w₁ rfl hi' (h1.sub hs') (h2.weaken hh')
        exact ⟨e₂, a₂, w₂, hq₂, .of_steps (Steps.trans harr (.one step_inLoop)) harr₂⟩
      | exit id => exact ⟨_, a₁, w₁, ⟨l', H', h1, h2, h3⟩, .pass (x := .inLoop c) rfl (fun _ _ => .inl (by simp)) harr⟩
      | goto l => exact ⟨_, a₁, w₁, ⟨l', H', h1, h2, h3⟩, .pass (x := .inLoop c) rfl (fun _ _ => .inl (by simp)) harr⟩
      | ret => exact ⟨_, a₁, w₁, ⟨l', H', h1, h2, h3⟩, .pass (x := .inLoop c) rfl (fun _ _ => .inl (by simp)) harr⟩
      | panic ch => exact ⟨_, a₁, w₁, ⟨l', H', h1, h2, h3⟩, .pass (x := .inLoop c) rfl (fun _ _ => .inl (by simp)) harr⟩
      | outgrown => exact ⟨_, a₁, w₁, ⟨l', H', h1, h2, h3⟩, .pass (x := .inLoop c) rfl (fun _ _ => .inl (by simp)) harr⟩
  obtain ⟨e, a', w', hq, harr⟩ := key _ s₀ a w rfl h₀ (he.sub hl) (f.weaken hH)
  exact ⟨e, a', w', hq, .of_steps (.one step_loop) harr⟩

theorem AW_loop_once {c : Code} (h : AW P n c l H (thenQ (fun _ _ => False) Q)) : AW P n (.loop c) l H Q :=
  AW_loop (fun _ : Unit => l) (fun _ => H) (fun _ => True) (fun _ => 0) () trivial (fun _ _ h => h) (fun _ _ h => h) fun _ _ => h.mono fun e l' H' hq => by
    cases e <;> first | exact hq | exact hq.elim

def resOne : List Value → Value
  | [v] => v
  | vs => .tuple vs.toArray
def rv (tmps : Array Value) : ResultVar → Sem Value
  | .tmp t => pure (tmps.getD t undef)
  | .cell b t => do loadVar t (← asAddr (tmps.getD b undef))
theorem results_rv (fn : Func) (tmps : Array Value) :
    results fn tmps = (do let vs ← fn.results.mapM (rv tmps); pure (if h : vs.size = 1 then vs[0] else .tuple vs) : Sem Value) := rfl
def argE : Nat → List Value → Ents
  | _, [] => []
  | i, v :: r => (i, true, v) :: argE (i + 1) r
theorem look_argE : ∀ (vs : List Value) (k i : Nat) (g : Bool) (v : Value), look (argE k vs) i = some (g, v) → g = true ∧ k ≤ i ∧ vs[i - k]? = some v := by
  intro vs
  induction vs with
  | nil => intro k i g v h; cases h
  | cons x r ih =>
    intro k i g v h
    simp only [argE, look] at h
    split at h
    · rename_i e
      cases h
      subst e
      simp
    · rename_i e
      obtain ⟨h1, h2, h3⟩ := ih (k + 1) i g v h
      refine ⟨h1, by omega, ?_⟩
      obtain ⟨d, rfl⟩ : ∃ d, i = k + 1 + d := ⟨i - (k + 1), by omega⟩
      rw [show k + 1 + d - (k + 1) = d by omega] at h3
      rw [show k + 1 + d - k = d + 1 by omega]
      simpa using h3

end
end Go.Proofs.Ytkhmimlgkjenfaa.HL
