/- HLi: a region that draws its order: one walk in one order serves all orders, where each operation that acts on memory is comparable with every other one, and the others leave the memory alone ('chk', a closed check of the operations' edges). No condition. -/
import Derived.Test.YtkhmimlgkjenfaaHLfX
import Derived.Orders
namespace Go.Proofs.Ytkhmimlgkjenfaa.HL
open Go
set_option linter.unusedVariables false
set_option linter.unusedSimpArgs false
variable {Ω : World}

def pre (o : Oper) : List Nat := (o.after.toList.filter (Region.binds .any)).map (·.on)

inductive Anc (ops : Array Oper) : Nat → Nat → Prop
  | one {i j : Nat} {o : Oper} (h : ops[i]? = some o) (hj : j ∈ pre o) : Anc ops j i
  | more {i j k : Nat} {o : Oper} (h : ops[i]? = some o) (hk : k ∈ pre o) (ha : Anc ops j k) : Anc ops j i

def ancOf : List (Nat × List Nat) → Nat → List Nat
  | [], _ => []
  | (k, A) :: r, i => if k = i then A else ancOf r i
def preAt (ops : Array Oper) (i : Nat) : List Nat := match ops[i]? with
  | some o => pre o
  | none => []
def mkTab (ops : Array Oper) : List Nat → List (Nat × List Nat) → List (Nat × List Nat)
  | [], tab => tab
  | i :: r, tab => mkTab ops r ((i, (preAt ops i ++ (preAt ops i).flatMap (ancOf tab)).eraseDups) :: tab)

def TabOk (ops : Array Oper) (tab : List (Nat × List Nat)) : Prop := ∀ i j, j ∈ ancOf tab i → Anc ops j i
theorem mkTab_ok {ops : Array Oper} : ∀ (is : List Nat) (tab : List (Nat × List Nat)), TabOk ops tab → TabOk ops (mkTab ops is tab) := by
  intro is
  induction is with
  | nil => exact fun tab h => h
  | cons i r ih =>
    intro tab h
    refine ih _ ?_
    intro k j hj
    simp only [ancOf] at hj
    split at hj
    · rename_i e
      subst e
      rw [List.mem_eraseDups, List.mem_append] at hj
      unfold preAt at hj
      cases ho : ops[i]? with
      | none => simp [ho] at hj
      | some o =>
        simp only [ho] at hj
        rcases hj with hj | hj
        · exact .one ho hj
        · obtain ⟨m, hm, hj⟩ := List.mem_flatMap.1 hj
          exact .more ho hm (h _ _ hj)
    · exact h _ _ hj

def dstOf (ops : Array Oper) (i : Nat) : Option Tmp := (ops[i]?).bind (·.dst)
def readsOf (ops : Array Oper) (i : Nat) : List Tmp := match ops[i]? with
  | some o => o.looksAt ops
  | none => []

def dryOp : Op → Bool
  | .move _ | .assign _ | .pick .. | .binOp .. | .unOp .. | .extract .. | .indexAddr .. | .fieldAddr .. | .field .. | .index .. | .nilCheck _ | .slice .. | .makeFunc .. | .build .. | .convert .. => true
  | .call { callee := .builtin _, args := _, argTypes := _ } => true
  | _ => false
def callOp : Op → Bool
  | .call { callee := .builtin _, args := _, argTypes := _ } => false
  | .call _ => true
  | _ => false
theorem dry_call {o : Op} (h : dryOp o = true) : callOp o = false := by
  cases o <;> first | rfl | (cases h; done) | skip
  rename_i c
  obtain ⟨ce, as, ts⟩ := c
  cases ce <;> first | rfl | (cases h; done)
def mildOp : Op → Bool
  | .load .. => true
  | _ => false
def mild (ops : Array Oper) (i : Nat) : Bool := match ops[i]? with
  | some o => mildOp o.op
  | none => false
def dry (ops : Array Oper) (i : Nat) : Bool := match ops[i]? with
  | some o => dryOp o.op
  | none => false
theorem dry_at {ops : Array Oper} {i : Nat} {o : Oper} (h : ops[i]? = some o) : dry ops i = dryOp o.op := by simp [dry, h]
theorem qv_dry {P : Program} {l : Ents} {g : Bool} {o : Oper} (hd : dryOp o.op = true) (H H' : Hp) : qv P l g H o = qv P l g H' o := by
  unfold qv
  cases ho : o.op <;> rw [ho] at hd <;> first | rfl | (cases hd; done) | skip
  rename_i c
  obtain ⟨ce, as, ts⟩ := c
  cases ce <;> first | rfl | (cases hd; done)
theorem mild_at {ops : Array Oper} {i : Nat} {o : Oper} (h : ops[i]? = some o) : mild ops i = mildOp o.op := by simp [mild, h]
theorem ldv_ext {P : Program} {H H' : Hp} (hx : Ext H H') {t : TypeId} {a : Addr} {v : Value} (h : ldv P H t a = some v) : ldv P H' t a = some v := by
  have hc : ∀ {a : Addr} {v : Value}, H.cell? a = some v → H'.cell? a = some v := by
    intro a v h
    unfold Hp.cell? at h ⊢
    cases hb : H a.block with
    | none => rw [hb] at h; cases h
    | some o => rw [hx _ _ hb]; rw [hb] at h; exact h
  have hr : ∀ (n i : Nat) (cs : List Value), rdN H a i n = some cs → rdN H' a i n = some cs := by
    intro n
    induction n with
    | zero => intro i cs h; exact h
    | succ n ih =>
      intro i cs h
      simp only [rdN] at h ⊢
      cases hv : H.cell? (a.add i) with
      | none => rw [hv] at h; cases h
      | some v =>
        rw [hv] at h
        rw [hc hv]
        obtain ⟨c, h1, h2⟩ := Option.map_eq_some_iff.1 h
        simp only
        rw [ih _ _ h1, Option.map_some, h2]
  unfold ldv at h ⊢
  split at h
  · cases h
  · split at h
    · rename_i hd
      rw [if_pos hd]
      cases hz : szOf P t with
      | none => rw [hz] at h; cases h
      | some n =>
        rw [hz] at h
        obtain ⟨c, h1, h2⟩ := Option.map_eq_some_iff.1 h
        simp only
        rw [hr _ _ _ h1, Option.map_some, h2]
    · rename_i hd
      rw [if_neg hd]
      exact hc h
theorem qv_mild {P : Program} {l : Ents} {g : Bool} {o : Oper} {v : Value} (hd : mildOp o.op = true) {H H' : Hp} (hx : Ext H H') (h : qv P l g H o = some v) : qv P l g H' o = some v := by
  unfold qv at h ⊢
  cases ho : o.op <;> rw [ho] at hd <;> first | (cases hd; done) | skip
  rename_i t x
  rw [ho] at h
  simp only at h ⊢
  cases he : evg l g x with
  | none => rw [he] at h; cases h
  | some u =>
    rw [he] at h
    cases u <;> first | (cases h; done) | skip
    rename_i p
    cases p with
    | none => cases h
    | some a => exact ldv_ext hx h
def keep (ops : Array Oper) (gr : List Nat) (i k : Nat) : Bool := dry ops k || (gr.contains i && mild ops k)
def chkGo (ops : Array Oper) (gr : List Nat) (tab : List (Nat × List Nat)) : List Nat → List (Nat × Bool) → Bool
  | _, [] => true
  | seen, (i, b) :: r =>
    (ops[i]?).isSome && (preAt ops i).all (fun j => seen.contains j) && !(seen.contains i) &&
    (!b || (seen.all (fun j => (ancOf tab i).contains j || keep ops gr i j) && r.all (fun k => (ancOf tab k.1).contains i))) &&
    ((dstOf ops i).all fun d => !(readsOf ops i).contains d && r.all fun k => dstOf ops k.1 != some d) &&
    (r.all fun k => (dstOf ops k.1).all fun d => !(readsOf ops i).contains d || (k.2 && (ancOf tab k.1).contains i)) &&
    (seen.all fun j => (dstOf ops j).all fun d => !(readsOf ops i).contains d || (ancOf tab i).contains j) &&
    chkGo ops gr tab (i :: seen) r
def chk (ops : Array Oper) (gr : List Nat) (π : List (Nat × Bool)) : Bool :=
  (List.range ops.size).all (fun i => (π.map (·.1)).contains i) && chkGo ops gr (mkTab ops (π.map (·.1)) []) [] π

def hseg (P : Program) (ops : Array Oper) (gr : List Nat) : List (Nat × Bool) → Ents → Hp → (Ents → Hp → Prop) → Prop
  | [], l, H, K => K l H
  | (i, b) :: r, l, H, K =>
    ∃ o, ops[i]? = some o ∧ ∃ g, gval ops l o = some g ∧ if b = true then
        (g = true → hgen P l o H fun v H' => (gr.contains i = true → Ext H H') ∧ hseg P ops gr r (putE l o.dst true v) H' K) ∧ (g = false → ∃ u, hseg P ops gr r (putE l o.dst false u) H K)
      else ∃ v, (g = true → qv P l true H o = some v ∨ (callOp o.op = true ∧ hgen P l o H fun v' H' => v' = v ∧ Ext H H')) ∧ hseg P ops gr r (putE l o.dst g v) H K

theorem hgen_congr {P : Program} {l l' : Ents} {o : Oper} {H : Hp} {K : Value → Hp → Prop} (hl : ∀ t, .tmp t ∈ o.op.operands.toList → look l' t = look l t) (h : hgen P l o H K) : hgen P l' o H K := by
  obtain ⟨h1, h2⟩ := h
  have e : ∀ x ∈ o.op.operands.toList, evg l' true x = evg l true x := by
    intro x hx
    cases x with
    | tmp t => simp only [evg, hl t hx]
    | const v => rfl
    | global g => rfl
    | func f => rfl
  refine ⟨?_, ?_⟩
  · rw [List.all_eq_true] at h1 ⊢
    intro x hx
    rw [e x hx]; exact h1 x hx
  · rw [execOp_congr (ρ' := fun x => (evg l true x).getD undef) (fun x hx => by simp only [e x hx])]
    exact h2

theorem evg_congr {l l' : Ents} {g : Bool} {x : Operand} (h : ∀ t, x = .tmp t → look l' t = look l t) : evg l' g x = evg l g x := by
  cases x with
  | tmp t => simp only [evg, h t rfl]
  | const v => rfl
  | global g => rfl
  | func f => rfl
theorem evs_congr {l l' : Ents} {g : Bool} : ∀ (xs : List Operand), (∀ t, .tmp t ∈ xs → look l' t = look l t) → evs l' g xs = evs l g xs := by
  intro xs
  induction xs with
  | nil => intro _; rfl
  | cons x r ih =>
    intro h
    simp only [evs, evg_congr (l := l) (l' := l') (x := x) (fun t ht => h t (by simp [ht])), ih (fun t ht => h t (by simp [ht]))]
theorem evp_congr {l l' : Ents} {g : Bool} : ∀ (xs : List (Nat × Operand)), (∀ t, .tmp t ∈ xs.map (·.2) → look l' t = look l t) → evp l' g xs = evp l g xs := by
  intro xs
  induction xs with
  | nil => intro _; rfl
  | cons x r ih =>
    intro h
    obtain ⟨i, x⟩ := x
    simp only [evp, evg_congr (l := l) (l' := l') (x := x) (fun t ht => h t (by simp [ht])), ih (fun t ht => h t (by rw [List.map_cons]; exact List.mem_cons_of_mem _ ht))]
theorem evo_congr {l l' : Ents} {g : Bool} {x : Option Operand} (h : ∀ t, x = some (.tmp t) → look l' t = look l t) : evo l' g x = evo l g x := by
  cases x with
  | none => rfl
  | some x => simp only [evo, evg_congr (l := l) (l' := l') (x := x) (fun t ht => h t (by rw [ht]))]

theorem qv_congr {P : Program} {l l' : Ents} {g : Bool} {H : Hp} {o : Oper} (h : ∀ t, .tmp t ∈ o.op.operands.toList → look l' t = look l t) : qv P l' g H o = qv P l g H o := by
  have e : ∀ (x : Operand) (g : Bool), x ∈ o.op.operands.toList → evg l' g x = evg l g x := fun x g hx => evg_congr fun t ht => h t (ht ▸ hx)
  have es : ∀ (xs : List Operand) (g : Bool), (∀ x ∈ xs, x ∈ o.op.operands.toList) → evs l' g xs = evs l g xs := fun xs g hx => evs_congr xs fun t ht => h t (hx _ ht)
  have ep : ∀ (xs : List (Nat × Operand)) (g : Bool), (∀ x ∈ xs.map (·.2), x ∈ o.op.operands.toList) → evp l' g xs = evp l g xs := fun xs g hx => evp_congr xs fun t ht => h t (hx _ ht)
  have eo : ∀ (x : Option Operand) (g : Bool), (∀ y, x = some y → y ∈ o.op.operands.toList) → evo l' g x = evo l g x := fun x g hx => evo_congr fun t ht => h t (hx _ ht)
  unfold qv
  clear h
  cases hop : o.op <;> rw [hop] at e es ep eo <;> simp only [Op.operands] at e es ep eo ⊢
  case move x => rw [e x g (by simp)]
  case assign x => rw [e x g (by simp)]
  case pick c x y =>
    rw [e c g (by simp)]
    split
    · rename_i t _
      rw [e x _ (by simp), e y _ (by simp)]
    · rfl
  case binOp op t x y ty => rw [e x g (by simp), e y g (by simp)]
  case unOp op t x => rw [e x g (by simp)]
  case convert s d x => rw [e x g (by simp)]
  case extract x i => rw [e x g (by simp)]
  case load t x => rw [e x g (by simp)]
  case nilCheck x => rw [e x g (by simp)]
  case indexAddr t x i => rw [e x g (by simp), e i g (by simp)]
  case index t x i => rw [e x g (by simp), e i g (by simp)]
  case fieldAddr t x f => rw [e x g (by simp)]
  case field t x f => rw [e x g (by simp)]
  case slice t x lo hi mx =>
    rw [e x g (by simp), eo lo g (fun y hy => by simp [hy]), eo hi g (fun y hy => by simp [hy]), eo mx g (fun y hy => by simp [hy])]
  case makeFunc fn f c => rw [es f.toList g (fun x hx => by simp at hx ⊢; exact .inl hx), es c.toList g (fun x hx => by simp at hx ⊢; exact .inr hx)]
  case build t ps => rw [ep ps.toList g (fun x hx => by simpa using hx)]
  case call c =>
    obtain ⟨callee, args, ats⟩ := c
    cases callee with
    | value f => rfl
    | invoke r m => rfl
    | builtin b => simp only; rw [es args.toList g (fun x hx => by simp [Call.operands] at hx ⊢; exact hx)]

theorem gval_congr {ops : Array Oper} {l l' : Ents} {o : Oper} (h : ∀ t ∈ o.looksAt ops, look l' t = look l t) : gval ops l' o = gval ops l o := by
  unfold gval
  cases ho : o.guard with
  | none => rfl
  | some p =>
    obtain ⟨j, want⟩ := p
    simp only
    cases hd : (ops[j]?).bind (·.dst) with
    | none => rfl
    | some d =>
      simp only
      rw [h d (by simp [Oper.looksAt, ho, hd])]

theorem mem_looks {ops : Array Oper} {o : Oper} {t : Tmp} (h : .tmp t ∈ o.op.operands.toList) : t ∈ o.looksAt ops := by
  unfold Oper.looksAt
  rw [List.mem_append]
  exact .inl (List.mem_filterMap.2 ⟨.tmp t, h, rfl⟩)

def only (ts : List Tmp) (l : Ents) : Ents := l.filter fun e => ts.contains e.1
theorem look_only (ts : List Tmp) : ∀ (l : Ents) (t : Tmp), look (only ts l) t = if ts.contains t then look l t else none := by
  intro l
  induction l with
  | nil => intro t; simp [only, look]
  | cons e r ih =>
    intro t
    obtain ⟨i, p⟩ := e
    unfold only at ih ⊢
    rw [List.filter_cons]
    by_cases hi : ts.contains i = true
    · rw [if_pos hi]
      simp only [look]
      by_cases e : i = t
      · subst e; rw [if_pos rfl, if_pos rfl, if_pos hi]
      · rw [if_neg e, if_neg e]; exact ih t
    · rw [if_neg hi, ih t]
      by_cases e : i = t
      · subst e; rw [if_neg hi, if_neg hi]
      · simp [look, e]

theorem wp_one {P : Program} {n : Nat} {ops : Array Oper} {l : Ents} {o : Oper} {H : Hp} {g : Bool} {v : Value} {a : Act} {w : World} {next : Act → World → Prop} {Q : Exit → Act → World → Prop}
    (he : EnvOk n (only (o.looksAt ops) l) a) (f : Fit Ω H w) (hg : gval ops l o = some g) (hv : g = true → qv P l true H o = some v ∨ hgen P l o H fun v' H' => v' = v ∧ Ext H H')
    (hn : ∀ w', Fit Ω H w' → next (a.put o.dst (if g = true then v else undef)) w') :
    if Region.wanted o (yielded ops a.tmps) then o.wp P a w next Q ∨ (o.asks P a w ∧ LetsOut Q) else next (a.put o.dst undef) w := by
  have hl : ∀ t ∈ o.looksAt ops, look (only (o.looksAt ops) l) t = look l t := by
    intro t ht
    rw [look_only, if_pos (by simpa using ht)]
  have hw := gval_ok he ((gval_congr hl).trans hg)
  rw [hw]
  cases g with
  | false =>
    rw [if_neg (by simp)]
    have := hn w f
    rwa [if_neg (by simp)] at this
  | true =>
    rw [if_pos rfl]
    simp only [if_true] at hn
    refine .inl ?_
    rcases hv rfl with hv | hv
    · have hv' := (qv_congr (P := P) (g := true) (H := H) (fun t ht => hl t (mem_looks ht))).trans hv
      unfold Oper.wp
      rw [qv_ok he f hv']
      exact hn w f
    · refine hgen_ok he f (hgen_congr (fun t ht => hl t (mem_looks ht)) hv) ?_
      rintro v' H' w' ⟨rfl, hx⟩ fw'
      exact hn w' (fw'.weaken hx)
def Fact (P : Program) (ops : Array Oper) (H : Hp) (lF : Ents) (i : Nat) : Prop :=
  ∃ o g v, ops[i]? = some o ∧ gval ops lF o = some g ∧ (g = true → qv P lF true H o = some v ∨ (callOp o.op = true ∧ hgen P lF o H fun v' H' => v' = v ∧ Ext H H')) ∧ ∀ d, o.dst = some d → look lF d = some (g, v)

theorem look_put {l : Ents} {dst : Option Tmp} {g : Bool} {v : Value} {t : Tmp} (h : dst ≠ some t) : look (putE l dst g v) t = look l t := by
  cases dst with
  | none => rfl
  | some d => simp only [putE, look]; rw [if_neg (fun e => h (by rw [e]))]

theorem chk_reads {ops : Array Oper} {gr : List Nat} {tab : List (Nat × List Nat)} {seen : List Nat} {i : Nat} {b : Bool} {r : List (Nat × Bool)} (h : chkGo ops gr tab seen ((i, b) :: r) = true) :
    (∃ o, ops[i]? = some o) ∧ (∀ j ∈ preAt ops i, j ∈ seen) ∧ i ∉ seen ∧ (b = true → (∀ j ∈ seen, j ∈ ancOf tab i ∨ keep ops gr i j = true) ∧ ∀ k ∈ r, i ∈ ancOf tab k.1) ∧
    (∀ d, dstOf ops i = some d → d ∉ readsOf ops i ∧ ∀ k ∈ r, dstOf ops k.1 ≠ some d) ∧ (∀ k ∈ r, ∀ d, dstOf ops k.1 = some d → d ∈ readsOf ops i → k.2 = true ∧ i ∈ ancOf tab k.1) ∧
    (∀ j ∈ seen, ∀ d, dstOf ops j = some d → d ∈ readsOf ops i → j ∈ ancOf tab i) ∧ chkGo ops gr tab (i :: seen) r = true := by
  unfold chkGo at h
  simp only [Bool.and_eq_true] at h
  obtain ⟨⟨⟨⟨⟨⟨⟨h1, h2⟩, h3⟩, h4⟩, h5⟩, h6⟩, h7⟩, h8⟩ := h
  refine ⟨Option.isSome_iff_exists.1 h1, ?_, ?_, ?_, ?_, ?_, ?_, h8⟩
  · intro j hj
    simpa using List.all_eq_true.1 h2 j hj
  · simpa using h3
  · intro hb
    subst hb
    simp only [Bool.not_true, Bool.false_or, Bool.and_eq_true] at h4
    exact ⟨fun j hj => by have := List.all_eq_true.1 h4.1 j hj; simpa [Bool.or_eq_true] using this, fun k hk => by simpa using List.all_eq_true.1 h4.2 k hk⟩
  · intro d hd
    rw [hd] at h5
    simp only [Option.all_some, Bool.and_eq_true] at h5
    exact ⟨by simpa using h5.1, fun k hk => by simpa using List.all_eq_true.1 h5.2 k hk⟩
  · intro k hk d hd hr
    have := List.all_eq_true.1 h6 k hk
    rw [hd] at this
    simp only [Option.all_some, Bool.or_eq_true, Bool.and_eq_true] at this
    rcases this with h | h
    · exact absurd hr (by simpa using h)
    · exact ⟨h.1, by simpa using h.2⟩
  · intro j hj d hd hr
    have := List.all_eq_true.1 h7 j hj
    rw [hd] at this
    simp only [Option.all_some, Bool.or_eq_true] at this
    rcases this with h | h
    · exact absurd hr (by simpa using h)
    · simpa using h

theorem reads_at {ops : Array Oper} {i : Nat} {o : Oper} (h : ops[i]? = some o) : readsOf ops i = o.looksAt ops := by simp [readsOf, h]
theorem dst_at {ops : Array Oper} {i : Nat} {o : Oper} (h : ops[i]? = some o) : dstOf ops i = o.dst := by simp [dstOf, h]
theorem pre_at {ops : Array Oper} {i : Nat} {o : Oper} (h : ops[i]? = some o) : preAt ops i = pre o := by simp [preAt, h]

theorem seg_split {P : Program} {ops : Array Oper} {gr : List Nat} {tab : List (Nat × List Nat)} {K : Ents → Hp → Prop} : ∀ (todo : List (Nat × Bool)) (seen : List Nat) (l : Ents) (H : Hp),
    chkGo ops gr tab seen todo = true → hseg P ops gr todo l H K →
    ∃ (S : List Nat) (rest : List (Nat × Bool)) (lF : Ents), todo = S.map (·, false) ++ rest ∧ (∀ e r, rest = e :: r → e.2 = true) ∧ hseg P ops gr rest lF H K ∧
      (∀ i ∈ S, Fact P ops H lF i) ∧ (∀ t, (∀ i ∈ S, dstOf ops i ≠ some t) → look lF t = look l t) := by
  intro todo
  induction todo with
  | nil => exact fun seen l H _ h => ⟨[], [], l, rfl, by simp, h, by simp, fun t _ => rfl⟩
  | cons x r ih =>
    intro seen l H hc h
    obtain ⟨i, b⟩ := x
    cases b with
    | true => exact ⟨[], (i, true) :: r, l, rfl, by intro e r' h; cases h; rfl, h, by simp, fun t _ => rfl⟩
    | false =>
      obtain ⟨⟨o, ho⟩, _, _, _, hd, hr, _, hc'⟩ := chk_reads hc
      obtain ⟨o', ho', g, hg, h⟩ := h
      rw [ho] at ho'
      cases ho'
      · simp only [Bool.false_eq_true, if_false] at h
        obtain ⟨v, hv, h⟩ := h
        obtain ⟨S, rest, lF, hS, hrest, hK, hF, hlook⟩ := ih (i :: seen) _ H hc' h
        have hmem : ∀ k ∈ S, (k, false) ∈ r := fun k hk => by rw [hS]; exact List.mem_append.2 (.inl (List.mem_map.2 ⟨k, hk, rfl⟩))
        have hrd : ∀ t ∈ o.looksAt ops, look lF t = look l t := by
          intro t ht
          rw [← reads_at ho] at ht
          rw [hlook t (fun k hk e => absurd (hr _ (hmem k hk) t e ht).1 Bool.false_ne_true), look_put]
          intro e
          exact (hd t (by rw [dst_at ho]; exact e)).1 ht
        refine ⟨i :: S, rest, lF, by rw [hS]; rfl, hrest, hK, ?_, ?_⟩
        · intro k hk
          rcases List.mem_cons.1 hk with rfl | hk
          · refine ⟨o, g, v, ho, (gval_congr hrd).trans hg, ?_, ?_⟩
            · exact fun e => (hv e).imp (fun hv => (qv_congr fun t ht => hrd t (mem_looks ht)).trans hv) fun hv => ⟨hv.1, hgen_congr (fun t ht => hrd t (mem_looks ht)) hv.2⟩
            · intro d hdd
              rw [hlook d (fun k hk e => (hd d (by rw [dst_at ho]; exact hdd)).2 _ (hmem k hk) e), hdd]
              simp [putE, look]
          · exact hF k hk
        · intro t ht
          rw [hlook t (fun k hk => ht k (List.mem_cons_of_mem _ hk)), look_put]
          rw [← dst_at ho]
          exact ht i (by simp)

theorem chk_append {ops : Array Oper} {gr : List Nat} {tab : List (Nat × List Nat)} : ∀ (A B : List (Nat × Bool)) (seen : List Nat), chkGo ops gr tab seen (A ++ B) = true → chkGo ops gr tab ((A.map (·.1)).reverse ++ seen) B = true := by
  intro A
  induction A with
  | nil => exact fun B seen h => h
  | cons x A ih =>
    intro B seen h
    obtain ⟨i, b⟩ := x
    have := ih B (i :: seen) (chk_reads h).2.2.2.2.2.2.2
    simpa using this

theorem Fact.move {P : Program} {ops : Array Oper} {H H' : Hp} {lF lF' : Ents} {i : Nat} (h : Fact P ops H lF i) (hd : dry ops i = true)
    (hr : ∀ t, (t ∈ readsOf ops i ∨ dstOf ops i = some t) → look lF' t = look lF t) : Fact P ops H' lF' i := by
  obtain ⟨o, g, v, ho, hg, hv, hl⟩ := h
  rw [dry_at ho] at hd
  refine ⟨o, g, v, ho, (gval_congr fun t ht => hr t (.inl (by rw [reads_at ho]; exact ht))).trans hg, fun e => ?_, fun d hdd => by rw [hr d (.inr (by rw [dst_at ho]; exact hdd))]; exact hl d hdd⟩
  rcases hv e with hv | hv
  · refine .inl ?_
    rw [qv_dry hd H' H]
    exact (qv_congr fun t ht => hr t (.inl (by rw [reads_at ho]; exact mem_looks ht))).trans hv
  · rw [dry_call hd] at hv; cases hv.1
theorem Fact.grow {P : Program} {ops : Array Oper} {H H' : Hp} {lF lF' : Ents} {i : Nat} (h : Fact P ops H lF i) (hd : mild ops i = true) (hx : Ext H H')
    (hr : ∀ t, (t ∈ readsOf ops i ∨ dstOf ops i = some t) → look lF' t = look lF t) : Fact P ops H' lF' i := by
  obtain ⟨o, g, v, ho, hg, hv, hl⟩ := h
  rw [mild_at ho] at hd
  refine ⟨o, g, v, ho, (gval_congr fun t ht => hr t (.inl (by rw [reads_at ho]; exact ht))).trans hg, fun e => ?_, fun d hdd => by rw [hr d (.inr (by rw [dst_at ho]; exact hdd))]; exact hl d hdd⟩
  rcases hv e with hv | hv
  · exact .inl ((qv_congr fun t ht => hr t (.inl (by rw [reads_at ho]; exact mem_looks ht))).trans (qv_mild hd hx hv))
  · have : ∀ o : Op, mildOp o = true → callOp o = false := by intro o h; cases o <;> first | rfl | (cases h; done)
    rw [this _ hd] at hv; cases hv.1
structure Inv (P : Program) (n : Nat) (ops : Array Oper) (gr : List Nat) (tab : List (Nat × List Nat)) (π : List (Nat × Bool)) (K : Ents → Hp → Prop) (fuel : Nat) (listed : Array Bool) (a : Act) (w : World)
    (done : List Nat) (E S : List Nat) (rest : List (Nat × Bool)) (lF : Ents) (H : Hp) : Prop where
  sz : listed.size = ops.size
  clo : ∀ i, listed.getD i false = true → ∀ j ∈ preAt ops i, listed.getD j false = true
  dn : ∀ i ∈ done, listed.getD i false = true ∨ i ∈ E
  chk : chkGo ops gr tab done (S.map (·, false) ++ rest) = true
  all : ∀ i, i < ops.size → i ∈ done ∨ i ∈ S ∨ i ∈ rest.map (·.1)
  sub : ∀ i, i ∈ S ∨ i ∈ E → (i, false) ∈ π
  rsub : ∀ p ∈ rest, p ∈ π
  un : ∀ i ∈ rest.map (·.1), listed.getD i false = false
  bar : ∀ e r, rest = e :: r → e.2 = true
  facts : ∀ i, i ∈ S ∨ i ∈ E → Fact P ops H lF i
  eld : ∀ i ∈ E, i ∈ done ∧ ∀ s ∈ rest, ∀ d, dstOf ops s.1 = some d → (d ∈ readsOf ops i → s.2 = true ∧ i ∈ ancOf tab s.1) ∧ dstOf ops i ≠ some d
  env : a.defers = [] ∧ a.tmps.size = n ∧ ∀ t g v, look lF t = some (g, v) → (∀ i, i ∈ S ∨ i ∈ E → listed.getD i false = false → dstOf ops i ≠ some t) → a.tmps[t]? = some (if g = true then v else undef)
  fit : Fit Ω H w
  seg : hseg P ops gr rest lF H K
  cnt : ((List.range ops.size).filter fun i => !listed.getD i false).length ≤ fuel

theorem anc_listed {ops : Array Oper} {listed : Array Bool} (hc : ∀ i, listed.getD i false = true → ∀ j ∈ preAt ops i, listed.getD j false = true) {i j : Nat} (ha : Anc ops j i) :
    (∀ k ∈ preAt ops i, listed.getD k false = true) → listed.getD j false = true := by
  induction ha with
  | one h hj => exact fun hp => hp _ (by rw [pre_at h]; exact hj)
  | more h hk _ ih => exact fun hp => ih (hc _ (hp _ (by rw [pre_at h]; exact hk)))

theorem ready_iff {ops : Array Oper} {listed : Array Bool} (hs : listed.size = ops.size) {i : Nat} :
    i ∈ Region.ready .any ops listed ↔ i < ops.size ∧ listed.getD i false = false ∧ ∀ j ∈ preAt ops i, listed.getD j false = true := by
  unfold Region.ready
  rw [List.mem_filter, List.mem_range, Bool.and_eq_true]
  constructor
  · rintro ⟨hi, h1, h2⟩
    refine ⟨hi, ?_, ?_⟩
    · have hi' : i < listed.size := hs ▸ hi
      simp [Array.getD, hi'] at h1 ⊢
      exact h1
    · intro j hj
      unfold preAt at hj
      cases ho : ops[i]? with
      | none => simp [ho] at hj
      | some o =>
        simp only [ho, pre] at hj
        rw [ho] at h2
        simp only [Option.map_some, Option.getD_some, Array.all_eq_true_iff_forall_mem] at h2
        obtain ⟨e, he, rfl⟩ := List.mem_map.1 hj
        obtain ⟨he1, he2⟩ := List.mem_filter.1 he
        have := h2 e (by simpa using he1)
        simpa [he2] using this
  · rintro ⟨hi, h1, h2⟩
    refine ⟨hi, ?_, ?_⟩
    · have hi' : i < listed.size := hs ▸ hi
      simp [Array.getD, hi'] at h1 ⊢
      exact h1
    · have ho : ops[i]? = some ops[i] := Array.getElem?_eq_getElem hi
      rw [ho]
      simp only [Option.map_some, Option.getD_some, Array.all_eq_true_iff_forall_mem]
      intro e he
      by_cases hb : Region.binds .any e = true
      · have := h2 e.on (by
          rw [pre_at ho]; unfold pre
          exact List.mem_map.2 ⟨e, List.mem_filter.2 ⟨by simpa using he, hb⟩, rfl⟩)
        simp [this]
      · simp [hb]

theorem getD_set {listed : Array Bool} {i k : Nat} (hi : i < listed.size) : (listed.setIfInBounds i true).getD k false = if k = i then true else listed.getD k false := by
  simp only [Array.getD_eq_getD_getElem?]
  by_cases e : k = i
  · subst e; rw [if_pos rfl, Array.getElem?_setIfInBounds_self_of_lt hi]; rfl
  · rw [if_neg e, Array.getElem?_setIfInBounds_ne (fun h => e h.symm)]

theorem cnt_set {listed : Array Bool} {i m fuel : Nat} (hi : i < listed.size) (hm : i < m) (hu : listed.getD i false = false)
    (hc : ((List.range m).filter fun i => !listed.getD i false).length ≤ fuel + 1) : ((List.range m).filter fun k => !(listed.setIfInBounds i true).getD k false).length ≤ fuel := by
  have key : ∀ (l : List Nat), l.Nodup → i ∈ l → (l.filter fun k => !(listed.setIfInBounds i true).getD k false).length + 1 = (l.filter fun k => !listed.getD k false).length := by
    intro l
    induction l with
    | nil => intro _ h; cases h
    | cons x r ih =>
      intro hn hmem
      rw [List.nodup_cons] at hn
      by_cases e : x = i
      · subst e
        have hr : ∀ k ∈ r, ((fun k => !(listed.setIfInBounds x true).getD k false) k) = ((fun k => !listed.getD k false) k) := by
          intro k hk
          simp only [getD_set hi]
          rw [if_neg (fun (e : k = x) => hn.1 (e ▸ hk))]
        rw [List.filter_cons, List.filter_cons]
        simp only [getD_set hi, if_true, hu]
        rw [List.filter_congr (l := r) (q := fun k => !listed.getD k false) (fun k hk => by have := hr k hk; simp only [getD_set hi] at this; exact this)]
        simp
      · have hmr : i ∈ r := by
          rcases List.mem_cons.1 hmem with h | h
          · exact absurd h.symm e
          · exact h
        have := ih hn.2 hmr
        rw [List.filter_cons, List.filter_cons]
        simp only [getD_set hi, if_neg e] at this ⊢
        cases listed.getD x false
        · simp only [Bool.not_false, if_true, List.length_cons]; omega
        · simp only [Bool.not_true, Bool.false_eq_true, if_false]; exact this
  have := key (List.range m) List.nodup_range (List.mem_range.2 hm)
  omega

theorem chk_ready {ops : Array Oper} {gr : List Nat} {tab : List (Nat × List Nat)} {listed : Array Bool} : ∀ (todo : List (Nat × Bool)) (seen : List Nat), chkGo ops gr tab seen todo = true → (∀ j ∈ seen, listed.getD j false = true) →
    (∃ k ∈ todo.map (·.1), listed.getD k false = false) → ∃ k ∈ todo.map (·.1), listed.getD k false = false ∧ (∃ o, ops[k]? = some o) ∧ ∀ j ∈ preAt ops k, listed.getD j false = true := by
  intro todo
  induction todo with
  | nil => rintro seen _ _ ⟨k, hk, _⟩; cases hk
  | cons x r ih =>
    rintro seen hc hs ⟨k, hk, hu⟩
    obtain ⟨i, b⟩ := x
    obtain ⟨ho, hp, _, _, _, _, _, hc'⟩ := chk_reads hc
    by_cases hi : listed.getD i false = false
    · exact ⟨i, by simp, hi, ho, fun j hj => hs j (hp j hj)⟩
    · have hi' : listed.getD i false = true := by simpa using hi
      have hk' : k ∈ r.map (·.1) := by
        rcases List.mem_cons.1 hk with h | h
        · exact absurd hu (by rw [h]; simpa using hi')
        · exact h
      obtain ⟨k2, h1, h2, h3, h4⟩ := ih (i :: seen) hc' (fun j hj => by rcases List.mem_cons.1 hj with h | h; exact h ▸ hi'; exact hs j h) ⟨k, hk', hu⟩
      exact ⟨k2, List.mem_cons_of_mem _ h1, h2, h3, h4⟩

theorem chk_notin {ops : Array Oper} {gr : List Nat} {tab : List (Nat × List Nat)} : ∀ (todo : List (Nat × Bool)) (seen : List Nat), chkGo ops gr tab seen todo = true → ∀ k ∈ todo.map (·.1), k ∉ seen := by
  intro todo
  induction todo with
  | nil => intro _ _ k hk; cases hk
  | cons x r ih =>
    intro seen hc k hk
    obtain ⟨i, b⟩ := x
    obtain ⟨_, _, hni, _, _, _, _, hc'⟩ := chk_reads hc
    rcases List.mem_cons.1 hk with h | h
    · rw [h]; exact hni
    · exact fun hm => ih _ hc' k h (List.mem_cons_of_mem _ hm)

theorem chk_dst {ops : Array Oper} {gr : List Nat} {tab : List (Nat × List Nat)} : ∀ (todo : List (Nat × Bool)) (seen : List Nat), chkGo ops gr tab seen todo = true →
    ∀ i ∈ todo.map (·.1), ∀ s, (s ∈ seen ∨ s ∈ todo.map (·.1)) → ∀ t, dstOf ops s = some t → t ∈ readsOf ops i → s ∈ ancOf tab i ∨ (s, true) ∈ todo := by
  intro todo
  induction todo with
  | nil => intro _ _ i hi; cases hi
  | cons x r ih =>
    intro seen hc i hi s hs t ht hr
    obtain ⟨k, b⟩ := x
    obtain ⟨_, _, _, _, hd, hl, he, hc'⟩ := chk_reads hc
    rcases List.mem_cons.1 hi with h | h
    · subst h
      rcases hs with hs | hs
      · exact .inl (he s hs t ht hr)
      · rcases List.mem_cons.1 hs with h | h
        · subst h; exact absurd hr (hd t ht).1
        · obtain ⟨⟨p, pb⟩, hp, rfl⟩ := List.mem_map.1 h
          obtain ⟨e1, e2⟩ := hl _ hp t ht hr
          simp only at e1
          subst e1
          exact .inr (List.mem_cons_of_mem _ hp)
    · refine (ih (k :: seen) hc' i h s ?_ t ht hr).imp id (List.mem_cons_of_mem _)
      rcases hs with hs | hs
      · exact .inl (List.mem_cons_of_mem _ hs)
      · rcases List.mem_cons.1 hs with h | h
        · exact .inl (by rw [h]; simp)
        · exact .inr h

theorem chk_uniq {ops : Array Oper} {gr : List Nat} {tab : List (Nat × List Nat)} : ∀ (todo : List (Nat × Bool)) (seen : List Nat), chkGo ops gr tab seen todo = true → ∀ k b b', (k, b) ∈ todo → (k, b') ∈ todo → b = b' := by
  intro todo
  induction todo with
  | nil => intro _ _ k b b' h; cases h
  | cons x r ih =>
    intro seen hc k b b' h h'
    obtain ⟨i, c⟩ := x
    obtain ⟨_, _, _, _, _, _, _, hc'⟩ := chk_reads hc
    rcases List.mem_cons.1 h with e | e
    · cases e
      rcases List.mem_cons.1 h' with e' | e'
      · cases e'; rfl
      · exact absurd (List.mem_cons_self ..) (chk_notin _ _ hc' _ (List.mem_map.2 ⟨_, e', rfl⟩))
    · rcases List.mem_cons.1 h' with e' | e'
      · cases e'
        exact absurd (List.mem_cons_self ..) (chk_notin _ _ hc' _ (List.mem_map.2 ⟨_, e, rfl⟩))
      · exact ih _ hc' k b b' e e'

theorem chk_some {ops : Array Oper} {gr : List Nat} {tab : List (Nat × List Nat)} : ∀ (todo : List (Nat × Bool)) (seen : List Nat), chkGo ops gr tab seen todo = true → ∀ k ∈ todo.map (·.1), ∃ o, ops[k]? = some o := by
  intro todo
  induction todo with
  | nil => intro _ _ k hk; cases hk
  | cons x r ih =>
    intro seen hc k hk
    obtain ⟨i, b⟩ := x
    obtain ⟨ho, _, _, _, _, _, _, hc'⟩ := chk_reads hc
    rcases List.mem_cons.1 hk with h | h
    · rw [h]; exact ho
    · exact ih _ hc' k h

theorem chk_pairs {ops : Array Oper} {gr : List Nat} {tab : List (Nat × List Nat)} : ∀ (A B : List (Nat × Bool)) (seen : List Nat), chkGo ops gr tab seen (A ++ B) = true →
    ∀ k ∈ A.map (·.1), ∀ s ∈ B, ∀ d, dstOf ops s.1 = some d → (d ∈ readsOf ops k → s.2 = true ∧ k ∈ ancOf tab s.1) ∧ dstOf ops k ≠ some d := by
  intro A
  induction A with
  | nil => intro B seen _ k hk; cases hk
  | cons x A ih =>
    intro B seen hc k hk s hs d hd
    obtain ⟨i, b⟩ := x
    obtain ⟨_, _, _, _, h5, h6, _, hc'⟩ := chk_reads hc
    rcases List.mem_cons.1 hk with h | h
    · subst h
      refine ⟨h6 s (List.mem_append.2 (.inr hs)) d hd, fun e => ?_⟩
      exact (h5 d e).2 s (List.mem_append.2 (.inr hs)) hd
    · exact ih B _ hc' k h s hs d hd

theorem some_lt {ops : Array Oper} {i : Nat} {o : Oper} (h : ops[i]? = some o) : i < ops.size := by
  rcases Nat.lt_or_ge i ops.size with h' | h'
  · exact h'
  · rw [Array.getElem?_eq_none h'] at h; cases h

section
variable {P : Program} {n : Nat} {ops : Array Oper} {gr : List Nat} {tab : List (Nat × List Nat)} {K : Ents → Hp → Prop} {Q : Exit → Act → World → Prop}

theorem Inv.fin {π : List (Nat × Bool)} {fuel : Nat} {listed : Array Bool} {a : Act} {w : World} {done E S : List Nat} {rest : List (Nat × Bool)} {lF : Ents} {H : Hp}
    (hQ : ∀ l H a w, K l H → EnvOk n l a → Fit Ω H w → Q .normal a w) (h : Inv (Ω := Ω) P n ops gr tab π K fuel listed a w done E S rest lF H) (hall : ∀ i, i < ops.size → listed.getD i false = true) : Q .normal a w := by
  have hr : rest = [] := by
    cases hrest : rest with
    | nil => rfl
    | cons e r =>
      have hc := chk_append _ _ _ h.chk
      obtain ⟨o, ho⟩ := chk_some _ _ hc e.1 (by rw [hrest]; simp)
      have h1 := h.un e.1 (by rw [hrest]; simp)
      rw [hall _ (some_lt ho)] at h1; cases h1
  have hs := h.seg
  rw [hr] at hs
  refine hQ lF H a w hs ⟨h.env.1, h.env.2.1, fun t g v hl => h.env.2.2 t g v hl fun i hi hu => ?_⟩ h.fit
  obtain ⟨o, g', v', ho, _⟩ := h.facts i hi
  rw [hall _ (some_lt ho)] at hu; cases hu

theorem Inv.any {π : List (Nat × Bool)} (hπ : chkGo ops gr tab [] π = true) (hπa : ∀ i, i < ops.size → i ∈ π.map (·.1)) (hd : ∀ i d, dstOf ops i = some d → d < n) (ht : TabOk ops tab) (hQ : ∀ l H a w, K l H → EnvOk n l a → Fit Ω H w → Q .normal a w) :
    ∀ (fuel : Nat) (listed : Array Bool) (a : Act) (w : World) (done E S : List Nat) (rest : List (Nat × Bool)) (lF : Ents) (H : Hp),
      Inv (Ω := Ω) P n ops gr tab π K fuel listed a w done E S rest lF H → wpAny P .any ops Q fuel listed a w := by
  intro fuel
  induction fuel with
  | zero =>
    intro listed a w done E S rest lF H h
    have hall : ∀ i, i < ops.size → listed.getD i false = true := by
      intro i hi
      have hc := List.eq_nil_of_length_eq_zero (Nat.le_zero.1 h.cnt)
      have : i ∉ (List.range ops.size).filter fun i => !listed.getD i false := by rw [hc]; simp
      rw [List.mem_filter] at this
      cases hl : listed.getD i false with
      | true => rfl
      | false => exact absurd ⟨List.mem_range.2 hi, by simp only [hl, Bool.not_false]⟩ this
    refine ⟨?_, h.fin hQ hall⟩
    cases hr : Region.ready .any ops listed with
    | nil => rfl
    | cons x r =>
      have hx : x ∈ Region.ready .any ops listed := by rw [hr]; simp
      obtain ⟨h1, h2, _⟩ := (ready_iff h.sz).1 hx
      rw [hall x h1] at h2; cases h2
  | succ fuel ih =>
    intro listed a w done E S rest lF H h
    have hcr := chk_append _ _ _ h.chk
    rw [show ((S.map (·, false)).map (·.1)).reverse ++ done = S.reverse ++ done by simp [Function.comp_def]] at hcr
    refine ⟨fun hr => h.fin hQ fun i hi => ?_, ?_⟩
    · -- nothing is ready: all are listed
      cases hl : listed.getD i false with
      | true => rfl
      | false =>
        obtain ⟨k, _, hu, ⟨o, ho⟩, hp⟩ := chk_ready π [] hπ (fun _ hj => by cases hj) ⟨i, hπa i hi, hl⟩
        have : k ∈ Region.ready .any ops listed := (ready_iff h.sz).2 ⟨some_lt ho, hu, hp⟩
        rw [hr] at this; cases this
    · intro i hi
      obtain ⟨hi1, hi2, hi3⟩ := (ready_iff h.sz).1 hi
      have hisz : i < listed.size := h.sz ▸ hi1
      have anc : ∀ j, j ∈ ancOf tab i → listed.getD j false = true := fun j hj => anc_listed h.clo (ht _ _ hj) hi3
      have clo' : ∀ k, (listed.setIfInBounds i true).getD k false = true → ∀ j ∈ preAt ops k, (listed.setIfInBounds i true).getD j false = true := by
        intro k hk j hj
        rw [getD_set hisz] at hk ⊢
        split
        · rfl
        · split at hk
          · rename_i e; subst e; exact hi3 j hj
          · exact h.clo k hk j hj
      have cnt' := cnt_set hisz hi1 hi2 h.cnt
      have hseen : ∀ t ∈ readsOf ops i, ∀ s, s ∈ S ∨ s ∈ E → listed.getD s false = false → dstOf ops s ≠ some t := by
        intro t hin s hs hsu hds
        rcases chk_dst π [] hπ i (hπa i hi1) s (.inr (List.mem_map.2 ⟨_, h.sub s hs, rfl⟩)) t hds hin with this | this
        · rw [anc s this] at hsu; cases hsu
        · exact absurd (chk_uniq π [] hπ s _ _ (h.sub s hs) this) Bool.false_ne_true
      by_cases hSE : i ∈ S ∨ i ∈ E
      · obtain ⟨o, g, v, ho, hg, hv, hlk⟩ := h.facts i hSE
        unfold wpOp
        rw [ho]
        simp only
        have henv : EnvOk n (only (o.looksAt ops) lF) a := by
          refine ⟨h.env.1, h.env.2.1, ?_⟩
          intro t g' v' hl
          rw [look_only] at hl
          split at hl
          · rename_i hin
            have hin : t ∈ readsOf ops i := by rw [reads_at ho]; simpa using hin
            exact h.env.2.2 t g' v' hl fun s hs hsu => hseen t hin s hs hsu
          · cases hl
        refine wp_one henv h.fit hg (fun e => (hv e).imp id (·.2)) fun w' fw' => ih _ _ _ done E S rest lF H ?_
        have hnotin : ∀ k ∈ rest.map (·.1), k ≠ i := by
          rintro k hk rfl
          refine chk_notin _ _ hcr k hk ?_
          rcases hSE with h1 | h1
          · simp [h1]
          · simp [(h.eld k h1).1]
        refine ⟨by simp [h.sz], clo', fun k hk => ?_, h.chk, h.all, h.sub, h.rsub, fun k hk => ?_, h.bar, h.facts, h.eld, ⟨?_, ?_, ?_⟩, fw', h.seg, cnt'⟩
        · rw [getD_set hisz]; split
          · exact .inl rfl
          · exact h.dn k hk
        · rw [getD_set hisz, if_neg (hnotin k hk)]; exact h.un k hk
        · cases o.dst <;> exact h.env.1
        · cases hdo : o.dst with
          | none => exact h.env.2.1
          | some d => simp only [Act.put, Array.size_setIfInBounds]; exact h.env.2.1
        · intro t g' v' hl hpend
          by_cases htd : o.dst = some t
          · have hlt : t < n := hd i t (by rw [dst_at ho]; exact htd)
            rw [hlk t htd] at hl
            cases hl
            rw [htd]
            simp only [Act.put]
            rw [Array.getElem?_setIfInBounds_self_of_lt (by rw [h.env.2.1]; exact hlt)]
          · have e1 : (a.put o.dst (if g = true then v else undef)).tmps[t]? = a.tmps[t]? := by
              cases hdo : o.dst with
              | none => rfl
              | some d =>
                simp only [Act.put]
                rw [Array.getElem?_setIfInBounds_ne (fun e => htd (by rw [hdo, e]))]
            rw [e1]
            refine h.env.2.2 t g' v' hl fun s hs hsu => ?_
            by_cases e : s = i
            · subst e; rw [dst_at ho]; exact htd
            · exact hpend s hs (by rw [getD_set hisz, if_neg e]; exact hsu)
      · -- a barrier
        have hir : i ∈ rest.map (·.1) := by
          rcases h.all i hi1 with h1 | h1 | h1
          · rcases h.dn i h1 with h2 | h2
            · rw [h2] at hi2; cases hi2
            · exact absurd (.inr h2) hSE
          · exact absurd (.inl h1) hSE
          · exact h1
        cases hrest : rest with
        | nil => rw [hrest] at hir; cases hir
        | cons e r =>
          have hb := h.bar e r hrest
          obtain ⟨e0, eb⟩ := e
          simp only at hb
          subst hb
          have hun := h.un
          have hsg := h.seg
          have hall := h.all
          have held := h.eld
          have hck := h.chk
          have hrs := h.rsub
          rw [hrest] at hcr hir hun hsg hall held hck hrs
          obtain ⟨_, _, hne, hbar, _, _, _, hcr'⟩ := chk_reads hcr
          have hie : i = e0 := by
            rcases List.mem_cons.1 hir with h2 | h2
            · exact h2
            · obtain ⟨p, hp, hpe⟩ := List.mem_map.1 h2
              have := anc e0 (by rw [← hpe]; exact (hbar rfl).2 p hp)
              rw [hun e0 (by simp)] at this; cases this
          subst hie
          have hSl : ∀ s, s ∈ S ∨ s ∈ E → listed.getD s false = true ∨ (keep ops gr i s && !(ancOf tab i).contains s) = true := by
            have key : ∀ s, s ∈ S.reverse ++ done → listed.getD s false = true ∨ (keep ops gr i s && !(ancOf tab i).contains s) = true := by
              intro s hs
              by_cases ha : s ∈ ancOf tab i
              · exact .inl (anc s ha)
              · rcases (hbar rfl).1 s hs with h1 | h1
                · exact absurd h1 ha
                · refine .inr ?_
                  rw [h1, Bool.true_and]
                  simpa using ha
            rintro s (hs | hs)
            · exact key s (by simp [hs])
            · exact key s (by simp [(held s hs).1])
          obtain ⟨o, ho, g, hg, hsg⟩ := hsg
          have henv : EnvOk n (only (o.looksAt ops) lF) a := by
            refine ⟨h.env.1, h.env.2.1, ?_⟩
            intro t g' v' hl
            rw [look_only] at hl
            split at hl
            · rename_i hin
              have hin : t ∈ readsOf ops i := by rw [reads_at ho]; simpa using hin
              exact h.env.2.2 t g' v' hl fun s hs hsu => hseen t hin s hs hsu
            · cases hl
          have hlo : ∀ t ∈ o.looksAt ops, look (only (o.looksAt ops) lF) t = look lF t := by
            intro t ht
            rw [look_only, if_pos (by simpa using ht)]
          unfold wpOp
          rw [ho]
          · simp only
            · simp only [if_true] at hsg
              rw [gval_ok henv ((gval_congr hlo).trans hg)]
              have hdo : o.dst.all (· < n) = true := by
                cases hdo : o.dst with
                | none => rfl
                | some d => simpa using hd i d (by rw [dst_at ho]; exact hdo)
              have next : ∀ (g : Bool) (v : Value) (H' : Hp) (w' : World), Fit Ω H' w' → (gr.contains i = true → Ext H H') → hseg P ops gr r (putE lF o.dst g v) H' K →
                  wpAny P .any ops Q fuel (listed.setIfInBounds i true) (a.put o.dst (if g = true then v else undef)) w' := by
                intro g v H' w' fw' hgx hs'
                obtain ⟨S', rest', lF', hS', hbar', hK', hF', hlook'⟩ := seg_split r _ _ _ hcr' hs'
                have hunr : ∀ k ∈ r.map (·.1), (listed.setIfInBounds i true).getD k false = false := by
                  intro k hk
                  rw [getD_set hisz, if_neg]
                  · exact hun k (List.mem_cons_of_mem _ hk)
                  · rintro rfl
                    exact chk_notin _ _ hcr' k hk (by simp)
                have hSr : ∀ k ∈ S', k ∈ r.map (·.1) := by
                  intro k hk
                  rw [hS', List.map_append, List.mem_append]; exact .inl (by simpa using hk)
                have hrr : ∀ k ∈ rest'.map (·.1), k ∈ r.map (·.1) := by
                  intro k hk
                  rw [hS', List.map_append, List.mem_append]; exact .inr hk
                have hlate : ∀ k, k ∈ S ∨ k ∈ E → ∀ s ∈ (i, true) :: r, ∀ d, dstOf ops s.1 = some d → (d ∈ readsOf ops k → s.2 = true ∧ k ∈ ancOf tab s.1) ∧ dstOf ops k ≠ some d := by
                  rintro k (hk | hk) s hs
                  · exact chk_pairs _ _ _ hck k (by simpa using hk) s hs
                  · exact (held k hk).2 s hs
                have hstay : ∀ k, k ∈ S ∨ k ∈ E → k ∉ ancOf tab i → ∀ t, (t ∈ readsOf ops k ∨ dstOf ops k = some t) → look lF' t = look lF t := by
                  intro k hk hkn t htk
                  have hno : ∀ s ∈ S', dstOf ops s ≠ some t := by
                    intro s hs e
                    obtain ⟨q1, q2⟩ := hlate k hk (s, false) (List.mem_cons_of_mem _ (by rw [hS']; exact List.mem_append.2 (.inl (List.mem_map.2 ⟨s, hs, rfl⟩)))) t e
                    rcases htk with h1 | h1
                    · exact absurd (q1 h1).1 Bool.false_ne_true
                    · exact q2 h1
                  have hni : dstOf ops i ≠ some t := by
                    intro e
                    obtain ⟨q1, q2⟩ := hlate k hk (i, true) (by simp) t e
                    rcases htk with h1 | h1
                    · exact hkn (q1 h1).2
                    · exact q2 h1
                  rw [hlook' t hno, look_put]
                  rwa [dst_at ho] at hni
                refine ih _ _ _ (i :: (S.reverse ++ done)) ((E ++ S).filter fun k => keep ops gr i k && !(ancOf tab i).contains k) S' rest' lF' H' ⟨by simp [h.sz], clo', ?_, by rw [← hS']; exact hcr', ?_, ?_, fun p hp => hrs p (List.mem_cons_of_mem _ (by rw [hS']; exact List.mem_append.2 (.inr hp))), ?_, hbar', ?_, ?_, ⟨?_, ?_, ?_⟩, fw', hK', cnt'⟩
                · intro k hk
                  rw [getD_set hisz]
                  split
                  · exact .inl rfl
                  · rename_i hne
                    rcases List.mem_cons.1 hk with h1 | h1
                    · exact absurd h1 hne
                    · rcases List.mem_append.1 h1 with h1 | h1
                      · have h1 : k ∈ S := by simpa using h1
                        rcases hSl k (.inl h1) with h2 | h2
                        · exact .inl h2
                        · exact .inr (List.mem_filter.2 ⟨List.mem_append.2 (.inr h1), h2⟩)
                      · rcases h.dn k h1 with h2 | h2
                        · exact .inl h2
                        · rcases hSl k (.inr h2) with h3 | h3
                          · exact .inl h3
                          · exact .inr (List.mem_filter.2 ⟨List.mem_append.2 (.inl h2), h3⟩)
                · intro k hk
                  rcases hall k hk with h1 | h1 | h1
                  · exact .inl (by simp [h1])
                  · exact .inl (by simp [h1])
                  · rcases List.mem_cons.1 h1 with h2 | h2
                    · exact .inl (by simp only at h2; simp [h2])
                    · rw [hS', List.map_append, List.mem_append] at h2
                      rcases h2 with h2 | h2
                      · exact .inr (.inl (by simpa using h2))
                      · exact .inr (.inr h2)
                · rintro k (hk | hk)
                  · exact hrs _ (List.mem_cons_of_mem _ (by rw [hS']; exact List.mem_append.2 (.inl (List.mem_map.2 ⟨k, hk, rfl⟩))))
                  · rcases List.mem_append.1 (List.mem_filter.1 hk).1 with hk | hk
                    · exact h.sub k (.inr hk)
                    · exact h.sub k (.inl hk)
                · exact fun k hk => hunr k (hrr k hk)
                · rintro k (hk | hk)
                  · exact hF' k hk
                  · obtain ⟨hk1, hk2⟩ := List.mem_filter.1 hk
                    have hk3 : k ∈ S ∨ k ∈ E := (List.mem_append.1 hk1).symm
                    rw [Bool.and_eq_true] at hk2
                    obtain ⟨hk2, hk6⟩ := hk2
                    have hkn : k ∉ ancOf tab i := by simpa using hk6
                    unfold keep at hk2
                    rw [Bool.or_eq_true, Bool.and_eq_true] at hk2
                    rcases hk2 with hk2 | ⟨hk4, hk5⟩
                    · exact (h.facts k hk3).move hk2 (hstay k hk3 hkn)
                    · exact (h.facts k hk3).grow hk5 (hgx hk4) (hstay k hk3 hkn)
                · intro k hk
                  rcases List.mem_append.1 (List.mem_filter.1 hk).1 with hk | hk
                  · exact ⟨by simp [(held k hk).1], fun s hs => (held k hk).2 s (List.mem_cons_of_mem _ (by rw [hS']; exact List.mem_append.2 (.inr hs)))⟩
                  · exact ⟨by simp [hk], fun s hs => hlate k (.inl hk) s (List.mem_cons_of_mem _ (by rw [hS']; exact List.mem_append.2 (.inr hs)))⟩
                · cases o.dst <;> exact h.env.1
                · cases hdo : o.dst with
                  | none => exact h.env.2.1
                  | some d => simp only [Act.put, Array.size_setIfInBounds]; exact h.env.2.1
                · intro t g' v' hl hpend
                  rw [hlook' t (fun s hs => hpend s (.inl hs) (hunr s (hSr s hs)))] at hl
                  by_cases htd : o.dst = some t
                  · have hlt : t < n := hd i t (by rw [dst_at ho]; exact htd)
                    rw [htd] at hl
                    simp only [putE, look, if_true] at hl
                    cases hl
                    rw [htd]
                    simp only [Act.put]
                    rw [Array.getElem?_setIfInBounds_self_of_lt (by rw [h.env.2.1]; exact hlt)]
                  · rw [look_put htd] at hl
                    have e1 : (a.put o.dst (if g = true then v else undef)).tmps[t]? = a.tmps[t]? := by
                      cases hdo : o.dst with
                      | none => rfl
                      | some d =>
                        simp only [Act.put]
                        rw [Array.getElem?_setIfInBounds_ne (fun e => htd (by rw [hdo, e]))]
                    rw [e1]
                    refine h.env.2.2 t g' v' hl fun s hs hsu => ?_
                    have hsi : s ≠ i := by
                      rintro rfl
                      exact hSE hs
                    refine hpend s (.inr ?_) (by rw [getD_set hisz, if_neg hsi]; exact hsu)
                    rcases hSl s hs with h2 | h2
                    · rw [h2] at hsu; cases hsu
                    · exact List.mem_filter.2 ⟨List.mem_append.2 hs.symm, h2⟩
              cases g with
              | true =>
                rw [if_pos rfl]
                refine .inl (hgen_ok henv h.fit (hgen_congr (fun t ht => hlo t (mem_looks ht)) (hsg.1 rfl)) fun v H' w' hk hf => ?_)
                have := next true v H' w' hf hk.1 hk.2
                rwa [if_pos rfl] at this
              | false =>
                rw [if_neg (by simp)]
                obtain ⟨u, hu⟩ := hsg.2 rfl
                have := next false u H w h.fit (fun _ => Ext.refl _) hu
                rwa [if_neg (by simp)] at this

theorem seg_any {l : Ents} {H : Hp} {KK : Ents → Hp → Prop} {a : Act} {w : World} (π : List (Nat × Bool)) (hc : chk ops gr π = true) (hd : ∀ i d, dstOf ops i = some d → d < n) (he : EnvOk n l a) (f : Fit Ω H w)
    (hQ : ∀ l H a w, KK l H → EnvOk n l a → Fit Ω H w → Q .normal a w) (h : hseg P ops gr π l H KK) : wpAny P .any ops Q ops.size (Array.replicate ops.size false) a w := by
  unfold HL.chk at hc
  rw [Bool.and_eq_true] at hc
  obtain ⟨S, rest, lF, hS, hbar, hK, hF, hlook⟩ := seg_split π [] l H hc.2 h
  have hπa : ∀ i, i < ops.size → i ∈ π.map (·.1) := by
    intro i hi
    have := List.all_eq_true.1 hc.1 i (List.mem_range.2 hi)
    simpa using this
  refine Inv.any (π := π) (gr := gr) (tab := mkTab ops (π.map (·.1)) []) (K := KK) hc.2 hπa hd (mkTab_ok _ _ (by intro i j hj; cases hj)) hQ ops.size _ a _ [] [] S rest lF H ?_
  have hrep : ∀ i, (Array.replicate ops.size false).getD i false = false := by
    intro i
    simp only [Array.getD_eq_getD_getElem?, Array.getElem?_replicate]
    split <;> rfl
  refine ⟨by simp, (fun i hi => by rw [hrep] at hi; cases hi), (by simp), (by rw [← hS]; exact hc.2), ?_, ?_, fun p hp => by rw [hS]; exact List.mem_append.2 (.inr hp), fun i _ => hrep i, hbar, ?_, (by simp), ⟨he.defers, he.size, ?_⟩, f, hK, ?_⟩
  · intro i hi
    have hmem := hπa i hi
    rw [hS, List.map_append, List.mem_append] at hmem
    rcases hmem with h1 | h1
    · exact .inr (.inl (by simpa using h1))
    · exact .inr (.inr h1)
  · rintro i (hi | hi)
    · rw [hS]; exact List.mem_append.2 (.inl (List.mem_map.2 ⟨i, hi, rfl⟩))
    · cases hi
  · rintro i (hi | hi)
    · exact hF i hi
    · cases hi
  · intro t g v hl hpend
    rw [hlook t (fun i hi => hpend i (.inl hi) (hrep i))] at hl
    exact he.val t g v hl
  · have := List.length_filter_le (fun i => !(Array.replicate ops.size false).getD i false) (List.range ops.size)
    simpa using this
theorem dst_lt {id : Nat} (hdst : dstOk n (.region id ops true) = true) : ∀ i d, dstOf ops i = some d → d < n := by
  intro i d hi
  unfold dstOf at hi
  cases ho : ops[i]? with
  | none => rw [ho] at hi; cases hi
  | some o =>
    rw [ho] at hi
    simp only [Option.bind_some] at hi
    have hmem : o ∈ ops.toList := by
      have := Array.mem_of_getElem? ho
      simpa using this
    have := List.all_eq_true.1 hdst o hmem
    rw [hi] at this
    simpa using this
theorem AW_draw {l : Ents} {H : Hp} {QQ : Exit → Ents → Hp → Prop} {id : Nat} (π : List (Nat × Bool)) (hm : P.follows .mixedOrders = true) (hc : chk ops gr π = true)
    (h : hseg P ops gr π l H fun l' H' => QQ .normal l' H') : AW P n (.region id ops true) l H QQ := by
  intro hdst Ω a w he f
  exact wp_region_any hm (seg_any π hc (dst_lt hdst) he (f.drawn _) (fun l' H' a' w' hk h1 h2 => ⟨l', H', h1, h2, hk⟩) h)

/-! a region of which some acting operations are in no order: each order of these by itself -/
def prv : List Nat → Nat → Option Nat
  | x :: y :: r, i => if y = i then some x else prv (y :: r) i
  | _, _ => none
theorem prv_mem : ∀ (l : List Nat) (i p : Nat), prv l i = some p → i ∈ l.tail
  | [], _, _, h => by cases h
  | [_], _, _, h => by cases h
  | x :: y :: r, i, p, h => by
    simp only [prv] at h
    split at h
    · rename_i e; simp [e]
    · have := prv_mem (y :: r) i p h
      simp only [List.tail_cons] at this ⊢
      exact List.mem_cons_of_mem _ this
theorem prv_done : ∀ (d r : List Nat) (i p : Nat), (d ++ i :: r).Nodup → prv (d ++ i :: r) i = some p → p ∈ d
  | [], r, i, p, hn, h => by
    have := prv_mem _ _ _ h
    exact absurd this (List.nodup_cons.1 hn).1
  | [x], r, i, p, hn, h => by
    simp only [List.cons_append, List.nil_append, prv, if_true, Option.some.injEq] at h
    simp [h]
  | x :: y :: d, r, i, p, hn, h => by
    have hn2 := (List.nodup_cons.1 hn).2
    have hy : y ≠ i := by
      rintro rfl
      exact (List.nodup_cons.1 hn2).1 (by simp)
    simp only [List.cons_append, prv, if_neg hy] at h
    exact List.mem_cons_of_mem _ (prv_done (y :: d) r i p hn2 h)
def aug1 (σ : List Nat) (i : Nat) (o : Oper) : Oper := match prv σ i with
  | some p => { o with after := o.after.push ⟨p, .data⟩ }
  | none => o
def aug (ops : Array Oper) (σ : List Nat) : Array Oper := ops.mapIdx (aug1 σ)
theorem aug_at (σ : List Nat) (i : Nat) : (aug ops σ)[i]? = (ops[i]?).map (aug1 σ i) := by unfold aug; rw [Array.getElem?_mapIdx]
theorem aug_size (σ : List Nat) : (aug ops σ).size = ops.size := by unfold aug; rw [Array.size_mapIdx]
theorem aug1_dst (σ : List Nat) (i : Nat) (o : Oper) : (aug1 σ i o).dst = o.dst := by unfold aug1; split <;> rfl
theorem aug1_op (σ : List Nat) (i : Nat) (o : Oper) : (aug1 σ i o).op = o.op := by unfold aug1; split <;> rfl
theorem aug1_guard (σ : List Nat) (i : Nat) (o : Oper) : (aug1 σ i o).guard = o.guard := by unfold aug1; split <;> rfl
theorem aug1_eta (σ : List Nat) (i : Nat) (o : Oper) : ∃ af, aug1 σ i o = ⟨o.dst, o.op, o.type, o.pos, af, o.guard⟩ := by unfold aug1; split <;> exact ⟨_, rfl⟩
theorem aug_dstOf (σ : List Nat) (i : Nat) : dstOf (aug ops σ) i = dstOf ops i := by
  unfold dstOf; rw [aug_at]
  cases ops[i]? with
  | none => rfl
  | some o => simp [aug1_dst]
theorem aug_pre (σ : List Nat) (i : Nat) : preAt (aug ops σ) i = match ops[i]? with
    | some o => pre o ++ (prv σ i).toList
    | none => [] := by
  unfold preAt; rw [aug_at]
  cases ops[i]? with
  | none => rfl
  | some o =>
    simp only [Option.map_some]
    unfold aug1 pre
    cases prv σ i with
    | none => simp
    | some p =>
      simp only [Array.toList_push, List.filter_append, List.map_append]
      rfl
theorem wp_aug {σ : List Nat} {i : Nat} {o : Oper} {a : Act} {w : World} {K : Act → World → Prop} : (aug1 σ i o).wp P a w K Q = o.wp P a w K Q := by
  obtain ⟨af, h⟩ := aug1_eta σ i o
  rw [h]; rfl
theorem asks_aug {σ : List Nat} {i : Nat} {o : Oper} {a : Act} {w : World} : (aug1 σ i o).asks P a w = o.asks P a w := by
  obtain ⟨af, h⟩ := aug1_eta σ i o
  rw [h]; rfl
theorem wanted_aug {σ : List Nat} {i : Nat} {o : Oper} (y : Nat → Option Bool) : Region.wanted (aug1 σ i o) y = Region.wanted o y := by
  unfold Region.wanted; rw [aug1_guard]
theorem yielded_aug {σ : List Nat} (t : Array Value) : yielded (aug ops σ) t = yielded ops t := by
  funext j
  unfold yielded
  rw [aug_at]
  cases ops[j]? with
  | none => rfl
  | some o => simp [aug1_dst]
theorem wpOp_aug {σ : List Nat} {i : Nat} {a : Act} {w : World} {K : Act → World → Prop} (h : wpOp P (aug ops σ) Q i K a w) : wpOp P ops Q i K a w := by
  unfold wpOp at h ⊢
  rw [aug_at] at h
  cases ho : ops[i]? with
  | none => rw [ho] at h; exact h
  | some o =>
    rw [ho] at h
    simp only [Option.map_some, wanted_aug, yielded_aug, wp_aug, asks_aug, aug1_dst] at h
    exact h
theorem ready_aug {σ : List Nat} {listed : Array Bool} (hs : listed.size = ops.size) {i : Nat} (h : i ∈ Region.ready .any ops listed) (hp : ∀ p, prv σ i = some p → listed.getD p false = true) : i ∈ Region.ready .any (aug ops σ) listed := by
  obtain ⟨h1, h2, h3⟩ := (ready_iff hs).1 h
  refine (ready_iff (by rw [aug_size]; exact hs)).2 ⟨by rw [aug_size]; exact h1, h2, fun j hj => ?_⟩
  rw [aug_pre, Array.getElem?_eq_getElem h1] at hj
  simp only at hj
  rcases List.mem_append.1 hj with hj | hj
  · exact h3 j (by rw [pre_at (Array.getElem?_eq_getElem h1)]; exact hj)
  · exact hp j (by simpa using hj)
theorem ready_of_aug {σ : List Nat} {listed : Array Bool} (hs : listed.size = ops.size) {i : Nat} (h : i ∈ Region.ready .any (aug ops σ) listed) : i ∈ Region.ready .any ops listed := by
  obtain ⟨h1, h2, h3⟩ := (ready_iff (by rw [aug_size]; exact hs)).1 h
  rw [aug_size] at h1
  refine (ready_iff hs).2 ⟨h1, h2, fun j hj => h3 j ?_⟩
  rw [aug_pre, Array.getElem?_eq_getElem h1]
  rw [pre_at (Array.getElem?_eq_getElem h1)] at hj
  exact List.mem_append_left _ hj
theorem go_step (fuel t : Nat) (listed : Array Bool) : Region.linearise.go .any ops (fuel + 1) t listed [] = match (Region.ready .any ops listed)[t % (Region.ready .any ops listed).length]? with
    | some i => i :: Region.linearise.go .any ops fuel (t / (Region.ready .any ops listed).length) (listed.setIfInBounds i true) []
    | none => [] := by
  show (match (Region.ready .any ops listed)[t % (Region.ready .any ops listed).length]? with
      | some i => Region.linearise.go .any ops fuel (t / (Region.ready .any ops listed).length) (listed.setIfInBounds i true) [i]
      | none => [].reverse) = _
  cases (Region.ready .any ops listed)[t % (Region.ready .any ops listed).length]? with
  | none => rfl
  | some i => simp only []; rw [linearise_go_acc]; rfl
theorem wpAny_aug {σ A : List Nat} (hn : σ.Nodup) (hA : ∀ x ∈ σ, x ∈ A) : ∀ (fuel t : Nat) (listed : Array Bool) (a : Act) (w : World) (d r : List Nat), σ = d ++ r → (∀ x ∈ d, listed.getD x false = true) → listed.size = ops.size →
    ((Region.linearise.go .any ops fuel t listed []).filter fun x => A.contains x) <+: r → wpAny P .any (aug ops σ) Q fuel listed a w → wpOps P ops Q (Region.linearise.go .any ops fuel t listed []) a w := by
  intro fuel
  induction fuel with
  | zero => intro t listed a w d r _ _ _ _ h; simpa [Region.linearise.go, wpOps] using h.2
  | succ fuel ih =>
    intro t listed a w d r hσ hd hs hp h
    rw [go_step] at hp ⊢
    cases hi : (Region.ready .any ops listed)[t % (Region.ready .any ops listed).length]? with
    | none =>
      have hnil : Region.ready .any ops listed = [] := by
        cases hr : Region.ready .any ops listed with
        | nil => rfl
        | cons x xs =>
          rw [hr] at hi
          have hlt : t % (x :: xs).length < (x :: xs).length := Nat.mod_lt _ (by simp)
          simp at hi
          simp at hlt
          omega
      have hnil2 : Region.ready .any (aug ops σ) listed = [] := by
        cases hr : Region.ready .any (aug ops σ) listed with
        | nil => rfl
        | cons x xs =>
          have := ready_of_aug hs (i := x) (by rw [hr]; simp)
          rw [hnil] at this; cases this
      simpa [wpOps] using h.1 hnil2
    | some i =>
      rw [hi] at hp
      simp only [] at hp ⊢
      have hir := List.mem_of_getElem? hi
      have hi1 := ((ready_iff hs).1 hir).1
      have hisz : i < listed.size := by rw [hs]; exact hi1
      rw [wpOps_cons]
      by_cases hiA : A.contains i = true
      · rw [List.filter_cons, if_pos hiA] at hp
        obtain ⟨z, hz⟩ := hp
        have hr : r = i :: ((Region.linearise.go .any ops fuel (t / (Region.ready .any ops listed).length) (listed.setIfInBounds i true) []).filter (fun x => A.contains x) ++ z) := by rw [← hz]; rfl
        have hpr : ∀ p, prv σ i = some p → listed.getD p false = true := fun p hp => hd p (prv_done d _ i p (by rw [← hr, ← hσ]; exact hn) (by rw [← hr, ← hσ]; exact hp))
        refine wpOp_mono (fun a w h' => ih _ _ a w (d ++ [i]) _ (by rw [hσ, hr, List.append_assoc]; rfl) ?_ (by simpa using hs) ⟨z, rfl⟩ h') (wpOp_aug (h.2 i (ready_aug hs hir hpr)))
        intro x hx
        rw [getD_set hisz]
        split
        · rfl
        · rename_i hne
          rcases List.mem_append.1 hx with hx | hx
          · exact hd x hx
          · exact absurd (List.mem_singleton.1 hx) hne
      · rw [List.filter_cons, if_neg hiA] at hp
        have hpr : ∀ p, prv σ i = some p → listed.getD p false = true := fun p hp => by
          exfalso
          exact hiA (List.contains_iff_mem.2 (hA i (List.mem_of_mem_tail (prv_mem _ _ _ hp))))
        refine wpOp_mono (fun a w h' => ih _ _ a w d r hσ ?_ (by simpa using hs) hp h') (wpOp_aug (h.2 i (ready_aug hs hir hpr)))
        intro x hx
        rw [getD_set hisz]
        split
        · rfl
        · exact hd x hx

def hdT (x : Nat) : List Nat → Option (List Nat)
  | y :: r => if y = x then some r else none
  | [] => none
def cov (tab : List (Nat × List Nat)) : Nat → List Nat → List (List Nat) → Bool
  | 0, rem, cs => rem.isEmpty && !cs.isEmpty
  | f + 1, rem, cs => !cs.isEmpty && rem.all fun x => rem.any (fun y => (ancOf tab x).contains y) || cov tab f (rem.erase x) (cs.filterMap (hdT x))
theorem cov_ne {tab : List (Nat × List Nat)} : ∀ {f : Nat} {rem : List Nat} {cs : List (List Nat)}, cov tab f rem cs = true → ∃ c, c ∈ cs := by
  intro f rem cs h
  have : cs.isEmpty = false := by
    cases f <;> simp [cov] at h <;> simp [h]
  cases cs with
  | nil => cases this
  | cons c _ => exact ⟨c, by simp⟩
theorem cov_run {A : List Nat} {tab : List (Nat × List Nat)} (ht : TabOk ops tab) : ∀ (fuel t : Nat) (listed : Array Bool) (f : Nat) (rem : List Nat) (cs : List (List Nat)), listed.size = ops.size →
    (∀ i, listed.getD i false = true → ∀ j ∈ preAt ops i, listed.getD j false = true) → (∀ x ∈ rem, x ∈ A ∧ listed.getD x false = false) → (∀ x ∈ A, x ∈ rem ∨ listed.getD x false = true) → rem.Nodup → cov tab f rem cs = true →
    ∃ c ∈ cs, ((Region.linearise.go .any ops fuel t listed []).filter fun x => A.contains x) <+: c := by
  intro fuel
  induction fuel with
  | zero =>
    intro t listed f rem cs _ _ _ _ _ h
    obtain ⟨c, hc⟩ := cov_ne h
    exact ⟨c, hc, by simp [Region.linearise.go]⟩
  | succ fuel ih =>
    intro t listed f rem cs hs hclo hrem hA hn h
    rw [go_step]
    cases hi : (Region.ready .any ops listed)[t % (Region.ready .any ops listed).length]? with
    | none =>
      obtain ⟨c, hc⟩ := cov_ne h
      exact ⟨c, hc, by simp⟩
    | some i =>
      simp only []
      obtain ⟨hi1, hi2, hi3⟩ := (ready_iff hs).1 (List.mem_of_getElem? hi)
      have hisz : i < listed.size := by rw [hs]; exact hi1
      have clo' : ∀ k, (listed.setIfInBounds i true).getD k false = true → ∀ j ∈ preAt ops k, (listed.setIfInBounds i true).getD j false = true := by
        intro k hk j hj
        rw [getD_set hisz] at hk ⊢
        split
        · rfl
        · split at hk
          · rename_i e; subst e; exact hi3 j hj
          · exact hclo k hk j hj
      by_cases hiA : A.contains i = true
      · have hir : i ∈ rem := by
          rcases hA i (List.contains_iff_mem.1 hiA) with h1 | h1
          · exact h1
          · rw [h1] at hi2; cases hi2
        rw [List.filter_cons, if_pos hiA]
        cases f with
        | zero =>
          simp only [cov, Bool.and_eq_true, List.isEmpty_iff] at h
          rw [h.1] at hir; cases hir
        | succ f =>
          simp only [cov, Bool.and_eq_true, List.all_eq_true, Bool.or_eq_true, List.any_eq_true] at h
          have hb : cov tab f (rem.erase i) (cs.filterMap (hdT i)) = true := by
            rcases h.2 i hir with ⟨y, hy1, hy2⟩ | h1
            · have := anc_listed hclo (ht _ _ (List.contains_iff_mem.1 hy2)) hi3
              rw [(hrem y hy1).2] at this; cases this
            · exact h1
          obtain ⟨c, hc, hp⟩ := ih (t / (Region.ready .any ops listed).length) (listed.setIfInBounds i true) f (rem.erase i) _ (by simpa using hs) clo'
            (fun x hx => by
              have hx' := (List.Nodup.mem_erase_iff hn).1 hx
              rw [getD_set hisz, if_neg hx'.1]
              exact hrem x hx'.2)
            (fun x hx => by
              rw [getD_set hisz]
              split
              · exact .inr rfl
              · rename_i hne
                rcases hA x hx with h1 | h1
                · exact .inl ((List.Nodup.mem_erase_iff hn).2 ⟨hne, h1⟩)
                · exact .inr h1)
            (hn.erase i) hb
          obtain ⟨c0, hc0, he⟩ := List.mem_filterMap.1 hc
          cases c0 with
          | nil => cases he
          | cons y r =>
            simp only [hdT] at he
            split at he
            · rename_i e
              cases he; subst e
              exact ⟨_, hc0, List.cons_prefix_cons.2 ⟨rfl, hp⟩⟩
            · cases he
      · rw [List.filter_cons, if_neg hiA]
        refine ih _ _ f rem cs (by simpa using hs) clo' (fun x hx => ?_) (fun x hx => ?_) hn h
        · have hxi : x ≠ i := by
            rintro rfl
            exact hiA (List.contains_iff_mem.2 (hrem x hx).1)
          rw [getD_set hisz, if_neg hxi]
          exact hrem x hx
        · rw [getD_set hisz]
          split
          · exact .inr rfl
          · exact hA x hx

theorem hgen_aug {σ : List Nat} {i : Nat} {o : Oper} {l : Ents} {H : Hp} {K : Value → Hp → Prop} : hgen P l (aug1 σ i o) H K = hgen P l o H K := by
  obtain ⟨af, h⟩ := aug1_eta σ i o
  rw [h]; rfl
theorem qv_aug {σ : List Nat} {i : Nat} {o : Oper} {l : Ents} {g : Bool} {H : Hp} : qv P l g H (aug1 σ i o) = qv P l g H o := by
  unfold qv; rw [aug1_op]
theorem gval_aug {σ : List Nat} {i : Nat} {o : Oper} {l : Ents} : gval (aug ops σ) l (aug1 σ i o) = gval ops l o := by
  unfold gval
  rw [aug1_guard]
  cases o.guard with
  | none => rfl
  | some g =>
    obtain ⟨j, want⟩ := g
    simp only
    rw [aug_at]
    cases ops[j]? with
    | none => rfl
    | some o' => simp [aug1_dst]
theorem hseg_aug {σ : List Nat} : ∀ (π : List (Nat × Bool)) (l : Ents) (H : Hp) {KK : Ents → Hp → Prop}, hseg P ops gr π l H KK → hseg P (aug ops σ) gr π l H KK := by
  intro π
  induction π with
  | nil => exact fun _ _ _ h => h
  | cons x r ih =>
    obtain ⟨i, b⟩ := x
    intro l H KK h
    obtain ⟨o, ho, g, hg, h⟩ := h
    refine ⟨aug1 σ i o, by rw [aug_at, ho]; rfl, g, by rw [gval_aug]; exact hg, ?_⟩
    cases b with
    | true =>
      simp only [if_true] at h ⊢
      refine ⟨fun e => ?_, fun e => ?_⟩
      · rw [hgen_aug, aug1_dst]
        exact hgen_mono (h.1 e) fun v H' hh => ⟨hh.1, ih _ _ hh.2⟩
      · obtain ⟨u, hu⟩ := h.2 e
        exact ⟨u, by rw [aug1_dst]; exact ih _ _ hu⟩
    | false =>
      simp only [Bool.false_eq_true, if_false] at h ⊢
      obtain ⟨v, h1, h2⟩ := h
      refine ⟨v, fun e => ?_, by rw [aug1_dst]; exact ih _ _ h2⟩
      rw [qv_aug, hgen_aug, aug1_op]
      exact h1 e
def ndB : List Nat → Bool
  | [] => true
  | x :: r => !r.contains x && ndB r
theorem ndB_ok : ∀ l : List Nat, ndB l = true → l.Nodup
  | [], _ => List.nodup_nil
  | x :: r, h => by
    simp only [ndB, Bool.and_eq_true, Bool.not_eq_true'] at h
    exact List.nodup_cons.2 ⟨fun hm => by (rw [List.contains_iff_mem.2 hm] at h; exact absurd h.1 (by decide)), ndB_ok r h.2⟩
def chkS (ops : Array Oper) (A : List Nat) (ss : List (List Nat × List Nat × List (Nat × Bool))) : Bool :=
  ndB A && cov (mkTab ops ((ss.headD ([], [], [])).2.2.map (·.1)) []) A.length A (ss.map (·.1)) && ss.all fun s => ndB s.1 && s.1.all (fun x => A.contains x) && chk (aug ops s.1) s.2.1 s.2.2
theorem AW_drawS {l : Ents} {H : Hp} {QQ : Exit → Ents → Hp → Prop} {id : Nat} (A : List Nat) (ss : List (List Nat × List Nat × List (Nat × Bool))) (hm : P.follows .mixedOrders = true) (hc : chkS ops A ss = true)
    (h : ∀ s ∈ ss, hseg P ops s.2.1 s.2.2 l H fun l' H' => QQ .normal l' H') : AW P n (.region id ops true) l H QQ := by
  intro hdst Ω a w he f
  refine wp_region_draw fun t => ?_
  simp only [Region.schedule, hm, Bool.true_or, if_true]
  unfold chkS at hc
  simp only [Bool.and_eq_true, List.all_eq_true] at hc
  obtain ⟨⟨hA, hcov⟩, hss⟩ := hc
  have hrep : ∀ i, (Array.replicate ops.size false).getD i false = false := by
    intro i
    simp only [Array.getD_eq_getD_getElem?, Array.getElem?_replicate]
    split <;> rfl
  obtain ⟨c, hc, hp⟩ := cov_run (A := A) (mkTab_ok _ _ (by intro i j hj; cases hj)) ops.size t (Array.replicate ops.size false) _ A _ (by simp) (fun i hi => by rw [hrep] at hi; cases hi) (fun x hx => ⟨hx, hrep x⟩) (fun x hx => .inl hx) (ndB_ok _ hA) hcov
  obtain ⟨s, hs, rfl⟩ := List.mem_map.1 hc
  obtain ⟨⟨h1, h2⟩, h3⟩ := hss s hs
  have hd := dst_lt hdst
  have hw := seg_any (Q := fun e a' w' => ∃ l' H', EnvOk n l' a' ∧ Fit Ω H' w' ∧ QQ e l' H') (KK := fun l' H' => QQ .normal l' H') (ops := aug ops s.1) s.2.2 h3 (fun i d hi => hd i d (by rw [← aug_dstOf s.1]; exact hi)) he (f.drawn (w.drawn + 1)) (fun l' H' a' w' hk h1 h2 => ⟨l', H', h1, h2, hk⟩) (hseg_aug _ _ _ (h s hs))
  rw [aug_size] at hw
  exact wpAny_aug (ndB_ok _ h1) (fun x hx => List.contains_iff_mem.1 (h2 x hx)) ops.size t _ a _ [] s.1 rfl (fun x hx => by cases hx) (by simp) hp hw
end
end Go.Proofs.Ytkhmimlgkjenfaa.HL
