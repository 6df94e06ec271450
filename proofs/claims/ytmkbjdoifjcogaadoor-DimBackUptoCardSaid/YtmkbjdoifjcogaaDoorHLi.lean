/- HLi: a region that draws its order: one walk in one order serves all orders, where each operation that acts on memory is comparable with every other one, and the others leave the memory alone ('chk', a closed check of the operations' edges). No condition. -/
import Derived.Test.YtmkbjdoifjcogaaDoorHLf
import Derived.Orders
namespace Go.Proofs.YtmkbjdoifjcogaaDoor.HL
open Go
set_option linter.unusedVariables false
set_option linter.unusedSimpArgs false
variable {Ω : World}

/-- what must run ahead of an operation, straight -/
def pre (o : Oper) : List Nat := (o.after.toList.filter (Region.binds .any)).map (·.on)

inductive Anc (ops : Array Oper) : Nat → Nat → Prop
  | one {i j : Nat} {o : Oper} (h : ops[i]? = some o) (hj : j ∈ pre o) : Anc ops j i
  | more {i j k : Nat} {o : Oper} (h : ops[i]? = some o) (hk : k ∈ pre o) (ha : Anc ops j k) : Anc ops j i

def ancOf : List (Nat × List Nat) → Nat → List Nat
  | [], _ => []
  | (k, A) :: r, i => if k = i then A else ancOf r i
def preAt (ops : Array Oper) (i : Nat) : List Nat := match ops[i]? with
  | some o => pre o
  | none => []
def mkTab (ops : Array Oper) : List Nat → List (Nat × List Nat) → List (Nat × List Nat)
  | [], tab => tab
  | i :: r, tab => mkTab ops r ((i, (preAt ops i ++ (preAt ops i).flatMap (ancOf tab)).eraseDups) :: tab)

def TabOk (ops : Array Oper) (tab : List (Nat × List Nat)) : Prop := ∀ i j, j ∈ ancOf tab i → Anc ops j i
theorem mkTab_ok {ops : Array Oper} : ∀ (is : List Nat) (tab : List (Nat × List Nat)), TabOk ops tab → TabOk ops (mkTab ops is tab) := by
  intro is
  induction is with
  | nil => exact fun tab h => h
  | cons i r ih =>
    intro tab h
    refine ih _ ?_
    intro k j hj
    simp only [ancOf] at hj
    split at hj
    · rename_i e
      subst e
      rw [List.mem_eraseDups, List.mem_append] at hj
      unfold preAt at hj
      cases ho : ops[i]? with
      | none => simp [ho] at hj
      | some o =>
        simp only [ho] at hj
        rcases hj with hj | hj
        · exact .one ho hj
        · obtain ⟨m, hm, hj⟩ := List.mem_flatMap.1 hj
          exact .more ho hm (h _ _ hj)
    · exact h _ _ hj

def dstOf (ops : Array Oper) (i : Nat) : Option Tmp := (ops[i]?).bind (·.dst)
def readsOf (ops : Array Oper) (i : Nat) : List Tmp := match ops[i]? with
  | some o => o.looksAt ops
  | none => []

/-- operations whose value the memory has no say in -/
def dryOp : Op → Bool
  | .move _ | .assign _ | .pick .. | .binOp .. | .unOp .. | .extract .. | .indexAddr .. | .fieldAddr .. | .field .. | .index .. => true
  | _ => false
def dry (ops : Array Oper) (i : Nat) : Bool := match ops[i]? with
  | some o => dryOp o.op
  | none => false
theorem dry_at {ops : Array Oper} {i : Nat} {o : Oper} (h : ops[i]? = some o) : dry ops i = dryOp o.op := by simp [dry, h]
theorem qv_dry {P : Program} {l : Ents} {g : Bool} {o : Oper} (hd : dryOp o.op = true) (H H' : Hp) : qv P l g H o = qv P l g H' o := by
  unfold qv
  cases ho : o.op <;> rw [ho] at hd <;> first | rfl | (cases hd; done)
/-- the check of an order, each operation marked that acts -/
def chkGo (ops : Array Oper) (tab : List (Nat × List Nat)) : List Nat → List (Nat × Bool) → Bool
  | _, [] => true
  | seen, (i, b) :: r =>
    (ops[i]?).isSome && (preAt ops i).all (fun j => seen.contains j) && !(seen.contains i) &&
    (!b || (seen.all (fun j => (ancOf tab i).contains j || dry ops j) && r.all (fun k => (ancOf tab k.1).contains i))) &&
    ((dstOf ops i).all fun d => !(readsOf ops i).contains d && r.all fun k => dstOf ops k.1 != some d) &&
    (r.all fun k => (dstOf ops k.1).all fun d => !(readsOf ops i).contains d) &&
    (seen.all fun j => (dstOf ops j).all fun d => !(readsOf ops i).contains d || (ancOf tab i).contains j) &&
    chkGo ops tab (i :: seen) r
def chk (ops : Array Oper) (π : List (Nat × Bool)) : Bool :=
  (List.range ops.size).all (fun i => (π.map (·.1)).contains i) && chkGo ops (mkTab ops (π.map (·.1)) []) [] π

/-- the walk in that order -/
def hseg (P : Program) (ops : Array Oper) : List (Nat × Bool) → Ents → Hp → (Ents → Hp → Prop) → Prop
  | [], l, H, K => K l H
  | (i, b) :: r, l, H, K =>
    ∃ o, ops[i]? = some o ∧ ∃ g, gval ops l o = some g ∧ if b = true then
        (g = true → hgen P l o H fun v H' => hseg P ops r (putE l o.dst true v) H' K) ∧ (g = false → ∃ u, hseg P ops r (putE l o.dst false u) H K)
      else ∃ v, (g = true → qv P l true H o = some v ∨ (dryOp o.op = false ∧ hgen P l o H fun v' H' => v' = v ∧ Ext H H')) ∧ hseg P ops r (putE l o.dst g v) H K

theorem hgen_congr {P : Program} {l l' : Ents} {o : Oper} {H : Hp} {K : Value → Hp → Prop} (hl : ∀ t, .tmp t ∈ o.op.operands.toList → look l' t = look l t) (h : hgen P l o H K) : hgen P l' o H K := by
  obtain ⟨h1, h2⟩ := h
  have e : ∀ x ∈ o.op.operands.toList, evg l' true x = evg l true x := by
    intro x hx
    cases x with
    | tmp t => simp only [evg, hl t hx]
    | const v => rfl
    | global g => rfl
    | func f => rfl
  refine ⟨?_, ?_⟩
  · rw [List.all_eq_true] at h1 ⊢
    intro x hx
    rw [e x hx]; exact h1 x hx
  · rw [execOp_congr (ρ' := fun x => (evg l true x).getD undef) (fun x hx => by simp only [e x hx])]
    exact h2

theorem evg_congr {l l' : Ents} {g : Bool} {x : Operand} (h : ∀ t, x = .tmp t → look l' t = look l t) : evg l' g x = evg l g x := by
  cases x with
  | tmp t => simp only [evg, h t rfl]
  | const v => rfl
  | global g => rfl
  | func f => rfl
theorem evs_congr {l l' : Ents} {g : Bool} : ∀ (xs : List Operand), (∀ t, .tmp t ∈ xs → look l' t = look l t) → evs l' g xs = evs l g xs := by
  intro xs
  induction xs with
  | nil => intro _; rfl
  | cons x r ih =>
    intro h
    simp only [evs, evg_congr (l := l) (l' := l') (x := x) (fun t ht => h t (by simp [ht])), ih (fun t ht => h t (by simp [ht]))]
theorem evp_congr {l l' : Ents} {g : Bool} : ∀ (xs : List (Nat × Operand)), (∀ t, .tmp t ∈ xs.map (·.2) → look l' t = look l t) → evp l' g xs = evp l g xs := by
  intro xs
  induction xs with
  | nil => intro _; rfl
  | cons x r ih =>
    intro h
    obtain ⟨i, x⟩ := x
    simp only [evp, evg_congr (l := l) (l' := l') (x := x) (fun t ht => h t (by simp [ht])), ih (fun t ht => h t (by rw [List.map_cons]; exact List.mem_cons_of_mem _ ht))]
theorem evo_congr {l l' : Ents} {g : Bool} {x : Option Operand} (h : ∀ t, x = some (.tmp t) → look l' t = look l t) : evo l' g x = evo l g x := by
  cases x with
  | none => rfl
  | some x => simp only [evo, evg_congr (l := l) (l' := l') (x := x) (fun t ht => h t (by rw [ht]))]

theorem qv_congr {P : Program} {l l' : Ents} {g : Bool} {H : Hp} {o : Oper} (h : ∀ t, .tmp t ∈ o.op.operands.toList → look l' t = look l t) : qv P l' g H o = qv P l g H o := by
  have e : ∀ (x : Operand) (g : Bool), x ∈ o.op.operands.toList → evg l' g x = evg l g x := fun x g hx => evg_congr fun t ht => h t (ht ▸ hx)
  have es : ∀ (xs : List Operand) (g : Bool), (∀ x ∈ xs, x ∈ o.op.operands.toList) → evs l' g xs = evs l g xs := fun xs g hx => evs_congr xs fun t ht => h t (hx _ ht)
  have ep : ∀ (xs : List (Nat × Operand)) (g : Bool), (∀ x ∈ xs.map (·.2), x ∈ o.op.operands.toList) → evp l' g xs = evp l g xs := fun xs g hx => evp_congr xs fun t ht => h t (hx _ ht)
  have eo : ∀ (x : Option Operand) (g : Bool), (∀ y, x = some y → y ∈ o.op.operands.toList) → evo l' g x = evo l g x := fun x g hx => evo_congr fun t ht => h t (hx _ ht)
  unfold qv
  clear h
  cases hop : o.op <;> rw [hop] at e es ep eo <;> simp only [Op.operands] at e es ep eo ⊢
  case move x => rw [e x g (by simp)]
  case assign x => rw [e x g (by simp)]
  case pick c x y =>
    rw [e c g (by simp)]
    split
    · rename_i t _
      rw [e x _ (by simp), e y _ (by simp)]
    · rfl
  case binOp op t x y ty => rw [e x g (by simp), e y g (by simp)]
  case unOp op t x => rw [e x g (by simp)]
  case convert s d x => rw [e x g (by simp)]
  case extract x i => rw [e x g (by simp)]
  case load t x => rw [e x g (by simp)]
  case nilCheck x => rw [e x g (by simp)]
  case indexAddr t x i => rw [e x g (by simp), e i g (by simp)]
  case index t x i => rw [e x g (by simp), e i g (by simp)]
  case fieldAddr t x f => rw [e x g (by simp)]
  case field t x f => rw [e x g (by simp)]
  case slice t x lo hi mx =>
    rw [e x g (by simp), eo lo g (fun y hy => by simp [hy]), eo hi g (fun y hy => by simp [hy]), eo mx g (fun y hy => by simp [hy])]
  case makeFunc fn f c => rw [es f.toList g (fun x hx => by simp at hx ⊢; exact .inl hx), es c.toList g (fun x hx => by simp at hx ⊢; exact .inr hx)]
  case build t ps => rw [ep ps.toList g (fun x hx => by simpa using hx)]
  case call c =>
    obtain ⟨callee, args, ats⟩ := c
    cases callee with
    | value f => rfl
    | invoke r m => rfl
    | builtin b => simp only; rw [es args.toList g (fun x hx => by simp [Call.operands] at hx ⊢; exact hx)]

theorem gval_congr {ops : Array Oper} {l l' : Ents} {o : Oper} (h : ∀ t ∈ o.looksAt ops, look l' t = look l t) : gval ops l' o = gval ops l o := by
  unfold gval
  cases ho : o.guard with
  | none => rfl
  | some p =>
    obtain ⟨j, want⟩ := p
    simp only
    cases hd : (ops[j]?).bind (·.dst) with
    | none => rfl
    | some d =>
      simp only
      rw [h d (by simp [Oper.looksAt, ho, hd])]

theorem mem_looks {ops : Array Oper} {o : Oper} {t : Tmp} (h : .tmp t ∈ o.op.operands.toList) : t ∈ o.looksAt ops := by
  unfold Oper.looksAt
  rw [List.mem_append]
  exact .inl (List.mem_filterMap.2 ⟨.tmp t, h, rfl⟩)

def only (ts : List Tmp) (l : Ents) : Ents := l.filter fun e => ts.contains e.1
theorem look_only (ts : List Tmp) : ∀ (l : Ents) (t : Tmp), look (only ts l) t = if ts.contains t then look l t else none := by
  intro l
  induction l with
  | nil => intro t; simp [only, look]
  | cons e r ih =>
    intro t
    obtain ⟨i, p⟩ := e
    unfold only at ih ⊢
    rw [List.filter_cons]
    by_cases hi : ts.contains i = true
    · rw [if_pos hi]
      simp only [look]
      by_cases e : i = t
      · subst e; rw [if_pos rfl, if_pos rfl, if_pos hi]
      · rw [if_neg e, if_neg e]; exact ih t
    · rw [if_neg hi, ih t]
      by_cases e : i = t
      · subst e; rw [if_neg hi, if_neg hi]
      · simp [look, e]

/-- one operation that leaves the memory alone, run where what it looks at is as the entries say -/
theorem wp_one {P : Program} {n : Nat} {ops : Array Oper} {l : Ents} {o : Oper} {H : Hp} {g : Bool} {v : Value} {a : Act} {w : World} {next : Act → World → Prop} {Q : Exit → Act → World → Prop}
    (he : EnvOk n (only (o.looksAt ops) l) a) (f : Fit Ω H w) (hg : gval ops l o = some g) (hv : g = true → qv P l true H o = some v ∨ hgen P l o H fun v' H' => v' = v ∧ Ext H H')
    (hn : ∀ w', Fit Ω H w' → next (a.put o.dst (if g = true then v else undef)) w') :
    if Region.wanted o (yielded ops a.tmps) then o.wp P a w next Q ∨ (o.asks P a w ∧ LetsOut Q) else next (a.put o.dst undef) w := by
  have hl : ∀ t ∈ o.looksAt ops, look (only (o.looksAt ops) l) t = look l t := by
    intro t ht
    rw [look_only, if_pos (by simpa using ht)]
  have hw := gval_ok he ((gval_congr hl).trans hg)
  rw [hw]
  cases g with
  | false =>
    rw [if_neg (by simp)]
    have := hn w f
    rwa [if_neg (by simp)] at this
  | true =>
    rw [if_pos rfl]
    simp only [if_true] at hn
    refine .inl ?_
    rcases hv rfl with hv | hv
    · have hv' := (qv_congr (P := P) (g := true) (H := H) (fun t ht => hl t (mem_looks ht))).trans hv
      unfold Oper.wp
      rw [qv_ok he f hv']
      exact hn w f
    · refine hgen_ok he f (hgen_congr (fun t ht => hl t (mem_looks ht)) hv) ?_
      rintro v' H' w' ⟨rfl, hx⟩ fw'
      exact hn w' (fw'.weaken hx)
/-- what is known of the quiet operations of a segment, in the segment's last entries -/
def Fact (P : Program) (ops : Array Oper) (H : Hp) (lF : Ents) (i : Nat) : Prop :=
  ∃ o g v, ops[i]? = some o ∧ gval ops lF o = some g ∧ (g = true → qv P lF true H o = some v ∨ (dryOp o.op = false ∧ hgen P lF o H fun v' H' => v' = v ∧ Ext H H')) ∧ ∀ d, o.dst = some d → look lF d = some (g, v)

theorem look_put {l : Ents} {dst : Option Tmp} {g : Bool} {v : Value} {t : Tmp} (h : dst ≠ some t) : look (putE l dst g v) t = look l t := by
  cases dst with
  | none => rfl
  | some d => simp only [putE, look]; rw [if_neg (fun e => h (by rw [e]))]

theorem chk_reads {ops : Array Oper} {tab : List (Nat × List Nat)} {seen : List Nat} {i : Nat} {b : Bool} {r : List (Nat × Bool)} (h : chkGo ops tab seen ((i, b) :: r) = true) :
    (∃ o, ops[i]? = some o) ∧ (∀ j ∈ preAt ops i, j ∈ seen) ∧ i ∉ seen ∧ (b = true → (∀ j ∈ seen, j ∈ ancOf tab i ∨ dry ops j = true) ∧ ∀ k ∈ r, i ∈ ancOf tab k.1) ∧
    (∀ d, dstOf ops i = some d → d ∉ readsOf ops i ∧ ∀ k ∈ r, dstOf ops k.1 ≠ some d) ∧ (∀ k ∈ r, ∀ d, dstOf ops k.1 = some d → d ∉ readsOf ops i) ∧
    (∀ j ∈ seen, ∀ d, dstOf ops j = some d → d ∈ readsOf ops i → j ∈ ancOf tab i) ∧ chkGo ops tab (i :: seen) r = true := by
  unfold chkGo at h
  simp only [Bool.and_eq_true] at h
  obtain ⟨⟨⟨⟨⟨⟨⟨h1, h2⟩, h3⟩, h4⟩, h5⟩, h6⟩, h7⟩, h8⟩ := h
  refine ⟨Option.isSome_iff_exists.1 h1, ?_, ?_, ?_, ?_, ?_, ?_, h8⟩
  · intro j hj
    simpa using List.all_eq_true.1 h2 j hj
  · simpa using h3
  · intro hb
    subst hb
    simp only [Bool.not_true, Bool.false_or, Bool.and_eq_true] at h4
    exact ⟨fun j hj => by have := List.all_eq_true.1 h4.1 j hj; simpa [Bool.or_eq_true] using this, fun k hk => by simpa using List.all_eq_true.1 h4.2 k hk⟩
  · intro d hd
    rw [hd] at h5
    simp only [Option.all_some, Bool.and_eq_true] at h5
    exact ⟨by simpa using h5.1, fun k hk => by simpa using List.all_eq_true.1 h5.2 k hk⟩
  · intro k hk d hd
    have := List.all_eq_true.1 h6 k hk
    rw [hd] at this
    simpa using this
  · intro j hj d hd hr
    have := List.all_eq_true.1 h7 j hj
    rw [hd] at this
    simp only [Option.all_some, Bool.or_eq_true] at this
    rcases this with h | h
    · exact absurd hr (by simpa using h)
    · simpa using h

theorem reads_at {ops : Array Oper} {i : Nat} {o : Oper} (h : ops[i]? = some o) : readsOf ops i = o.looksAt ops := by simp [readsOf, h]
theorem dst_at {ops : Array Oper} {i : Nat} {o : Oper} (h : ops[i]? = some o) : dstOf ops i = o.dst := by simp [dstOf, h]
theorem pre_at {ops : Array Oper} {i : Nat} {o : Oper} (h : ops[i]? = some o) : preAt ops i = pre o := by simp [preAt, h]

/-- the rest of an order, its next segment of quiet operations taken off -/
theorem seg_split {P : Program} {ops : Array Oper} {tab : List (Nat × List Nat)} {K : Ents → Hp → Prop} : ∀ (todo : List (Nat × Bool)) (seen : List Nat) (l : Ents) (H : Hp),
    chkGo ops tab seen todo = true → hseg P ops todo l H K →
    ∃ (S : List Nat) (rest : List (Nat × Bool)) (lF : Ents), todo = S.map (·, false) ++ rest ∧ (∀ e r, rest = e :: r → e.2 = true) ∧ hseg P ops rest lF H K ∧
      (∀ i ∈ S, Fact P ops H lF i) ∧ (∀ t, (∀ i ∈ S, dstOf ops i ≠ some t) → look lF t = look l t) := by
  intro todo
  induction todo with
  | nil => exact fun seen l H _ h => ⟨[], [], l, rfl, by simp, h, by simp, fun t _ => rfl⟩
  | cons x r ih =>
    intro seen l H hc h
    obtain ⟨i, b⟩ := x
    cases b with
    | true => exact ⟨[], (i, true) :: r, l, rfl, by intro e r' h; cases h; rfl, h, by simp, fun t _ => rfl⟩
    | false =>
      obtain ⟨⟨o, ho⟩, _, _, _, hd, hr, _, hc'⟩ := chk_reads hc
      obtain ⟨o', ho', g, hg, h⟩ := h
      rw [ho] at ho'
      cases ho'
      · simp only [Bool.false_eq_true, if_false] at h
        obtain ⟨v, hv, h⟩ := h
        obtain ⟨S, rest, lF, hS, hrest, hK, hF, hlook⟩ := ih (i :: seen) _ H hc' h
        have hmem : ∀ k ∈ S, (k, false) ∈ r := fun k hk => by rw [hS]; exact List.mem_append.2 (.inl (List.mem_map.2 ⟨k, hk, rfl⟩))
        have hrd : ∀ t ∈ o.looksAt ops, look lF t = look l t := by
          intro t ht
          rw [← reads_at ho] at ht
          rw [hlook t (fun k hk e => hr _ (hmem k hk) t e ht), look_put]
          intro e
          exact (hd t (by rw [dst_at ho]; exact e)).1 ht
        refine ⟨i :: S, rest, lF, by rw [hS]; rfl, hrest, hK, ?_, ?_⟩
        · intro k hk
          rcases List.mem_cons.1 hk with rfl | hk
          · refine ⟨o, g, v, ho, (gval_congr hrd).trans hg, ?_, ?_⟩
            · exact fun e => (hv e).imp (fun hv => (qv_congr fun t ht => hrd t (mem_looks ht)).trans hv) fun hv => ⟨hv.1, hgen_congr (fun t ht => hrd t (mem_looks ht)) hv.2⟩
            · intro d hdd
              rw [hlook d (fun k hk e => (hd d (by rw [dst_at ho]; exact hdd)).2 _ (hmem k hk) e), hdd]
              simp [putE, look]
          · exact hF k hk
        · intro t ht
          rw [hlook t (fun k hk => ht k (List.mem_cons_of_mem _ hk)), look_put]
          rw [← dst_at ho]
          exact ht i (by simp)

theorem chk_append {ops : Array Oper} {tab : List (Nat × List Nat)} : ∀ (A B : List (Nat × Bool)) (seen : List Nat), chkGo ops tab seen (A ++ B) = true → chkGo ops tab ((A.map (·.1)).reverse ++ seen) B = true := by
  intro A
  induction A with
  | nil => exact fun B seen h => h
  | cons x A ih =>
    intro B seen h
    obtain ⟨i, b⟩ := x
    have := ih B (i :: seen) (chk_reads h).2.2.2.2.2.2.2
    simpa using this

/-- a fact that the memory has no say in stands in any memory, and where its reads and its place stay -/
theorem Fact.move {P : Program} {ops : Array Oper} {H H' : Hp} {lF lF' : Ents} {i : Nat} (h : Fact P ops H lF i) (hd : dry ops i = true)
    (hr : ∀ t, (t ∈ readsOf ops i ∨ dstOf ops i = some t) → look lF' t = look lF t) : Fact P ops H' lF' i := by
  obtain ⟨o, g, v, ho, hg, hv, hl⟩ := h
  rw [dry_at ho] at hd
  refine ⟨o, g, v, ho, (gval_congr fun t ht => hr t (.inl (by rw [reads_at ho]; exact ht))).trans hg, fun e => ?_, fun d hdd => by rw [hr d (.inr (by rw [dst_at ho]; exact hdd))]; exact hl d hdd⟩
  rcases hv e with hv | hv
  · refine .inl ?_
    rw [qv_dry hd H' H]
    exact (qv_congr fun t ht => hr t (.inl (by rw [reads_at ho]; exact mem_looks ht))).trans hv
  · rw [hd] at hv; cases hv.1
/-- the state of a walk within a segment; E: those of elder segments that the memory has no say in and that may still be open -/
structure Inv (P : Program) (n : Nat) (ops : Array Oper) (tab : List (Nat × List Nat)) (π : List (Nat × Bool)) (K : Ents → Hp → Prop) (fuel : Nat) (listed : Array Bool) (a : Act) (w : World)
    (done : List Nat) (E S : List Nat) (rest : List (Nat × Bool)) (lF : Ents) (H : Hp) : Prop where
  sz : listed.size = ops.size
  clo : ∀ i, listed.getD i false = true → ∀ j ∈ preAt ops i, listed.getD j false = true
  dn : ∀ i ∈ done, listed.getD i false = true ∨ i ∈ E
  chk : chkGo ops tab done (S.map (·, false) ++ rest) = true
  all : ∀ i, i < ops.size → i ∈ done ∨ i ∈ S ∨ i ∈ rest.map (·.1)
  sub : ∀ i, i ∈ S ∨ i ∈ E → i ∈ π.map (·.1)
  un : ∀ i ∈ rest.map (·.1), listed.getD i false = false
  bar : ∀ e r, rest = e :: r → e.2 = true
  facts : ∀ i, i ∈ S ∨ i ∈ E → Fact P ops H lF i
  eld : ∀ i ∈ E, dry ops i = true ∧ i ∈ done ∧ ∀ s ∈ rest.map (·.1), ∀ d, dstOf ops s = some d → d ∉ readsOf ops i ∧ dstOf ops i ≠ some d
  env : a.defers = [] ∧ a.tmps.size = n ∧ ∀ t g v, look lF t = some (g, v) → (∀ i, i ∈ S ∨ i ∈ E → listed.getD i false = false → dstOf ops i ≠ some t) → a.tmps[t]? = some (if g = true then v else undef)
  fit : Fit Ω H w
  seg : hseg P ops rest lF H K
  cnt : ((List.range ops.size).filter fun i => !listed.getD i false).length ≤ fuel

theorem anc_listed {ops : Array Oper} {listed : Array Bool} (hc : ∀ i, listed.getD i false = true → ∀ j ∈ preAt ops i, listed.getD j false = true) {i j : Nat} (ha : Anc ops j i) :
    (∀ k ∈ preAt ops i, listed.getD k false = true) → listed.getD j false = true := by
  induction ha with
  | one h hj => exact fun hp => hp _ (by rw [pre_at h]; exact hj)
  | more h hk _ ih => exact fun hp => ih (hc _ (hp _ (by rw [pre_at h]; exact hk)))

theorem ready_iff {ops : Array Oper} {listed : Array Bool} (hs : listed.size = ops.size) {i : Nat} :
    i ∈ Region.ready .any ops listed ↔ i < ops.size ∧ listed.getD i false = false ∧ ∀ j ∈ preAt ops i, listed.getD j false = true := by
  unfold Region.ready
  rw [List.mem_filter, List.mem_range, Bool.and_eq_true]
  constructor
  · rintro ⟨hi, h1, h2⟩
    refine ⟨hi, ?_, ?_⟩
    · have hi' : i < listed.size := hs ▸ hi
      simp [Array.getD, hi'] at h1 ⊢
      exact h1
    · intro j hj
      unfold preAt at hj
      cases ho : ops[i]? with
      | none => simp [ho] at hj
      | some o =>
        simp only [ho, pre] at hj
        rw [ho] at h2
        simp only [Option.map_some, Option.getD_some, Array.all_eq_true_iff_forall_mem] at h2
        obtain ⟨e, he, rfl⟩ := List.mem_map.1 hj
        obtain ⟨he1, he2⟩ := List.mem_filter.1 he
        have := h2 e (by simpa using he1)
        simpa [he2] using this
  · rintro ⟨hi, h1, h2⟩
    refine ⟨hi, ?_, ?_⟩
    · have hi' : i < listed.size := hs ▸ hi
      simp [Array.getD, hi'] at h1 ⊢
      exact h1
    · have ho : ops[i]? = some ops[i] := Array.getElem?_eq_getElem hi
      rw [ho]
      simp only [Option.map_some, Option.getD_some, Array.all_eq_true_iff_forall_mem]
      intro e he
      by_cases hb : Region.binds .any e = true
      · have := h2 e.on (by
          rw [pre_at ho]; unfold pre
          exact List.mem_map.2 ⟨e, List.mem_filter.2 ⟨by simpa using he, hb⟩, rfl⟩)
        simp [this]
      · simp [hb]

theorem getD_set {listed : Array Bool} {i k : Nat} (hi : i < listed.size) : (listed.setIfInBounds i true).getD k false = if k = i then true else listed.getD k false := by
  simp only [Array.getD_eq_getD_getElem?]
  by_cases e : k = i
  · subst e; rw [if_pos rfl, Array.getElem?_setIfInBounds_self_of_lt hi]; rfl
  · rw [if_neg e, Array.getElem?_setIfInBounds_ne (fun h => e h.symm)]

theorem cnt_set {listed : Array Bool} {i m fuel : Nat} (hi : i < listed.size) (hm : i < m) (hu : listed.getD i false = false)
    (hc : ((List.range m).filter fun i => !listed.getD i false).length ≤ fuel + 1) : ((List.range m).filter fun k => !(listed.setIfInBounds i true).getD k false).length ≤ fuel := by
  have key : ∀ (l : List Nat), l.Nodup → i ∈ l → (l.filter fun k => !(listed.setIfInBounds i true).getD k false).length + 1 = (l.filter fun k => !listed.getD k false).length := by
    intro l
    induction l with
    | nil => intro _ h; cases h
    | cons x r ih =>
      intro hn hmem
      rw [List.nodup_cons] at hn
      by_cases e : x = i
      · subst e
        have hr : ∀ k ∈ r, ((fun k => !(listed.setIfInBounds x true).getD k false) k) = ((fun k => !listed.getD k false) k) := by
          intro k hk
          simp only [getD_set hi]
          rw [if_neg (fun (e : k = x) => hn.1 (e ▸ hk))]
        rw [List.filter_cons, List.filter_cons]
        simp only [getD_set hi, if_true, hu]
        rw [List.filter_congr (l := r) (q := fun k => !listed.getD k false) (fun k hk => by have := hr k hk; simp only [getD_set hi] at this; exact this)]
        simp
      · have hmr : i ∈ r := by
          rcases List.mem_cons.1 hmem with h | h
          · exact absurd h.symm e
          · exact h
        have := ih hn.2 hmr
        rw [List.filter_cons, List.filter_cons]
        simp only [getD_set hi, if_neg e] at this ⊢
        cases listed.getD x false
        · simp only [Bool.not_false, if_true, List.length_cons]; omega
        · simp only [Bool.not_true, Bool.false_eq_true, if_false]; exact this
  have := key (List.range m) List.nodup_range (List.mem_range.2 hm)
  omega

theorem chk_ready {ops : Array Oper} {tab : List (Nat × List Nat)} {listed : Array Bool} : ∀ (todo : List (Nat × Bool)) (seen : List Nat), chkGo ops tab seen todo = true → (∀ j ∈ seen, listed.getD j false = true) →
    (∃ k ∈ todo.map (·.1), listed.getD k false = false) → ∃ k ∈ todo.map (·.1), listed.getD k false = false ∧ (∃ o, ops[k]? = some o) ∧ ∀ j ∈ preAt ops k, listed.getD j false = true := by
  intro todo
  induction todo with
  | nil => rintro seen _ _ ⟨k, hk, _⟩; cases hk
  | cons x r ih =>
    rintro seen hc hs ⟨k, hk, hu⟩
    obtain ⟨i, b⟩ := x
    obtain ⟨ho, hp, _, _, _, _, _, hc'⟩ := chk_reads hc
    by_cases hi : listed.getD i false = false
    · exact ⟨i, by simp, hi, ho, fun j hj => hs j (hp j hj)⟩
    · have hi' : listed.getD i false = true := by simpa using hi
      have hk' : k ∈ r.map (·.1) := by
        rcases List.mem_cons.1 hk with h | h
        · exact absurd hu (by rw [h]; simpa using hi')
        · exact h
      obtain ⟨k2, h1, h2, h3, h4⟩ := ih (i :: seen) hc' (fun j hj => by rcases List.mem_cons.1 hj with h | h; exact h ▸ hi'; exact hs j h) ⟨k, hk', hu⟩
      exact ⟨k2, List.mem_cons_of_mem _ h1, h2, h3, h4⟩

theorem chk_notin {ops : Array Oper} {tab : List (Nat × List Nat)} : ∀ (todo : List (Nat × Bool)) (seen : List Nat), chkGo ops tab seen todo = true → ∀ k ∈ todo.map (·.1), k ∉ seen := by
  intro todo
  induction todo with
  | nil => intro _ _ k hk; cases hk
  | cons x r ih =>
    intro seen hc k hk
    obtain ⟨i, b⟩ := x
    obtain ⟨_, _, hni, _, _, _, _, hc'⟩ := chk_reads hc
    rcases List.mem_cons.1 hk with h | h
    · rw [h]; exact hni
    · exact fun hm => ih _ hc' k h (List.mem_cons_of_mem _ hm)

theorem chk_dst {ops : Array Oper} {tab : List (Nat × List Nat)} : ∀ (todo : List (Nat × Bool)) (seen : List Nat), chkGo ops tab seen todo = true →
    ∀ i ∈ todo.map (·.1), ∀ s, (s ∈ seen ∨ s ∈ todo.map (·.1)) → ∀ t, dstOf ops s = some t → t ∈ readsOf ops i → s ∈ ancOf tab i := by
  intro todo
  induction todo with
  | nil => intro _ _ i hi; cases hi
  | cons x r ih =>
    intro seen hc i hi s hs t ht hr
    obtain ⟨k, b⟩ := x
    obtain ⟨_, _, _, _, hd, hl, he, hc'⟩ := chk_reads hc
    rcases List.mem_cons.1 hi with h | h
    · subst h
      rcases hs with hs | hs
      · exact he s hs t ht hr
      · rcases List.mem_cons.1 hs with h | h
        · subst h; exact absurd hr (hd t ht).1
        · obtain ⟨p, hp, rfl⟩ := List.mem_map.1 h
          exact absurd hr (hl p hp t ht)
    · refine ih (k :: seen) hc' i h s ?_ t ht hr
      rcases hs with hs | hs
      · exact .inl (List.mem_cons_of_mem _ hs)
      · rcases List.mem_cons.1 hs with h | h
        · exact .inl (by rw [h]; simp)
        · exact .inr h

theorem chk_some {ops : Array Oper} {tab : List (Nat × List Nat)} : ∀ (todo : List (Nat × Bool)) (seen : List Nat), chkGo ops tab seen todo = true → ∀ k ∈ todo.map (·.1), ∃ o, ops[k]? = some o := by
  intro todo
  induction todo with
  | nil => intro _ _ k hk; cases hk
  | cons x r ih =>
    intro seen hc k hk
    obtain ⟨i, b⟩ := x
    obtain ⟨ho, _, _, _, _, _, _, hc'⟩ := chk_reads hc
    rcases List.mem_cons.1 hk with h | h
    · rw [h]; exact ho
    · exact ih _ hc' k h

theorem chk_pairs {ops : Array Oper} {tab : List (Nat × List Nat)} : ∀ (A B : List (Nat × Bool)) (seen : List Nat), chkGo ops tab seen (A ++ B) = true →
    ∀ k ∈ A.map (·.1), ∀ s ∈ B.map (·.1), ∀ d, dstOf ops s = some d → d ∉ readsOf ops k ∧ dstOf ops k ≠ some d := by
  intro A
  induction A with
  | nil => intro B seen _ k hk; cases hk
  | cons x A ih =>
    intro B seen hc k hk s hs d hd
    obtain ⟨i, b⟩ := x
    obtain ⟨_, _, _, _, h5, h6, _, hc'⟩ := chk_reads hc
    rcases List.mem_cons.1 hk with h | h
    · subst h
      obtain ⟨q, hq, rfl⟩ := List.mem_map.1 hs
      refine ⟨h6 q (List.mem_append.2 (.inr hq)) d hd, fun e => ?_⟩
      exact (h5 d e).2 q (List.mem_append.2 (.inr hq)) hd
    · exact ih B _ hc' k h s hs d hd

theorem some_lt {ops : Array Oper} {i : Nat} {o : Oper} (h : ops[i]? = some o) : i < ops.size := by
  rcases Nat.lt_or_ge i ops.size with h' | h'
  · exact h'
  · rw [Array.getElem?_eq_none h'] at h; cases h

section
variable {P : Program} {n : Nat} {ops : Array Oper} {tab : List (Nat × List Nat)} {K : Ents → Hp → Prop} {Q : Exit → Act → World → Prop}

theorem Inv.fin {π : List (Nat × Bool)} {fuel : Nat} {listed : Array Bool} {a : Act} {w : World} {done E S : List Nat} {rest : List (Nat × Bool)} {lF : Ents} {H : Hp}
    (hQ : ∀ l H a w, K l H → EnvOk n l a → Fit Ω H w → Q .normal a w) (h : Inv (Ω := Ω) P n ops tab π K fuel listed a w done E S rest lF H) (hall : ∀ i, i < ops.size → listed.getD i false = true) : Q .normal a w := by
  have hr : rest = [] := by
    cases hrest : rest with
    | nil => rfl
    | cons e r =>
      have hc := chk_append _ _ _ h.chk
      obtain ⟨o, ho⟩ := chk_some _ _ hc e.1 (by rw [hrest]; simp)
      have h1 := h.un e.1 (by rw [hrest]; simp)
      rw [hall _ (some_lt ho)] at h1; cases h1
  have hs := h.seg
  rw [hr] at hs
  refine hQ lF H a w hs ⟨h.env.1, h.env.2.1, fun t g v hl => h.env.2.2 t g v hl fun i hi hu => ?_⟩ h.fit
  obtain ⟨o, g', v', ho, _⟩ := h.facts i hi
  rw [hall _ (some_lt ho)] at hu; cases hu

theorem Inv.any {π : List (Nat × Bool)} (hπ : chkGo ops tab [] π = true) (hπa : ∀ i, i < ops.size → i ∈ π.map (·.1)) (hd : ∀ i d, dstOf ops i = some d → d < n) (ht : TabOk ops tab) (hQ : ∀ l H a w, K l H → EnvOk n l a → Fit Ω H w → Q .normal a w) :
    ∀ (fuel : Nat) (listed : Array Bool) (a : Act) (w : World) (done E S : List Nat) (rest : List (Nat × Bool)) (lF : Ents) (H : Hp),
      Inv (Ω := Ω) P n ops tab π K fuel listed a w done E S rest lF H → wpAny P .any ops Q fuel listed a w := by
  intro fuel
  induction fuel with
  | zero =>
    intro listed a w done E S rest lF H h
    have hall : ∀ i, i < ops.size → listed.getD i false = true := by
      intro i hi
      have hc := List.eq_nil_of_length_eq_zero (Nat.le_zero.1 h.cnt)
      have : i ∉ (List.range ops.size).filter fun i => !listed.getD i false := by rw [hc]; simp
      rw [List.mem_filter] at this
      cases hl : listed.getD i false with
      | true => rfl
      | false => exact absurd ⟨List.mem_range.2 hi, by simp only [hl, Bool.not_false]⟩ this
    refine ⟨?_, h.fin hQ hall⟩
    cases hr : Region.ready .any ops listed with
    | nil => rfl
    | cons x r =>
      have hx : x ∈ Region.ready .any ops listed := by rw [hr]; simp
      obtain ⟨h1, h2, _⟩ := (ready_iff h.sz).1 hx
      rw [hall x h1] at h2; cases h2
  | succ fuel ih =>
    intro listed a w done E S rest lF H h
    have hcr := chk_append _ _ _ h.chk
    rw [show ((S.map (·, false)).map (·.1)).reverse ++ done = S.reverse ++ done by simp [Function.comp_def]] at hcr
    refine ⟨fun hr => h.fin hQ fun i hi => ?_, ?_⟩
    · -- nothing is ready: all are listed
      cases hl : listed.getD i false with
      | true => rfl
      | false =>
        obtain ⟨k, _, hu, ⟨o, ho⟩, hp⟩ := chk_ready π [] hπ (fun _ hj => by cases hj) ⟨i, hπa i hi, hl⟩
        have : k ∈ Region.ready .any ops listed := (ready_iff h.sz).2 ⟨some_lt ho, hu, hp⟩
        rw [hr] at this; cases this
    · intro i hi
      obtain ⟨hi1, hi2, hi3⟩ := (ready_iff h.sz).1 hi
      have hisz : i < listed.size := h.sz ▸ hi1
      have anc : ∀ j, j ∈ ancOf tab i → listed.getD j false = true := fun j hj => anc_listed h.clo (ht _ _ hj) hi3
      have clo' : ∀ k, (listed.setIfInBounds i true).getD k false = true → ∀ j ∈ preAt ops k, (listed.setIfInBounds i true).getD j false = true := by
        intro k hk j hj
        rw [getD_set hisz] at hk ⊢
        split
        · rfl
        · split at hk
          · rename_i e; subst e; exact hi3 j hj
          · exact h.clo k hk j hj
      have cnt' := cnt_set hisz hi1 hi2 h.cnt
      have hseen : ∀ t ∈ readsOf ops i, ∀ s, s ∈ S ∨ s ∈ E → listed.getD s false = false → dstOf ops s ≠ some t := by
        intro t hin s hs hsu hds
        have := chk_dst π [] hπ i (hπa i hi1) s (.inr (h.sub s hs)) t hds hin
        rw [anc s this] at hsu; cases hsu
      by_cases hSE : i ∈ S ∨ i ∈ E
      · obtain ⟨o, g, v, ho, hg, hv, hlk⟩ := h.facts i hSE
        unfold wpOp
        rw [ho]
        simp only
        have henv : EnvOk n (only (o.looksAt ops) lF) a := by
          refine ⟨h.env.1, h.env.2.1, ?_⟩
          intro t g' v' hl
          rw [look_only] at hl
          split at hl
          · rename_i hin
            have hin : t ∈ readsOf ops i := by rw [reads_at ho]; simpa using hin
            exact h.env.2.2 t g' v' hl fun s hs hsu => hseen t hin s hs hsu
          · cases hl
        refine wp_one henv h.fit hg (fun e => (hv e).imp id (·.2)) fun w' fw' => ih _ _ _ done E S rest lF H ?_
        have hnotin : ∀ k ∈ rest.map (·.1), k ≠ i := by
          rintro k hk rfl
          refine chk_notin _ _ hcr k hk ?_
          rcases hSE with h1 | h1
          · simp [h1]
          · simp [(h.eld k h1).2.1]
        refine ⟨by simp [h.sz], clo', fun k hk => ?_, h.chk, h.all, h.sub, fun k hk => ?_, h.bar, h.facts, h.eld, ⟨?_, ?_, ?_⟩, fw', h.seg, cnt'⟩
        · rw [getD_set hisz]; split
          · exact .inl rfl
          · exact h.dn k hk
        · rw [getD_set hisz, if_neg (hnotin k hk)]; exact h.un k hk
        · cases o.dst <;> exact h.env.1
        · cases hdo : o.dst with
          | none => exact h.env.2.1
          | some d => simp only [Act.put, Array.size_setIfInBounds]; exact h.env.2.1
        · intro t g' v' hl hpend
          by_cases htd : o.dst = some t
          · have hlt : t < n := hd i t (by rw [dst_at ho]; exact htd)
            rw [hlk t htd] at hl
            cases hl
            rw [htd]
            simp only [Act.put]
            rw [Array.getElem?_setIfInBounds_self_of_lt (by rw [h.env.2.1]; exact hlt)]
          · have e1 : (a.put o.dst (if g = true then v else undef)).tmps[t]? = a.tmps[t]? := by
              cases hdo : o.dst with
              | none => rfl
              | some d =>
                simp only [Act.put]
                rw [Array.getElem?_setIfInBounds_ne (fun e => htd (by rw [hdo, e]))]
            rw [e1]
            refine h.env.2.2 t g' v' hl fun s hs hsu => ?_
            by_cases e : s = i
            · subst e; rw [dst_at ho]; exact htd
            · exact hpend s hs (by rw [getD_set hisz, if_neg e]; exact hsu)
      · -- a barrier
        have hir : i ∈ rest.map (·.1) := by
          rcases h.all i hi1 with h1 | h1 | h1
          · rcases h.dn i h1 with h2 | h2
            · rw [h2] at hi2; cases hi2
            · exact absurd (.inr h2) hSE
          · exact absurd (.inl h1) hSE
          · exact h1
        cases hrest : rest with
        | nil => rw [hrest] at hir; cases hir
        | cons e r =>
          have hb := h.bar e r hrest
          obtain ⟨e0, eb⟩ := e
          simp only at hb
          subst hb
          have hun := h.un
          have hsg := h.seg
          have hall := h.all
          have held := h.eld
          have hck := h.chk
          rw [hrest] at hcr hir hun hsg hall held hck
          obtain ⟨_, _, hne, hbar, _, _, _, hcr'⟩ := chk_reads hcr
          have hie : i = e0 := by
            rcases List.mem_cons.1 hir with h2 | h2
            · exact h2
            · obtain ⟨p, hp, hpe⟩ := List.mem_map.1 h2
              have := anc e0 (by rw [← hpe]; exact (hbar rfl).2 p hp)
              rw [hun e0 (by simp)] at this; cases this
          subst hie
          have hSl : ∀ s ∈ S, listed.getD s false = true ∨ dry ops s = true := by
            intro s hs
            exact ((hbar rfl).1 s (by simp [hs])).imp (anc s) id
          obtain ⟨o, ho, g, hg, hsg⟩ := hsg
          have henv : EnvOk n (only (o.looksAt ops) lF) a := by
            refine ⟨h.env.1, h.env.2.1, ?_⟩
            intro t g' v' hl
            rw [look_only] at hl
            split at hl
            · rename_i hin
              have hin : t ∈ readsOf ops i := by rw [reads_at ho]; simpa using hin
              exact h.env.2.2 t g' v' hl fun s hs hsu => hseen t hin s hs hsu
            · cases hl
          have hlo : ∀ t ∈ o.looksAt ops, look (only (o.looksAt ops) lF) t = look lF t := by
            intro t ht
            rw [look_only, if_pos (by simpa using ht)]
          unfold wpOp
          rw [ho]
          · simp only
            · simp only [if_true] at hsg
              rw [gval_ok henv ((gval_congr hlo).trans hg)]
              have hdo : o.dst.all (· < n) = true := by
                cases hdo : o.dst with
                | none => rfl
                | some d => simpa using hd i d (by rw [dst_at ho]; exact hdo)
              have next : ∀ (g : Bool) (v : Value) (H' : Hp) (w' : World), Fit Ω H' w' → hseg P ops r (putE lF o.dst g v) H' K →
                  wpAny P .any ops Q fuel (listed.setIfInBounds i true) (a.put o.dst (if g = true then v else undef)) w' := by
                intro g v H' w' fw' hs'
                obtain ⟨S', rest', lF', hS', hbar', hK', hF', hlook'⟩ := seg_split r _ _ _ hcr' hs'
                have hunr : ∀ k ∈ r.map (·.1), (listed.setIfInBounds i true).getD k false = false := by
                  intro k hk
                  rw [getD_set hisz, if_neg]
                  · exact hun k (List.mem_cons_of_mem _ hk)
                  · rintro rfl
                    exact chk_notin _ _ hcr' k hk (by simp)
                have hSr : ∀ k ∈ S', k ∈ r.map (·.1) := by
                  intro k hk
                  rw [hS', List.map_append, List.mem_append]; exact .inl (by simpa using hk)
                have hrr : ∀ k ∈ rest'.map (·.1), k ∈ r.map (·.1) := by
                  intro k hk
                  rw [hS', List.map_append, List.mem_append]; exact .inr hk
                have hlate : ∀ k, k ∈ S ∨ k ∈ E → ∀ s ∈ ((i, true) :: r).map (·.1), ∀ d, dstOf ops s = some d → d ∉ readsOf ops k ∧ dstOf ops k ≠ some d := by
                  rintro k (hk | hk) s hs
                  · exact chk_pairs _ _ _ hck k (by simpa using hk) s hs
                  · exact (held k hk).2.2 s hs
                have hstay : ∀ k, k ∈ S ∨ k ∈ E → ∀ t, (t ∈ readsOf ops k ∨ dstOf ops k = some t) → look lF' t = look lF t := by
                  intro k hk t htk
                  have hno : ∀ s ∈ ((i, true) :: r).map (·.1), dstOf ops s ≠ some t := by
                    intro s hs e
                    obtain ⟨q1, q2⟩ := hlate k hk s hs t e
                    rcases htk with h1 | h1
                    · exact q1 h1
                    · exact q2 h1
                  rw [hlook' t (fun s hs => hno s (List.mem_cons_of_mem _ (hSr s hs))), look_put]
                  have := hno i (by simp)
                  rwa [dst_at ho] at this
                refine ih _ _ _ (i :: (S.reverse ++ done)) (E ++ S.filter (dry ops)) S' rest' lF' H' ⟨by simp [h.sz], clo', ?_, by rw [← hS']; exact hcr', ?_, ?_, ?_, hbar', ?_, ?_, ⟨?_, ?_, ?_⟩, fw', hK', cnt'⟩
                · intro k hk
                  rw [getD_set hisz]
                  split
                  · exact .inl rfl
                  · rename_i hne
                    rcases List.mem_cons.1 hk with h1 | h1
                    · exact absurd h1 hne
                    · rcases List.mem_append.1 h1 with h1 | h1
                      · have h1 : k ∈ S := by simpa using h1
                        rcases hSl k h1 with h2 | h2
                        · exact .inl h2
                        · exact .inr (List.mem_append.2 (.inr (List.mem_filter.2 ⟨h1, h2⟩)))
                      · rcases h.dn k h1 with h2 | h2
                        · exact .inl h2
                        · exact .inr (List.mem_append.2 (.inl h2))
                · intro k hk
                  rcases hall k hk with h1 | h1 | h1
                  · exact .inl (by simp [h1])
                  · exact .inl (by simp [h1])
                  · rcases List.mem_cons.1 h1 with h2 | h2
                    · exact .inl (by simp only at h2; simp [h2])
                    · rw [hS', List.map_append, List.mem_append] at h2
                      rcases h2 with h2 | h2
                      · exact .inr (.inl (by simpa using h2))
                      · exact .inr (.inr h2)
                · rintro k (hk | hk)
                  · obtain ⟨o', ho'⟩ := chk_some _ _ hcr' k (hSr k hk)
                    exact hπa k (some_lt ho')
                  · rcases List.mem_append.1 hk with hk | hk
                    · exact h.sub k (.inr hk)
                    · exact h.sub k (.inl (List.mem_filter.1 hk).1)
                · exact fun k hk => hunr k (hrr k hk)
                · rintro k (hk | hk)
                  · exact hF' k hk
                  · rcases List.mem_append.1 hk with hk | hk
                    · exact (h.facts k (.inr hk)).move (held k hk).1 (hstay k (.inr hk))
                    · obtain ⟨hk1, hk2⟩ := List.mem_filter.1 hk
                      exact (h.facts k (.inl hk1)).move hk2 (hstay k (.inl hk1))
                · intro k hk
                  rcases List.mem_append.1 hk with hk | hk
                  · exact ⟨(held k hk).1, by simp [(held k hk).2.1], fun s hs => (held k hk).2.2 s (List.mem_cons_of_mem _ (hrr s hs))⟩
                  · obtain ⟨hk1, hk2⟩ := List.mem_filter.1 hk
                    exact ⟨hk2, by simp [hk1], fun s hs => hlate k (.inl hk1) s (List.mem_cons_of_mem _ (hrr s hs))⟩
                · cases o.dst <;> exact h.env.1
                · cases hdo : o.dst with
                  | none => exact h.env.2.1
                  | some d => simp only [Act.put, Array.size_setIfInBounds]; exact h.env.2.1
                · intro t g' v' hl hpend
                  rw [hlook' t (fun s hs => hpend s (.inl hs) (hunr s (hSr s hs)))] at hl
                  by_cases htd : o.dst = some t
                  · have hlt : t < n := hd i t (by rw [dst_at ho]; exact htd)
                    rw [htd] at hl
                    simp only [putE, look, if_true] at hl
                    cases hl
                    rw [htd]
                    simp only [Act.put]
                    rw [Array.getElem?_setIfInBounds_self_of_lt (by rw [h.env.2.1]; exact hlt)]
                  · rw [look_put htd] at hl
                    have e1 : (a.put o.dst (if g = true then v else undef)).tmps[t]? = a.tmps[t]? := by
                      cases hdo : o.dst with
                      | none => rfl
                      | some d =>
                        simp only [Act.put]
                        rw [Array.getElem?_setIfInBounds_ne (fun e => htd (by rw [hdo, e]))]
                    rw [e1]
                    refine h.env.2.2 t g' v' hl fun s hs hsu => ?_
                    have hsi : s ≠ i := by
                      rintro rfl
                      exact hSE hs
                    refine hpend s (.inr ?_) (by rw [getD_set hisz, if_neg hsi]; exact hsu)
                    rcases hs with hs | hs
                    · rcases hSl s hs with h2 | h2
                      · rw [h2] at hsu; cases hsu
                      · exact List.mem_append.2 (.inr (List.mem_filter.2 ⟨hs, h2⟩))
                    · exact List.mem_append.2 (.inl hs)
              cases g with
              | true =>
                rw [if_pos rfl]
                refine .inl (hgen_ok henv h.fit (hgen_congr (fun t ht => hlo t (mem_looks ht)) (hsg.1 rfl)) fun v H' w' hk hf => ?_)
                have := next true v H' w' hf hk
                rwa [if_pos rfl] at this
              | false =>
                rw [if_neg (by simp)]
                obtain ⟨u, hu⟩ := hsg.2 rfl
                have := next false u H w h.fit hu
                rwa [if_neg (by simp)] at this

/-- A REGION THAT DRAWS ITS ORDER, walked in one order -/
theorem AW_draw {l : Ents} {H : Hp} {QQ : Exit → Ents → Hp → Prop} {id : Nat} (π : List (Nat × Bool)) (hm : P.follows .mixedOrders = true) (hc : chk ops π = true)
    (h : hseg P ops π l H fun l' H' => QQ .normal l' H') : AW P n (.region id ops true) l H QQ := by
  intro hdst Ω a w he f
  refine wp_region_any hm ?_
  unfold HL.chk at hc
  rw [Bool.and_eq_true] at hc
  have hd : ∀ i d, dstOf ops i = some d → d < n := by
    intro i d hi
    unfold dstOf at hi
    cases ho : ops[i]? with
    | none => rw [ho] at hi; cases hi
    | some o =>
      rw [ho] at hi
      simp only [Option.bind_some] at hi
      have hmem : o ∈ ops.toList := by
        have := Array.mem_of_getElem? ho
        simpa using this
      have := List.all_eq_true.1 hdst o hmem
      rw [hi] at this
      simpa using this
  obtain ⟨S, rest, lF, hS, hbar, hK, hF, hlook⟩ := seg_split π [] l H hc.2 h
  have hπa : ∀ i, i < ops.size → i ∈ π.map (·.1) := by
    intro i hi
    have := List.all_eq_true.1 hc.1 i (List.mem_range.2 hi)
    simpa using this
  refine Inv.any (π := π) (tab := mkTab ops (π.map (·.1)) []) (K := fun l' H' => QQ .normal l' H') hc.2 hπa hd (mkTab_ok _ _ (by intro i j hj; cases hj)) (fun l' H' a' w' hk h1 h2 => ⟨l', H', h1, h2, hk⟩) ops.size _ a _ [] [] S rest lF H ?_
  have hrep : ∀ i, (Array.replicate ops.size false).getD i false = false := by
    intro i
    simp only [Array.getD_eq_getD_getElem?, Array.getElem?_replicate]
    split <;> rfl
  refine ⟨by simp, (fun i hi => by rw [hrep] at hi; cases hi), (by simp), (by rw [← hS]; exact hc.2), ?_, ?_, fun i _ => hrep i, hbar, ?_, (by simp), ⟨he.defers, he.size, ?_⟩, f.drawn _, hK, ?_⟩
  · intro i hi
    have hmem := hπa i hi
    rw [hS, List.map_append, List.mem_append] at hmem
    rcases hmem with h1 | h1
    · exact .inr (.inl (by simpa using h1))
    · exact .inr (.inr h1)
  · rintro i (hi | hi)
    · rw [hS, List.map_append, List.mem_append]; exact .inl (by simpa using hi)
    · cases hi
  · rintro i (hi | hi)
    · exact hF i hi
    · cases hi
  · intro t g v hl hpend
    rw [hlook t (fun i hi => hpend i (.inl hi) (hrep i))] at hl
    exact he.val t g v hl
  · have := List.length_filter_le (fun i => !(Array.replicate ops.size false).getD i false) (List.range ops.size)
    simpa using this
end
end Go.Proofs.YtmkbjdoifjcogaaDoor.HL
