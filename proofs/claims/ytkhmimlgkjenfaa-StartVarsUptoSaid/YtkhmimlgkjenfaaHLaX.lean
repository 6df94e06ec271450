/- HLa: a calculus over a partial heap (Hp): what is known of the memory, block by block, exactly. 'hw' is the weakest precondition of the model's own Sem over it: each step of a Sem that ends well from what is known. Sound by one induction over Sem. No condition. -/
import Derived.Calls
import Derived.Tactics
import Derived.KernelRfl
namespace Go.Proofs.Ytkhmimlgkjenfaa.HL
open Go

abbrev Hp := Nat → Option Obj

def Hp.upd (H : Hp) (b : Nat) (o : Obj) : Hp := fun x => if x = b then some o else H x
def Hp.cell? (H : Hp) (a : Addr) : Option Value :=
  match H a.block with
  | some (.cells c _ _) => if a.spot.isSome then none else c[a.off]?
  | _ => none
def Hp.frozen? (H : Hp) (a : Addr) : Bool :=
  match H a.block with
  | some (.cells _ _ (lo, hi)) => lo ≤ a.off && a.off < hi
  | _ => false
def objSet (o : Obj) (a : Addr) (v : Value) : Obj :=
  match o with
  | .cells c elem fr => .cells (if a.spot.isSome then c else c.setIfInBounds a.off v) elem fr
  | o => o
def objFreeze (o : Obj) (off n : Nat) : Obj :=
  match o with
  | .cells c elem (lo, hi) => .cells c elem (if lo == hi then (off, off + n) else (min lo off, max hi (off + n)))
  | o => o
def objShape : Obj → Option (TypeId × Nat)
  | .cells c elem _ => some (elem, c.size)
  | _ => none
def isOne : Value → Bool
  | .agg _ | .tuple _ => false
  | _ => true
def objRow : Obj → Bool
  | .cells .. => true
  | _ => false

structure Fit (Ω : World) (H : Hp) (w : World) : Prop where
  at_ : ∀ b o, H b = some o → w.heap[b]? = some o
  os : w.os = Ω.os
  output : w.output = Ω.output
instance {Ω : World} {H : Hp} {w : World} : CoeFun (Fit Ω H w) (fun _ => ∀ b o, H b = some o → w.heap[b]? = some o) := ⟨Fit.at_⟩
variable {Ω : World}

theorem Fit.cell {H : Hp} {w : World} (h : Fit Ω H w) {a : Addr} {v : Value} (hc : H.cell? a = some v) : w.cell? a = some v := by
  unfold Hp.cell? at hc
  unfold World.cell?
  cases hb : H a.block with
  | none => rw [hb] at hc; cases hc
  | some o => rw [h _ _ hb]; rw [hb] at hc; exact hc

theorem Fit.frozen {H : Hp} {w : World} (h : Fit Ω H w) {a : Addr} {o : Obj} (ho : H a.block = some o) : w.frozen? a = H.frozen? a := by
  unfold World.frozen? Hp.frozen?
  rw [h _ _ ho, ho]
  cases o <;> rfl

theorem Fit.lt {H : Hp} {w : World} (h : Fit Ω H w) {b : Nat} {o : Obj} (ho : H b = some o) : b < w.heap.size := by
  have := h _ _ ho
  rcases Nat.lt_or_ge b w.heap.size with h | h
  · exact h
  · rw [Array.getElem?_eq_none h] at this; cases this

theorem Fit.fresh {H : Hp} {w : World} (h : Fit Ω H w) : H w.heap.size = none := by
  cases hb : H w.heap.size with
  | none => rfl
  | some o => exact absurd (h.lt hb) (Nat.lt_irrefl _)

theorem Fit.new {H : Hp} {w : World} (h : Fit Ω H w) (o : Obj) : Fit Ω (H.upd w.heap.size o) { w with heap := w.heap.push o } := by
  refine ⟨?_, h.os, h.output⟩
  intro b o' hb
  unfold Hp.upd at hb
  split at hb
  · rename_i e; subst e; cases hb; simp
  · have := h.lt hb
    have h2 := h _ _ hb
    show (w.heap.push o)[b]? = some o'
    rw [Array.getElem?_push_lt this]
    rw [Array.getElem?_eq_getElem this] at h2; exact h2

theorem Fit.modify {H : Hp} {w : World} (h : Fit Ω H w) {r : Nat} {o : Obj} (ho : H r = some o) (f : Obj → Obj) :
    Fit Ω (H.upd r (f o)) { w with heap := w.heap.modify r f } := by
  refine ⟨?_, h.os, h.output⟩
  intro b o' hb
  show (w.heap.modify r f)[b]? = some o'
  rw [Array.getElem?_modify]
  unfold Hp.upd at hb
  split at hb
  · rename_i e; subst e; cases hb
    simp [h _ _ ho]
  · rename_i e
    rw [if_neg (fun h => e h.symm)]; exact h _ _ hb

theorem Fit.set {H : Hp} {w : World} (h : Fit Ω H w) {r : Nat} {o : Obj} (ho : H r = some o) (o' : Obj) :
    Fit Ω (H.upd r o') { w with heap := w.heap.setIfInBounds r o' } := by
  refine ⟨?_, h.os, h.output⟩
  intro b o2 hb
  show (w.heap.setIfInBounds r o')[b]? = some o2
  have hlt := h.lt ho
  unfold Hp.upd at hb
  split at hb
  · rename_i e; subst e; cases hb; simp [hlt]
  · rename_i e
    rw [Array.getElem?_setIfInBounds_ne (fun h => e h.symm)]
    exact h _ _ hb

theorem Fit.weaken {H H' : Hp} {w : World} (h : Fit Ω H w) (hs : ∀ b o, H' b = some o → H b = some o) : Fit Ω H' w :=
  ⟨fun b o hb => h b o (hs b o hb), h.os, h.output⟩

theorem Fit.drawn {H : Hp} {w : World} (h : Fit Ω H w) (d : Nat) : Fit Ω H { w with drawn := d } := ⟨h.at_, h.os, h.output⟩

def hw (P : Program) {α : Type} : Sem α → Hp → (α → Hp → Prop) → Prop
  | .pure a, H, K => K a H
  | .load _ a k, H, K => ∃ v, H.cell? a = some v ∧ hw P (k v) H K
  | .store _ a v k, H, K => isOne v = true ∧ ∃ o, H a.block = some o ∧ (H.cell? a).isSome = true ∧ H.frozen? a = false ∧ hw P k (H.upd a.block (objSet o a v)) K
  | .new o k, H, K => ∀ b, H b = none → hw P (k b) (H.upd b o) K
  | .shape r k, H, K => ∃ o, H r = some o ∧ hw P (k (objShape o)) H K
  | .freeze a n k, H, K => if n = 0 then hw P k H K else ∃ o, H a.block = some o ∧ hw P k (H.upd a.block (objFreeze o a.off n)) K
  | .frozen a k, H, K => ∃ o, H a.block = some o ∧ hw P (k (H.frozen? a)) H K
  | .getObj r k, H, K => ∃ o, H r = some o ∧ objRow o = false ∧ hw P (k o) H K
  | .setObj r o k, H, K => ∃ o', H r = some o' ∧ objRow o' = false ∧ hw P k (H.upd r o) K
  | .choose q k, H, K => (q.forced = true → hw P (k 0) H K) ∧ (q.forced = false → ∀ t, hw P (k (q.cut t)) H K)
  | .sys _ _, _, _ => False
  | .program k, H, K => hw P (k P) H K
  | .mark _ k, H, K => hw P k H K
  | .halt _, _, _ => False

theorem hw_run (P : Program) {α : Type} (s : Sem α) : ∀ (H : Hp) (w : World) (K : α → Hp → Prop), hw P s H K → Fit Ω H w →
    ∃ a w' H', s.run P w = .ok a w' ∧ Fit Ω H' w' ∧ K a H' := by
  induction s with
  | pure a => exact fun H w K h f => ⟨a, w, H, rfl, f, h⟩
  | load m a k ih =>
    rintro H w K ⟨v, hc, h⟩ f
    obtain ⟨x, w', H', hr, hf, hk⟩ := ih v H w K h f
    exact ⟨x, w', H', by simp only [Sem.run, f.cell hc]; exact hr, hf, hk⟩
  | store m a v k ih =>
    rintro H w K ⟨h1, o, ho, hs, hz, h⟩ f
    obtain ⟨u, hu⟩ := Option.isSome_iff_exists.1 hs
    have hf2 : Fit Ω (H.upd a.block (objSet o a v)) (w.setCell a v) := by
      have := f.modify ho (fun o => objSet o a v)
      exact this
    obtain ⟨x, w', H', hr, hf, hk⟩ := ih _ _ K h hf2
    refine ⟨x, w', H', ?_, hf, hk⟩
    have hfr : w.frozen? a = false := by rw [f.frozen ho]; exact hz
    cases v <;> first
      | (simp only [Sem.run, f.cell hu, hfr, Bool.false_eq_true, if_false]; exact hr)
      | (simp [isOne] at h1; done)
  | new o k ih =>
    intro H w K h f
    obtain ⟨x, w', H', hr, hf, hk⟩ := ih w.heap.size _ _ K (h _ f.fresh) (f.new o)
    exact ⟨x, w', H', hr, hf, hk⟩
  | shape r k ih =>
    rintro H w K ⟨o, ho, h⟩ f
    obtain ⟨x, w', H', hr, hf, hk⟩ := ih _ H w K h f
    refine ⟨x, w', H', ?_, hf, hk⟩
    have : w.shape? r = objShape o := by unfold World.shape? objShape; rw [f _ _ ho]; cases o <;> rfl
    simp only [Sem.run, this]; exact hr
  | freeze a n k ih =>
    intro H w K h f
    unfold hw at h
    by_cases hn : n = 0
    · rw [if_pos hn] at h
      obtain ⟨x, w', H', hr, hf, hk⟩ := ih H w K h f
      refine ⟨x, w', H', ?_, hf, hk⟩
      simp only [Sem.run, World.freeze, if_pos hn]; exact hr
    · rw [if_neg hn] at h
      obtain ⟨o, ho, h⟩ := h
      have hf2 : Fit Ω (H.upd a.block (objFreeze o a.off n)) (w.freeze a n) := by
        unfold World.freeze
        rw [if_neg hn]
        exact f.modify ho (fun o => objFreeze o a.off n)
      obtain ⟨x, w', H', hr, hf, hk⟩ := ih _ _ K h hf2
      exact ⟨x, w', H', hr, hf, hk⟩
  | frozen a k ih =>
    rintro H w K ⟨o, ho, h⟩ f
    obtain ⟨x, w', H', hr, hf, hk⟩ := ih _ H w K h f
    refine ⟨x, w', H', ?_, hf, hk⟩
    simp only [Sem.run, f.frozen ho]; exact hr
  | getObj r k ih =>
    rintro H w K ⟨o, ho, hr0, h⟩ f
    obtain ⟨x, w', H', hr, hf, hk⟩ := ih _ H w K h f
    refine ⟨x, w', H', ?_, hf, hk⟩
    simp only [Sem.run, f _ _ ho]
    cases o <;> first | (simp [objRow] at hr0; done) | exact hr
  | setObj r o k ih =>
    rintro H w K ⟨o', ho, hr0, h⟩ f
    obtain ⟨x, w', H', hr, hf, hk⟩ := ih _ _ K h (f.set ho o)
    refine ⟨x, w', H', ?_, hf, hk⟩
    simp only [Sem.run, f _ _ ho]
    cases o' <;> first | (simp [objRow] at hr0; done) | exact hr
  | choose q k ih =>
    rintro H w K ⟨h1, h2⟩ f
    cases hq : q.forced with
    | true =>
      obtain ⟨x, w', H', hr, hf, hk⟩ := ih 0 H w K (h1 hq) f
      exact ⟨x, w', H', by simp only [Sem.run, hq, if_true]; exact hr, hf, hk⟩
    | false =>
      obtain ⟨x, w', H', hr, hf, hk⟩ := ih _ H { w with drawn := w.drawn + 1 } K (h2 hq (w.tape w.drawn q)) (f.drawn _)
      exact ⟨x, w', H', by simp only [Sem.run, hq, Bool.false_eq_true, if_false]; exact hr, hf, hk⟩
  | sys c k ih => exact fun H w K h f => h.elim
  | program k ih =>
    intro H w K h f
    obtain ⟨x, w', H', hr, hf, hk⟩ := ih P H w K h f
    exact ⟨x, w', H', hr, hf, hk⟩
  | mark m k ih =>
    intro H w K h f
    obtain ⟨x, w', H', hr, hf, hk⟩ := ih H w K h f
    exact ⟨x, w', H', hr, hf, hk⟩
  | halt h => exact fun H w K h f => h.elim

theorem hw_bind {P : Program} {α β : Type} (s : Sem α) (g : α → Sem β) : ∀ {H : Hp} {K : β → Hp → Prop},
    hw P (s >>= g) H K = hw P s H (fun a H' => hw P (g a) H' K) := by
  induction s with
  | pure a => intros; rfl
  | load m a k ih => intro H K; show (∃ v, _ ∧ hw P (k v >>= g) H K) = _; simp only [ih]; rfl
  | store m a v k ih =>
    intro H K
    show (_ ∧ ∃ o, _ ∧ _ ∧ _ ∧ hw P (k >>= g) _ K) = _
    simp only [ih]; rfl
  | new o k ih => intro H K; show (∀ b, _ → hw P (k b >>= g) _ K) = _; simp only [ih]; rfl
  | shape r k ih => intro H K; show (∃ o, _ ∧ hw P (k _ >>= g) _ K) = _; simp only [ih]; rfl
  | freeze a n k ih =>
    intro H K
    show (if n = 0 then hw P (k >>= g) H K else ∃ o, _ ∧ hw P (k >>= g) _ K) = _
    simp only [ih]; rfl
  | frozen a k ih => intro H K; show (∃ o, _ ∧ hw P (k _ >>= g) _ K) = _; simp only [ih]; rfl
  | getObj r k ih => intro H K; show (∃ o, _ ∧ _ ∧ hw P (k _ >>= g) _ K) = _; simp only [ih]; rfl
  | setObj r o k ih => intro H K; show (∃ o, _ ∧ _ ∧ hw P (k >>= g) _ K) = _; simp only [ih]; rfl
  | choose q k ih => intro H K; show ((_ → hw P (k 0 >>= g) _ K) ∧ (_ → ∀ t, hw P (k _ >>= g) _ K)) = _; simp only [ih]; rfl
  | sys c k ih => intros; rfl
  | program k ih => intro H K; show hw P (k P >>= g) _ K = _; rw [ih]; rfl
  | mark m k ih => intro H K; show hw P (k >>= g) _ K = _; rw [ih]; rfl
  | halt h => intros; rfl
end Go.Proofs.Ytkhmimlgkjenfaa.HL
