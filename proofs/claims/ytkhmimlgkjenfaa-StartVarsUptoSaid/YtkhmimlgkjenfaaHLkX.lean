/- HLk: resources: a heap held as a base and a list of things of one's own, each on blocks of its own; a call leaves the others alone. No condition. -/
import Derived.Test.YtkhmimlgkjenfaaHLjX
namespace Go.Proofs.Ytkhmimlgkjenfaa.HL
open Go
set_option linter.unusedVariables false
set_option linter.unusedSimpArgs false
variable {Ω : World}

abbrev Foot := Nat → Prop
structure ResK where
  holds : Hp → Foot → Prop
  loc : ∀ G G' fp, holds G fp → (∀ b, fp b → G' b = G b) → holds G' fp
  dom : ∀ G fp, holds G fp → ∀ b, fp b → G b ≠ none
inductive Res where
  | box (b : Nat) (T : TypeId) (cs : List Value)
  | obj (b : Nat) (o : Obj)
  | own (e : TypeId) (z : Nat) (a : Option Addr) (n c : Nat) (cs : List Value)
  | cust (k : ResK)

def Res.holds (r : Res) (G : Hp) (fp : Foot) : Prop :=
  match r with
  | .box b T cs => (∀ x, fp x ↔ x = b) ∧ G b = some (.cells cs.toArray T (0, 0))
  | .obj b o => (∀ x, fp x ↔ x = b) ∧ G b = some o
  | .own e z a n c cs => (∀ x, fp x ↔ blk (.slice a n c) = some x) ∧ Own G e z (.slice a n c) n cs
  | .cust k => k.holds G fp
theorem Res.loc {r : Res} {G G' : Hp} {fp : Foot} (h : r.holds G fp) (hg : ∀ b, fp b → G' b = G b) : r.holds G' fp := by
  cases r with
  | box b T cs => exact ⟨h.1, by rw [hg b ((h.1 b).2 rfl)]; exact h.2⟩
  | obj b o => exact ⟨h.1, by rw [hg b ((h.1 b).2 rfl)]; exact h.2⟩
  | own e z a n c cs => exact ⟨h.1, h.2.keep fun b hb => hg b ((h.1 b).2 hb)⟩
  | cust k => exact k.loc _ _ _ h hg
theorem Res.dom {r : Res} {G : Hp} {fp : Foot} (h : r.holds G fp) (b : Nat) (hb : fp b) : G b ≠ none := by
  cases r with
  | box x T cs => rw [(h.1 b).1 hb, h.2]; simp
  | obj x o => rw [(h.1 b).1 hb, h.2]; simp
  | own e z a n c cs =>
    have hb := (h.1 b).1 hb
    obtain ⟨_, ⟨h2, _⟩ | ⟨x, cap, rest, lo, hi, h2, h3, _⟩⟩ := h.2
    · rw [h2] at hb; cases hb
    · rw [h2] at hb; cases hb; rw [h3]; simp
  | cust k => exact k.dom _ _ h b hb

def SatL : Foot → List Res → Hp → Prop
  | _, [], _ => True
  | U, r :: L, G => ∃ fp, r.holds G fp ∧ (∀ b, fp b → ¬ U b) ∧ SatL (fun b => U b ∨ fp b) L G
theorem SatL.mono {G G' : Hp} : ∀ {L : List Res} {U U' : Foot}, SatL U L G → (∀ b, ¬ U b → G b ≠ none → G' b = G b) → (∀ b, G b ≠ none → U' b → U b) → SatL U' L G' := by
  intro L
  induction L with
  | nil => intros; trivial
  | cons r L ih =>
    rintro U U' ⟨fp, h1, h2, h3⟩ hg hu
    refine ⟨fp, r.loc h1 fun b hb => hg b (h2 b hb) (r.dom h1 b hb), fun b hb hb' => h2 b hb (hu b (r.dom h1 b hb) hb'), ih h3 (fun b hb => hg b fun h => hb (.inl h)) fun b hb h => h.imp (hu b hb) id⟩

def Pick (L : List Res) (r : Res) (L' : List Res) : Prop := ∀ U G, SatL U L G → SatL U (r :: L') G
theorem pick0 {r : Res} {L : List Res} : Pick (r :: L) r L := fun _ _ h => h
theorem pickS {r a : Res} {L L' : List Res} (h : Pick L r L') : Pick (a :: L) r (a :: L') := by
  rintro U G ⟨fa, h1, h2, h3⟩
  obtain ⟨fr, k1, k2, k3⟩ := h _ _ h3
  refine ⟨fr, k1, fun b hb hu => k2 b hb (.inl hu), fa, h1, fun b hb hu => ?_, k3.mono (fun _ _ _ => rfl) fun b _ hb => ?_⟩
  · rcases hu with hu | hu
    · exact h2 b hb hu
    · exact k2 b hu (.inr hb)
  · rcases hb with (hb | hb) | hb
    · exact .inl (.inl hb)
    · exact .inr hb
    · exact .inl (.inr hb)
class PBox (L : List Res) (b : Nat) (T : outParam TypeId) (cs : outParam (List Value)) (L' : outParam (List Res)) : Prop where
  h : Pick L (.box b T cs) L'
instance (priority := low) pboxS {L : List Res} {b : Nat} {T : TypeId} {cs : List Value} {L' : List Res} {r : Res} [h : PBox L b T cs L'] : PBox (r :: L) b T cs (r :: L') := ⟨pickS h.h⟩
instance pbox0 {L : List Res} {b : Nat} {T : TypeId} {cs : List Value} : PBox (.box b T cs :: L) b T cs L := ⟨pick0⟩
class PObj (L : List Res) (b : Nat) (o : outParam Obj) (L' : outParam (List Res)) : Prop where
  h : Pick L (.obj b o) L'
instance (priority := low) pobjS {L : List Res} {b : Nat} {o : Obj} {L' : List Res} {r : Res} [h : PObj L b o L'] : PObj (r :: L) b o (r :: L') := ⟨pickS h.h⟩
instance pobj0 {L : List Res} {b : Nat} {o : Obj} : PObj (.obj b o :: L) b o L := ⟨pick0⟩
class POwn (L : List Res) (a : Option Addr) (e : outParam TypeId) (z n c : outParam Nat) (cs : outParam (List Value)) (L' : outParam (List Res)) : Prop where
  h : Pick L (.own e z a n c cs) L'
instance (priority := low) pownS {L : List Res} {a : Option Addr} {e : TypeId} {z n c : Nat} {cs : List Value} {L' : List Res} {r : Res} [h : POwn L a e z n c cs L'] : POwn (r :: L) a e z n c cs (r :: L') := ⟨pickS h.h⟩
instance pown0 {L : List Res} {a : Option Addr} {e : TypeId} {z n c : Nat} {cs : List Value} : POwn (.own e z a n c cs :: L) a e z n c cs L := ⟨pick0⟩
def SubL (L' L : List Res) : Prop := ∀ U G, SatL U L G → SatL U L' G
theorem subl_nil {L : List Res} : SubL [] L := fun _ _ _ => trivial
theorem subl_refl {L : List Res} : SubL L L := fun _ _ h => h
theorem subl_cons {r : Res} {L L' L1 : List Res} (h : Pick L r L1) (h' : SubL L' L1) : SubL (r :: L') L := by
  intro U G hs
  obtain ⟨fp, h1, h2, h3⟩ := h U G hs
  exact ⟨fp, h1, h2, h' _ _ h3⟩
theorem SubL.trans {L L' L'' : List Res} (h : SubL L'' L') (h' : SubL L' L) : SubL L'' L := fun U G hs => h U G (h' U G hs)
theorem subl_app {L M : List Res} : SubL L (L ++ M) := by
  induction L with
  | nil => exact subl_nil
  | cons r L ih => rintro U G ⟨fp, h1, h2, h3⟩; exact ⟨fp, h1, h2, ih _ _ h3⟩
theorem subl_right {L M : List Res} : SubL M (L ++ M) := by
  induction L with
  | nil => exact subl_refl
  | cons r L ih => rintro U G ⟨fp, h1, h2, h3⟩; exact ih _ _ (h3.mono (fun _ _ _ => rfl) fun b _ hb => .inl hb)

def Hs (H : Hp) (L : List Res) (G : Hp) : Prop := Ext H G ∧ SatL (fun b => H b ≠ none) L G
theorem hs_nil (H : Hp) : Hs H [] H := ⟨Ext.refl _, trivial⟩
theorem Hs.ext {H G : Hp} {L : List Res} (h : Hs H L G) : Ext H G := h.1
theorem Hs.sub {H G : Hp} {L L' : List Res} (h : Hs H L G) (hs : SubL L' L) : Hs H L' G := ⟨h.1, hs _ _ h.2⟩
theorem Hs.pick {H G : Hp} {L L' : List Res} {r : Res} (h : Hs H L G) (hs : Pick L r L') : Hs H (r :: L') G := ⟨h.1, hs _ _ h.2⟩
theorem Hs.get {H G : Hp} {L L' : List Res} {r : Res} (h : Hs H L G) (hs : Pick L r L') : ∃ fp, r.holds G fp ∧ ∀ b, fp b → H b = none := by
  obtain ⟨fp, h1, h2, _⟩ := (h.pick hs).2
  exact ⟨fp, h1, fun b hb => Classical.byContradiction fun hh => h2 b hb hh⟩
theorem Ext.at_some {H G : Hp} (h : Ext H G) {b : Nat} (hb : H b ≠ none) : G b = H b := by
  cases e : H b with
  | none => exact absurd e hb
  | some o => exact h b o e
theorem Ext.at_none {H G : Hp} (h : Ext H G) {b : Nat} (hb : G b = .none) : H b = .none := by
  cases e : H b with
  | none => rfl
  | some o => rw [h b o e] at hb; cases hb
theorem Hs.new {H G G' : Hp} {L : List Res} {r : Res} {fp : Foot} (h : Hs H L G) (hx : Ext G G') (hr : r.holds G' fp) (hf : ∀ b, fp b → G b = none) : Hs H (r :: L) G' := by
  refine ⟨h.1.trans hx, fp, hr, fun b hb hh => hh (h.1.at_none (hf b hb)), h.2.mono (fun b _ hb => hx.at_some hb) fun b hb hu => ?_⟩
  rcases hu with hu | hu
  · exact hu
  · exact absurd (hf b hu) hb
theorem Hs.grow {H G G' : Hp} {L : List Res} (h : Hs H L G) (hx : Ext G G') : Hs H L G' := ⟨h.1.trans hx, h.2.mono (fun b _ hb => hx.at_some hb) fun b hb hu => hu⟩
theorem Hs.turn {H G G' : Hp} {L : List Res} {r r' : Res} (h : Hs H (r :: L) G)
    (hr : ∀ fp, r.holds G fp → ∃ fp', r'.holds G' fp' ∧ (∀ b, fp' b → fp b ∨ G b = none) ∧ (∀ b, ¬ fp b → G b ≠ none → G' b = G b)) : Hs H (r' :: L) G' := by
  obtain ⟨hx, fp, h1, h2, h3⟩ := h
  obtain ⟨fp', k1, k2, k3⟩ := hr fp h1
  refine ⟨fun b o hb => ?_, fp', k1, fun b hb hh => ?_, h3.mono (fun b hb hg => k3 b (fun hf => hb (.inr hf)) hg) fun b hg hb => ?_⟩
  · rw [k3 b (fun hf => h2 b hf (by simp [hb])) (by rw [hx b o hb]; simp)]; exact hx b o hb
  · rcases k2 b hb with hf | hf
    · exact h2 b hf hh
    · exact hh (hx.at_none hf)
  · rcases hb with hb | hb
    · exact .inl hb
    · rcases k2 b hb with hf | hf
      · exact .inr hf
      · exact absurd hf hg
theorem SatL.app {G G' : Hp} {L : List Res} (hg : ∀ b, G b ≠ none → G' b = G b) : ∀ {L' : List Res} {U V : Foot}, SatL V L' G' → (∀ b, U b → V b) → (∀ b, G b ≠ none → V b) → SatL U L G → SatL U (L' ++ L) G' := by
  intro L'
  induction L' with
  | nil => intro U V _ _ _ h; exact h.mono (fun b _ hb => hg b hb) fun _ _ h => h
  | cons r L' ih =>
    rintro U V ⟨fp, h1, h2, h3⟩ huv hgv h
    refine ⟨fp, h1, fun b hb hu => h2 b hb (huv b hu), ih h3 (fun b hb => hb.imp (huv b) id) (fun b hb => .inl (hgv b hb)) (h.mono (fun _ _ _ => rfl) fun b hb hu => ?_)⟩
    rcases hu with hu | hu
    · exact hu
    · exact absurd (hgv b hb) (h2 b hu)
theorem Hs.frame {H G G' : Hp} {L L' : List Res} (h : Hs H L G) (h' : Hs G L' G') : Hs H (L' ++ L) G' :=
  ⟨h.1.trans h'.1, SatL.app (fun b hb => h'.1.at_some hb) h'.2 (fun b hb => by rw [h.1.at_some hb]; exact hb) (fun _ h => h) h.2⟩
theorem Hs.split1 {H G : Hp} {L : List Res} {r : Res} (h : Hs H (r :: L) G) : ∃ H0, Hs H L H0 ∧ Hs H0 [r] G := by
  classical
  obtain ⟨hx, fp, h1, h2, h3⟩ := h
  refine ⟨fun b => if fp b then none else G b, ⟨fun b o hb => ?_, h3.mono (fun b hb _ => ?_) fun b _ hb => .inl hb⟩, fun b o hb => ?_, fp, h1, fun b hb hh => ?_, trivial⟩
  · show (if fp b then none else G b) = _
    rw [if_neg (fun hf => h2 b hf (by simp [hb]))]; exact hx b o hb
  · show (if fp b then none else G b) = _
    rw [if_neg (fun hf => hb (.inr hf))]
  · have hb : (if fp b then none else G b) = some o := hb
    split at hb
    · cases hb
    · exact hb
  · have hh : (if fp b then none else G b) ≠ none := hh
    rw [if_pos hb] at hh; exact hh rfl
theorem Hs.split {H : Hp} {L : List Res} : ∀ {M : List Res} {G : Hp}, Hs H (M ++ L) G → ∃ H0, Hs H L H0 ∧ Hs H0 M G := by
  intro M
  induction M with
  | nil => exact fun h => ⟨_, h, hs_nil _⟩
  | cons r M ih =>
    intro G h
    obtain ⟨H1, h1, h2⟩ := h.split1
    obtain ⟨H0, h3, h4⟩ := ih h1
    exact ⟨H0, h3, h4.frame h2⟩
def Picks (L M L' : List Res) : Prop := ∀ U G, SatL U L G → SatL U (M ++ L') G
theorem picks_nil {L : List Res} : Picks L [] L := fun _ _ h => h
theorem picks_cons {r : Res} {L L1 M L' : List Res} (h : Pick L r L1) (h' : Picks L1 M L') : Picks L (r :: M) L' := by
  intro U G hs
  obtain ⟨fp, h1, h2, h3⟩ := h U G hs
  exact ⟨fp, h1, h2, h' _ _ h3⟩
theorem Hs.picks {H G : Hp} {L M L' : List Res} (h : Hs H L G) (hs : Picks L M L') : Hs H (M ++ L') G := ⟨h.1, hs _ _ h.2⟩

theorem Ext.cell {H H' : Hp} (h : Ext H H') {a : Addr} {v : Value} (hc : H.cell? a = some v) : H'.cell? a = some v := by
  unfold Hp.cell? at hc ⊢
  cases hb : H a.block with
  | none => rw [hb] at hc; cases hc
  | some o => rw [h _ _ hb]; rw [hb] at hc; exact hc

/-! the judgements -/
section
variable {P : Program}
def SC (P : Program) (f : FuncId) (args : List Value) (H : Hp) (L : List Res) (K : Value → List Res → Prop) : Prop :=
  ∀ G, Hs H L G → HC P f args G fun v G' => ∃ L', Hs H L' G' ∧ K v L'
theorem SC.mono {f : FuncId} {args : List Value} {H : Hp} {L : List Res} {K K' : Value → List Res → Prop} (h : SC P f args H L K) (hk : ∀ v L, K v L → K' v L) : SC P f args H L K' :=
  fun G hg => (h G hg).mono fun v G' ⟨L', h1, h2⟩ => ⟨L', h1, hk _ _ h2⟩
def CW (P : Program) (n : Nat) (c : Code) (l : Ents) (H : Hp) (L : List Res) (Q : Exit → Ents → List Res → Prop) : Prop :=
  ∀ G, Hs H L G → AW P n c l G fun e l' G' => ∃ L', Hs H L' G' ∧ Q e l' L'
def RW (P : Program) (ops : Array Oper) (os : List Oper) (l : Ents) (H : Hp) (L : List Res) (K : Ents → List Res → Prop) : Prop :=
  ∀ G, Hs H L G → hops P ops os l G fun l' G' => ∃ L', Hs H L' G' ∧ K l' L'
def DW (P : Program) (ops : Array Oper) (gr : List Nat) (os : List (Nat × Bool)) (l : Ents) (H : Hp) (L : List Res) (K : Ents → List Res → Prop) : Prop :=
  ∀ G, Hs H L G → hseg P ops gr os l G fun l' G' => ∃ L', Hs H L' G' ∧ K l' L'
def QW (P : Program) (l : Ents) (H : Hp) (L : List Res) (o : Oper) (v : Value) : Prop := ∀ G, Hs H L G → qv P l true G o = some v
def GW (P : Program) (l : Ents) (o : Oper) (H : Hp) (L : List Res) (K : Value → List Res → Prop) : Prop :=
  ∀ G, Hs H L G → hgen P l o G fun v G' => ∃ L', Hs H L' G' ∧ K v L'
def GX (P : Program) (l : Ents) (o : Oper) (H : Hp) (L : List Res) (K : Value → List Res → Prop) : Prop :=
  ∀ G, Hs H L G → hgen P l o G fun v G' => Ext G G' ∧ ∃ L', Hs H L' G' ∧ K v L'

variable {n : Nat} {l : Ents} {H : Hp} {L : List Res} {ops : Array Oper}

theorem GW.mono {o : Oper} {K K' : Value → List Res → Prop} (h : GW P l o H L K) (hk : ∀ v L, K v L → K' v L) : GW P l o H L K' :=
  fun G hg => hgen_mono (h G hg) fun v G' ⟨L', h1, h2⟩ => ⟨L', h1, hk _ _ h2⟩

section
variable {o : Oper} {rest : List Oper} {K : Ents → List Res → Prop} {g : Bool} {v : Value}
theorem RW.nil (h : K l L) : RW P ops [] l H L K := fun G hg => ⟨L, hg, h⟩
theorem RW.q (hg : gval ops l o = some g) (hq : g = true → QW P l H L o v) (h : RW P ops rest (putE l o.dst g v) H L K) : RW P ops (o :: rest) l H L K :=
  fun G hs => ⟨g, hg, .inl ⟨v, fun e => hq e G hs, h G hs⟩⟩
theorem RW.a (hg : gval ops l o = some true) (h : GW P l o H L fun v L' => RW P ops rest (putE l o.dst true v) H L' K) : RW P ops (o :: rest) l H L K :=
  fun G hs => ⟨true, hg, .inr ⟨fun _ => hgen_mono (h G hs) fun v G' ⟨L', h1, h2⟩ => h2 G' h1, fun e => by cases e⟩⟩
theorem RW.s (hg : gval ops l o = some false) (h : RW P ops rest (putE l o.dst false (.bool false)) H L K) : RW P ops (o :: rest) l H L K :=
  fun G hs => ⟨false, hg, .inr ⟨(fun e => by cases e), fun _ => ⟨.bool false, h G hs⟩⟩⟩
theorem RW.gd (u : Value) (hg : gval ops l o = some g) (h : g = true → GW P l o H L fun v L' => RW P ops rest (putE l o.dst true v) H L' K) (h' : g = false → RW P ops rest (putE l o.dst false u) H L K) : RW P ops (o :: rest) l H L K :=
  fun G hs => ⟨g, hg, .inr ⟨fun e => hgen_mono (h e G hs) fun v G' ⟨L', h1, h2⟩ => h2 G' h1, fun e => ⟨u, h' e G hs⟩⟩⟩
end
section
variable {o : Oper} {i : Nat} {gr : List Nat} {rest : List (Nat × Bool)} {K : Ents → List Res → Prop} {g : Bool} {v : Value}
theorem DW.nil (h : K l L) : DW P ops gr [] l H L K := fun G hg => ⟨L, hg, h⟩
theorem DW.q (ho : ops[i]? = some o) (hg : gval ops l o = some g) (hq : g = true → QW P l H L o v) (h : DW P ops gr rest (putE l o.dst g v) H L K) : DW P ops gr ((i, false) :: rest) l H L K :=
  fun G hs => ⟨o, ho, g, hg, by rw [if_neg (by simp)]; exact ⟨v, fun e => .inl (hq e G hs), h G hs⟩⟩
theorem DW.a (ho : ops[i]? = some o) (hng : gr.contains i = false) (hg : gval ops l o = some true) (h : GW P l o H L fun v L' => DW P ops gr rest (putE l o.dst true v) H L' K) : DW P ops gr ((i, true) :: rest) l H L K :=
  fun G hs => ⟨o, ho, true, hg, by rw [if_pos rfl]; exact ⟨fun _ => hgen_mono (h G hs) fun v G' ⟨L', h1, h2⟩ => ⟨fun e => by rw [hng] at e; (cases e), h2 G' h1⟩, fun e => by cases e⟩⟩
theorem DW.ag (ho : ops[i]? = some o) (hg : gval ops l o = some true) (h : GX P l o H L fun v L' => DW P ops gr rest (putE l o.dst true v) H L' K) : DW P ops gr ((i, true) :: rest) l H L K :=
  fun G hs => ⟨o, ho, true, hg, by rw [if_pos rfl]; exact ⟨fun _ => hgen_mono (h G hs) fun v G' ⟨hx, L', h1, h2⟩ => ⟨fun _ => hx, h2 G' h1⟩, fun e => by cases e⟩⟩
theorem DW.s (ho : ops[i]? = some o) (hg : gval ops l o = some false) (h : DW P ops gr rest (putE l o.dst false (.bool false)) H L K) : DW P ops gr ((i, true) :: rest) l H L K :=
  fun G hs => ⟨o, ho, false, hg, by rw [if_pos rfl]; exact ⟨(fun e => by cases e), fun _ => ⟨.bool false, h G hs⟩⟩⟩
theorem DW.gd (u : Value) (ho : ops[i]? = some o) (hng : gr.contains i = false) (hg : gval ops l o = some g) (h : g = true → GW P l o H L fun v L' => DW P ops gr rest (putE l o.dst true v) H L' K) (h' : g = false → DW P ops gr rest (putE l o.dst false u) H L K) : DW P ops gr ((i, true) :: rest) l H L K :=
  fun G hs => ⟨o, ho, g, hg, by rw [if_pos rfl]; exact ⟨fun e => hgen_mono (h e G hs) fun v G' ⟨L', h1, h2⟩ => ⟨fun e => by rw [hng] at e; (cases e), h2 G' h1⟩, fun e => ⟨u, h' e G hs⟩⟩⟩
def NW (P : Program) (l : Ents) (o : Oper) (H : Hp) (L : List Res) (v : Value) : Prop := ∀ G, Hs H L G → hgen P l o G fun v' G' => v' = v ∧ Ext G G'
theorem DW.c (v : Value) (ho : ops[i]? = some o) (hdr : callOp o.op = true) (hg : gval ops l o = some g) (hc : g = true → NW P l o H L v) (h : DW P ops gr rest (putE l o.dst g v) H L K) : DW P ops gr ((i, false) :: rest) l H L K :=
  fun G hs => ⟨o, ho, g, hg, by rw [if_neg (by simp)]; exact ⟨v, fun e => .inr ⟨hdr, hc e G hs⟩, h G hs⟩⟩
end

/-! code -/
section
variable {Q : Exit → Ents → List Res → Prop}
theorem CW.mono {c : Code} {Q' : Exit → Ents → List Res → Prop} (h : CW P n c l H L Q) (hq : ∀ e l L, Q e l L → Q' e l L) : CW P n c l H L Q' :=
  fun G hg => (h G hg).mono fun e l' G' ⟨L', h1, h2⟩ => ⟨L', h1, hq _ _ _ h2⟩
def thenS (next : Ents → List Res → Prop) (Q : Exit → Ents → List Res → Prop) : Exit → Ents → List Res → Prop
  | .normal, l, L => next l L
  | e, l, L => Q e l L
theorem CW_seq {x y : Code} (h : CW P n x l H L (thenS (fun l' L' => CW P n y l' H L' Q) Q)) : CW P n (.seq x y) l H L Q := by
  intro G hg
  refine AW_seq ((h G hg).mono ?_)
  rintro e l' G' ⟨L', h1, h2⟩
  cases e <;> first | exact h2 G' h1 | exact ⟨L', h1, h2⟩
theorem CW_region {id : Nat} (h : ∀ K, (∀ l' L', Q .normal l' L' → K l' L') → RW P ops ops.toList l H L K) : CW P n (.region id ops false) l H L Q :=
  fun G hg => AW_region (h (fun l' L' => Q .normal l' L') (fun _ _ h => h) G hg)
theorem CW_draw {id : Nat} (gr : List Nat) (π : List (Nat × Bool)) (hm : P.follows .mixedOrders = true) (hc : chk ops gr π = true)
    (h : ∀ K, (∀ l' L', Q .normal l' L' → K l' L') → DW P ops gr π l H L K) : CW P n (.region id ops true) l H L Q :=
  fun G hg => AW_draw π hm hc (h (fun l' L' => Q .normal l' L') (fun _ _ h => h) G hg)
def EachD (P : Program) (ops : Array Oper) (l : Ents) (H : Hp) (L : List Res) (Q : Exit → Ents → List Res → Prop) : List (List Nat × List Nat × List (Nat × Bool)) → Prop
  | [] => True
  | (_, gr, π) :: r => (∀ K, (∀ l' L', Q .normal l' L' → K l' L') → DW P ops gr π l H L K) ∧ EachD P ops l H L Q r
theorem EachD.of {P : Program} {ops : Array Oper} {l : Ents} {H : Hp} {L : List Res} {Q : Exit → Ents → List Res → Prop} : ∀ {ss : List (List Nat × List Nat × List (Nat × Bool))}, EachD P ops l H L Q ss → ∀ s ∈ ss, ∀ K, (∀ l' L', Q .normal l' L' → K l' L') → DW P ops s.2.1 s.2.2 l H L K
  | [], _, s, hs => by cases hs
  | (_, gr, π) :: r, h, s, hs => by
    rcases List.mem_cons.1 hs with e | e
    · subst e; exact h.1
    · exact EachD.of h.2 s e
theorem CW_drawS {id : Nat} (A : List Nat) (ss : List (List Nat × List Nat × List (Nat × Bool))) (hm : P.follows .mixedOrders = true) (hc : chkS ops A ss = true) (h : EachD P ops l H L Q ss) : CW P n (.region id ops true) l H L Q :=
  fun G hg => AW_drawS A ss hm hc fun s hs => h.of s hs (fun l' L' => Q .normal l' L') (fun _ _ h => h) G hg
theorem CW_skip (h : Q .normal l L) : CW P n .skip l H L Q := fun G hg => AW_skip ⟨L, hg, h⟩
theorem CW_label {k : Nat} (h : Q .normal l L) : CW P n (.label k) l H L Q := fun G hg => AW_label ⟨L, hg, h⟩
theorem CW_exit {id : Nat} (h : Q (.exit id) l L) : CW P n (.exit id) l H L Q := fun G hg => AW_exit ⟨L, hg, h⟩
theorem CW_goto {k : Nat} (h : Q (.goto k) l L) : CW P n (.goto k) l H L Q := fun G hg => AW_goto ⟨L, hg, h⟩
theorem CW_ret (h : Q .ret l L) : CW P n .ret l H L Q := fun G hg => AW_ret ⟨L, hg, h⟩
theorem CW_cond {c : Operand} {x y : Code} {t : Bool} (hc : evg l true c = some (.bool t)) (ht : t = true → CW P n x l H L Q) (hf : t = false → CW P n y l H L Q) : CW P n (.cond c x y) l H L Q :=
  fun G hg => AW_cond hc (fun e => ht e G hg) (fun e => hf e G hg)
def blockS (id : Nat) (Q : Exit → Ents → List Res → Prop) : Exit → Ents → List Res → Prop
  | .exit id', l, L => if id' = id then Q .normal l L else Q (.exit id') l L
  | e, l, L => Q e l L
theorem CW_block {id : Nat} {c : Code} (h : CW P n c l H L (blockS id Q)) : CW P n (.block id c) l H L Q := by
  intro G hg
  refine AW_block ((h G hg).mono ?_)
  rintro e l' G' ⟨L', h1, h2⟩
  cases e <;> first | exact ⟨L', h1, h2⟩ | skip
  simp only [blockS] at h2
  simp only [blockQ]
  split
  · rename_i e; rw [if_pos e] at h2; exact ⟨L', h1, h2⟩
  · rename_i e; rw [if_neg e] at h2; exact ⟨L', h1, h2⟩
theorem CW.weaken {c : Code} {l' : Ents} {L' : List Res} (h : CW P n c l' H L' Q) (hl : subE l' l) (hL : SubL L' L) : CW P n c l H L Q :=
  fun G hg => (h G (hg.sub hL)).weaken hl fun _ _ h => h
theorem CW_loop {c : Code} (I : Nat → Ents → List Res → Prop) (h₀ : ∃ m l' L', I m l' L' ∧ subE l' l ∧ SubL L' L)
    (round : ∀ m l L, I m l L → CW P n c l H L (thenS (fun l' L' => ∃ m' l2 L2, I m' l2 L2 ∧ subE l2 l' ∧ SubL L2 L' ∧ m' < m) Q)) : CW P n (.loop c) l H L Q := by
  intro G hg
  obtain ⟨m, l', L', hi, hl, hL⟩ := h₀
  refine AW_loop (σ := Nat × Ents × List Res × Hp) (fun s => s.2.1) (fun s => s.2.2.2) (fun s => I s.1 s.2.1 s.2.2.1 ∧ Hs H s.2.2.1 s.2.2.2) (fun s => s.1) (m, l', L', G) ⟨hi, hg.sub hL⟩ hl (fun _ _ h => h) ?_
  rintro ⟨m, l, L, G⟩ ⟨hi, hg⟩
  refine (round m l L hi G hg).mono ?_
  rintro e l' G' ⟨L', h1, h2⟩
  cases e <;> first | exact ⟨L', h1, h2⟩ | skip
  obtain ⟨m', l2, L2, k1, k2, k3, k4⟩ := h2
  exact ⟨(m', l2, L2, G'), ⟨k1, h1.sub k3⟩, k2, fun _ _ h => h, k4⟩
theorem CW_once {c : Code} (h : CW P n c l H L (thenS (fun _ _ => False) Q)) : CW P n (.loop c) l H L Q := by
  intro G hg
  refine AW_loop_once ((h G hg).mono ?_)
  rintro e l' G' ⟨L', h1, h2⟩
  cases e <;> first | exact h2.elim | exact ⟨L', h1, h2⟩

def resg (P : Program) (G : Hp) (l : Ents) : List ResultVar → Option (List Value)
  | [] => some []
  | .tmp t :: r => match evg l true (.tmp t) with
    | some v => (resg P G l r).map (v :: ·)
    | none => none
  | .cell b t :: r => match evg l true (.tmp b) with
    | some (.pointer (some a)) => match ldv P G t a with
      | some v => (resg P G l r).map (v :: ·)
      | none => none
    | _ => none
theorem resg_ok {a : Act} {G : Hp} {w : World} (he : EnvOk n l a) (hf : Fit Ω G w) {fn : Func} {vs : List Value} (h : resg P G l fn.results.toList = some vs) :
    (results fn a.tmps).run P w = .ok (resOne vs) w := by
  have key : ∀ (rs : List ResultVar) (vs : List Value), resg P G l rs = some vs → (rs.mapM (rv a.tmps)).run P w = .ok vs w := by
    intro rs
    induction rs with
    | nil => intro vs h; cases h; rfl
    | cons r rs ih =>
      intro vs h
      cases r with
      | cell b t =>
        simp only [resg] at h
        cases hv : evg l true (.tmp b) with
        | none => rw [hv] at h; cases h
        | some v =>
          rw [hv] at h
          cases v <;> (try simp only [reduceCtorEq] at h)
          rename_i p
          cases p <;> (try simp only [reduceCtorEq] at h)
          rename_i ad
          cases hl : ldv P G t ad <;> (try simp only [hl, reduceCtorEq] at h)
          rename_i v
          obtain ⟨vr, hr, rfl⟩ := Option.map_eq_some_iff.1 h
          have e : a.tmps.getD b undef = .pointer (some ad) := evg_ok he hv
          rw [List.mapM_cons, Sem.run_bind]
          have e2 : (rv a.tmps (.cell b t)).run P w = .ok v w := by
            show Sem.run P (asAddr (a.tmps.getD b undef) >>= fun x => loadVar t x) w = _
            rw [e, Sem.run_bind]
            show (Result.ok ad w).andThen _ = _
            rw [Result.andThen_ok]
            exact ldv_ok hf hl
          rw [e2, Result.andThen_ok, Sem.run_bind, ih _ hr]; rfl
      | tmp t =>
        simp only [resg] at h
        cases hv : evg l true (.tmp t) with
        | none => rw [hv] at h; cases h
        | some v =>
          rw [hv] at h
          obtain ⟨vr, hr, rfl⟩ := Option.map_eq_some_iff.1 h
          have e : a.tmps.getD t undef = v := evg_ok he hv
          rw [List.mapM_cons, Sem.run_bind]
          have e2 : (rv a.tmps (.tmp t)).run P w = .ok v w := by rw [← e]; rfl
          rw [e2, Result.andThen_ok, Sem.run_bind, ih _ hr]; rfl
  rw [results_rv, Sem.run_bind, Array.mapM_eq_mapM_toList, Sem.run_map, key fn.results.toList vs h]
  show (Result.ok _ w) = _
  congr 1
  unfold resOne
  cases vs with
  | nil => rfl
  | cons v r => cases r <;> rfl
def ResOk (P : Program) (l : Ents) (H : Hp) (L : List Res) (rs : List ResultVar) (vs : List Value) : Prop := ∀ G, Hs H L G → resg P G l rs = some vs
theorem resok_nil : ResOk P l H L [] [] := fun _ _ => rfl
theorem resok_tmp {t : Tmp} {rs : List ResultVar} {v : Value} {vs : List Value} (hv : evg l true (.tmp t) = some v) (h : ResOk P l H L rs vs) : ResOk P l H L (.tmp t :: rs) (v :: vs) :=
  fun G hg => by simp only [resg, hv, h G hg, Option.map_some]
def bodyS (P : Program) (fn : Func) (H : Hp) (K : Value → List Res → Prop) : Exit → Ents → List Res → Prop
  | .normal, l, L | .ret, l, L => ∃ vs L', ResOk P l H L fn.results.toList vs ∧ SubL L' L ∧ K (resOne vs) L'
  | _, _, _ => False
theorem SC_intro {f : FuncId} {fn : Func} {c : Code} {args : List Value} {K : Value → List Res → Prop} (hf : P.funcs[f]? = some fn) (hb : fn.body = some c) (hd : dstOk fn.ntmps c = true)
    (hn : args.length ≤ fn.ntmps) (h : CW P fn.ntmps c (argE 0 args) H L (bodyS P fn H K)) : SC P f args H L K := by
  intro G hg Ω w fw
  refine calls_of_wp hf hb (wp_mono (h G hg hd Ω _ w ⟨rfl, ?_, ?_⟩ fw) ?_)
  · simp; omega
  · intro i g v hl
    obtain ⟨rfl, _, hv⟩ := look_argE args 0 i g v hl
    rw [if_pos rfl]
    have hlt : i < args.length := by
      rcases Nat.lt_or_ge i args.length with h | h
      · exact h
      · rw [List.getElem?_eq_none (by omega)] at hv; cases hv
    show (args.toArray ++ _)[i]? = some v
    rw [Array.getElem?_append_left (by simpa using hlt)]
    simpa using hv
  · rintro e a' w' ⟨l', G', h1, h2, L', h3, h4⟩
    cases e <;> first | (exact h4.elim) | skip
    · obtain ⟨vs, L2, hr, hs, hk⟩ := h4
      exact ⟨h1.defers, _, resg_ok h1 h2 (hr G' h3), _, G', rfl, h2, L2, h3.sub hs, hk⟩
    · obtain ⟨vs, L2, hr, hs, hk⟩ := h4
      exact ⟨h1.defers, _, resg_ok h1 h2 (hr G' h3), _, G', rfl, h2, L2, h3.sub hs, hk⟩
end
end
/- the core library's rules of truth values, under short names -/
theorem jA {p : Prop} [Decidable p] : (decide p = true) = p := decide_eq_true_eq
theorem jB {p : Prop} {_ : Decidable p} : decide p = false ↔ ¬ p := decide_eq_false_iff_not
theorem jC (a b : Bool) : ((a && b) = true) = (a = true ∧ b = true) := Bool.and_eq_true a b
theorem jD (a b : Bool) : ((a || b) = true) = (a = true ∨ b = true) := Bool.or_eq_true a b
theorem jE (b : Bool) : ((!b) = true) = (b = false) := Bool.not_eq_true' b
theorem jF (b : Bool) : ((!b) = false) = (b = true) := Bool.not_eq_false' b
theorem jG {x y : Bool} : (x && y) = false ↔ x = false ∨ y = false := Bool.and_eq_false_iff
theorem jH {x y : Bool} : (x || y) = false ↔ x = false ∧ y = false := Bool.or_eq_false_iff
theorem jI : (true = false) = False := Bool.true_eq_false
theorem jJ : (false = true) = False := Bool.false_eq_true
theorem jK (b : Bool) : (!!b) = b := Bool.not_not b
theorem jL {α : Type} (l : List α) : [] ++ l = l := rfl
theorem jM {α : Type} (x : α) (l m : List α) : x :: l ++ m = x :: (l ++ m) := rfl
end Go.Proofs.Ytkhmimlgkjenfaa.HL
