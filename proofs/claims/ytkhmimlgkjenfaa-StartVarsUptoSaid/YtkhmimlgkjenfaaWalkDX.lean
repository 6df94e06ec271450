/- WalkD: StaSk: fewer resources. No condition. StaSc: code with a label to which it jumps back. No condition. StaZa: start.inner: the net of a package's things. Conditions: lengths; single names. StaZb: far: the distances to one of them. Conditions: lengths; the rows hold numbers of places. StaZc: plain: the best start of a cycle so far, and the telling of one; texts compared. No condition. -/
import Derived.Test.YtkhmimlgkjenfaaHLmX
import Derived.Test.YtkhmimlgkjenfaaEngX
import Derived.Test.YtkhmimlgkjenfaaWalkBX
namespace Go.Proofs.Ytkhmimlgkjenfaa.HL
open Go
set_option linter.unusedSimpArgs false
set_option maxHeartbeats 8000000
set_option maxRecDepth 100000
set_option linter.unusedVariables false

theorem subl_tail {L M : List Res} {r : Res} (h : SubL M L) : SubL M (r :: L) := fun U G hs => h _ _ (subl_right (L := [r]) U G hs)
theorem sblt {L2 L : List Res} (h : SubL L2 L := by (repeat (first | (apply subl_cons; (focus ((iterate 16 (try (first | exact pick0 | apply pickS))); done))) | apply subl_nilown)); first | exact subl_nil | exact subl_refl | (repeat (first | exact subl_refl | apply subl_tail))) : SubL L2 L := h
theorem pickA {L L' : List Res} {r : Res} (h : Pick L r L') : ∀ A : List Res, Pick (A ++ L) r (A ++ L')
  | [] => h
  | a :: A => pickS (pickA h A)
theorem subl_comm : ∀ {L M : List Res}, SubL (L ++ M) (M ++ L)
  | [], M => by rw [List.append_nil]; exact subl_refl
  | r :: L, M => subl_cons (pickA pick0 M) subl_comm
section
variable {P : Program} {ops : Array Oper} {os : List Oper} {l : Ents} {H : Hp} {L L' : List Res} {K : Ents → List Res → Prop}
theorem RW_drop (L' : List Res) (hl : SubL L' L) (h : RW P ops os l H L' K) : RW P ops os l H L K := fun G hg => h G (hg.sub hl)
end
section
variable {P : Program} {l : Ents} {H : Hp} {L : List Res} {K : Value → List Res → Prop} {d : Option Tmp} {T : TypeId} {pos : String} {aft : Array Edge} {gd : Option (Nat × Bool)}
theorem gx_lit {t e : TypeId} {n : Nat} {ps : Array (Nat × Operand)} {zv : Value} {vs : List (Nat × Value)} {cs : List Value} {z : Nat} [hd : Und P t (.slice e)] [hz : Szc P e z] [hzv : Zec P e zv] (hp : evp l true ps.toList = some vs) (hzs : zv.cells.size = z)
    (hc : bslv z zv n vs = some cs) (hl : cs.length = n * z) (hn : n * z ≤ 2 ^ 24) (h : ∀ b, K (.slice (some ⟨b, 0, none⟩) n n) (.own e z (some ⟨b, 0, none⟩) n n cs :: L)) :
    GX P l ⟨d, .buildSlice t n ps, T, pos, aft, gd⟩ H L K := by
  intro G hg
  subst hzs
  refine hgen_buildSlice hp hd.h hz.h hzv.h hc hn fun b G1 hb hx hk => ⟨hx, _, hg.new (fp := fun x => x = b) hx (own_of_row (rest := []) (by rw [List.append_nil]; exact hk) hl (by simp) (Nat.le_refl _)) (by rintro _ rfl; exact hb), h b⟩
theorem gx_lit1 {t e : TypeId} {x : Operand} {zv v : Value} {cs : List Value} {z : Nat} [hd : Und P t (.slice e)] [hz : Szc P e z] [hzv : Zec P e zv] (hx : evg l true x = some v) (hzs : zv.cells.size = z)
    (hc : v.cells = cs.toArray) (hl : cs.length = z) (hn : z ≤ 2 ^ 24) (h : ∀ b, K (.slice (some ⟨b, 0, none⟩) 1 1) (.own e z (some ⟨b, 0, none⟩) 1 1 cs :: L)) :
    GX P l ⟨d, .buildSlice t 1 #[(0, x)], T, pos, aft, gd⟩ H L K := by
  refine gx_lit (vs := [(0, v)]) (cs := cs) (by simp [evp, hx]) hzs ?_ (by omega) (by omega) h
  subst hzs
  rw [bslv_one (by rw [hc]; simpa using hl), hc]
end
end Go.Proofs.Ytkhmimlgkjenfaa.HL
namespace Go.Proofs.Ytkhmimlgkjenfaa.HL
open Go
set_option linter.unusedSimpArgs false
set_option maxHeartbeats 8000000
set_option maxRecDepth 100000
set_option linter.unusedVariables false
variable {Ω : World}

theorem step_scope' {P : Program} {b : Frame} {a : Act} {k : List Item} {cs : List Frame} {w : World} {c : Code} : step P (lone (b.at a (.code (.scope c) :: k)) cs w) = .next (lone (b.at a (.code c :: .inScope c :: k)) cs w) :=
  step_lone_go (by simp [stepG, stepG.exec, Frame.at])
theorem step_inScope' {P : Program} {b : Frame} {a : Act} {k : List Item} {cs : List Frame} {w : World} {c : Code} : step P (lone (b.at a (.inScope c :: k)) cs w) = .next (lone (b.at a k) cs w) :=
  step_lone_go (by simp [stepG, stepG.exec, Frame.at])
def jumpQ (lab : Nat) (J : Ents → Hp → Prop) (Q : Exit → Ents → Hp → Prop) : Exit → Ents → Hp → Prop
  | .goto k, l, H => k = lab ∧ J l H
  | e, l, H => Q e l H
section
variable {P : Program} {n : Nat} {l : Ents} {H : Hp} {Q : Exit → Ents → Hp → Prop}
theorem AW_scope {c rest : Code} (lab : Nat) (hf : findLabel c lab = some rest) (hr : dstOk n rest = true) {σ : Type} (E : σ → Ents) (G : σ → Hp) (inv : σ → Prop) (μ : σ → Nat)
    (first : AW P n c l H (jumpQ lab (fun l' H' => ∃ s, inv s ∧ subE (E s) l' ∧ (∀ b o, G s b = some o → H' b = some o)) Q))
    (pass : ∀ s, inv s → AW P n rest (E s) (G s) (jumpQ lab (fun l' H' => ∃ s', inv s' ∧ subE (E s') l' ∧ (∀ b o, G s' b = some o → H' b = some o) ∧ μ s' < μ s) Q)) : AW P n (.scope c) l H Q := by
  intro hd Ω a w he f b k cs
  have hg : gotoIn lab (.inScope c :: k) = some (.code rest :: .inScope c :: k) := by simp [gotoIn, hf]
  have key : ∀ m s a w, μ s = m → inv s → EnvOk n (E s) a → Fit Ω (G s) w →
      ∃ e a' w', (∃ l' H', EnvOk n l' a' ∧ Fit Ω H' w' ∧ Q e l' H') ∧ Arrives P (lone (b.at a (.code rest :: .inScope c :: k)) cs w) b k cs e a' w' := by
    intro m
    induction m using Nat.strongRecOn with
    | _ m ih =>
      intro s a w hm hi he f
      obtain ⟨e, a₁, w₁, ⟨l', H', h1, h2, h3⟩, harr⟩ := pass s hi hr Ω a w he f b (.inScope c :: k) cs
      cases e with
      | normal => exact ⟨.normal, a₁, w₁, ⟨l', H', h1, h2, h3⟩, Steps.trans harr (.one step_inScope')⟩
      | exit id => exact ⟨.exit id, a₁, w₁, ⟨l', H', h1, h2, h3⟩, fun k' hk => harr k' (by simp [exitTo, hk])⟩
      | goto l2 =>
        obtain ⟨rfl, s', hi', hs', hh', hlt⟩ := h3
        obtain ⟨e₂, a₂, w₂, hq₂, harr₂⟩ := ih (μ s') (hm ▸ hlt) s' a₁ w₁ rfl hi' (h1.sub hs') (h2.weaken hh')
        exact ⟨e₂, a₂, w₂, hq₂, .of_steps (harr _ hg) harr₂⟩
      | ret => exact ⟨_, a₁, w₁, ⟨l', H', h1, h2, h3⟩, harr⟩
      | panic ch => exact ⟨_, a₁, w₁, ⟨l', H', h1, h2, h3⟩, harr⟩
      | outgrown => exact ⟨_, a₁, w₁, ⟨l', H', h1, h2, h3⟩, harr⟩
  obtain ⟨e, a₁, w₁, ⟨l', H', h1, h2, h3⟩, harr⟩ := first hd Ω a w he f b (.inScope c :: k) cs
  cases e with
  | normal => exact ⟨.normal, a₁, w₁, ⟨l', H', h1, h2, h3⟩, .head step_scope' (Steps.trans harr (.one step_inScope'))⟩
  | exit id => exact ⟨.exit id, a₁, w₁, ⟨l', H', h1, h2, h3⟩, fun k' hk => .head step_scope' (harr k' (by simp [exitTo, hk]))⟩
  | goto l2 =>
    obtain ⟨rfl, s', hi', hs', hh'⟩ := h3
    obtain ⟨e₂, a₂, w₂, hq₂, harr₂⟩ := key _ s' a₁ w₁ rfl hi' (h1.sub hs') (h2.weaken hh')
    exact ⟨e₂, a₂, w₂, hq₂, .of_steps (.head step_scope' (harr _ hg)) harr₂⟩
  | ret => exact ⟨_, a₁, w₁, ⟨l', H', h1, h2, h3⟩, .of_steps (.one step_scope') harr⟩
  | panic ch => exact ⟨_, a₁, w₁, ⟨l', H', h1, h2, h3⟩, .of_steps (.one step_scope') harr⟩
  | outgrown => exact ⟨_, a₁, w₁, ⟨l', H', h1, h2, h3⟩, .of_steps (.one step_scope') harr⟩
end
def jumpS (lab : Nat) (J : Ents → List Res → Prop) (Q : Exit → Ents → List Res → Prop) : Exit → Ents → List Res → Prop
  | .goto k, l, L => k = lab ∧ J l L
  | e, l, L => Q e l L
section
variable {P : Program} {n : Nat} {l : Ents} {H : Hp} {L : List Res} {Q : Exit → Ents → List Res → Prop} {lab : Nat} {J : Ents → List Res → Prop}
theorem jumpS_g (h : J l L) : jumpS lab J Q (.goto lab) l L := ⟨rfl, h⟩
theorem jumpS_r (h : Q .ret l L) : jumpS lab J Q .ret l L := h
theorem CW_scope {c rest : Code} (lab : Nat) (hf : findLabel c lab = some rest) (hr : dstOk n rest = true) (I : Nat → Ents → List Res → Prop)
    (first : CW P n c l H L (jumpS lab (fun l' L' => ∃ m l2 L2, I m l2 L2 ∧ subE l2 l' ∧ SubL L2 L') Q))
    (pass : ∀ m l L, I m l L → CW P n rest l H L (jumpS lab (fun l' L' => ∃ m' l2 L2, I m' l2 L2 ∧ subE l2 l' ∧ SubL L2 L' ∧ m' < m) Q)) : CW P n (.scope c) l H L Q := by
  intro G hg
  refine AW_scope lab hf hr (σ := Nat × Ents × List Res × Hp) (fun s => s.2.1) (fun s => s.2.2.2) (fun s => I s.1 s.2.1 s.2.2.1 ∧ Hs H s.2.2.1 s.2.2.2) (fun s => s.1) ((first G hg).mono ?_) ?_
  · rintro e l' G' ⟨L', h1, h2⟩
    cases e <;> first | exact ⟨L', h1, h2⟩ | skip
    obtain ⟨h0, m', l2, L2, k1, k2, k3⟩ := h2
    exact ⟨h0, (m', l2, L2, G'), ⟨k1, h1.sub k3⟩, k2, fun _ _ h => h⟩
  · rintro ⟨m, l, L, G⟩ ⟨hi, hg⟩
    refine (pass m l L hi G hg).mono ?_
    rintro e l' G' ⟨L', h1, h2⟩
    cases e <;> first | exact ⟨L', h1, h2⟩ | skip
    obtain ⟨h0, m', l2, L2, k1, k2, k3, k4⟩ := h2
    exact ⟨h0, (m', l2, L2, G'), ⟨k1, h1.sub k3⟩, k2, fun _ _ h => h, k4⟩
end
end Go.Proofs.Ytkhmimlgkjenfaa.HL
namespace Go.Proofs.Ytkhmimlgkjenfaa.HL
open Go
attribute [local irreducible] goFn thenS blockS bodyS CW RW DW GW QW NW SC Pick Picks SubL Rd NN ResOk SrcW subE hops hseg AW hgen HC qv bldv
set_option maxHeartbeats 8000000
set_option maxRecDepth 100000
set_option linter.unusedVariables false
set_option linter.unusedSimpArgs false

structure Rw where
  a : Option Addr
  c : Nat
  l : List Nat
def nums (l : List Nat) : List Value := l.map fun (k : Nat) => .int .i64 (k : Int)
def rwV (r : Rw) : Value := .slice r.a r.l.length r.c
def rwvs (l : List Rw) : List Value := l.map rwV
def bools (l : List Bool) : List Value := l.map .bool
def rwOk (H : Hp) (r : Rw) : Prop := Rs H 1 r.a r.l.length r.c (nums r.l)
def RowsIn (L : List Res) (rows : List Rw) : Prop := ∀ H G, Hs H L G → ∀ r, r ∈ rows → rwOk G r
theorem rows_nil : RowsIn [] [] := fun _ _ _ r hr => by cases hr
theorem rows_snoc {L : List Res} {rows : List Rw} {e : TypeId} (r : Rw) (h : RowsIn L rows) : RowsIn (.own e 1 r.a r.l.length r.c (nums r.l) :: L) (rows ++ [r]) := fun H G hG x hx => by
  rcases List.mem_append.1 hx with g | g
  · exact h H G (hG.sub (subl_tail subl_refl)) x g
  · obtain rfl := List.mem_singleton.1 g
    exact sl_own pick0 hG
theorem rows_tail {L : List Res} {rows : List Rw} {r : Res} (h : RowsIn L rows) : RowsIn (r :: L) rows := fun H G hG => h H G (hG.sub (subl_tail subl_refl))
theorem find_hit (t : List Th) (c : Nat) (a : Option Addr) (s : Tx) (k : Nat) (y : Th) (H : Hp) (hr : Rs H 3 a t.length c (t.flatMap thC)) (hl : t.length ≤ 1099511627776) (hd : (t.map Th.n).Nodup) (hk : t[k]? = some y) (hn : y.n = s) :
    SC Try.prog 58 [.slice a t.length c, .string (bstr s)] H [] (fun v M => v = .int .i64 ((k : Nat) : Int) ∧ M = []) :=
  SC.mono (find_spec t c a s H hr hl) fun v M ⟨i, h1, h2, h3⟩ => by
    rcases h1 with ⟨_, h4⟩ | ⟨j, x, h4, h5, h6, _⟩
    · exact absurd hn (h4 k y hk)
    · obtain ⟨rfl, _⟩ := get_one hd h5 hk (h6.trans hn.symm)
      exact ⟨by rw [h2, h4], h3⟩
theorem find_miss (t : List Th) (c : Nat) (a : Option Addr) (s : Tx) (H : Hp) (hr : Rs H 3 a t.length c (t.flatMap thC)) (hl : t.length ≤ 1099511627776) (hn : s ∉ t.map Th.n) :
    SC Try.prog 58 [.slice a t.length c, .string (bstr s)] H [] (fun v M => v = .int .i64 (-1) ∧ M = []) :=
  SC.mono (find_spec t c a s H hr hl) fun v M ⟨i, h1, h2, h3⟩ => by
    rcases h1 with ⟨h4, _⟩ | ⟨j, x, h4, h5, h6, _⟩
    · exact ⟨by rw [h2, h4], h3⟩
    · exact absurd (List.mem_map.2 ⟨x, List.mem_of_getElem? h5, h6⟩) hn
def RowOk (t : List Th) (us : List Tx) (r : List Nat) : Prop := ∀ j : Nat, j ∈ r ↔ ∃ y, t[j]? = some y ∧ y.n ∈ us
def NetRows (t : List Th) (rows : List Rw) : Prop := rows.length = t.length ∧ ∀ (i : Nat) (r : Rw) (x : Th), rows[i]? = some r → t[i]? = some x → RowOk t x.u r.l ∧ r.l.length ≤ x.u.length
theorem row_nil (t : List Th) : RowOk t [] [] := fun j => ⟨fun h => (by cases h), fun ⟨_, _, h⟩ => by cases h⟩
theorem row_hit {t : List Th} {us : List Tx} {r : List Nat} {k : Nat} {y : Th} {s : Tx} (h : RowOk t us r) (hd : (t.map Th.n).Nodup) (hk : t[k]? = some y) (hn : y.n = s) : RowOk t (us ++ [s]) (r ++ [k]) := fun j => by
  rw [List.mem_append, h j, List.mem_singleton]
  constructor
  · rintro (⟨z, h1, h2⟩ | rfl)
    · exact ⟨z, h1, List.mem_append_left _ h2⟩
    · exact ⟨y, hk, by rw [hn]; simp⟩
  · rintro ⟨z, h1, h2⟩
    rcases List.mem_append.1 h2 with h2 | h2
    · exact .inl ⟨z, h1, h2⟩
    · exact .inr (get_one hd h1 hk ((List.mem_singleton.1 h2).trans hn.symm)).1
theorem row_miss {t : List Th} {us : List Tx} {r : List Nat} {s : Tx} (h : RowOk t us r) (hn : s ∉ t.map Th.n) : RowOk t (us ++ [s]) r := fun j => by
  rw [h j]
  constructor
  · rintro ⟨z, h1, h2⟩; exact ⟨z, h1, List.mem_append_left _ h2⟩
  · rintro ⟨z, h1, h2⟩
    rcases List.mem_append.1 h2 with h2 | h2
    · exact ⟨z, h1, h2⟩
    · exact absurd (List.mem_map.2 ⟨z, List.mem_of_getElem? h1, List.mem_singleton.1 h2⟩) hn
theorem NetRows.net {t : List Th} {rows : List Rw} (h : NetRows t rows) : Net Th.n Th.u t (rows.map Rw.l) := by
  have key : ∀ i k, Nx (rows.map Rw.l) i k → ∃ (r : Rw) (x : Th), rows[i]? = some r ∧ t[i]? = some x ∧ k ∈ r.l := by
    rintro i k ⟨r, h1, h2⟩
    rw [List.getElem?_map] at h1
    obtain ⟨w, hw, rfl⟩ := Option.map_eq_some_iff.1 h1
    have hi : i < t.length := by rw [← h.1]; exact (List.getElem?_eq_some_iff.1 hw).1
    exact ⟨w, _, hw, List.getElem?_eq_getElem hi, h2⟩
  refine ⟨by rw [List.length_map, h.1], fun i k hk => ?_, fun i k x y hx hy => ?_⟩
  · obtain ⟨r, x, h1, h2, h3⟩ := key i k hk
    obtain ⟨y, h4, _⟩ := ((h.2 i r x h1 h2).1 k).1 h3
    exact (List.getElem?_eq_some_iff.1 h4).1
  · constructor
    · intro hk
      obtain ⟨r, x', h1, h2, h3⟩ := key i k hk
      rw [hx] at h2; cases h2
      obtain ⟨y', h4, h5⟩ := ((h.2 i r x h1 hx).1 k).1 h3
      rw [hy] at h4; cases h4
      exact h5
    · intro hn
      have hi : i < rows.length := by rw [h.1]; exact (List.getElem?_eq_some_iff.1 hx).1
      exact ⟨_, by rw [List.getElem?_map, List.getElem?_eq_getElem hi]; rfl, ((h.2 i _ x (List.getElem?_eq_getElem hi) hx).1 k).2 ⟨y, hy, hn⟩⟩
abbrev netV (n : Nat) (na : Option Addr) (nc : Nat) (xa : Option Addr) (xc : Nat) (ma : Option Addr) (mc : Nat) : Value := .agg #[.slice na n nc, .slice xa n xc, .slice ma n mc]
theorem nums_snoc (r : List Nat) (k : Nat) : nums r ++ [.int .i64 ((k : Nat) : Int)] = nums (r ++ [k]) := by simp [nums]
theorem rwvs_snoc (rows : List Rw) (r : Rw) : rwvs rows ++ [rwV r] = rwvs (rows ++ [r]) := by simp [rwvs]
theorem txs_snoc (l : List Tx) (s : Tx) : txs l ++ [.string (bstr s)] = txs (l ++ [s]) := by simp [txs]
theorem bools_snoc (l : List Bool) (b : Bool) : bools l ++ [.bool b] = bools (l ++ [b]) := by simp [bools]
theorem inner_spec (t : List Th) (ta : Option Addr) (tc : Nat) (H : Hp) (hr : Rs H 3 ta t.length tc (t.flatMap thC)) (hok : ∀ x, x ∈ t → thOk H x) (hd : (t.map Th.n).Nodup) (hl : t.length ≤ 1048576) (hu : ∀ x, x ∈ t → x.u.length ≤ 1048576) :
    SC Try.prog 34 [.slice ta t.length tc] H [] (fun v M => ∃ rows na nc xa xc ma mc L', v = netV t.length na nc xa xc ma mc ∧ M = .own 9 1 na t.length nc (txs (t.map Th.n)) :: .own 80 1 xa t.length xc (rwvs rows) :: .own 4 1 ma t.length mc (bools (t.map Th.v)) :: L' ∧ RowsIn L' rows ∧ NetRows t rows) := by
  (refine SC_intro Try.func34 rfl (by kernel_rfl) (by rw [Try.ntmps34]; exact Nat.le_of_ble_eq_true rfl) ?_; simp only [Try.ntmps34, argE, Nat.reduceAdd])
  
  repeat' (first | (apply RW.q1; exact qt) | refine xsg cts ?_ | (apply CW_condT; exact rfl; exact ar) | (apply CW_condF; exact rfl; exact ar) | (refine hK _ _ ?_; clear hK; refine xsg xsl ?_) | ((first | apply RW.a1 | apply RW.a0); (first | (apply gw_alloc (d := some 2); exact rfl; intro b2) | (apply gw_alloc (d := some 3); exact rfl; intro b3) | (apply gw_asg; exact rfl) | (apply gw_alloc; exact rfl; intro b) | (apply gw_lit1; exact rfl; exact rfl; exact rfl; exact rfl; decide; intro b) | (apply gw_lit2; exact rfl; exact rfl; exact rfl; exact rfl; intro b) | (apply gw_lit3; exact rfl; exact rfl; exact rfl; exact rfl; exact rfl; intro b) | (apply gw_ap1; exact rfl; exact rfl; infer_instance; infer_instance; exact rfl; exact rfl; exact rfl; exact rfl; omega; intro a c) | (apply gw_ap1n; exact rfl; exact rfl; infer_instance; exact rfl; exact rfl; exact rfl; exact rfl; omega; intro a c) | (refine gw_stx sto ?_) | (fail))) | (apply CW_region; intro K hK) | (apply CW_condX; exact rfl; exact tst; exact tst; all_goals (intro hq hc; try exact no)))
  refine CW_loop (fun m ll L => ∃ (k nc xc mc n1 n2 n3 : Nat) (na xa ma : Option Addr) (rows : List Rw) (cs1 cs2 cs3 : List Value) (L' : List Res), m = t.length - k ∧ ll = [(0, true, .slice ta t.length tc), (2, true, .pointer (some ⟨b2, 0, none⟩)), (3, true, .pointer (some ⟨b3, 0, none⟩)), (10, true, .slice ta t.length tc), (11, true, .int .i64 t.length), (12, true, .int .i64 (k : Nat))] ∧
      L = .box b2 76 [.slice none 0 0, .slice none 0 0, .slice none 0 0] :: .box b3 76 [.slice na n1 nc, .slice xa n2 xc, .slice ma n3 mc] :: .own 9 1 na n1 nc cs1 :: .own 80 1 xa n2 xc cs2 :: .own 4 1 ma n3 mc cs3 :: L' ∧
      k ≤ t.length ∧ n1 = k ∧ n2 = k ∧ n3 = k ∧ cs1 = txs ((t.take k).map Th.n) ∧ cs2 = rwvs rows ∧ cs3 = bools ((t.take k).map Th.v) ∧ RowsIn L' rows ∧ rows.length = k ∧ ∀ (i : Nat) (r : Rw) (x : Th), rows[i]? = some r → t[i]? = some x → RowOk t x.u r.l ∧ r.l.length ≤ x.u.length)
    ⟨_, _, _, ⟨0, 0, 0, 0, 0, 0, 0, none, none, none, [], [], [], [], [], rfl, rfl, rfl, by omega, rfl, rfl, rfl, rfl, rfl, rfl, rows_nil, rfl, fun i r x h => by simp at h⟩, by exact sbe, sblt⟩ ?_
  rintro m ll L ⟨k, nc, xc, mc, n1, n2, n3, na, xa, ma, rows, cs1, cs2, cs3, L', rfl, rfl, rfl, hk, hn1, hn2, hn3, hc1, hc2, hc3, hL', hrl, hro⟩
  by_cases hlt : k < t.length
  · obtain ⟨x, hx⟩ : ∃ x, t[k]? = some x := ⟨_, List.getElem?_eq_getElem (by omega)⟩
    have hxm := List.mem_of_getElem? hx
    have hxo : Rs H 1 x.a x.u.length x.c (txs x.u) := hok x hxm
    have hxu := hu x hxm
    have e1 : cs1 ++ [.string (bstr x.n)] = txs ((t.take (k + 1)).map Th.n) := by rw [hc1, txs_snoc, List.take_add_one, hx, List.map_append]; rfl
    have e3 : cs3 ++ [.bool x.v] = bools ((t.take (k + 1)).map Th.v) := by rw [hc3, bools_snoc, List.take_add_one, hx, List.map_append]; rfl
    
    repeat' (first | (apply RW.q1; (first | (apply q_lar; exact rfl; exact rfl; exact hr; exact ix_elem hx (by omega); exact rfl; decide) | exact qt)) | refine xsg cts ?_ | (apply CW_condT; exact rfl; exact ar) | (apply CW_condF; exact rfl; exact ar) | (refine hK _ _ ?_; clear hK; refine xsg xsl ?_) | ((first | apply RW.a1 | apply RW.a0); (first | (apply gw_alloc (d := some 5); exact rfl; intro b5) | (apply gw_asg; exact rfl) | (apply gw_alloc; exact rfl; intro b) | (apply gw_lit1; exact rfl; exact rfl; exact rfl; exact rfl; decide; intro b) | (apply gw_lit2; exact rfl; exact rfl; exact rfl; exact rfl; intro b) | (apply gw_lit3; exact rfl; exact rfl; exact rfl; exact rfl; exact rfl; intro b) | (apply gw_ap1; exact rfl; exact rfl; infer_instance; infer_instance; exact rfl; exact rfl; exact rfl; exact rfl; omega; intro a c) | (apply gw_ap1n; exact rfl; exact rfl; infer_instance; exact rfl; exact rfl; exact rfl; exact rfl; omega; intro a c) | (refine gw_stx sto ?_) | (fail))) | (apply CW_region; intro K hK) | (apply CW_condX; exact rfl; exact tst; exact tst; all_goals (intro hq hc; try exact no)))
    refine CW_loop (fun m ll L => ∃ (q nr rc c1 c3 : Nat) (ra a1 a3 : Option Addr) (r : List Nat) (cs : List Value), m = x.u.length - q ∧ ll = [(0, true, .slice ta t.length tc), (2, true, .pointer (some ⟨b2, 0, none⟩)), (3, true, .pointer (some ⟨b3, 0, none⟩)), (6, true, .slice ra nr rc), (10, true, .slice ta t.length tc), (11, true, .int .i64 t.length), (12, true, .int .i64 (k : Nat)), (31, true, .slice x.a x.u.length x.c), (32, true, .int .i64 x.u.length), (33, true, .int .i64 (q : Nat))] ∧
        L = .own 3 1 ra nr rc cs :: .box b2 76 [.slice none 0 0, .slice none 0 0, .slice none 0 0] :: .box b3 76 [.slice a1 (n1 + 1) c1, .slice xa n2 xc, .slice a3 (n3 + 1) c3] :: .own 9 1 a1 (n1 + 1) c1 (cs1 ++ [.string (bstr x.n)]) :: .own 80 1 xa n2 xc cs2 :: .own 4 1 a3 (n3 + 1) c3 (cs3 ++ [.bool x.v]) :: L' ∧
        q ≤ x.u.length ∧ nr = r.length ∧ nr ≤ q ∧ cs = nums r ∧ RowOk t (x.u.take q) r)
      ⟨_, _, _, ⟨0, 0, 0, _, _, none, _, _, [], [], rfl, rfl, rfl, by omega, rfl, by omega, rfl, row_nil t⟩, by exact sbe, sblt⟩ ?_
    rintro m ll L ⟨q, nr, rc, c1, c3, ra, a1, a3, r, cs, rfl, rfl, rfl, hq1, hnr, hnq, hcs, hrow⟩
    by_cases hql : q < x.u.length
    · subst hcs
      obtain ⟨s, hs⟩ : ∃ s, x.u[q]? = some s := ⟨_, List.getElem?_eq_getElem (by omega)⟩
      have ht1 : x.u.take (q + 1) = x.u.take q ++ [s] := by rw [List.take_add_one, hs]; rfl
      by_cases hin : s ∈ t.map Th.n
      · obtain ⟨y, hym, hyn⟩ := List.mem_map.1 hin
        obtain ⟨j, hj⟩ := List.mem_iff_getElem?.1 hym
        have hjl := (List.getElem?_eq_some_iff.1 hj).1
        
        repeat' (first | (apply RW.q1; (first | (apply q_ldr; exact rfl; exact rfl; exact hxo; exact txs_at hs (by omega)) | exact qt)) | refine xsg cts ?_ | (apply CW_condT; exact rfl; exact ar) | (apply CW_condF; exact rfl; exact ar) | (refine hK _ _ ?_; clear hK; refine xsg xsl ?_) | ((first | apply RW.a1 | apply RW.a0); (first | (apply gw_callE (f := 58); exact rfl; exact go58; intro G hG; exact find_hit t tc ta s j y G (hr.ext hG.ext) (by omega) hd hj hyn) | (apply gw_asg; exact rfl) | (apply gw_alloc; exact rfl; intro b) | (apply gw_lit1; exact rfl; exact rfl; exact rfl; exact rfl; decide; intro b) | (apply gw_lit2; exact rfl; exact rfl; exact rfl; exact rfl; intro b) | (apply gw_lit3; exact rfl; exact rfl; exact rfl; exact rfl; exact rfl; intro b) | (apply gw_ap1; exact rfl; exact rfl; infer_instance; infer_instance; exact rfl; exact rfl; exact rfl; exact rfl; omega; intro a c) | (apply gw_ap1n; exact rfl; exact rfl; infer_instance; exact rfl; exact rfl; exact rfl; exact rfl; omega; intro a c) | (refine gw_stx sto ?_) | (fail))) | (apply CW_region; intro K hK) | (apply CW_condX; exact rfl; exact tst; exact tst; all_goals (intro hq hc; try exact no)))
        exact ⟨_, _, _, ⟨q + 1, nr + 1, _, c1, c3, _, a1, a3, r ++ [j], nums r ++ [.int .i64 ((j : Nat) : Int)], rfl, rfl, rfl, by omega, by rw [List.length_append]; exact congrArg (· + 1) hnr, by omega, nums_snoc r j, by rw [ht1]; exact row_hit hrow hd hj hyn⟩, by exact sbe, sblt, by omega⟩
      · 
        repeat' (first | (apply RW.q1; (first | (apply q_ldr; exact rfl; exact rfl; exact hxo; exact txs_at hs (by omega)) | exact qt)) | refine xsg cts ?_ | (apply CW_condT; exact rfl; exact ar) | (apply CW_condF; exact rfl; exact ar) | (refine hK _ _ ?_; clear hK; refine xsg xsl ?_) | ((first | apply RW.a1 | apply RW.a0); (first | (apply gw_callE (f := 58); exact rfl; exact go58; intro G hG; exact find_miss t tc ta s G (hr.ext hG.ext) (by omega) hin) | (apply gw_asg; exact rfl) | (apply gw_alloc; exact rfl; intro b) | (apply gw_lit1; exact rfl; exact rfl; exact rfl; exact rfl; decide; intro b) | (apply gw_lit2; exact rfl; exact rfl; exact rfl; exact rfl; intro b) | (apply gw_lit3; exact rfl; exact rfl; exact rfl; exact rfl; exact rfl; intro b) | (apply gw_ap1; exact rfl; exact rfl; infer_instance; infer_instance; exact rfl; exact rfl; exact rfl; exact rfl; omega; intro a c) | (apply gw_ap1n; exact rfl; exact rfl; infer_instance; exact rfl; exact rfl; exact rfl; exact rfl; omega; intro a c) | (refine gw_stx sto ?_) | (fail))) | (apply CW_region; intro K hK) | (apply CW_condX; exact rfl; exact tst; exact tst; all_goals (intro hq hc; try exact no)))
        exact ⟨_, _, _, ⟨q + 1, nr, rc, c1, c3, ra, a1, a3, r, _, rfl, rfl, rfl, by omega, hnr, by omega, rfl, by rw [ht1]; exact row_miss hrow hin⟩, by exact sbe, sblt, by omega⟩
    obtain rfl : q = x.u.length := by omega
    rw [List.take_length] at hrow
    subst hnr
    subst hcs
    have e2 : cs2 ++ [.slice ra r.length rc] = rwvs (rows ++ [⟨ra, rc, r⟩]) := by rw [hc2]; exact rwvs_snoc rows ⟨ra, rc, r⟩
    
    repeat' (first | (apply RW.q1; exact qt) | refine xsg cts ?_ | (apply CW_condT; exact rfl; exact ar) | (apply CW_condF; exact rfl; exact ar) | (refine hK _ _ ?_; clear hK; refine xsg xsl ?_) | ((first | apply RW.a1 | apply RW.a0); (first | (apply gw_asg; exact rfl) | (apply gw_alloc; exact rfl; intro b) | (apply gw_lit1; exact rfl; exact rfl; exact rfl; exact rfl; decide; intro b) | (apply gw_lit2; exact rfl; exact rfl; exact rfl; exact rfl; intro b) | (apply gw_lit3; exact rfl; exact rfl; exact rfl; exact rfl; exact rfl; intro b) | (apply gw_ap1; exact rfl; exact rfl; infer_instance; infer_instance; exact rfl; exact rfl; exact rfl; exact rfl; omega; intro a c) | (apply gw_ap1n; exact rfl; exact rfl; infer_instance; exact rfl; exact rfl; exact rfl; exact rfl; omega; intro a c) | (refine gw_stx sto ?_) | (fail))) | (apply CW_region; intro K hK) | (apply CW_condX; exact rfl; exact tst; exact tst; all_goals (intro hq hc; try exact no)))
    refine ⟨_, _, _, ⟨k + 1, c1, _, c3, n1 + 1, n2 + 1, n3 + 1, a1, _, a3, rows ++ [⟨ra, rc, r⟩], _, _, _, .own 3 1 ra r.length rc (nums r) :: L', rfl, rfl, rfl, by omega, by omega, by omega, by omega, e1, e2, e3, rows_snoc ⟨ra, rc, r⟩ hL', by rw [List.length_append]; exact congrArg (· + 1) hrl, fun i r' x' hi hx' => ?_⟩, by exact sbe, sblt, by omega⟩
    rcases Nat.lt_or_ge i rows.length with h | h
    · rw [List.getElem?_append_left h] at hi
      exact hro i r' x' hi hx'
    · rw [List.getElem?_append_right h] at hi
      have hi0 : i - rows.length = 0 := by
        have := (List.getElem?_eq_some_iff.1 hi).1
        simpa using this
      rw [hi0] at hi
      cases hi
      obtain rfl : i = k := by omega
      rw [hx] at hx'
      cases hx'
      exact ⟨hrow, hnq⟩
  obtain rfl : k = t.length := by omega
  rw [List.take_length] at hc1 hc3
  subst hn1
  rw [hn2, hn3]
  subst hc1 hc2 hc3
  
  repeat' (first | (apply RW.q1; exact qt) | refine xsg cts ?_ | (apply CW_condT; exact rfl; exact ar) | (apply CW_condF; exact rfl; exact ar) | (refine hK _ _ ?_; clear hK; refine xsg xsl ?_) | ((first | apply RW.a1 | apply RW.a0); (first | (apply gw_asg; exact rfl) | (apply gw_alloc; exact rfl; intro b) | (apply gw_lit1; exact rfl; exact rfl; exact rfl; exact rfl; decide; intro b) | (apply gw_lit2; exact rfl; exact rfl; exact rfl; exact rfl; intro b) | (apply gw_lit3; exact rfl; exact rfl; exact rfl; exact rfl; exact rfl; intro b) | (apply gw_ap1; exact rfl; exact rfl; infer_instance; infer_instance; exact rfl; exact rfl; exact rfl; exact rfl; omega; intro a c) | (apply gw_ap1n; exact rfl; exact rfl; infer_instance; exact rfl; exact rfl; exact rfl; exact rfl; omega; intro a c) | (refine gw_stx sto ?_) | (fail))) | (apply CW_region; intro K hK) | (apply CW_condX; exact rfl; exact tst; exact tst; all_goals (intro hq hc; try exact no)))
  (refine CW_ret ?_; refine xsg xsl ?_; refine bodyS_ret (L' := .own 9 1 na t.length nc _ :: .own 80 1 xa t.length xc _ :: .own 4 1 ma t.length mc _ :: .box b2 76 _ :: .box b3 76 _ :: L') (rs := [.cell 2 76]) (by kernel_rfl) (by (repeat (first | (apply resok_tmp; exact rfl) | (apply resok_cell; exact rfl; exact rfl; (focus ((iterate 16 (try (first | exact pick0 | apply pickS))); done)); (first | exact rfl | assumption | (simp only [List.length_map]; omega)); decide))); exact resok_nil) (by exact sbl) ?_)
  exact ⟨rows, na, nc, xa, xc, ma, mc, _, rfl, rfl, rows_tail (rows_tail hL'), hrl, hro⟩
end Go.Proofs.Ytkhmimlgkjenfaa.HL
namespace Go.Proofs.Ytkhmimlgkjenfaa.HL
open Go
attribute [local irreducible] goFn thenS blockS bodyS CW RW DW GW QW NW SC Pick Picks SubL Rd NN ResOk SrcW subE hops hseg AW hgen HC qv bldv
set_option maxHeartbeats 8000000
set_option maxRecDepth 100000
set_option linter.unusedVariables false
set_option linter.unusedSimpArgs false

def ints (d : List Int) : List Value := d.map fun v => .int .i64 v
theorem ints_len (d : List Int) : (ints d).length = d.length := List.length_map _
theorem ints_set (d : List Int) (i : Nat) (w : Int) : (ints d).set i (.int .i64 w) = ints (d.set i w) := by simp [ints, List.map_set]
theorem ints_at {d : List Int} {k j : Nat} {v : Int} (hx : d[k]? = some v) (hj : j = k) : ((ints d).drop j).take 1 = [.int .i64 v] := by
  subst hj
  have := ix_map (g := fun v : Int => Value.int .i64 v) (i := (j : Int)) hx (by omega)
  simpa [ints] using this
theorem nums_at {d : List Nat} {k j : Nat} {v : Nat} (hx : d[k]? = some v) (hj : j = k) : ((nums d).drop j).take 1 = [.int .i64 (v : Int)] := by
  subst hj
  have := ix_map (g := fun v : Nat => Value.int .i64 (v : Int)) (i := (j : Int)) hx (by omega)
  simpa [nums] using this
theorem rwv_at {d : List Rw} {k j : Nat} {r : Rw} (hx : d[k]? = some r) (hj : j = k) : ((rwvs d).drop j).take 1 = [.slice r.a r.l.length r.c] := by
  subst hj
  have := ix_map (g := rwV) (i := (j : Int)) hx (by omega)
  simpa [rwvs, rwV] using this
theorem bools_at {d : List Bool} {k j : Nat} {v : Bool} (hx : d[k]? = some v) (hj : j = k) : ((bools d).drop j).take 1 = [.bool v] := by
  subst hj
  have := ix_map (g := fun v : Bool => Value.bool v) (i := (j : Int)) hx (by omega)
  simpa [bools] using this
section
variable {P : Program} {l : Ents} {H : Hp} {L L' : List Res} {K : Value → List Res → Prop} {dd : Option Tmp} {T : TypeId} {pos : String} {aft : Array Edge} {gd : Option (Nat × Bool)}
theorem gw_soI {t e : TypeId} {m c k : Nat} {x y : Operand} {a : Option Addr} {d : List Int} {w : Int} (i : Nat) [hz : Szc P t 1] (hx : evg l true x = some (.pointer (pt a k))) (hy : evg l true y = some (.int .i64 w)) (hp : POwn L a e 1 m c (ints d) L')
    (hk : k = i) (hl : i < d.length) (h : K undef (.own e 1 a m c (ints (d.set i w)) :: L')) : GW P l ⟨dd, .store t x y, T, pos, aft, gd⟩ H L K := by
  subst hk
  exact gw_so1 hx hy hp rfl rfl (by rw [ints_len]; exact hl) (by rw [ints_set]; exact h)
end
theorem zrow_ints (n : Nat) : zrow [Value.int .i64 0] n = ints (List.replicate n 0) := by
  rw [zrow_one]; simp [ints]
structure NetIn (H : Hp) (t : List Th) (rows : List Rw) (na : Option Addr) (nc : Nat) (xa : Option Addr) (xc : Nat) (ma : Option Addr) (mc : Nat) : Prop where
  hn : Rs H 1 na t.length nc (txs (t.map Th.n))
  hx : Rs H 1 xa t.length xc (rwvs rows)
  hm : Rs H 1 ma t.length mc (bools (t.map Th.v))
  ho : ∀ r, r ∈ rows → rwOk H r
  hr : NetRows t rows
theorem NetIn.ext {H G : Hp} {t : List Th} {rows : List Rw} {na xa ma : Option Addr} {nc xc mc : Nat} (h : NetIn H t rows na nc xa xc ma mc) (hx : Ext H G) : NetIn G t rows na nc xa xc ma mc :=
  ⟨h.hn.ext hx, h.hx.ext hx, h.hm.ext hx, fun r hr => (h.ho r hr).ext hx, h.hr⟩
theorem take_snoc' {α : Type} {l : List α} {k : Nat} {x : α} (hx : l[k]? = some x) : l.take (k + 1) = l.take k ++ [x] := by rw [List.take_add_one, hx]; rfl
theorem nx_at {rows : List Rw} {i k : Nat} {r : Rw} (hi : rows[i]? = some r) : Nx (rows.map Rw.l) i k ↔ k ∈ r.l := by
  unfold Nx
  rw [List.getElem?_map, hi]
  exact ⟨fun ⟨q, h1, h2⟩ => (by cases h1; exact h2), fun h => ⟨_, rfl, h⟩⟩
theorem far_le {next : List (List Nat)} {to : Nat} {d : List Int} (hI : FarI next to d) {i : Nat} {v : Int} (h : d[i]? = some v) : -1 ≤ v ∧ v ≤ next.length := by
  have := setN_le d
  have := hI.1
  rcases hI.2 i v h with h | ⟨k, h, _, h2⟩ <;> omega
theorem still_at {to : Nat} {d : List Int} {i k : Nat} {v : Int} (h : d[i]? = some v) (h1 : k = to → 0 ≤ v ∧ v ≤ 1) (h2 : k ≠ to → ∀ w, d[k]? = some w → 0 ≤ w → 0 ≤ v ∧ v ≤ w + 1) : Still to d i k := ⟨v, h, h1, h2⟩
theorem far_spec (t : List Th) (rows : List Rw) (na xa ma : Option Addr) (nc xc mc : Nat) (to : Nat) (H : Hp) (hN : NetIn H t rows na nc xa xc ma mc) (hl : t.length ≤ 1048576) (hu : ∀ x, x ∈ t → x.u.length ≤ 1048576) (hto : to < t.length) :
    SC Try.prog 60 [netV t.length na nc xa xc ma mc, .int .i64 (to : Nat)] H [] (fun v M => ∃ d a c, FarD (rows.map Rw.l) to d ∧ v = .slice a t.length c ∧ M = [.own 3 1 a t.length c (ints d)]) := by
  obtain ⟨hn, hx, hm, ho, hr⟩ := hN
  have hrl := hr.1
  have hnl : (rows.map Rw.l).length = t.length := by rw [List.length_map]; exact hrl
  have hNet := hr.net
  (refine SC_intro Try.func60 rfl (by kernel_rfl) (by rw [Try.ntmps60]; exact Nat.le_of_ble_eq_true rfl) ?_; simp only [Try.ntmps60, argE, Nat.reduceAdd])
  
  repeat' (first | (apply RW.q1; exact qt) | (apply RW.qg; exact gvx; refine hgx tst ?_; intro hg hg'; exact qu) | refine xsg cts ?_ | (apply CW_condT; exact rfl; exact ar) | (apply CW_condF; exact rfl; exact ar) | ((first | apply RW.s1 | apply RW.s0); exact gva) | (refine hK _ _ ?_; clear hK; refine xsg xsl ?_) | ((first | apply RW.a1 | apply RW.a0 | (apply RW.at; exact gva)); (first | (apply gw_box (d := some 2); exact rfl; exact rfl; intro b2) | (apply gw_asg; exact rfl) | (apply gw_box; exact rfl; exact rfl; intro b) | (apply gw_make; exact rfl; exact rfl; exact rfl; exact rfl; omega; omega; omega; omega; intro b) | (refine gw_stx sto ?_) | (fail))) | (apply CW_region; intro K hK) | (apply CW_condX; exact rfl; exact tst; exact tst; all_goals (intro hq hc; try exact no)))
  refine CW_loop (fun m ll L => ∃ (k : Nat) (d : List Int) (a : Option Addr) (c : Nat) (cs : List Value), m = t.length - k ∧ ll = [(1, true, .int .i64 (to : Nat)), (2, true, .pointer (some ⟨b2, 0, none⟩)), (5, true, .slice a t.length c), (16, true, .slice a t.length c), (17, true, .int .i64 t.length), (18, true, .int .i64 (k : Nat))] ∧
      L = [.box b2 76 [.slice na t.length nc, .slice xa t.length xc, .slice ma t.length mc], .own 3 1 a t.length c cs] ∧ k ≤ t.length ∧ cs = ints d ∧ d.length = t.length ∧ ∀ i : Nat, i < k → d[i]? = some (-1))
    ⟨_, _, _, ⟨0, List.replicate t.length 0, _, _, _, rfl, rfl, rfl, by omega, zrow_ints _, List.length_replicate, fun i hi => absurd hi (by omega)⟩, by exact sbe, sblt⟩ ?_
  rintro m ll L ⟨k, d, a, c, cs, rfl, rfl, rfl, hk, hcs, hdl, hd⟩
  subst hcs
  by_cases hlt : k < t.length
  · 
    repeat' (first | (apply RW.q1; exact qt) | (apply RW.qg; exact gvx; refine hgx tst ?_; intro hg hg'; exact qu) | refine xsg cts ?_ | (apply CW_condT; exact rfl; exact ar) | (apply CW_condF; exact rfl; exact ar) | ((first | apply RW.s1 | apply RW.s0); exact gva) | (refine hK _ _ ?_; clear hK; refine xsg xsl ?_) | ((first | apply RW.a1 | apply RW.a0 | (apply RW.at; exact gva)); (first | (apply gw_soI k; exact rfl; exact rfl; infer_instance; omega; omega) | (apply gw_asg; exact rfl) | (apply gw_box; exact rfl; exact rfl; intro b) | (apply gw_make; exact rfl; exact rfl; exact rfl; exact rfl; omega; omega; omega; omega; intro b) | (refine gw_stx sto ?_) | (fail))) | (apply CW_region; intro K hK) | (apply CW_condX; exact rfl; exact tst; exact tst; all_goals (intro hq hc; try exact no)))
    refine ⟨_, _, _, ⟨k + 1, d.set k (-1), a, c, _, rfl, rfl, rfl, by omega, rfl, by rw [List.length_set]; exact hdl, fun i hi => ?_⟩, by exact sbe, sblt, by omega⟩
    by_cases hik : i = k
    · subst hik; rw [List.getElem?_set_self (by omega)]
    · rw [List.getElem?_set_ne (fun h => hik h.symm)]; exact hd i (by omega)
  obtain rfl : k = t.length := by omega
  have hd0 : d = List.replicate (rows.map Rw.l).length (-1) := by
    apply List.ext_getElem?
    intro i
    rw [hnl, List.getElem?_replicate]
    split
    · exact hd i ‹_›
    · exact List.getElem?_eq_none (by omega)
  have hI0 : FarI (rows.map Rw.l) to d := by rw [hd0]; exact far_init _ _
  clear hd0 hd hlt hk hdl
  
  repeat' (first | (apply RW.q1; exact qt) | (apply RW.qg; exact gvx; refine hgx tst ?_; intro hg hg'; exact qu) | refine xsg cts ?_ | (apply CW_condT; exact rfl; exact ar) | (apply CW_condF; exact rfl; exact ar) | ((first | apply RW.s1 | apply RW.s0); exact gva) | (refine hK _ _ ?_; clear hK; refine xsg xsl ?_) | ((first | apply RW.a1 | apply RW.a0 | (apply RW.at; exact gva)); (first | (apply gw_asg; exact rfl) | (apply gw_box; exact rfl; exact rfl; intro b) | (apply gw_make; exact rfl; exact rfl; exact rfl; exact rfl; omega; omega; omega; omega; intro b) | (refine gw_stx sto ?_) | (fail))) | (apply CW_region; intro K hK) | (apply CW_condX; exact rfl; exact tst; exact tst; all_goals (intro hq hc; try exact no)))
  refine CW_loop (fun m ll L => ∃ (b : Bool) (d : List Int), m = 2 * muF t.length d + (if b then 1 else 0) ∧ ll = [(1, true, .int .i64 (to : Nat)), (2, true, .pointer (some ⟨b2, 0, none⟩)), (5, true, .slice a t.length c), (7, true, .bool b)] ∧
      L = [.box b2 76 [.slice na t.length nc, .slice xa t.length xc, .slice ma t.length mc], .own 3 1 a t.length c (ints d)] ∧ FarI (rows.map Rw.l) to d ∧ (b = false → ∀ i k, Nx (rows.map Rw.l) i k → Still to d i k))
    ⟨_, _, _, ⟨true, d, rfl, rfl, rfl, hI0, fun h => (by cases h)⟩, by exact sbe, sblt⟩ ?_
  clear hI0
  rintro m ll L ⟨b, d, rfl, rfl, rfl, hI, hS⟩
  cases b with
  | false =>
    have hF := far_farD hI (hS rfl)
    repeat' (first | (apply RW.q1; exact qt) | (apply RW.qg; exact gvx; refine hgx tst ?_; intro hg hg'; exact qu) | refine xsg cts ?_ | (apply CW_condT; exact rfl; exact ar) | (apply CW_condF; exact rfl; exact ar) | ((first | apply RW.s1 | apply RW.s0); exact gva) | (refine hK _ _ ?_; clear hK; refine xsg xsl ?_) | ((first | apply RW.a1 | apply RW.a0 | (apply RW.at; exact gva)); (first | (apply gw_asg; exact rfl) | (apply gw_box; exact rfl; exact rfl; intro b) | (apply gw_make; exact rfl; exact rfl; exact rfl; exact rfl; omega; omega; omega; omega; intro b) | (refine gw_stx sto ?_) | (fail))) | (apply CW_region; intro K hK) | (apply CW_condX; exact rfl; exact tst; exact tst; all_goals (intro hq hc; try exact no)))
    (refine CW_ret ?_; refine xsg xsl ?_; refine bR [.tmp 4] [.own 3 1 a t.length c (ints d)] ?_)
    exact ⟨d, a, c, hF, rfl, rfl⟩
  | true =>
    clear hS
    
    repeat' (first | (apply RW.q1; exact qt) | (apply RW.qg; exact gvx; refine hgx tst ?_; intro hg hg'; exact qu) | refine xsg cts ?_ | (apply CW_condT; exact rfl; exact ar) | (apply CW_condF; exact rfl; exact ar) | ((first | apply RW.s1 | apply RW.s0); exact gva) | (refine hK _ _ ?_; clear hK; refine xsg xsl ?_) | ((first | apply RW.a1 | apply RW.a0 | (apply RW.at; exact gva)); (first | (apply gw_asg; exact rfl) | (apply gw_box; exact rfl; exact rfl; intro b) | (apply gw_make; exact rfl; exact rfl; exact rfl; exact rfl; omega; omega; omega; omega; intro b) | (refine gw_stx sto ?_) | (fail))) | (apply CW_region; intro K hK) | (apply CW_condX; exact rfl; exact tst; exact tst; all_goals (intro hq hc; try exact no)))
    refine CW_loop (fun m ll L => ∃ (i : Nat) (b : Bool) (e : List Int), m = t.length - i ∧ ll = [(1, true, .int .i64 (to : Nat)), (2, true, .pointer (some ⟨b2, 0, none⟩)), (5, true, .slice a t.length c), (7, true, .bool b), (26, true, .slice a t.length c), (27, true, .int .i64 t.length), (28, true, .int .i64 (i : Nat))] ∧
        L = [.box b2 76 [.slice na t.length nc, .slice xa t.length xc, .slice ma t.length mc], .own 3 1 a t.length c (ints e)] ∧ i ≤ t.length ∧ FarI (rows.map Rw.l) to e ∧ (b = true → muF t.length e < muF t.length d) ∧ (b = false → e = d ∧ ∀ i' k, i' < i → Nx (rows.map Rw.l) i' k → Still to e i' k))
      ⟨_, _, _, ⟨0, false, d, rfl, rfl, rfl, by omega, hI, fun h => (by cases h), fun _ => ⟨rfl, fun i' k h => absurd h (by omega)⟩⟩, by exact sbe, sblt⟩ ?_
    rintro m ll L ⟨i, b, e, rfl, rfl, rfl, hi, hI1, hT, hF⟩
    by_cases hlt : i < t.length
    · obtain ⟨r, hri⟩ : ∃ r, rows[i]? = some r := ⟨_, List.getElem?_eq_getElem (by omega)⟩
      obtain ⟨x, hxi⟩ : ∃ x, t[i]? = some x := ⟨_, List.getElem?_eq_getElem (by omega)⟩
      have hro : Rs H 1 r.a r.l.length r.c (nums r.l) := ho r (List.mem_of_getElem? hri)
      have hrx := (hr.2 i r x hri hxi).2
      have hxu := hu x (List.mem_of_getElem? hxi)
      
      repeat' (first | ((first | apply RW.q1 | (apply RW.qg; exact gvx; refine hgx tst ?_; intro hg hg')); (first | (apply q_ldr; exact rfl; exact evgx; exact hx; exact rwv_at hri (by omega)) | exact qt | exact qu)) | refine xsg cts ?_ | (apply CW_condT; exact rfl; exact ar) | (apply CW_condF; exact rfl; exact ar) | ((first | apply RW.s1 | apply RW.s0); exact gva) | (refine hK _ _ ?_; clear hK; refine xsg xsl ?_) | ((first | apply RW.a1 | apply RW.a0 | (apply RW.at; exact gva)); (first | (apply gw_asg; exact rfl) | (apply gw_box; exact rfl; exact rfl; intro b) | (apply gw_make; exact rfl; exact rfl; exact rfl; exact rfl; omega; omega; omega; omega; intro b) | (refine gw_stx sto ?_) | (fail))) | (apply CW_region; intro K hK) | (apply CW_condX; exact rfl; exact tst; exact tst; all_goals (intro hq hc; try exact no)))
      refine CW_loop (fun m ll L => ∃ (j : Nat) (b : Bool) (e : List Int), m = r.l.length - j ∧ ll = [(1, true, .int .i64 (to : Nat)), (2, true, .pointer (some ⟨b2, 0, none⟩)), (5, true, .slice a t.length c), (7, true, .bool b), (8, true, .int .i64 (i : Nat)), (26, true, .slice a t.length c), (27, true, .int .i64 t.length), (28, true, .int .i64 (i : Nat)), (35, true, .slice r.a r.l.length r.c), (36, true, .int .i64 r.l.length), (37, true, .int .i64 (j : Nat))] ∧
          L = [.box b2 76 [.slice na t.length nc, .slice xa t.length xc, .slice ma t.length mc], .own 3 1 a t.length c (ints e)] ∧ j ≤ r.l.length ∧ FarI (rows.map Rw.l) to e ∧ (b = true → muF t.length e < muF t.length d) ∧ (b = false → e = d ∧ (∀ i' k, i' < i → Nx (rows.map Rw.l) i' k → Still to e i' k) ∧ ∀ k, k ∈ r.l.take j → Still to e i k))
        ⟨_, _, _, ⟨0, b, e, rfl, rfl, rfl, by omega, hI1, hT, fun h => ⟨(hF h).1, (hF h).2, fun k hk => by simp at hk⟩⟩, by exact sbe, sblt⟩ ?_
      clear hI1 hT hF
      rintro m ll L ⟨j, b, e, rfl, rfl, rfl, hj, hI1, hT, hF⟩
      by_cases hjl : j < r.l.length
      · obtain ⟨k, hkj⟩ : ∃ k, r.l[j]? = some k := ⟨_, List.getElem?_eq_getElem hjl⟩
        have hnx : Nx (rows.map Rw.l) i k := (nx_at hri).2 (List.mem_of_getElem? hkj)
        have hkl := hNet.lt i k hnx
        have hel := hI1.1
        obtain ⟨v, hv⟩ : ∃ v, e[i]? = some v := ⟨_, List.getElem?_eq_getElem (by omega)⟩
        obtain ⟨w, hw⟩ : ∃ w, e[k]? = some w := ⟨_, List.getElem?_eq_getElem (by omega)⟩
        have hvb := far_le hI1 hv
        have hwb := far_le hI1 hw
        have hnl2 := hnl
        have hmem : ∀ z, z ∈ r.l.take (j + 1) → z ∈ r.l.take j ∨ z = k := fun z hz => by
          rw [take_snoc' hkj] at hz
          rcases List.mem_append.1 hz with h | h
          · exact .inl h
          · exact .inr (List.mem_singleton.1 h)
        have hle : muF t.length e ≤ muF t.length d := by
          cases b with
          | true => exact Nat.le_of_lt (hT rfl)
          | false => rw [(hF rfl).1]; exact Nat.le_refl _
        by_cases hkt : k = to
        · have hkti : (k : Int) = (to : Int) := by omega
          by_cases hv0 : v < 0
          · have hset := far_set (s := 1) hI1 hv hnx (.inl ⟨hkt, rfl⟩) (.inl hv0)
            rw [hnl] at hset
            
            repeat' (first | ((first | apply RW.q1 | (apply RW.qg; exact gvx; refine hgx tst ?_; intro hg hg')); (first | (apply q_ldr; exact rfl; exact evgx; exact hro; exact nums_at hkj (by omega)) | (apply q_ldo; exact rfl; exact evgx; infer_instance; first | exact ints_at hv (by omega) | exact ints_at hw (by omega)) | exact qt | exact qu)) | refine xsg cts ?_ | (apply CW_condT; exact rfl; exact ar) | (apply CW_condF; exact rfl; exact ar) | ((first | apply RW.s1 | apply RW.s0); exact gva) | (refine hK _ _ ?_; clear hK; refine xsg xsl ?_) | ((first | apply RW.a1 | apply RW.a0 | (apply RW.at; exact gva)); (first | (apply gw_soI i; exact rfl; exact rfl; infer_instance; omega; omega) | (apply gw_asg; exact rfl) | (apply gw_box; exact rfl; exact rfl; intro b) | (apply gw_make; exact rfl; exact rfl; exact rfl; exact rfl; omega; omega; omega; omega; intro b) | (refine gw_stx sto ?_) | (fail))) | (apply CW_region; intro K hK) | (apply CW_condX; exact rfl; exact tst; exact tst; all_goals (intro hq hc; try exact no)))
            exact ⟨_, _, _, ⟨j + 1, true, _, rfl, rfl, rfl, by omega, hset.1, fun _ => Nat.lt_of_lt_of_le hset.2 hle, fun h => (by cases h)⟩, by exact sbe, sblt, by omega⟩
          by_cases hv1 : 1 < v
          · have hset := far_set (s := 1) hI1 hv hnx (.inl ⟨hkt, rfl⟩) (.inr hv1)
            rw [hnl] at hset
            
            repeat' (first | ((first | apply RW.q1 | (apply RW.qg; exact gvx; refine hgx tst ?_; intro hg hg')); (first | (apply q_ldr; exact rfl; exact evgx; exact hro; exact nums_at hkj (by omega)) | (apply q_ldo; exact rfl; exact evgx; infer_instance; first | exact ints_at hv (by omega) | exact ints_at hw (by omega)) | exact qt | exact qu)) | refine xsg cts ?_ | (apply CW_condT; exact rfl; exact ar) | (apply CW_condF; exact rfl; exact ar) | ((first | apply RW.s1 | apply RW.s0); exact gva) | (refine hK _ _ ?_; clear hK; refine xsg xsl ?_) | ((first | apply RW.a1 | apply RW.a0 | (apply RW.at; exact gva)); (first | (apply gw_soI i; exact rfl; exact rfl; infer_instance; omega; omega) | (apply gw_asg; exact rfl) | (apply gw_box; exact rfl; exact rfl; intro b) | (apply gw_make; exact rfl; exact rfl; exact rfl; exact rfl; omega; omega; omega; omega; intro b) | (refine gw_stx sto ?_) | (fail))) | (apply CW_region; intro K hK) | (apply CW_condX; exact rfl; exact tst; exact tst; all_goals (intro hq hc; try exact no)))
            exact ⟨_, _, _, ⟨j + 1, true, _, rfl, rfl, rfl, by omega, hset.1, fun _ => Nat.lt_of_lt_of_le hset.2 hle, fun h => (by cases h)⟩, by exact sbe, sblt, by omega⟩
          have hst : Still to e i k := still_at hv (fun _ => by omega) (fun h => absurd hkt h)
          
          repeat' (first | ((first | apply RW.q1 | (apply RW.qg; exact gvx; refine hgx tst ?_; intro hg hg')); (first | (apply q_ldr; exact rfl; exact evgx; exact hro; exact nums_at hkj (by omega)) | (apply q_ldo; exact rfl; exact evgx; infer_instance; first | exact ints_at hv (by omega) | exact ints_at hw (by omega)) | exact qt | exact qu)) | refine xsg cts ?_ | (apply CW_condT; exact rfl; exact ar) | (apply CW_condF; exact rfl; exact ar) | ((first | apply RW.s1 | apply RW.s0); exact gva) | (refine hK _ _ ?_; clear hK; refine xsg xsl ?_) | ((first | apply RW.a1 | apply RW.a0 | (apply RW.at; exact gva)); (first | (apply gw_soI i; exact rfl; exact rfl; infer_instance; omega; omega) | (apply gw_asg; exact rfl) | (apply gw_box; exact rfl; exact rfl; intro b) | (apply gw_make; exact rfl; exact rfl; exact rfl; exact rfl; omega; omega; omega; omega; intro b) | (refine gw_stx sto ?_) | (fail))) | (apply CW_region; intro K hK) | (apply CW_condX; exact rfl; exact tst; exact tst; all_goals (intro hq hc; try exact no)))
          exact ⟨_, _, _, ⟨j + 1, b, e, rfl, rfl, rfl, by omega, hI1, hT, fun h => ⟨(hF h).1, (hF h).2.1, fun z hz => (hmem z hz).elim (fun g => (hF h).2.2 z g) (fun g => g ▸ hst)⟩⟩, by exact sbe, sblt, by omega⟩
        · have hkti : ¬ (k : Int) = (to : Int) := by omega
          by_cases hw0 : w < 0
          · have hst : Still to e i k := still_at hv (fun h => absurd h hkt) (fun _ w' hw' h0 => by rw [hw] at hw'; cases hw'; omega)
            
            repeat' (first | ((first | apply RW.q1 | (apply RW.qg; exact gvx; refine hgx tst ?_; intro hg hg')); (first | (apply q_ldr; exact rfl; exact evgx; exact hro; exact nums_at hkj (by omega)) | (apply q_ldo; exact rfl; exact evgx; infer_instance; first | exact ints_at hv (by omega) | exact ints_at hw (by omega)) | exact qt | exact qu)) | refine xsg cts ?_ | (apply CW_condT; exact rfl; exact ar) | (apply CW_condF; exact rfl; exact ar) | ((first | apply RW.s1 | apply RW.s0); exact gva) | (refine hK _ _ ?_; clear hK; refine xsg xsl ?_) | ((first | apply RW.a1 | apply RW.a0 | (apply RW.at; exact gva)); (first | (apply gw_soI i; exact rfl; exact rfl; infer_instance; omega; omega) | (apply gw_asg; exact rfl) | (apply gw_box; exact rfl; exact rfl; intro b) | (apply gw_make; exact rfl; exact rfl; exact rfl; exact rfl; omega; omega; omega; omega; intro b) | (refine gw_stx sto ?_) | (fail))) | (apply CW_region; intro K hK) | (apply CW_condX; exact rfl; exact tst; exact tst; all_goals (intro hq hc; try exact no)))
            exact ⟨_, _, _, ⟨j + 1, b, e, rfl, rfl, rfl, by omega, hI1, hT, fun h => ⟨(hF h).1, (hF h).2.1, fun z hz => (hmem z hz).elim (fun g => (hF h).2.2 z g) (fun g => g ▸ hst)⟩⟩, by exact sbe, sblt, by omega⟩
          by_cases hv0 : v < 0
          · have hset := far_set (s := w + 1) hI1 hv hnx (.inr ⟨w, hw, by omega, rfl⟩) (.inl hv0)
            rw [hnl] at hset
            
            repeat' (first | ((first | apply RW.q1 | (apply RW.qg; exact gvx; refine hgx tst ?_; intro hg hg')); (first | (apply q_ldr; exact rfl; exact evgx; exact hro; exact nums_at hkj (by omega)) | (apply q_ldo; exact rfl; exact evgx; infer_instance; first | exact ints_at hv (by omega) | exact ints_at hw (by omega)) | exact qt | exact qu)) | refine xsg cts ?_ | (apply CW_condT; exact rfl; exact ar) | (apply CW_condF; exact rfl; exact ar) | ((first | apply RW.s1 | apply RW.s0); exact gva) | (refine hK _ _ ?_; clear hK; refine xsg xsl ?_) | ((first | apply RW.a1 | apply RW.a0 | (apply RW.at; exact gva)); (first | (apply gw_soI i; exact rfl; exact rfl; infer_instance; omega; omega) | (apply gw_asg; exact rfl) | (apply gw_box; exact rfl; exact rfl; intro b) | (apply gw_make; exact rfl; exact rfl; exact rfl; exact rfl; omega; omega; omega; omega; intro b) | (refine gw_stx sto ?_) | (fail))) | (apply CW_region; intro K hK) | (apply CW_condX; exact rfl; exact tst; exact tst; all_goals (intro hq hc; try exact no)))
            exact ⟨_, _, _, ⟨j + 1, true, _, rfl, rfl, rfl, by omega, hset.1, fun _ => Nat.lt_of_lt_of_le hset.2 hle, fun h => (by cases h)⟩, by exact sbe, sblt, by omega⟩
          by_cases hv1 : w + 1 < v
          · have hset := far_set (s := w + 1) hI1 hv hnx (.inr ⟨w, hw, by omega, rfl⟩) (.inr hv1)
            rw [hnl] at hset
            
            repeat' (first | ((first | apply RW.q1 | (apply RW.qg; exact gvx; refine hgx tst ?_; intro hg hg')); (first | (apply q_ldr; exact rfl; exact evgx; exact hro; exact nums_at hkj (by omega)) | (apply q_ldo; exact rfl; exact evgx; infer_instance; first | exact ints_at hv (by omega) | exact ints_at hw (by omega)) | exact qt | exact qu)) | refine xsg cts ?_ | (apply CW_condT; exact rfl; exact ar) | (apply CW_condF; exact rfl; exact ar) | ((first | apply RW.s1 | apply RW.s0); exact gva) | (refine hK _ _ ?_; clear hK; refine xsg xsl ?_) | ((first | apply RW.a1 | apply RW.a0 | (apply RW.at; exact gva)); (first | (apply gw_soI i; exact rfl; exact rfl; infer_instance; omega; omega) | (apply gw_asg; exact rfl) | (apply gw_box; exact rfl; exact rfl; intro b) | (apply gw_make; exact rfl; exact rfl; exact rfl; exact rfl; omega; omega; omega; omega; intro b) | (refine gw_stx sto ?_) | (fail))) | (apply CW_region; intro K hK) | (apply CW_condX; exact rfl; exact tst; exact tst; all_goals (intro hq hc; try exact no)))
            exact ⟨_, _, _, ⟨j + 1, true, _, rfl, rfl, rfl, by omega, hset.1, fun _ => Nat.lt_of_lt_of_le hset.2 hle, fun h => (by cases h)⟩, by exact sbe, sblt, by omega⟩
          have hst : Still to e i k := still_at hv (fun h => absurd h hkt) (fun _ w' hw' h0 => by rw [hw] at hw'; cases hw'; omega)
          
          repeat' (first | ((first | apply RW.q1 | (apply RW.qg; exact gvx; refine hgx tst ?_; intro hg hg')); (first | (apply q_ldr; exact rfl; exact evgx; exact hro; exact nums_at hkj (by omega)) | (apply q_ldo; exact rfl; exact evgx; infer_instance; first | exact ints_at hv (by omega) | exact ints_at hw (by omega)) | exact qt | exact qu)) | refine xsg cts ?_ | (apply CW_condT; exact rfl; exact ar) | (apply CW_condF; exact rfl; exact ar) | ((first | apply RW.s1 | apply RW.s0); exact gva) | (refine hK _ _ ?_; clear hK; refine xsg xsl ?_) | ((first | apply RW.a1 | apply RW.a0 | (apply RW.at; exact gva)); (first | (apply gw_soI i; exact rfl; exact rfl; infer_instance; omega; omega) | (apply gw_asg; exact rfl) | (apply gw_box; exact rfl; exact rfl; intro b) | (apply gw_make; exact rfl; exact rfl; exact rfl; exact rfl; omega; omega; omega; omega; intro b) | (refine gw_stx sto ?_) | (fail))) | (apply CW_region; intro K hK) | (apply CW_condX; exact rfl; exact tst; exact tst; all_goals (intro hq hc; try exact no)))
          exact ⟨_, _, _, ⟨j + 1, b, e, rfl, rfl, rfl, by omega, hI1, hT, fun h => ⟨(hF h).1, (hF h).2.1, fun z hz => (hmem z hz).elim (fun g => (hF h).2.2 z g) (fun g => g ▸ hst)⟩⟩, by exact sbe, sblt, by omega⟩
      obtain rfl : j = r.l.length := by omega
      
      repeat' (first | (apply RW.q1; exact qt) | (apply RW.qg; exact gvx; refine hgx tst ?_; intro hg hg'; exact qu) | refine xsg cts ?_ | (apply CW_condT; exact rfl; exact ar) | (apply CW_condF; exact rfl; exact ar) | ((first | apply RW.s1 | apply RW.s0); exact gva) | (refine hK _ _ ?_; clear hK; refine xsg xsl ?_) | ((first | apply RW.a1 | apply RW.a0 | (apply RW.at; exact gva)); (first | (apply gw_asg; exact rfl) | (apply gw_box; exact rfl; exact rfl; intro b) | (apply gw_make; exact rfl; exact rfl; exact rfl; exact rfl; omega; omega; omega; omega; intro b) | (refine gw_stx sto ?_) | (fail))) | (apply CW_region; intro K hK) | (apply CW_condX; exact rfl; exact tst; exact tst; all_goals (intro hq hc; try exact no)))
      refine ⟨_, _, _, ⟨i + 1, b, e, rfl, rfl, rfl, by omega, hI1, hT, fun h => ⟨(hF h).1, fun i' k hi' hk => ?_⟩⟩, by exact sbe, sblt, by omega⟩
      by_cases hii : i' = i
      · subst hii
        exact (hF h).2.2 k (by rw [List.take_length]; exact (nx_at hri).1 hk)
      · exact (hF h).2.1 i' k (by omega) hk
    obtain rfl : i = t.length := by omega
    
    repeat' (first | (apply RW.q1; exact qt) | (apply RW.qg; exact gvx; refine hgx tst ?_; intro hg hg'; exact qu) | refine xsg cts ?_ | (apply CW_condT; exact rfl; exact ar) | (apply CW_condF; exact rfl; exact ar) | ((first | apply RW.s1 | apply RW.s0); exact gva) | (refine hK _ _ ?_; clear hK; refine xsg xsl ?_) | ((first | apply RW.a1 | apply RW.a0 | (apply RW.at; exact gva)); (first | (apply gw_asg; exact rfl) | (apply gw_box; exact rfl; exact rfl; intro b) | (apply gw_make; exact rfl; exact rfl; exact rfl; exact rfl; omega; omega; omega; omega; intro b) | (refine gw_stx sto ?_) | (fail))) | (apply CW_region; intro K hK) | (apply CW_condX; exact rfl; exact tst; exact tst; all_goals (intro hq hc; try exact no)))
    refine ⟨_, _, _, ⟨b, e, rfl, rfl, rfl, hI1, fun h i k hk => (hF h).2 i k ?_ hk⟩, by exact sbe, sblt, ?_⟩
    · obtain ⟨r, h1, _⟩ := hk
      have := (List.getElem?_eq_some_iff.1 h1).1
      omega
    · cases b with
      | true => have := hT rfl; simp; omega
      | false => rw [(hF rfl).1]; simp
end Go.Proofs.Ytkhmimlgkjenfaa.HL
namespace Go.Proofs.Ytkhmimlgkjenfaa.HL
open Go
attribute [local irreducible] goFn thenS blockS bodyS CW RW DW GW QW NW SC Pick Picks SubL Rd NN ResOk SrcW subE hops hseg AW hgen HC qv bldv
set_option maxHeartbeats 8000000
set_option maxRecDepth 100000
set_option linter.unusedVariables false
set_option linter.unusedSimpArgs false

section
variable {P : Program} {l : Ents} {H : Hp} {L : List Res} {d : Option Tmp} {T : TypeId} {pos : String} {aft : Array Edge} {gd : Option (Nat × Bool)} {t ty : TypeId} {x y : Operand} {a b : List UInt8}
theorem q_sltT (hx : evg l true x = some (.string (bstr a))) (hy : evg l true y = some (.string (bstr b))) (h : ltT a b) : QW P l H L ⟨d, .binOp .lss t x y ty, T, pos, aft, gd⟩ (.bool true) := by
  rw [show true = sLt (bstr a) (bstr b) from h.symm]
  exact q_scmp hx hy rfl
theorem q_sltF (hx : evg l true x = some (.string (bstr a))) (hy : evg l true y = some (.string (bstr b))) (h : ¬ ltT a b) : QW P l H L ⟨d, .binOp .lss t x y ty, T, pos, aft, gd⟩ (.bool false) := by
  rw [show false = sLt (bstr a) (bstr b) from (Bool.eq_false_iff.2 h).symm]
  exact q_scmp hx hy rfl
end
theorem nm_at {t : List Th} {i : Nat} {x : Th} (h : t[i]? = some x) : (t.map Th.n)[i]? = some x.n := by rw [List.getElem?_map, h]; rfl
theorem v_at {t : List Th} {i : Nat} {x : Th} (h : t[i]? = some x) : (t.map Th.v)[i]? = some x.v := by rw [List.getElem?_map, h]; rfl
def vaT (x : Th) : Prop := x.v = true
section
variable {t : List Th} {next : List (List Nat)} {n b k kb : Nat} {x y : Th} {bo : Option Nat}
abbrev BestT (t : List Th) (next : List (List Nat)) (n : Nat) (bo : Option Nat) : Prop := BestC Th.n ltT vaT t next n bo
theorem lt_succ_cases {i n : Nat} (h : i < n + 1) : i < n ∨ i = n := by omega
theorem best_skip (h : BestT t next n bo) (hn : ∀ x, t[n]? = some x → vaT x → ∀ m, ¬ Walk (Nx next) m n n) : BestT t next (n + 1) bo := by
  cases bo with
  | none =>
    intro i x hi hx hv m hw
    rcases lt_succ_cases hi with g | rfl
    · exact h i x g hx hv m hw
    · exact hn x hx hv m hw
  | some b =>
    obtain ⟨xb, k, h1, h2, h3, h4, h5⟩ := h
    refine ⟨xb, k, h1, h2, h3, fun i x m hi hx hv hw => ?_, fun i x hi hx hv hD hne => ?_⟩
    · rcases lt_succ_cases hi with g | rfl
      · exact h4 i x m g hx hv hw
      · exact absurd hw (hn x hx hv m)
    · rcases lt_succ_cases hi with g | rfl
      · exact h5 i x g hx hv hD hne
      · exact absurd hD.1 (hn x hx hv _)
theorem best_first (h : BestT t next n none) (hx : t[n]? = some x) (hv : vaT x) (hD : Dist (Nx next) (k + 1) n n) : BestT t next (n + 1) (some n) := by
  refine ⟨x, k, hx, hv, hD, fun i y m hi hy hvy hw => ?_, fun i y hi hy hvy hDy hne => ?_⟩
  · rcases lt_succ_cases hi with g | rfl
    · exact absurd hw (h i y g hy hvy m)
    · exact hD.2 m hw
  · rcases lt_succ_cases hi with g | rfl
    · exact absurd hDy.1 (h i y g hy hvy _)
    · exact absurd rfl hne
theorem best_new (h : BestT t next n (some b)) (hb : t[b]? = some y) (hDb : Dist (Nx next) (kb + 1) b b) (hx : t[n]? = some x) (hv : vaT x) (hD : Dist (Nx next) (k + 1) n n) (hlt : k < kb ∨ (k = kb ∧ ltT x.n y.n)) : BestT t next (n + 1) (some n) := by
  obtain ⟨xb, k', h1, h2, h3, h4, h5⟩ := h
  rw [hb] at h1; cases h1
  have hk' : k' = kb := by have := h3.same hDb; omega
  subst hk'
  refine ⟨x, k, hx, hv, hD, fun i z m hi hz hvz hw => ?_, fun i z hi hz hvz hDz hne => ?_⟩
  · rcases lt_succ_cases hi with g | rfl
    · have := h4 i z m g hz hvz hw
      omega
    · exact hD.2 m hw
  · rcases lt_succ_cases hi with g | rfl
    · have := h4 i z _ g hz hvz hDz.1
      obtain ⟨rfl, hl⟩ : k = k' ∧ ltT x.n y.n := by
        rcases hlt with hl | hl
        · omega
        · exact hl
      by_cases hib : i = b
      · subst hib
        rw [hb] at hz; cases hz
        exact hl
      · exact ltT_tr hl (h5 i z g hz hvz hDz hib)
    · exact absurd rfl hne
theorem best_keep (h : BestT t next n (some b)) (hd : (t.map Th.n).Nodup) (hb : t[b]? = some y) (hDb : Dist (Nx next) (kb + 1) b b) (hx : t[n]? = some x) (hD : Dist (Nx next) (k + 1) n n) (hlt : kb < k ∨ (k = kb ∧ ¬ ltT x.n y.n)) : BestT t next (n + 1) (some b) := by
  obtain ⟨xb, k', h1, h2, h3, h4, h5⟩ := h
  rw [hb] at h1; cases h1
  have hk' : k' = kb := by have := h3.same hDb; omega
  subst hk'
  refine ⟨y, k', hb, h2, h3, fun i z m hi hz hvz hw => ?_, fun i z hi hz hvz hDz hne => ?_⟩
  · rcases lt_succ_cases hi with g | rfl
    · exact h4 i z m g hz hvz hw
    · have := hD.2 m hw; omega
  · rcases lt_succ_cases hi with g | rfl
    · exact h5 i z g hz hvz hDz hne
    · rw [hx] at hz; cases hz
      have hkk := hD.same hDz
      have hl : ¬ ltT x.n y.n := by
        rcases hlt with hl | hl
        · omega
        · exact hl.2
      by_cases hl2 : ltT y.n x.n
      · exact hl2
      · exact absurd (get_one hd hx hb (ltT_tri hl hl2)).1 hne
end
theorem farD_at {next : List (List Nat)} {to : Nat} {d : List Int} (h : FarD next to d) {i k : Nat} {v : Int} (hv : d[i]? = some v) (hD : Dist (Nx next) k i to) : v = (k : Int) := by
  rcases h.2 i v hv with ⟨_, h⟩ | ⟨j, rfl, hj⟩
  · exact absurd hD.1 (h k)
  · rw [hj.same hD]
theorem farD_is {next : List (List Nat)} {to : Nat} {d : List Int} (h : FarD next to d) {i k : Nat} (hv : d[i]? = some (k : Int)) : Dist (Nx next) k i to := by
  rcases h.2 i _ hv with ⟨h, _⟩ | ⟨j, hj, hD⟩
  · omega
  · rwa [show k = j by omega]
def Cand (t : List Th) (next : List (List Nat)) (b left : Nat) (r : List Nat) (to : Int) : Prop :=
  (to = -1 ∧ ∀ k, k ∈ r → ¬ Dist (Nx next) left k b) ∨ ∃ (c : Nat) (x : Th), to = (c : Int) ∧ t[c]? = some x ∧ c ∈ r ∧ Dist (Nx next) left c b ∧ ∀ (k : Nat) (y : Th), k ∈ r → Dist (Nx next) left k b → k ≠ c → t[k]? = some y → ltT x.n y.n
section
variable {t : List Th} {next : List (List Nat)} {b left k : Nat} {r : List Nat} {to : Int} {x y : Th}
theorem cand_nil : Cand t next b left [] (-1) := .inl ⟨rfl, fun k hk => by cases hk⟩
theorem cand_skip (h : Cand t next b left r to) (hk : ¬ Dist (Nx next) left k b) : Cand t next b left (r ++ [k]) to := by
  rcases h with ⟨h1, h2⟩ | ⟨c, z, h1, h2, h3, h4, h5⟩
  · refine .inl ⟨h1, fun j hj => ?_⟩
    rcases List.mem_append.1 hj with g | g
    · exact h2 j g
    · rw [List.mem_singleton.1 g]; exact hk
  · refine .inr ⟨c, z, h1, h2, List.mem_append_left _ h3, h4, fun j y hj hD hne hy => ?_⟩
    rcases List.mem_append.1 hj with g | g
    · exact h5 j y g hD hne hy
    · rw [List.mem_singleton.1 g] at hD; exact absurd hD hk
theorem cand_first (h : ∀ k, k ∈ r → ¬ Dist (Nx next) left k b) (hD : Dist (Nx next) left k b) (hx : t[k]? = some x) : Cand t next b left (r ++ [k]) (k : Int) := by
  refine .inr ⟨k, x, rfl, hx, by simp, hD, fun j y hj hDj hne hy => ?_⟩
  rcases List.mem_append.1 hj with g | g
  · exact absurd hDj (h j g)
  · exact absurd (List.mem_singleton.1 g) hne
theorem cand_new {c : Nat} (hc : t[c]? = some y) (h5 : ∀ (k : Nat) (z : Th), k ∈ r → Dist (Nx next) left k b → k ≠ c → t[k]? = some z → ltT y.n z.n) (hD : Dist (Nx next) left k b) (hx : t[k]? = some x) (hl : ltT x.n y.n) : Cand t next b left (r ++ [k]) (k : Int) := by
  refine .inr ⟨k, x, rfl, hx, by simp, hD, fun j z hj hDj hne hz => ?_⟩
  rcases List.mem_append.1 hj with g | g
  · by_cases hjc : j = c
    · subst hjc
      rw [hc] at hz; cases hz
      exact hl
    · exact ltT_tr hl (h5 j z g hDj hjc hz)
  · exact absurd (List.mem_singleton.1 g) hne
theorem cand_keep {c : Nat} (hd : (t.map Th.n).Nodup) (hc : t[c]? = some y) (hcr : c ∈ r) (hDc : Dist (Nx next) left c b) (h5 : ∀ (k : Nat) (z : Th), k ∈ r → Dist (Nx next) left k b → k ≠ c → t[k]? = some z → ltT y.n z.n) (hx : t[k]? = some x) (hl : ¬ ltT x.n y.n) : Cand t next b left (r ++ [k]) (c : Int) := by
  refine .inr ⟨c, y, rfl, hc, List.mem_append_left _ hcr, hDc, fun j z hj hDj hne hz => ?_⟩
  rcases List.mem_append.1 hj with g | g
  · exact h5 j z g hDj hne hz
  · obtain rfl := List.mem_singleton.1 g
    rw [hx] at hz; cases hz
    by_cases hl2 : ltT y.n x.n
    · exact hl2
    · exact absurd (get_one hd hx hc (ltT_tri hl hl2)).1 hne
end
end Go.Proofs.Ytkhmimlgkjenfaa.HL
