/- HLm: the rules of the operations that act, over a base and resources. No condition. -/
import Derived.Test.YtkhmimlgkjenfaaHLlX
namespace Go.Proofs.Ytkhmimlgkjenfaa.HL
open Go
set_option linter.unusedVariables false
set_option linter.unusedSimpArgs false
variable {Ω : World}

section
variable {P : Program} {l : Ents} {H : Hp} {L L' : List Res} {K : Value → List Res → Prop} {d : Option Tmp} {T : TypeId} {pos : String} {aft : Array Edge} {gd : Option (Nat × Bool)}

/-! calls -/
theorem gw_call {f : FuncId} {args : Array Operand} {ats : Array TypeId} {vs : List Value} (hv : evs l true args.toList = some vs) (hf : goFn P f = true)
    (h : ∀ G, Hs H L G → SC P f vs G [] fun v M => K v (M ++ L)) : GW P l ⟨d, .call ⟨.value (.func f), args, ats⟩, T, pos, aft, gd⟩ H L K :=
  fun G hg => hgen_call hv hf ((h G hg G (hs_nil G)).mono fun v G' ⟨M, h1, h2⟩ => ⟨M ++ L, hg.frame h1, h2⟩)
theorem gw_callE {f : FuncId} {args : Array Operand} {ats : Array TypeId} {vs : List Value} {w : Value} (hv : evs l true args.toList = some vs) (hf : goFn P f = true)
    (h : ∀ G, Hs H L G → SC P f vs G [] fun v M => v = w ∧ M = []) (hk : K w L) : GW P l ⟨d, .call ⟨.value (.func f), args, ats⟩, T, pos, aft, gd⟩ H L K :=
  gw_call hv hf fun G hg => SC.mono (h G hg) fun v M ⟨h1, h2⟩ => by subst h1; subst h2; exact hk
theorem gx_call {f : FuncId} {args : Array Operand} {ats : Array TypeId} {vs : List Value} (hv : evs l true args.toList = some vs) (hf : goFn P f = true)
    (h : ∀ G, Hs H L G → SC P f vs G [] fun v M => K v (M ++ L)) : GX P l ⟨d, .call ⟨.value (.func f), args, ats⟩, T, pos, aft, gd⟩ H L K :=
  fun G hg => hgen_call hv hf ((h G hg G (hs_nil G)).mono fun v G' ⟨M, h1, h2⟩ => ⟨h1.ext, M ++ L, hg.frame h1, h2⟩)
theorem gx_callE {f : FuncId} {args : Array Operand} {ats : Array TypeId} {vs : List Value} {w : Value} (hv : evs l true args.toList = some vs) (hf : goFn P f = true)
    (h : ∀ G, Hs H L G → SC P f vs G [] fun v M => v = w ∧ M = []) (hk : K w L) : GX P l ⟨d, .call ⟨.value (.func f), args, ats⟩, T, pos, aft, gd⟩ H L K :=
  gx_call hv hf fun G hg => SC.mono (h G hg) fun v M ⟨h1, h2⟩ => by subst h1; subst h2; exact hk
theorem gw_callc {f : FuncId} {args : Array Operand} {ats : Array TypeId} {vs : List Value} {M : List Res} (hv : evs l true args.toList = some vs) (hf : goFn P f = true) (hp : Picks L M L')
    (h : ∀ G, Hs H L' G → SC P f vs G M fun v M' => K v (M' ++ L')) : GW P l ⟨d, .call ⟨.value (.func f), args, ats⟩, T, pos, aft, gd⟩ H L K := fun G hg => by
  obtain ⟨G0, h1, h2⟩ := (hg.picks hp).split
  exact hgen_call hv hf ((h G0 h1 G h2).mono fun v G' ⟨M, k1, k2⟩ => ⟨M ++ L', h1.frame k1, k2⟩)
theorem gw_callv {t : Tmp} {f : FuncId} {first captured : Array Value} {args : Array Operand} {ats : Array TypeId} {vs : List Value}
    (ht : evg l true (.tmp t) = some (.func (.func f) first captured)) (hv : evs l true args.toList = some vs) (hf : goFn P f = true)
    (h : ∀ G, Hs H L G → SC P f (first.toList ++ vs ++ captured.toList) G [] fun v M => K v (M ++ L)) : GW P l ⟨d, .call ⟨.value (.tmp t), args, ats⟩, T, pos, aft, gd⟩ H L K :=
  fun G hg => hgen_callv ht hv hf ((h G hg G (hs_nil G)).mono fun v G' ⟨M, h1, h2⟩ => ⟨M ++ L, hg.frame h1, h2⟩)
theorem gw_callvc {t : Tmp} {f : FuncId} {first captured : Array Value} {args : Array Operand} {ats : Array TypeId} {vs : List Value} {M : List Res}
    (ht : evg l true (.tmp t) = some (.func (.func f) first captured)) (hv : evs l true args.toList = some vs) (hf : goFn P f = true) (hp : Picks L M L')
    (h : ∀ G, Hs H L' G → SC P f (first.toList ++ vs ++ captured.toList) G M fun v M' => K v (M' ++ L')) : GW P l ⟨d, .call ⟨.value (.tmp t), args, ats⟩, T, pos, aft, gd⟩ H L K := fun G hg => by
  obtain ⟨G0, h1, h2⟩ := (hg.picks hp).split
  exact hgen_callv ht hv hf ((h G0 h1 G h2).mono fun v G' ⟨M, k1, k2⟩ => ⟨M ++ L', h1.frame k1, k2⟩)
theorem nw_call {f : FuncId} {args : Array Operand} {ats : Array TypeId} {vs : List Value} {v : Value} (hv : evs l true args.toList = some vs) (hf : goFn P f = true)
    (h : ∀ G, Hs H L G → SC P f vs G [] fun v' _ => v' = v) : NW P l ⟨d, .call ⟨.value (.func f), args, ats⟩, T, pos, aft, gd⟩ H L v :=
  fun G hg => hgen_call hv hf ((h G hg G (hs_nil G)).mono fun v G' ⟨M, h1, h2⟩ => ⟨h2, h1.ext⟩)
theorem nw_callv {t : Tmp} {f : FuncId} {first captured : Array Value} {args : Array Operand} {ats : Array TypeId} {vs : List Value} {v : Value}
    (ht : evg l true (.tmp t) = some (.func (.func f) first captured)) (hv : evs l true args.toList = some vs) (hf : goFn P f = true)
    (h : ∀ G, Hs H L G → SC P f (first.toList ++ vs ++ captured.toList) G [] fun v' _ => v' = v) : NW P l ⟨d, .call ⟨.value (.tmp t), args, ats⟩, T, pos, aft, gd⟩ H L v :=
  fun G hg => hgen_callv ht hv hf ((h G hg G (hs_nil G)).mono fun v G' ⟨M, h1, h2⟩ => ⟨h2, h1.ext⟩)

theorem SC_same {f : FuncId} {args : List Value} {v : Value} {M : List Res} (h : ∀ Ω w, Fit Ω H w → Calls P f args.toArray w fun e w' => e = .returned v ∧ w' = w) (hk : K v M) (hM : SubL M L) : SC P f args H L K :=
  fun G hg Ω w fw => (h Ω w (fw.weaken hg.ext)).mono fun e w' ⟨he, hw⟩ => ⟨v, G, he, by rw [hw]; exact fw, M, hg.sub hM, hk⟩
theorem gw_asg {x : Operand} {v : Value} (hx : evg l true x = some v) (h : K v L) : GW P l ⟨d, .assign x, T, pos, aft, gd⟩ H L K := fun G hg =>
  ⟨by simp [Op.operands, hx], fun Ω w f => ⟨.value v, w, G, by simp only [execOp, hx, Option.getD_some]; rfl, f, L, hg, h⟩⟩

/-! new memory -/
theorem gw_alloc {t : TypeId} {z : Value} {cs : List Value} [hz : Zec P t z] (hc : z.cells = cs.toArray) (h : ∀ b, K (.pointer (some ⟨b, 0, none⟩)) (.box b t cs :: L)) :
    GW P l ⟨d, .alloc t, T, pos, aft, gd⟩ H L K := fun G hg =>
  hgen_alloc hz.h fun b G1 hb hx hk => ⟨_, hg.new (r := .box b t cs) (fp := fun x => x = b) hx ⟨fun _ => Iff.rfl, by rw [hk, hc]⟩ (by rintro _ rfl; exact hb), h b⟩
theorem gw_box {t : TypeId} {x : Operand} {v : Value} {cs : List Value} (hv : evg l true x = some v) (hc : v.cells = cs.toArray) (h : ∀ b, K (.pointer (some ⟨b, 0, none⟩)) (.box b t cs :: L)) :
    GW P l ⟨d, .box t x, T, pos, aft, gd⟩ H L K := fun G hg =>
  hgen_box hv fun b G1 hb hx hk => ⟨_, hg.new (r := .box b t cs) (fp := fun x => x = b) hx ⟨fun _ => Iff.rfl, by rw [hk, hc]⟩ (by rintro _ rfl; exact hb), h b⟩

theorem gx_alloc {t : TypeId} {z : Value} {cs : List Value} [hz : Zec P t z] (hc : z.cells = cs.toArray) (h : ∀ b, K (.pointer (some ⟨b, 0, none⟩)) (.box b t cs :: L)) :
    GX P l ⟨d, .alloc t, T, pos, aft, gd⟩ H L K := fun G hg =>
  hgen_alloc hz.h fun b G1 hb hx hk => ⟨hx, _, hg.new (r := .box b t cs) (fp := fun x => x = b) hx ⟨fun _ => Iff.rfl, by rw [hk, hc]⟩ (by rintro _ rfl; exact hb), h b⟩
theorem gx_box {t : TypeId} {x : Operand} {v : Value} {cs : List Value} (hv : evg l true x = some v) (hc : v.cells = cs.toArray) (h : ∀ b, K (.pointer (some ⟨b, 0, none⟩)) (.box b t cs :: L)) :
    GX P l ⟨d, .box t x, T, pos, aft, gd⟩ H L K := fun G hg =>
  hgen_box hv fun b G1 hb hx hk => ⟨hx, _, hg.new (r := .box b t cs) (fp := fun x => x = b) hx ⟨fun _ => Iff.rfl, by rw [hk, hc]⟩ (by rintro _ rfl; exact hb), h b⟩

theorem own_of_row {G : Hp} {b e z n c : Nat} {cs rest : List Value} (hb : G b = some (.cells (cs ++ rest).toArray e (0, 0))) (hl : cs.length = n * z) (hr : rest.length = (c - n) * z) (hn : n ≤ c) :
    (Res.own e z (some ⟨b, 0, none⟩) n c cs).holds G (fun x => x = b) :=
  ⟨fun x => ⟨fun h => by rw [h]; rfl, fun h => by cases h; rfl⟩, hl, .inr ⟨b, c, rest, 0, 0, rfl, hb, hr, hn, .inr (Nat.le_refl _)⟩⟩

theorem gw_lit {t e : TypeId} {n : Nat} {ps : Array (Nat × Operand)} {zv : Value} {vs : List (Nat × Value)} {cs : List Value} {z : Nat} [hd : Und P t (.slice e)] [hz : Szc P e z] [hzv : Zec P e zv] (hp : evp l true ps.toList = some vs) (hzs : zv.cells.size = z)
    (hc : bslv z zv n vs = some cs) (hl : cs.length = n * z) (hn : n * z ≤ 2 ^ 24) (h : ∀ b, K (.slice (some ⟨b, 0, none⟩) n n) (.own e z (some ⟨b, 0, none⟩) n n cs :: L)) :
    GW P l ⟨d, .buildSlice t n ps, T, pos, aft, gd⟩ H L K := by
  intro G hg
  subst hzs
  refine hgen_buildSlice hp hd.h hz.h hzv.h hc hn fun b G1 hb hx hk => ⟨_, hg.new (fp := fun x => x = b) hx (own_of_row (rest := []) (by rw [List.append_nil]; exact hk) hl (by simp) (Nat.le_refl _)) (by rintro _ rfl; exact hb), h b⟩
theorem gw_lit1 {t e : TypeId} {x : Operand} {zv v : Value} {cs : List Value} {z : Nat} [hd : Und P t (.slice e)] [hz : Szc P e z] [hzv : Zec P e zv] (hx : evg l true x = some v) (hzs : zv.cells.size = z)
    (hc : v.cells = cs.toArray) (hl : cs.length = z) (hn : z ≤ 2 ^ 24) (h : ∀ b, K (.slice (some ⟨b, 0, none⟩) 1 1) (.own e z (some ⟨b, 0, none⟩) 1 1 cs :: L)) :
    GW P l ⟨d, .buildSlice t 1 #[(0, x)], T, pos, aft, gd⟩ H L K := by
  refine gw_lit (vs := [(0, v)]) (cs := cs) (by simp [evp, hx]) hzs ?_ (by omega) (by omega) h
  subst hzs
  rw [bslv_one (by rw [hc]; simpa using hl), hc]
theorem spl_app (pre zs vs : List Value) (h : vs.length ≤ zs.length) : spl (pre ++ zs) pre.length vs = (pre ++ vs) ++ zs.drop vs.length := by
  unfold spl
  rw [List.take_left, ← List.drop_drop, List.drop_left]
theorem bslv_seq {zv : Value} : ∀ (ps : List (Nat × Value)) (k : Nat) (pre : List Value), pre.length = k * zv.cells.size → (∀ p ∈ ps, p.2.cells.size = zv.cells.size) → ps.map (·.1) = List.range' k ps.length →
    Instr.fill (fun i => some (i * zv.cells.size, zv.cells.size)) (pre ++ zrow zv.cells.toList ps.length).toArray ps = some (pre ++ ps.flatMap fun p => p.2.cells.toList).toArray := by
  intro ps
  induction ps with
  | nil => intro k pre _ _ _; simp [Instr.fill, zrow]
  | cons p ps ih =>
    obtain ⟨i, v⟩ := p
    intro k pre hp hv hi
    simp only [List.map_cons, List.length_cons, List.range'_succ, List.cons.injEq] at hi
    obtain ⟨rfl, hi⟩ := hi
    have h1 := hv (i, v) (by simp)
    simp only at h1
    have hz : (zrow zv.cells.toList (ps.length + 1)) = zv.cells.toList ++ zrow zv.cells.toList ps.length := by
      unfold zrow; rw [List.replicate_succ, List.flatten_cons]
    rw [fill_one (off := i * zv.cells.size) (by rw [h1]) (by rw [List.length_append, zrow_len, List.length_cons, hp, h1, Nat.add_mul]; (try simp) <;> (try omega)), List.length_cons, hz, ← hp, spl_app _ _ _ (by simp [h1])]
    rw [List.drop_left' (by simp [h1])]
    rw [ih (i + 1) (pre ++ v.cells.toList) (by rw [List.length_append, hp, Nat.add_mul]; simp [h1]) (fun p hp => hv p (by simp [hp])) hi]
    simp
theorem gw_litn {t e : TypeId} {n : Nat} {ps : Array (Nat × Operand)} {zv : Value} {vs : List (Nat × Value)} {cs : List Value} {z : Nat} [hd : Und P t (.slice e)] [hz : Szc P e z] [hzv : Zec P e zv] (hp : evp l true ps.toList = some vs) (hzs : zv.cells.size = z)
    (hi : vs.map (·.1) = List.range' 0 n) (hv : vs.all (fun p => p.2.cells.size == z) = true) (hc : (vs.flatMap fun p => p.2.cells.toList) = cs) (hn : n * z ≤ 2 ^ 24) (h : ∀ b, K (.slice (some ⟨b, 0, none⟩) n n) (.own e z (some ⟨b, 0, none⟩) n n cs :: L)) :
    GW P l ⟨d, .buildSlice t n ps, T, pos, aft, gd⟩ H L K := by
  have hl : vs.length = n := by have := congrArg List.length hi; simpa using this
  have hv' : ∀ p ∈ vs, p.2.cells.size = z := fun p hp => by have := List.all_eq_true.1 hv p hp; simpa using this
  subst hzs
  refine gw_lit hp rfl (cs := cs) ?_ ?_ hn h
  · have := bslv_seq vs 0 [] (by simp) hv' (by rw [hl]; exact hi)
    unfold bslv
    rw [List.nil_append, hl] at this
    rw [this, ← hc]; simp
  · rw [← hc, ← hl]
    clear hc hi hl hp hv
    induction vs with
    | nil => simp
    | cons p ps ih => rw [List.flatMap_cons, List.length_append, ih fun q hq => hv' q (by simp [hq]), List.length_cons, Nat.add_mul, Array.length_toList, hv' p (by simp)]; omega
theorem gw_lit2 {t e : TypeId} {ps : Array (Nat × Operand)} {zv v0 v1 : Value} [hd : Und P t (.slice e)] [hz : Szc P e 1] [hzv : Zec P e zv] (hp : evp l true ps.toList = some [(0, v0), (1, v1)]) (hzs : zv.cells.size = 1)
    (h0 : v0.cells = #[v0]) (h1 : v1.cells = #[v1]) (h : ∀ b, K (.slice (some ⟨b, 0, none⟩) 2 2) (.own e 1 (some ⟨b, 0, none⟩) 2 2 [v0, v1] :: L)) : GW P l ⟨d, .buildSlice t 2 ps, T, pos, aft, gd⟩ H L K :=
  gw_litn hp hzs rfl (by simp [h0, h1]) (by simp [h0, h1]) (by decide) h
theorem gw_lit3 {t e : TypeId} {ps : Array (Nat × Operand)} {zv v0 v1 v2 : Value} [hd : Und P t (.slice e)] [hz : Szc P e 1] [hzv : Zec P e zv] (hp : evp l true ps.toList = some [(0, v0), (1, v1), (2, v2)]) (hzs : zv.cells.size = 1)
    (h0 : v0.cells = #[v0]) (h1 : v1.cells = #[v1]) (h2 : v2.cells = #[v2]) (h : ∀ b, K (.slice (some ⟨b, 0, none⟩) 3 3) (.own e 1 (some ⟨b, 0, none⟩) 3 3 [v0, v1, v2] :: L)) : GW P l ⟨d, .buildSlice t 3 ps, T, pos, aft, gd⟩ H L K :=
  gw_litn hp hzs rfl (by simp [h0, h1, h2]) (by simp [h0, h1, h2]) (by decide) h
theorem gw_make {t e : TypeId} {z bs : Nat} {x y : Operand} {k k' : IntKind} {n c : Int} {zv : Value} {zs : List Value} [hd : Und P t (.slice e)] [hz : Szc P e z] [hzv : Zec P e zv] [hbs : Bsc P e bs] (hx : evg l true x = some (.int k n)) (hy : evg l true y = some (.int k' c))
    (hzs : zv.cells = zs.toArray) (hzl : zs.length = z) (h0 : 0 ≤ n) (h1 : n ≤ c) (h2 : c < 2 ^ 62) (h3 : bs * c ≤ 2 ^ 48)
    (h : ∀ b, K (.slice (some ⟨b, 0, none⟩) n.toNat c.toNat) (.own e z (some ⟨b, 0, none⟩) n.toNat c.toNat (zrow zs n.toNat) :: L)) :
    GW P l ⟨d, .makeSlice t x y, T, pos, aft, gd⟩ H L K := by
  intro G hg
  have hsz : zv.cells.size = z := by rw [hzs]; simpa using hzl
  have hl : zv.cells.toList = zs := by rw [hzs]
  refine hgen_makeSlice hx hy hd.h (by rw [hsz]; exact hz.h) hzv.h hbs.h h0 h1 h2 h3 fun b G1 hb hx hk => ⟨_, hg.new (fp := fun x => x = b) hx (own_of_row (rest := zrow zs (c.toNat - n.toNat)) ?_ ?_ ?_ ?_) (by rintro _ rfl; exact hb), h b⟩
  · rw [hk, hl]
    congr 2
    unfold zrow
    rw [← List.flatten_append, List.replicate_append_replicate]
    congr 3; omega
  · rw [zrow_len, hzl]
  · rw [zrow_len, hzl]
  · omega
theorem hs_nilown {e z : Nat} {G : Hp} (h : Hs H L G) : Hs H (.own e z none 0 0 [] :: L) G :=
  h.new (fp := fun _ => False) (Ext.refl _) ⟨fun x => ⟨fun h => h.elim, fun h => by cases h⟩, Own.nil _ _ _⟩ (fun _ h => h.elim)
theorem subl_nilown {e z : Nat} {M : List Res} (h : SubL M L) : SubL (.own e z none 0 0 [] :: M) L := fun U G hs => by
  refine ⟨fun _ => False, ⟨fun x => ⟨fun h => h.elim, fun h => by cases h⟩, Own.nil _ _ _⟩, (fun _ h => h.elim), (h U G hs).mono (fun _ _ _ => rfl) fun b _ hb => ?_⟩
  rcases hb with hb | hb
  · exact hb
  · exact hb.elim

/-! writes -/
theorem gw_store {t tb : TypeId} {n : Nat} {x y : Operand} {v : Value} {b off : Nat} {cs vs cs' : List Value} [hz : Szc P t n] (hx : evg l true x = some (.pointer (some ⟨b, off, none⟩))) (hy : evg l true y = some v) (hp : Pick L (.box b tb cs) L')
    (hc : v.cells = vs.toArray) (hn : vs.length = n) (hl : off + n ≤ cs.length) (h1 : vs.all isOne = true) (hs : spl cs off vs = cs') (h : K undef (.box b tb cs' :: L')) :
    GW P l ⟨d, .store t x y, T, pos, aft, gd⟩ H L K := fun G hg => by
  obtain ⟨fp, ⟨hf, hb⟩, _⟩ := hg.get hp
  have hv : v.cells.size = n := by rw [hc]; simpa using hn
  have hvl : v.cells.toList = vs := by rw [hc]
  refine hgen_store hx hy (by rw [hv]; exact hz.h) hb (by rw [hv]; exact hl) (by rw [hvl]; exact h1) (.inr (Nat.le_refl 0)) fun G1 k1 k2 => ⟨_, (hg.pick hp).turn fun fp' hr => ?_, h⟩
  rw [hvl, hs] at k2
  exact ⟨fp', ⟨hr.1, k2⟩, fun _ h => .inl h, fun x hx _ => k1 x fun e => hx ((hr.1 x).2 e)⟩
theorem gw_set {t tb : TypeId} {x y : Operand} {v u : Value} {b : Nat} [hz : Szc P t 1] (hx : evg l true x = some (.pointer (some ⟨b, 0, none⟩))) (hy : evg l true y = some v) (hp : Pick L (.box b tb [u]) L')
    (hc : v.cells = #[v]) (h1 : isOne v = true) (h : K undef (.box b tb [v] :: L')) : GW P l ⟨d, .store t x y, T, pos, aft, gd⟩ H L K :=
  gw_store (vs := [v]) hx hy hp hc rfl (by simp) (by simp [h1]) rfl h
theorem gw_storeo {t e : TypeId} {n z m c : Nat} {x y : Operand} {v : Value} {a : Option Addr} {k : Nat} {cs vs cs' : List Value} [hz : Szc P t n] (hx : evg l true x = some (.pointer (pt a k))) (hy : evg l true y = some v) (hp : Pick L (.own e z a m c cs) L')
    (hc : v.cells = vs.toArray) (hn : vs.length = n) (hl : k + n ≤ cs.length) (h1 : vs.all isOne = true) (h0 : 0 < n) (hs : spl cs k vs = cs') (h : K undef (.own e z a m c cs' :: L')) :
    GW P l ⟨d, .store t x y, T, pos, aft, gd⟩ H L K := fun G hg => by
  obtain ⟨fp, ⟨hf, k1, ⟨k2, k3⟩ | ⟨b, cap, rest, lo, hi, k2, k3, k4, k5, k6⟩⟩, _⟩ := hg.get hp
  · subst k3
    rw [Nat.zero_mul] at k1
    omega
  · cases k2
    have hv : v.cells.size = n := by rw [hc]; simpa using hn
    have hvl : v.cells.toList = vs := by rw [hc]
    have hx : evg l true x = some (.pointer (some ⟨b, k, none⟩)) := by rw [hx]; simp [pt]
    refine hgen_store (off := k) hx hy (by rw [hv]; exact hz.h) k3 (by rw [hv]; simp; omega) (by rw [hvl]; exact h1) k6 fun G1 j1 j2 => ⟨_, (hg.pick hp).turn fun fp' hr => ?_, h⟩
    rw [hvl] at j2
    have e : spl (cs ++ rest) k vs = cs' ++ rest := by
      rw [← hs]; unfold spl
      rw [List.take_append_of_le_length (by omega), List.drop_append_of_le_length (by omega)]
      simp
    rw [e] at j2
    have hlen : cs'.length = cs.length := by rw [← hs]; unfold spl; simp; omega
    refine ⟨fp', ⟨hr.1, by rw [hlen]; exact k1, .inr ⟨b, _, rest, lo, hi, rfl, j2, k4, k5, ?_⟩⟩, fun _ h => .inl h, fun x hx _ => j1 x fun e => hx ((hr.1 x).2 (by rw [e]; rfl))⟩
    simp only [List.length_append, hlen] at k6 ⊢; exact k6

/-! append -/
def SrcW (H : Hp) (L : List Res) (z : Nat) (x : Value) (m : Nat) (ys : List Value) : Prop := ∀ G, Hs H L G → Src G z x m ys
theorem src_own {e : TypeId} {z n c : Nat} {a : Option Addr} {cs : List Value} (hp : Pick L (.own e z a n c cs) L') : SrcW H L z (.slice a n c) n cs := fun G hg => by
  obtain ⟨fp, ⟨_, ho⟩, _⟩ := hg.get hp
  exact .inl ho.sl
theorem src_rs {z n c : Nat} {a : Option Addr} {cs : List Value} (h : Rs H z a n c cs) : SrcW H L z (.slice a n c) n cs := fun G hg => .inl (h.ext hg.ext)
theorem gw_append {s0 x0 : Operand} {sT xT e : TypeId} {ds : TypeDesc} {z bs : Nat} {zv x : Value} {a : Option Addr} {n c m : Nat} {cs ys : List Value} {L1 : List Res} [hsT : Und P sT (.slice e)] [hxT : Und P xT ds] [hz : Szc P e z] [hzv : Zec P e zv] [hbs : Bsc P e bs]
    (hs0 : evg l true s0 = some (.slice a n c)) (hx0 : evg l true x0 = some x) (hd : noInt ds = true) (hzs : zv.cells.size = z) (hp : Pick L (.own e z a n c cs) L') (hx : SrcW H L z x m ys) (hl : SubL L1 L')
    (hy : ys.length = m * z) (h1 : ys.all isOne = true) (hroom : (2 * (n + m) + 192) * bs ≤ 2 ^ 48) (hlen : n + m < 2 ^ 62) (h : ∀ a' c', K (.slice a' (n + m) c') (.own e z a' (n + m) c' (cs ++ ys) :: L1)) :
    GW P l ⟨d, .call ⟨.builtin .append, #[s0, x0], #[sT, xT]⟩, T, pos, aft, gd⟩ H L K := fun G hg => by
  obtain ⟨fp, ⟨hf, ho⟩, _⟩ := hg.get hp
  refine hgen_append hs0 hx0 hsT.h hxT.h hd hz.h hzv.h hzs hbs.h ho (hx G hg) hy h1 hroom hlen fun v G1 o1 o2 o3 _ => ?_
  obtain ⟨a', c', rfl⟩ : ∃ a' c', v = .slice a' (n + m) c' := by
    rcases o1.2 with ⟨rfl, h0⟩ | ⟨b, cap, rest, lo, hi, rfl, _⟩
    · exact ⟨none, 0, by rw [h0]⟩
    · exact ⟨_, _, rfl⟩
  refine ⟨_, ((hg.pick hp).turn (r' := .own e z a' (n + m) c' (cs ++ ys)) fun fp' hr => ⟨fun x => blk (.slice a' (n + m) c') = some x, ⟨fun _ => Iff.rfl, o1⟩, fun b hb => ?_, fun b hb hg0 => ?_⟩).sub (subl_cons pick0 hl), h a' c'⟩
  · rcases o3 b hb with h | h
    · exact .inl ((hr.1 b).2 h)
    · exact .inr h
  · cases e : G b with
    | none => exact absurd e hg0
    | some o => exact o2 b (fun h => hb ((hr.1 b).2 h)) o e
theorem q_slx {t e e' : TypeId} {z z' : Nat} {x lo : Operand} {a : Option Addr} {n c : Nat} {cs : List Value} {k : IntKind} {j : Int} {L' : List Res} [hu : Und P t (.slice e)] [hz : Szc P e z] (hx : evg l true x = some (.slice a n c)) (hl : evg l true lo = some (.int k j)) (hp : POwn L a e' z' n c cs L') (h0 : 0 ≤ j ∧ j ≤ n) :
    QW P l H L ⟨d, .slice t x (some lo) none none, T, pos, aft, gd⟩ (.slice (if c = j.toNat then a else a.map (·.add (j.toNat * z))) (n - j.toNat) (c - j.toNat)) := fun G hg => by
  have hc := own_cap hg hp.h
  have e0 : evo l true none = some none := rfl
  have e1 : evo l true (some lo) = some (some (.int k j)) := by simp [evo, hl]
  exact q_sls hx e1 e0 e0 (bnd_lo h0.1 h0.2 hc) G hg
theorem q_slxr {t e : TypeId} {z z' : Nat} {x lo : Operand} {a : Option Addr} {n c : Nat} {cs : List Value} {k : IntKind} {j : Int} [hu : Und P t (.slice e)] [hz : Szc P e z] (hx : evg l true x = some (.slice a n c)) (hl : evg l true lo = some (.int k j)) (hp : Rs H z' a n c cs) (h0 : 0 ≤ j ∧ j ≤ n) :
    QW P l H L ⟨d, .slice t x (some lo) none none, T, pos, aft, gd⟩ (.slice (if c = j.toNat then a else a.map (·.add (j.toNat * z))) (n - j.toNat) (c - j.toNat)) := fun G hg => by
  have hc := rs_cap hp
  have e0 : evo l true none = some none := rfl
  have e1 : evo l true (some lo) = some (some (.int k j)) := by simp [evo, hl]
  exact q_sls hx e1 e0 e0 (bnd_lo h0.1 h0.2 hc) G hg
theorem GW.nilown {o : Oper} {e z : Nat} (h : GW P l o H (.own e z none 0 0 [] :: L) K) : GW P l o H L K := fun G hg => h G (hs_nilown hg)
theorem GW.weaken {o : Oper} (h : GW P l o H L' K) (hl : SubL L' L) : GW P l o H L K := fun G hg => h G (hg.sub hl)
theorem gw_append1 {s0 x0 : Operand} {sT xT e : TypeId} {ds : TypeDesc} {z bs : Nat} {zv : Value} {a : Option Addr} {b n c m : Nat} {cs ys : List Value} {L1 L2 : List Res} [hsT : Und P sT (.slice e)] [hxT : Und P xT ds] [hz : Szc P e z] [hzv : Zec P e zv] [hbs : Bsc P e bs]
    (hs0 : evg l true s0 = some (.slice a n c)) (hx0 : evg l true x0 = some (.slice (some ⟨b, 0, none⟩) m m)) (hd : noInt ds = true) (hzs : zv.cells.size = z) (hp1 : Pick L (.own e z (some ⟨b, 0, none⟩) m m ys) L1) (hp2 : Pick L1 (.own e z a n c cs) L2)
    (hy : ys.length = m * z) (h1 : ys.all isOne = true) (hroom : (2 * (n + m) + 192) * bs ≤ 2 ^ 48) (hlen : n + m < 2 ^ 62) (h : ∀ a' c', K (.slice a' (n + m) c') (.own e z a' (n + m) c' (cs ++ ys) :: L2)) :
    GW P l ⟨d, .call ⟨.builtin .append, #[s0, x0], #[sT, xT]⟩, T, pos, aft, gd⟩ H L K :=
  GW.weaken (L' := .own e z (some ⟨b, 0, none⟩) m m ys :: .own e z a n c cs :: L2)
    (gw_append (L' := .own e z (some ⟨b, 0, none⟩) m m ys :: L2) (L1 := L2) hs0 hx0 hd hzs (pickS pick0) (src_own pick0) (subl_right (L := [_])) hy h1 hroom hlen h) (subl_cons hp1 (subl_cons hp2 subl_refl))
theorem gw_append1n {s0 x0 : Operand} {sT xT e : TypeId} {ds : TypeDesc} {z bs : Nat} {zv : Value} {b m : Nat} {ys : List Value} {L1 : List Res} [hsT : Und P sT (.slice e)] [hxT : Und P xT ds] [hz : Szc P e z] [hzv : Zec P e zv] [hbs : Bsc P e bs]
    (hs0 : evg l true s0 = some (.slice none 0 0)) (hx0 : evg l true x0 = some (.slice (some ⟨b, 0, none⟩) m m)) (hd : noInt ds = true) (hzs : zv.cells.size = z) (hp1 : Pick L (.own e z (some ⟨b, 0, none⟩) m m ys) L1)
    (hy : ys.length = m * z) (h1 : ys.all isOne = true) (hroom : (2 * (0 + m) + 192) * bs ≤ 2 ^ 48) (hlen : 0 + m < 2 ^ 62) (h : ∀ a' c', K (.slice a' (0 + m) c') (.own e z a' (0 + m) c' ([] ++ ys) :: L1)) :
    GW P l ⟨d, .call ⟨.builtin .append, #[s0, x0], #[sT, xT]⟩, T, pos, aft, gd⟩ H L K :=
  GW.nilown (gw_append1 hs0 hx0 hd hzs (pickS hp1) pick0 hy h1 hroom hlen h)

/-! the same, by the address -/
theorem gw_seto {t tb : TypeId} {x y : Operand} {v u : Value} {b : Nat} [hz : Szc P t 1] (hx : evg l true x = some (.pointer (some ⟨b, 0, none⟩))) (hy : evg l true y = some v) (hp : PBox L b tb [u] L')
    (hc : v.cells = #[v]) (h1 : isOne v = true) (h : K undef (.box b tb [v] :: L')) : GW P l ⟨d, .store t x y, T, pos, aft, gd⟩ H L K := gw_set hx hy hp.h hc h1 h
theorem spl_one (cs : List Value) (k : Nat) (v : Value) (h : k < cs.length) : spl cs k [v] = cs.set k v := by
  unfold spl
  rw [List.set_eq_take_append_cons_drop, if_pos h]; simp
theorem gw_st1 {t tb : TypeId} {x y : Operand} {v : Value} {b off : Nat} {cs cs' : List Value} [hz : Szc P t 1] (hx : evg l true x = some (.pointer (some ⟨b, off, none⟩))) (hy : evg l true y = some v) (hp : PBox L b tb cs L')
    (hc : v.cells = #[v]) (h1 : isOne v = true) (hl : off < cs.length) (hs : cs.set off v = cs') (h : K undef (.box b tb cs' :: L')) :
    GW P l ⟨d, .store t x y, T, pos, aft, gd⟩ H L K := gw_store (n := 1) (vs := [v]) hx hy hp.h hc rfl (by omega) (by simp [h1]) (by rw [spl_one _ _ _ hl, hs]) h
theorem gw_so1 {t e : TypeId} {z m c : Nat} {x y : Operand} {v : Value} {a : Option Addr} {k : Nat} {cs : List Value} [hz : Szc P t 1] (hx : evg l true x = some (.pointer (pt a k))) (hy : evg l true y = some v) (hp : POwn L a e z m c cs L')
    (hc : v.cells = #[v]) (h1 : isOne v = true) (hl : k < cs.length) (h : K undef (.own e z a m c (cs.set k v) :: L')) :
    GW P l ⟨d, .store t x y, T, pos, aft, gd⟩ H L K := gw_storeo (n := 1) (vs := [v]) hx hy hp.h hc rfl (by omega) (by simp [h1]) (by decide) (spl_one _ _ _ hl) h
theorem gw_sta {t tb : TypeId} {n : Nat} {x y : Operand} {v : Value} {b : Nat} {cs vs : List Value} [hz : Szc P t n] (hx : evg l true x = some (.pointer (some ⟨b, 0, none⟩))) (hy : evg l true y = some v) (hp : PBox L b tb cs L')
    (hc : v.cells = vs.toArray) (hn : vs.length = n) (hl : cs.length = n) (h1 : vs.all isOne = true) (h : K undef (.box b tb vs :: L')) :
    GW P l ⟨d, .store t x y, T, pos, aft, gd⟩ H L K := gw_store hx hy hp.h hc hn (by omega) h1 (by unfold spl; rw [List.take_zero, List.nil_append, Nat.zero_add, hn, ← hl, List.drop_length, List.append_nil]) h
theorem gw_sto {t e : TypeId} {n z m c : Nat} {x y : Operand} {v : Value} {a : Option Addr} {k : Nat} {cs vs : List Value} [hz : Szc P t n] (hx : evg l true x = some (.pointer (pt a k))) (hy : evg l true y = some v) (hp : POwn L a e z m c cs L')
    (hc : v.cells = vs.toArray) (hn : vs.length = n) (h1 : vs.all isOne = true) (h0 : 0 < n) (hl : k + n ≤ cs.length) (h : K undef (.own e z a m c (spl cs k vs) :: L')) :
    GW P l ⟨d, .store t x y, T, pos, aft, gd⟩ H L K := gw_storeo hx hy hp.h hc hn hl h1 h0 rfl h
theorem gw_ap1 {s0 x0 : Operand} {sT xT e : TypeId} {ds : TypeDesc} {z bs : Nat} {zv : Value} {a : Option Addr} {b n c m : Nat} {cs ys : List Value} {L1 L2 : List Res} [hsT : Und P sT (.slice e)] [hxT : Und P xT ds] [hz : Szc P e z] [hzv : Zec P e zv] [hbs : Bsc P e bs]
    (hs0 : evg l true s0 = some (.slice a n c)) (hx0 : evg l true x0 = some (.slice (some ⟨b, 0, none⟩) m m)) (hp1 : POwn L (some ⟨b, 0, none⟩) e z m m ys L1) (hp2 : POwn L1 a e z n c cs L2) (hd : noInt ds = true) (hzs : zv.cells.size = z)
    (hy : ys.length = m * z) (h1 : ys.all isOne = true) (hroom : (2 * (n + m) + 192) * bs ≤ 2 ^ 48 ∧ n + m < 2 ^ 62) (h : ∀ a' c', K (.slice a' (n + m) c') (.own e z a' (n + m) c' (cs ++ ys) :: L2)) :
    GW P l ⟨d, .call ⟨.builtin .append, #[s0, x0], #[sT, xT]⟩, T, pos, aft, gd⟩ H L K := gw_append1 hs0 hx0 hd hzs hp1.h hp2.h hy h1 hroom.1 hroom.2 h
theorem gw_ap1n {s0 x0 : Operand} {sT xT e : TypeId} {ds : TypeDesc} {z bs : Nat} {zv : Value} {b m : Nat} {ys : List Value} {L1 : List Res} [hsT : Und P sT (.slice e)] [hxT : Und P xT ds] [hz : Szc P e z] [hzv : Zec P e zv] [hbs : Bsc P e bs]
    (hs0 : evg l true s0 = some (.slice none 0 0)) (hx0 : evg l true x0 = some (.slice (some ⟨b, 0, none⟩) m m)) (hp1 : POwn L (some ⟨b, 0, none⟩) e z m m ys L1) (hd : noInt ds = true) (hzs : zv.cells.size = z)
    (hy : ys.length = m * z) (h1 : ys.all isOne = true) (hroom : (2 * (0 + m) + 192) * bs ≤ 2 ^ 48 ∧ 0 + m < 2 ^ 62) (h : ∀ a' c', K (.slice a' (0 + m) c') (.own e z a' (0 + m) c' ([] ++ ys) :: L1)) :
    GW P l ⟨d, .call ⟨.builtin .append, #[s0, x0], #[sT, xT]⟩, T, pos, aft, gd⟩ H L K := gw_append1n hs0 hx0 hd hzs hp1.h hy h1 hroom.1 hroom.2 h
theorem own_block {e : TypeId} {z n c : Nat} {a : Option Addr} {cs : List Value} {G : Hp} (hg : Hs H L G) (hp : Pick L (.own e z a n c cs) L') (hn : 0 < n) : ∃ b, a = some ⟨b, 0, none⟩ ∧ n ≤ c := by
  obtain ⟨fp, ⟨_, _, ⟨_, h3⟩ | ⟨b, cap, rest, lo, hi, h2, _, _, h5, _⟩⟩, _⟩ := hg.get hp
  · omega
  · cases h2; exact ⟨b, rfl, h5⟩
theorem CW_own {m : Nat} {C : Code} {Q : Exit → Ents → List Res → Prop} {e : TypeId} {z n c : Nat} {a : Option Addr} {cs : List Value} (hp : Pick L (.own e z a n c cs) L') (hn : 0 < n) (h : ∀ b, a = some ⟨b, 0, none⟩ → n ≤ c → CW P m C l H L Q) : CW P m C l H L Q := fun G hg => by
  obtain ⟨b, h1, h2⟩ := own_block hg hp hn
  exact h b h1 h2 G hg

/-! strings -/
theorem gw_s2b {s t e : TypeId} {x : Operand} {v : ByteArray} [hs : Und P s .string] [hd : Und P t (.slice e)] [he : Und P e (.int .u8)] (hx : evg l true x = some (.string v))
    (h : ∀ a c, K (.slice a v.size c) (.own e 1 a v.size c (v.data.toList.map fun b => .int .u8 b.toNat) :: L)) : GW P l ⟨d, .convert s t x, T, pos, aft, gd⟩ H L K := fun G hg =>
  hgen_stringToBytes (ds := .string) hx hs.h hd.h he.h fun v' G1 o1 o2 o3 => by
    obtain ⟨a', c', rfl⟩ : ∃ a' c', v' = .slice a' v.size c' := by
      rcases o1.2 with ⟨rfl, h0⟩ | ⟨b, cap, rest, lo, hi, rfl, _⟩
      · exact ⟨none, 0, by rw [h0]⟩
      · exact ⟨_, _, rfl⟩
    exact ⟨_, hg.new (r := .own e 1 a' v.size c' _) (fp := fun x => blk (.slice a' v.size c') = some x) o2 ⟨fun _ => Iff.rfl, o1⟩ o3, h a' c'⟩
theorem sl_own {G : Hp} {e : TypeId} {z n c : Nat} {a : Option Addr} {cs : List Value} (hp : Pick L (.own e z a n c cs) L') (hg : Hs H L G) : Sl G z (.slice a n c) n cs := by
  obtain ⟨fp, ⟨_, ho⟩, _⟩ := hg.get hp
  exact ho.sl
end

/-! where a piece of code ends -/
section
variable {next : Ents → List Res → Prop} {Q : Exit → Ents → List Res → Prop} {l : Ents} {L : List Res} {i j : Nat}
theorem xs_n (h : next l L) : thenS next Q .normal l L := h
theorem xs_e (h : Q (.exit i) l L) : thenS next Q (.exit i) l L := h
theorem xs_g (h : Q (.goto i) l L) : thenS next Q (.goto i) l L := h
theorem xs_r (h : Q .ret l L) : thenS next Q .ret l L := h
theorem xb_n (h : Q .normal l L) : blockS i Q .normal l L := h
theorem xb_e (h : Q .normal l L) : blockS i Q (.exit i) l L := by simp only [blockS, if_true]; exact h
theorem xb_o (hn : (j == i) = false) (h : Q (.exit j) l L) : blockS i Q (.exit j) l L := by
  have : j ≠ i := by simpa using hn
  simp only [blockS, if_neg this]; exact h
theorem xb_g (h : Q (.goto j) l L) : blockS i Q (.goto j) l L := h
theorem xb_r (h : Q .ret l L) : blockS i Q .ret l L := h
end
/-! a test that is known -/
theorem CW_condT {P : Program} {n : Nat} {l : Ents} {H : Hp} {L : List Res} {Q : Exit → Ents → List Res → Prop} {c : Operand} {x y : Code} {t : Bool} (hc : evg l true c = some (.bool t)) (ht : t = true) (h : CW P n x l H L Q) : CW P n (.cond c x y) l H L Q :=
  CW_cond hc (fun _ => h) (fun e => by rw [ht] at e; cases e)
theorem CW_condF {P : Program} {n : Nat} {l : Ents} {H : Hp} {L : List Res} {Q : Exit → Ents → List Res → Prop} {c : Operand} {x y : Code} {t : Bool} (hc : evg l true c = some (.bool t)) (ht : t = false) (h : CW P n y l H L Q) : CW P n (.cond c x y) l H L Q :=
  CW_cond hc (fun e => by rw [ht] at e; cases e) (fun _ => h)

/-! the end of a body -/
section
variable {P : Program} {l : Ents} {H : Hp} {L : List Res}
theorem bodyS_ret {fn : Func} {K : Value → List Res → Prop} {rs : List ResultVar} {vs : List Value} {L' : List Res} (hr : fn.results.toList = rs) (h : ResOk P l H L rs vs) (hs : SubL L' L) (hk : K (resOne vs) L') : bodyS P fn H K .ret l L := ⟨vs, L', hr ▸ h, hs, hk⟩
theorem bodyS_end {fn : Func} {K : Value → List Res → Prop} {rs : List ResultVar} {vs : List Value} {L' : List Res} (hr : fn.results.toList = rs) (h : ResOk P l H L rs vs) (hs : SubL L' L) (hk : K (resOne vs) L') : bodyS P fn H K .normal l L := ⟨vs, L', hr ▸ h, hs, hk⟩
theorem look_int {i : Nat} {g : Bool} {k : IntKind} {a b : Int} (h : look l i = some (g, .int k a)) (e : a = b) : look l i = some (g, .int k b) := e ▸ h
theorem CW_join {n : Nat} {c d : Code} {Q Q' : Exit → Ents → List Res → Prop} (I : Ents → List Res → Prop) (h : CW P n c l H L (thenS (fun l' L' => ∃ l2 L2, I l2 L2 ∧ subE l2 l' ∧ SubL L2 L') Q)) (hm : ∀ l2 L2, I l2 L2 → CW P n d l2 H L2 Q') :
    CW P n c l H L (thenS (fun l' L' => CW P n d l' H L' Q') Q) := by
  refine h.mono fun e l' L' hh => ?_
  cases e <;> first | exact hh | skip
  obtain ⟨l2, L2, h1, h2, h3⟩ := hh
  exact (hm l2 L2 h1).weaken h2 h3
theorem CW_drop {n : Nat} {c : Code} {Q : Exit → Ents → List Res → Prop} (L' : List Res) (hl : SubL L' L) (h : CW P n c l H L' Q) : CW P n c l H L Q := h.weaken (fun _ _ h => h) hl
end
/-! steps, in the form in which operations stand -/
section
variable {P : Program} {ops : Array Oper} {l : Ents} {H : Hp} {L : List Res} {K : Ents → List Res → Prop} {d : Tmp} {op : Op} {T : TypeId} {pos : String} {aft : Array Edge} {gd : Nat × Bool} {v : Value} {g : Bool}
section
variable {rest : List Oper}
theorem RW.q1 (hq : QW P l H L ⟨some d, op, T, pos, aft, none⟩ v) (h : RW P ops rest ((d, true, v) :: l) H L K) : RW P ops (⟨some d, op, T, pos, aft, none⟩ :: rest) l H L K := RW.q gv_n (fun _ => hq) h
theorem RW.a1 (h : GW P l ⟨some d, op, T, pos, aft, none⟩ H L fun v L' => RW P ops rest ((d, true, v) :: l) H L' K) : RW P ops (⟨some d, op, T, pos, aft, none⟩ :: rest) l H L K := RW.a gv_n h
theorem RW.a0 (h : GW P l ⟨none, op, T, pos, aft, none⟩ H L fun _ L' => RW P ops rest l H L' K) : RW P ops (⟨none, op, T, pos, aft, none⟩ :: rest) l H L K := RW.a gv_n h
theorem RW.s1 (hg : gval ops l ⟨some d, op, T, pos, aft, some gd⟩ = some false) (h : RW P ops rest ((d, false, .bool false) :: l) H L K) : RW P ops (⟨some d, op, T, pos, aft, some gd⟩ :: rest) l H L K := RW.s hg h
theorem RW.s0 (hg : gval ops l ⟨none, op, T, pos, aft, some gd⟩ = some false) (h : RW P ops rest l H L K) : RW P ops (⟨none, op, T, pos, aft, some gd⟩ :: rest) l H L K := RW.s hg h
theorem RW.qg (hg : gval ops l ⟨some d, op, T, pos, aft, some gd⟩ = some g) (hq : g = true → QW P l H L ⟨some d, op, T, pos, aft, some gd⟩ v) (h : RW P ops rest ((d, g, v) :: l) H L K) : RW P ops (⟨some d, op, T, pos, aft, some gd⟩ :: rest) l H L K := RW.q hg hq h
theorem RW.c1 (hc : NW P l ⟨some d, op, T, pos, aft, none⟩ H L v) (h : RW P ops rest ((d, true, v) :: l) H L K) : RW P ops (⟨some d, op, T, pos, aft, none⟩ :: rest) l H L K :=
  fun G hs => ⟨true, gv_n, .inr ⟨fun _ => hgen_mono (hc G hs) fun v' G' ⟨e, hx⟩ => e ▸ h G' (hs.grow hx), fun e => by cases e⟩⟩
theorem RW.cg (hg : gval ops l ⟨some d, op, T, pos, aft, some gd⟩ = some g) (hc : g = true → NW P l ⟨some d, op, T, pos, aft, some gd⟩ H L v) (h : RW P ops rest ((d, g, v) :: l) H L K) : RW P ops (⟨some d, op, T, pos, aft, some gd⟩ :: rest) l H L K :=
  fun G hs => ⟨g, hg, .inr ⟨fun e => by subst e; exact hgen_mono (hc rfl G hs) fun v' G' ⟨e, hx⟩ => e ▸ h G' (hs.grow hx), fun e => by subst e; exact ⟨v, h G hs⟩⟩⟩
theorem RW.at (hg : gval ops l ⟨some d, op, T, pos, aft, some gd⟩ = some true) (h : GW P l ⟨some d, op, T, pos, aft, some gd⟩ H L fun v L' => RW P ops rest ((d, true, v) :: l) H L' K) : RW P ops (⟨some d, op, T, pos, aft, some gd⟩ :: rest) l H L K := RW.a hg h
theorem RW.two (u : Value) (hg : gval ops l ⟨some d, op, T, pos, aft, some gd⟩ = some g) (h : g = true → GW P l ⟨some d, op, T, pos, aft, some gd⟩ H L fun v L' => RW P ops rest ((d, true, v) :: l) H L' K) (h' : g = false → RW P ops rest ((d, false, u) :: l) H L K) :
    RW P ops (⟨some d, op, T, pos, aft, some gd⟩ :: rest) l H L K := RW.gd u hg h h'
end
section
variable {gr : List Nat} {rest : List (Nat × Bool)} {i : Nat}
theorem DW.q1 (ho : ops[i]? = some ⟨some d, op, T, pos, aft, none⟩) (hq : QW P l H L ⟨some d, op, T, pos, aft, none⟩ v) (h : DW P ops gr rest ((d, true, v) :: l) H L K) : DW P ops gr ((i, false) :: rest) l H L K := DW.q ho gv_n (fun _ => hq) h
theorem DW.a1 (ho : ops[i]? = some ⟨some d, op, T, pos, aft, none⟩) (hng : gr.contains i = false) (h : GW P l ⟨some d, op, T, pos, aft, none⟩ H L fun v L' => DW P ops gr rest ((d, true, v) :: l) H L' K) : DW P ops gr ((i, true) :: rest) l H L K := DW.a ho hng gv_n h
theorem DW.ag1 (ho : ops[i]? = some ⟨some d, op, T, pos, aft, none⟩) (h : GX P l ⟨some d, op, T, pos, aft, none⟩ H L fun v L' => DW P ops gr rest ((d, true, v) :: l) H L' K) : DW P ops gr ((i, true) :: rest) l H L K := DW.ag ho gv_n h
theorem DW.a0 (ho : ops[i]? = some ⟨none, op, T, pos, aft, none⟩) (hng : gr.contains i = false) (h : GW P l ⟨none, op, T, pos, aft, none⟩ H L fun _ L' => DW P ops gr rest l H L' K) : DW P ops gr ((i, true) :: rest) l H L K := DW.a ho hng gv_n h
theorem DW.sa (ho : ops[i]? = some ⟨some d, op, T, pos, aft, some gd⟩) (hg : gval ops l ⟨some d, op, T, pos, aft, some gd⟩ = some false) (h : DW P ops gr rest ((d, false, .bool false) :: l) H L K) : DW P ops gr ((i, true) :: rest) l H L K := DW.s ho hg h
theorem DW.qg (ho : ops[i]? = some ⟨some d, op, T, pos, aft, some gd⟩) (hg : gval ops l ⟨some d, op, T, pos, aft, some gd⟩ = some g) (hq : g = true → QW P l H L ⟨some d, op, T, pos, aft, some gd⟩ v) (h : DW P ops gr rest ((d, g, v) :: l) H L K) : DW P ops gr ((i, false) :: rest) l H L K := DW.q ho hg hq h
theorem DW.at (ho : ops[i]? = some ⟨some d, op, T, pos, aft, some gd⟩) (hng : gr.contains i = false) (hg : gval ops l ⟨some d, op, T, pos, aft, some gd⟩ = some true) (h : GW P l ⟨some d, op, T, pos, aft, some gd⟩ H L fun v L' => DW P ops gr rest ((d, true, v) :: l) H L' K) : DW P ops gr ((i, true) :: rest) l H L K := DW.a ho hng hg h
theorem DW.two (u : Value) (ho : ops[i]? = some ⟨some d, op, T, pos, aft, some gd⟩) (hng : gr.contains i = false) (hg : gval ops l ⟨some d, op, T, pos, aft, some gd⟩ = some g) (h : g = true → GW P l ⟨some d, op, T, pos, aft, some gd⟩ H L fun v L' => DW P ops gr rest ((d, true, v) :: l) H L' K) (h' : g = false → DW P ops gr rest ((d, false, u) :: l) H L K) :
    DW P ops gr ((i, true) :: rest) l H L K := DW.gd u ho hng hg h h'
theorem DW.c1 (ho : ops[i]? = some ⟨some d, op, T, pos, aft, none⟩) (hdr : callOp op = true) (hc : NW P l ⟨some d, op, T, pos, aft, none⟩ H L v) (h : DW P ops gr rest ((d, true, v) :: l) H L K) : DW P ops gr ((i, false) :: rest) l H L K := DW.c v ho hdr gv_n (fun _ => hc) h
theorem DW.cg (ho : ops[i]? = some ⟨some d, op, T, pos, aft, some gd⟩) (hdr : callOp op = true) (hg : gval ops l ⟨some d, op, T, pos, aft, some gd⟩ = some g) (hc : g = true → NW P l ⟨some d, op, T, pos, aft, some gd⟩ H L v) (h : DW P ops gr rest ((d, g, v) :: l) H L K) : DW P ops gr ((i, false) :: rest) l H L K := DW.c v ho hdr hg hc h
theorem DW.cgT {o : Oper} (ho : ops[i]? = some o) (hg : gval ops l o = some g) (hc : g = true → NW P l o H L v) (h : DW P ops gr rest (putE l o.dst g v) H L K) : DW P ops gr ((i, true) :: rest) l H L K :=
  fun G hs => ⟨o, ho, g, hg, by rw [if_pos rfl]; exact ⟨fun e => by subst e; exact hgen_mono (hc rfl G hs) fun v' G' ⟨hv, hx⟩ => by subst hv; exact ⟨fun _ => hx, h G' (hs.grow hx)⟩, fun e => by subst e; exact ⟨v, h G hs⟩⟩⟩
theorem DW.c1t (ho : ops[i]? = some ⟨some d, op, T, pos, aft, none⟩) (hc : NW P l ⟨some d, op, T, pos, aft, none⟩ H L v) (h : DW P ops gr rest ((d, true, v) :: l) H L K) : DW P ops gr ((i, true) :: rest) l H L K := DW.cgT ho gv_n (fun _ => hc) h
theorem DW.cgt (ho : ops[i]? = some ⟨some d, op, T, pos, aft, some gd⟩) (hg : gval ops l ⟨some d, op, T, pos, aft, some gd⟩ = some g) (hc : g = true → NW P l ⟨some d, op, T, pos, aft, some gd⟩ H L v) (h : DW P ops gr rest ((d, g, v) :: l) H L K) : DW P ops gr ((i, true) :: rest) l H L K := DW.cgT ho hg hc h
end
end

/-! a row's elements -/
theorem ix_map {α : Type} {xs : List α} {g : α → Value} {j : Nat} {i : Int} {x : α} (hx : xs[j]? = some x) (hk : i.toNat = j) : ((xs.map g).drop (i.toNat * 1)).take 1 = [g x] := by
  subst hk
  have hlt : i.toNat < xs.length := by
    rcases Nat.lt_or_ge i.toNat xs.length with h | h
    · exact h
    · rw [List.getElem?_eq_none h] at hx; cases hx
  rw [Nat.mul_one, List.drop_eq_getElem_cons (by simpa using hlt)]
  rw [List.getElem?_eq_getElem hlt] at hx
  cases hx
  simp
theorem ix_id {xs : List Value} {j : Nat} {i : Int} {x : Value} (hx : xs[j]? = some x) (hk : i.toNat = j) : (xs.drop (i.toNat * 1)).take 1 = [x] := by
  have := ix_map (g := id) hx hk
  simpa using this
theorem ix_set {cs : List Value} {k : Nat} {v : Value} (h : k < cs.length) : ((cs.set k v).drop k).take 1 = [v] := by
  rw [List.drop_eq_getElem_cons (by simpa using h)]
  simp
theorem ix_int {xs : List Int} {k : IntKind} {i : Int} (h : 0 ≤ i ∧ i < xs.length) : ((xs.map (Value.int k)).drop (i.toNat * 1)).take 1 = [.int k (xs.getD i.toNat 0)] := by
  have hlt : i.toNat < xs.length := by omega
  refine ix_map (List.getElem?_eq_getElem hlt) rfl |>.trans ?_
  rw [List.getD_eq_getElem?_getD, List.getElem?_eq_getElem hlt]; rfl
class Enc {α : Type} (enc : α → List Value) (z : outParam Nat) : Prop where
  h : ∀ x, (enc x).length = z
theorem flat_drop {α : Type} {enc : α → List Value} {z : Nat} (hz : ∀ x, (enc x).length = z) : ∀ (xs : List α) (j : Nat), (xs.flatMap enc).drop (j * z) = (xs.drop j).flatMap enc := by
  intro xs
  induction xs with
  | nil => intro j; simp
  | cons x xs ih =>
    intro j
    cases j with
    | zero => simp
    | succ j =>
      rw [List.drop_succ_cons, List.flatMap_cons, ← ih j, Nat.add_mul, Nat.one_mul, Nat.add_comm, ← List.drop_drop]
      congr 1
      rw [← hz x]; simp
theorem flat_take {α : Type} {enc : α → List Value} {z : Nat} (hz : ∀ x, (enc x).length = z) : ∀ (xs : List α) (j : Nat), (xs.flatMap enc).take (j * z) = (xs.take j).flatMap enc := by
  intro xs
  induction xs with
  | nil => intro j; simp
  | cons x xs ih =>
    intro j
    cases j with
    | zero => simp
    | succ j =>
      rw [List.take_succ_cons, List.flatMap_cons, List.flatMap_cons, ← ih j, Nat.add_mul, Nat.one_mul, Nat.add_comm, ← hz x, List.take_length_add_append]
theorem ix_fld {α : Type} {xs : List α} {enc : α → List Value} {z j off n : Nat} {i : Int} {x : α} [hz : Enc enc z] (hx : xs[j]? = some x) (hk : i.toNat = j) (hn : off + n ≤ z) : ((xs.flatMap enc).drop (i.toNat * z + off)).take n = ((enc x).drop off).take n := by
  subst hk
  rw [← List.drop_drop, flat_drop hz.h]
  have hlt : i.toNat < xs.length := by
    rcases Nat.lt_or_ge i.toNat xs.length with h | h
    · exact h
    · rw [List.getElem?_eq_none h] at hx; cases hx
  rw [List.getElem?_eq_getElem hlt] at hx
  cases hx
  rw [List.drop_eq_getElem_cons hlt, List.flatMap_cons]
  have := hz.h xs[i.toNat]
  rw [List.drop_append_of_le_length (by omega), List.take_append_of_le_length (by simp; omega)]
theorem ix_elem {α : Type} {xs : List α} {enc : α → List Value} {z j : Nat} {i : Int} {x : α} [hz : Enc enc z] (hx : xs[j]? = some x) (hk : i.toNat = j) : ((xs.flatMap enc).drop (i.toNat * z)).take z = enc x := by
  have := ix_fld (enc := enc) (off := 0) (n := z) hx hk (by omega)
  rw [Nat.add_zero] at this
  rw [this, List.drop_zero, List.take_of_length_le (by rw [hz.h x]; exact Nat.le_refl _)]
theorem ret_i64 {a b : Int} (h : a = b) : resOne [Value.int .i64 a] = .int .i64 b := by rw [h]; rfl
theorem ret_bool {a b : Bool} (h : a = b) : resOne [Value.bool a] = .bool b := by rw [h]; rfl
end Go.Proofs.Ytkhmimlgkjenfaa.HL
