/- BestD: PfxBc: which prefix is the best: plain laws. No condition. PfxBd: Best answers exactly. Condition: a right number. -/
import Derived.Test.YtnhbipachchlgaaGreatBestCX
import Derived.Test.YtnhbipachchlgaaGreatBestBX
import Derived.Test.YtnhbipachchlgaaGreatEngX
namespace Go.Proofs.YtnhbipachchlgaaGreat.HL
open Go
attribute [local irreducible] goFn thenS blockS bodyS CW RW DW GW QW NW SC Pick Picks SubL Rd NN ResOk SrcW subE hops hseg AW hgen HC qv bldv
set_option maxHeartbeats 8000000
set_option maxRecDepth 100000
set_option linter.unusedVariables false
set_option linter.unusedSimpArgs false

def Cand (bn : Bool) (y : Px) : Prop := y ∈ pfx ∧ y.bn = bn ∧ (bn = false → y.pw % 3 = 0)
def LeF (A q : Nat) (x : Px) : Prop := ¬ A * fD x < fN x * q
def Pick7 (bn : Bool) (A q : Nat) (x : Px) : Prop :=
  Cand bn x ∧ ((LeF A q x ∧ ∀ y, Cand bn y → LeF A q y → y.pw ≤ x.pw) ∨ ((∀ y, Cand bn y → ¬ LeF A q y) ∧ ∀ y, Cand bn y → x.pw ≤ y.pw))
theorem pw_inj : ∀ x ∈ pfx, ∀ y ∈ pfx, x.bn = y.bn → x.pw = y.pw → x = y := by decide +kernel
theorem pick_one {bn : Bool} {A q : Nat} {x y : Px} (hx : Pick7 bn A q x) (hy : Pick7 bn A q y) : x = y := by
  obtain ⟨cx, hx⟩ := hx
  obtain ⟨cy, hy⟩ := hy
  refine pw_inj x cx.1 y cy.1 (by rw [cx.2.1, cy.2.1]) ?_
  rcases hx with ⟨x1, x2⟩ | ⟨x1, x2⟩
  · rcases hy with ⟨y1, y2⟩ | ⟨y1, y2⟩
    · have := x2 y cy y1
      have := y2 x cx x1
      omega
    · exact absurd x1 (y1 x cx)
  · rcases hy with ⟨y1, y2⟩ | ⟨y1, y2⟩
    · exact absurd y1 (x1 y cy)
    · have := x2 y cy
      have := y2 x cx
      omega
def ex (x : Px) : Nat := (30 + x.pw).toNat
theorem fac_ex {x : Px} (hx : x ∈ pfx) : fN x * byP x ^ 30 = byP x ^ ex x * fD x := by
  have hp := pfx_pw x hx
  unfold ex
  show powN (byP x) 1 x.pw * _ = _ * powN 1 (byP x) x.pw
  unfold powN
  by_cases h : x.pw < 0
  · rw [if_pos h, if_pos h, Nat.one_pow, Nat.one_mul, ← Nat.pow_add]
    congr 1; omega
  · rw [if_neg h, if_neg h, Nat.one_pow, Nat.mul_one, ← Nat.pow_add]
    congr 1; omega
theorem bel_ex {x : Px} {A q : Nat} (hx : x ∈ pfx) (k : Nat) : A * fD x < fN x * k * q ↔ A * byP x ^ 30 < byP x ^ ex x * k * q := by
  have hD := (fac_len hx).2.2.2
  have hB : 0 < byP x ^ 30 := Nat.pow_pos (by have := (byP_le x).2; omega)
  have h := fac_ex hx
  rw [← Nat.mul_lt_mul_right (a := byP x ^ 30) hB, ← Nat.mul_lt_mul_right (a := fD x) hD (b := A * byP x ^ 30)]
  have e1 : A * fD x * byP x ^ 30 = A * byP x ^ 30 * fD x := Nat.mul_right_comm ..
  have e2 : fN x * k * q * byP x ^ 30 = byP x ^ ex x * k * q * fD x := by
    rw [Nat.mul_right_comm (fN x * k), Nat.mul_right_comm (fN x), h, Nat.mul_right_comm _ (fD x) k, Nat.mul_right_comm _ (fD x) q]
  rw [e1, e2]
theorem le_ex {x : Px} {A q : Nat} (hx : x ∈ pfx) : LeF A q x ↔ byP x ^ ex x * q ≤ A * byP x ^ 30 := by
  have := bel_ex (A := A) (q := q) hx 1
  rw [Nat.mul_one, Nat.mul_one] at this
  unfold LeF
  rw [this]; omega
theorem chN_pw : ∀ i : Fin 20, ∃ x, chN[i.val]? = some x ∧ x ∈ pfx ∧ x.bn = false ∧ x.pw % 3 = 0 ∧ ex x = (if i.val < 10 then 3 * i.val else 3 * i.val + 3) := by decide +kernel
theorem chB_pw : ∀ i : Fin 8, ∃ x, chB[i.val]? = some x ∧ x ∈ pfx ∧ x.bn = true ∧ ex x = 31 + i.val := by decide +kernel
theorem candN_ex : ∀ y ∈ pfx, y.bn = false → y.pw % 3 = 0 → ex y % 3 = 0 ∧ ex y ≤ 60 ∧ ex y ≠ 30 ∧ (ex y : Int) = 30 + y.pw := by decide +kernel
theorem candB_ex : ∀ y ∈ pfx, y.bn = true → 31 ≤ ex y ∧ ex y ≤ 38 ∧ (ex y : Int) = 30 + y.pw := by decide +kernel
theorem pow_cmp {B e f q V : Nat} (hB : 1 < B) (h1 : B ^ e * q ≤ V) (h2 : V < B ^ f * q) : e < f := by
  have h3 : B ^ e * q < B ^ f * q := Nat.lt_of_le_of_lt h1 h2
  have h4 : B ^ e < B ^ f := Nat.lt_of_mul_lt_mul_right h3
  exact (Nat.pow_lt_pow_iff_right hB).1 h4
theorem byN {x : Px} (h : x.bn = false) : byP x = 10 := by unfold byP; rw [h]; rfl
theorem byB {x : Px} (h : x.bn = true) : byP x = 1024 := by unfold byP; rw [h]; rfl
theorem pickN {A q i : Nat} {x : Px} (hx : chN[i]? = some x) (hi : i < 20) (hprev : ∀ j y, j < i → chN[j]? = some y → ¬ A * fD y < fN y * 1000 * q) (hcur : A * fD x < fN x * 1000 * q ∨ i = 19) (hout : A < q ∨ 1000 * q ≤ A) : Pick7 false A q x := by
  obtain ⟨x', hx', m1, m2, m3, m4⟩ := chN_pw ⟨i, hi⟩
  obtain rfl : x = x' := Option.some.inj (hx.symm.trans hx')
  replace m4 : ex x = (if i < 10 then 3 * i else 3 * i + 3) := m4
  have bx := byN m2
  have ea : ∀ e, 10 ^ e * 1000 * q = 10 ^ (e + 3) * q := fun e => by rw [Nat.pow_add]
  rw [bel_ex m1, bx, ea] at hcur
  have hup : ∀ y, Cand false y → LeF A q y → y.pw ≤ x.pw := by
    rintro y ⟨y1, y2, y3⟩ hy
    obtain ⟨k1, k2, k3, k4⟩ := candN_ex y y1 y2 (y3 rfl)
    obtain ⟨l1, l2, l3, l4⟩ := candN_ex x m1 m2 m3
    rw [le_ex y1, byN y2] at hy
    have : ex y ≤ ex x := by
      rcases hcur with hcur | hcur
      · have := pow_cmp (by decide) hy hcur
        omega
      · have : ex x = 60 := by rw [m4, hcur]; rfl
        omega
    omega
  refine ⟨⟨m1, m2, fun _ => m3⟩, ?_⟩
  by_cases hle : LeF A q x
  · exact .inl ⟨hle, hup⟩
  · have hi0 : i = 0 := by
      rcases Nat.eq_zero_or_pos i with g | g
      · exact g
      · exfalso
        apply hle
        rw [le_ex m1, bx]
        obtain ⟨y, hy, n1, n2, n3, n4⟩ := chN_pw ⟨i - 1, by omega⟩
        replace n4 : ex y = (if i - 1 < 10 then 3 * (i - 1) else 3 * (i - 1) + 3) := n4
        have hp := hprev (i - 1) y (by omega) hy
        rw [bel_ex n1, byN n2, ea] at hp
        by_cases h10 : i = 10
        · subst h10
          have e1 : ex y = 27 := by rw [n4]; rfl
          have e2 : ex x = 33 := by rw [m4]; rfl
          rw [e1] at hp
          rw [e2]
          rcases hout with ho | ho
          · exfalso
            apply hp
            rw [Nat.mul_comm]
            exact Nat.mul_lt_mul_of_pos_left ho (Nat.pow_pos (by decide))
          · have := Nat.mul_le_mul_right (10 ^ 30) ho
            rw [show (10 : Nat) ^ 33 = 1000 * 10 ^ 30 by decide, Nat.mul_right_comm]
            exact this
        · have e1 : ex x = ex y + 3 := by
            rw [m4, n4]
            split <;> split <;> omega
          rw [e1]; omega
    refine .inr ⟨fun y hc hy => hle ?_, fun y hc => ?_⟩
    · have h1 := hup y hc hy
      obtain ⟨y1, y2, y3⟩ := hc
      obtain ⟨k1, k2, k3, k4⟩ := candN_ex y y1 y2 (y3 rfl)
      obtain ⟨l1, l2, l3, l4⟩ := candN_ex x m1 m2 m3
      have e0 : ex x = 0 := by rw [m4, hi0]; rfl
      obtain rfl : y = x := pw_inj y y1 x m1 (by rw [y2, m2]) (by omega)
      exact hy
    · obtain ⟨y1, y2, y3⟩ := hc
      obtain ⟨k1, k2, k3, k4⟩ := candN_ex y y1 y2 (y3 rfl)
      obtain ⟨l1, l2, l3, l4⟩ := candN_ex x m1 m2 m3
      have e0 : ex x = 0 := by rw [m4, hi0]; rfl
      omega
theorem pickB {A q i : Nat} {x : Px} (hx : chB[i]? = some x) (hi : i < 8) (hprev : ∀ j y, j < i → chB[j]? = some y → ¬ A * fD y < fN y * 1024 * q) (hcur : A * fD x < fN x * 1024 * q ∨ i = 7) (hout : 1024 * q ≤ A) : Pick7 true A q x := by
  obtain ⟨x', hx', m1, m2, m4⟩ := chB_pw ⟨i, hi⟩
  obtain rfl : x = x' := Option.some.inj (hx.symm.trans hx')
  replace m4 : ex x = 31 + i := m4
  have bx := byB m2
  have ea : ∀ e, 1024 ^ e * 1024 * q = 1024 ^ (e + 1) * q := fun e => by rw [Nat.pow_succ]
  rw [bel_ex m1, bx, ea] at hcur
  have hup : ∀ y, Cand true y → LeF A q y → y.pw ≤ x.pw := by
    rintro y ⟨y1, y2, y3⟩ hy
    obtain ⟨k1, k2, k4⟩ := candB_ex y y1 y2
    obtain ⟨l1, l2, l4⟩ := candB_ex x m1 m2
    rw [le_ex y1, byB y2] at hy
    have : ex y ≤ ex x := by
      rcases hcur with hcur | hcur
      · have := pow_cmp (by decide) hy hcur
        omega
      · have : ex x = 38 := by rw [m4, hcur]
        omega
    omega
  refine ⟨⟨m1, m2, fun h => by cases h⟩, .inl ⟨?_, hup⟩⟩
  rw [le_ex m1, bx]
  rcases Nat.eq_zero_or_pos i with g | g
  · have e0 : ex x = 31 := by rw [m4, g]
    have := Nat.mul_le_mul_right (1024 ^ 30) hout
    rw [e0, Nat.pow_succ, Nat.mul_comm (1024 ^ 30), Nat.mul_right_comm]
    exact this
  · obtain ⟨y, hy, n1, n2, n4⟩ := chB_pw ⟨i - 1, by omega⟩
    replace n4 : ex y = 31 + (i - 1) := n4
    have hp := hprev (i - 1) y (by omega) hy
    rw [bel_ex n1, byB n2, ea] at hp
    have e1 : ex x = ex y + 1 := by rw [m4, n4]; omega
    rw [e1]; omega
end Go.Proofs.YtnhbipachchlgaaGreat.HL
namespace Go.Proofs.YtnhbipachchlgaaGreat.HL
open Go
attribute [local irreducible] goFn thenS blockS bodyS CW RW DW GW QW NW SC Pick Picks SubL Rd NN ResOk SrcW subE hops hseg AW hgen HC qv bldv
set_option linter.unusedVariables false
set_option linter.unusedSimpArgs false

def NoPre (a : Int) (q : Nat) (bn : Bool) : Prop := a = 0 ∨ (q ≤ a.natAbs ∧ a.natAbs < (if bn = true then 1024 else 1000) * q) ∨ (bn = true ∧ a.natAbs < q)
def BestX (n d : List UInt8) (a : Int) (q : Nat) (bn : Bool) (v : Value) : Prop :=
  (NoPre a q bn ∧ v = bestV none n d 0) ∨ ¬ NoPre a q bn ∧ ∃ x, Pick7 bn a.natAbs q x ∧ ∃ X Y e, toldV (fn (a * (powN 1 (byP x) x.pw : Nat)) ((q : Int) * (powN (byP x) 1 x.pw : Nat))) (fd (a * (powN 1 (byP x) x.pw : Nat)) ((q : Int) * (powN (byP x) 1 x.pw : Nat))) = .tuple #[ratV X Y, .int .i64 e] ∧
    ((e = 0 ∧ v = bestV (some x) X Y 0) ∨ (e ≠ 0 ∧ v = bestV none [] [] e))
theorem zero_txt {n d : List UInt8} {a : Int} {q : Nat} (h : readQ n d = some (a, q)) (hn : n = [48]) : a = 0 := by
  subst hn
  have hw : wholeZ [48] = some 0 := rfl
  unfold readQ at h
  rw [hw] at h
  simp only at h
  split at h
  · cases h; rfl
  · cases h
theorem txt_zero {n d : List UInt8} {a : Int} {q : Nat} (h : readQ n d = some (a, q)) (ha : a = 0) : n = [48] := by
  rw [(readQ_txt h).1, ha]
  show Lib.decDigits 0 = _
  exact dec_zero
theorem size_le {z : Int} {q : Nat} {a : Int} (h1 : z < 0 ↔ a.natAbs < q) (h2 : z = 0 ↔ q ≤ a.natAbs ∧ a.natAbs < 1024 * q) (h : z ≤ 0) : NoPre a q true := by
  rcases Int.lt_or_eq_of_le h with g | g
  · exact .inr (.inr ⟨rfl, h1.1 g⟩)
  · exact .inr (.inl (h2.1 g))
theorem no_N {n d : List UInt8} {a : Int} {q : Nat} (h : readQ n d = some (a, q)) (h48 : n ≠ [48]) (hz : ¬ (q ≤ a.natAbs ∧ a.natAbs < 1000 * q)) : ¬ NoPre a q false := by
  rintro (g | g | g)
  · exact h48 (txt_zero h g)
  · exact hz g
  · cases g.1
theorem no_B {n d : List UInt8} {a : Int} {q : Nat} (h : readQ n d = some (a, q)) (h48 : n ≠ [48]) (hz : 1024 * q ≤ a.natAbs) : ¬ NoPre a q true := by
  have h3 := (readQ_txt h).2.2.1
  rintro (g | g | g)
  · exact h48 (txt_zero h g)
  · have := g.2
    rw [if_pos rfl] at this
    omega
  · omega
theorem step_no {L : List Px} {P : Px → Prop} {i : Nat} {x : Px} (h : ∀ j y, j < i → L[j]? = some y → ¬ P y) (hx : L[i]? = some x) (hn : ¬ P x) : ∀ j y, j < i + 1 → L[j]? = some y → ¬ P y := by
  intro j y hj hy
  by_cases g : j = i
  · subst g
    rw [hx] at hy
    cases hy; exact hn
  · exact h j y (by omega) hy
theorem bestX_N (n d : List UInt8) (a : Int) (q : Nat) (h : readQ n d = some (a, q)) (H : Hp) :
    SC Tryz.prog 9 [ratV n d, .bool false] H [] (fun v M => BestX n d a q false v ∧ M = []) := by
  have hR := fun G => right_ok n d a q h G
  have hO := fun G => of_spec 1000 G (by decide)
  obtain ⟨z, ⟨hz1, hz2⟩, hZ⟩ := size_ex n d (decB (1000 : Nat)) [49] a q 1000 h (lim_ok (by decide))
  by_cases h48 : n = [48]
  · (refine SC_intro Tryz.func9 rfl (by kernel_rfl) (by rw [Tryz.ntmps9]; exact Nat.le_of_ble_eq_true rfl) ?_; simp only [Tryz.ntmps9, argE, Nat.reduceAdd])
    
    repeat' (first | ((first | apply RW.q1 | (apply DW.q1; exact rfl)); (first | (apply q_sbT (b := [48]); exact rfl; exact rfl; exact h48) | (apply q_bld; exact rfl; first | exact bld26_ | exact bld30_) | exact qt)) | ((first | apply RW.qg | (apply DW.qg; exact rfl)); exact gvx; refine hgx tst ?_; intro hg hg'; (first | (apply q_sbT (b := [48]); exact evgx; exact rfl; exact h48) | (apply q_bld; exact rfl; first | exact bld26_ | exact bld30_) | exact qu)) | refine xsg cts ?_ | (apply CW_condT; exact rfl; exact ar) | (apply CW_condF; exact rfl; exact ar) | ((first | apply RW.s1 | apply RW.s0 | (apply DW.sa; exact rfl)); exact gva) | (refine hK _ _ ?_; clear hK; refine xsg xsl ?_) | (refine xsg ahd ?_; (first | ((first | apply gw_callE (f := 19) | apply gx_callE (f := 19)); exact evx; exact go19; intro G hG; exact hR G) | ((first | apply gw_callE (f := 20) | apply gx_callE (f := 20)); exact evx; exact go20; intro G hG; exact hO G) | ((first | apply gw_callE (f := 21) | apply gx_callE (f := 21)); exact evx; exact go21; intro G hG; exact hZ G) | (apply gw_asg; exact rfl) | ((first | apply gw_alloc | apply gx_alloc); exact rfl; intro b) | ((first | apply gw_box | apply gx_box); exact rfl; exact rfl; intro b) | (refine gw_stx sto ?_) | (fail))) | (apply CW_region; intro K hK) | (apply CW_condX; exact rfl; exact tst; exact tst; all_goals (intro hq hc; try exact no)) | (refine CW_drawS (id := 8) [1, 2, 3] [([1, 2, 3], [], [(0, false), (1, false), (2, true), (3, true), (4, false)]), ([2, 1, 3], [], [(0, false), (2, true), (1, false), (3, true), (4, false)])] mixed (by kernel_rfl) ⟨fun K hK => ?_, fun K hK => ?_, trivial⟩) | (refine CW_drawS (id := 19) [1, 2, 3] [([1, 2, 3], [], [(0, false), (1, false), (2, true), (3, true), (4, false)]), ([2, 1, 3], [], [(0, false), (2, true), (1, false), (3, true), (4, false)])] mixed (by kernel_rfl) ⟨fun K hK => ?_, fun K hK => ?_, trivial⟩))
    all_goals (refine CW_ret ?_; refine xsg xsl ?_; refine bodyS_ret (L' := []) (rs := [.cell 4 30, .cell 5 26, .tmp 6]) (by kernel_rfl) (by (repeat (first | (apply resok_tmp; exact rfl) | (apply resok_cell; exact rfl; exact rfl; (focus ((iterate 16 (try (first | exact pick0 | apply pickS))); done)); (first | exact rfl | assumption | (simp only [List.length_map]; omega)); decide))); exact resok_nil) (by exact sbl) ?_)
    all_goals exact ⟨.inl ⟨.inl (zero_txt h h48), rfl⟩, rfl⟩
  by_cases hz0 : z = 0
  · subst hz0
    (refine SC_intro Tryz.func9 rfl (by kernel_rfl) (by rw [Tryz.ntmps9]; exact Nat.le_of_ble_eq_true rfl) ?_; simp only [Tryz.ntmps9, argE, Nat.reduceAdd])
    
    repeat' (first | ((first | apply RW.q1 | (apply DW.q1; exact rfl)); (first | (apply q_sbF (b := [48]); exact rfl; exact rfl; exact h48) | (apply q_bld; exact rfl; first | exact bld26_ | exact bld30_) | exact qt)) | ((first | apply RW.qg | (apply DW.qg; exact rfl)); exact gvx; refine hgx tst ?_; intro hg hg'; (first | (apply q_sbF (b := [48]); exact evgx; exact rfl; exact h48) | (apply q_bld; exact rfl; first | exact bld26_ | exact bld30_) | exact qu)) | refine xsg cts ?_ | (apply CW_condT; exact rfl; exact ar) | (apply CW_condF; exact rfl; exact ar) | ((first | apply RW.s1 | apply RW.s0 | (apply DW.sa; exact rfl)); exact gva) | (refine hK _ _ ?_; clear hK; refine xsg xsl ?_) | (refine xsg ahd ?_; (first | ((first | apply gw_callE (f := 19) | apply gx_callE (f := 19)); exact evx; exact go19; intro G hG; exact hR G) | ((first | apply gw_callE (f := 20) | apply gx_callE (f := 20)); exact evx; exact go20; intro G hG; exact hO G) | ((first | apply gw_callE (f := 21) | apply gx_callE (f := 21)); exact evx; exact go21; intro G hG; exact hZ G) | (apply gw_asg; exact rfl) | ((first | apply gw_alloc | apply gx_alloc); exact rfl; intro b) | ((first | apply gw_box | apply gx_box); exact rfl; exact rfl; intro b) | (refine gw_stx sto ?_) | (fail))) | (apply CW_region; intro K hK) | (apply CW_condX; exact rfl; exact tst; exact tst; all_goals (intro hq hc; try exact no)) | (refine CW_drawS (id := 8) [1, 2, 3] [([1, 2, 3], [], [(0, false), (1, false), (2, true), (3, true), (4, false)]), ([2, 1, 3], [], [(0, false), (2, true), (1, false), (3, true), (4, false)])] mixed (by kernel_rfl) ⟨fun K hK => ?_, fun K hK => ?_, trivial⟩) | (refine CW_drawS (id := 19) [1, 2, 3] [([1, 2, 3], [], [(0, false), (1, false), (2, true), (3, true), (4, false)]), ([2, 1, 3], [], [(0, false), (2, true), (1, false), (3, true), (4, false)])] mixed (by kernel_rfl) ⟨fun K hK => ?_, fun K hK => ?_, trivial⟩))
    all_goals (refine CW_ret ?_; refine xsg xsl ?_; refine bodyS_ret (L' := []) (rs := [.cell 4 30, .cell 5 26, .tmp 6]) (by kernel_rfl) (by (repeat (first | (apply resok_tmp; exact rfl) | (apply resok_cell; exact rfl; exact rfl; (focus ((iterate 16 (try (first | exact pick0 | apply pickS))); done)); (first | exact rfl | assumption | (simp only [List.length_map]; omega)); decide))); exact resok_nil) (by exact sbl) ?_)
    all_goals exact ⟨.inl ⟨.inr (.inl (hz2.1 rfl)), rfl⟩, rfl⟩
  have hel : ∀ (i : Nat) (x : Px), chN[i]? = some x → ∀ j : Nat, j = i * 5 → ((chN.flatMap encP).drop j).take 5 = encP x := by
    rintro i x hx j rfl
    have := ix_elem (enc := encP) (i := (i : Int)) hx (Int.toNat_natCast i)
    rwa [Int.toNat_natCast] at this
  have hlen : chN.length = 20 := rfl
  have hno : ¬ NoPre a q false := no_N h h48 (fun g => hz0 (hz2.2 g))
  have hout : a.natAbs < q ∨ 1000 * q ≤ a.natAbs := by
    have : ¬ (q ≤ a.natAbs ∧ a.natAbs < 1000 * q) := fun g => hz0 (hz2.2 g)
    omega
  have hdz : decide (z = 0) = false := decide_eq_false hz0
  (refine SC_intro Tryz.func9 rfl (by kernel_rfl) (by rw [Tryz.ntmps9]; exact Nat.le_of_ble_eq_true rfl) ?_; simp only [Tryz.ntmps9, argE, Nat.reduceAdd])
  
  repeat' (first | ((first | apply RW.q1 | (apply DW.q1; exact rfl)); (first | (apply q_sbF (b := [48]); exact rfl; exact rfl; exact h48) | (apply q_bld; exact rfl; first | exact bld26_ | exact bld30_) | exact qt)) | ((first | apply RW.qg | (apply DW.qg; exact rfl)); exact gvx; refine hgx tst ?_; intro hg hg'; (first | (apply q_sbF (b := [48]); exact evgx; exact rfl; exact h48) | (apply q_bld; exact rfl; first | exact bld26_ | exact bld30_) | exact qu)) | refine xsg cts ?_ | (apply CW_condT; exact rfl; exact ar) | (apply CW_condF; exact rfl; exact ar) | ((first | apply RW.s1 | apply RW.s0 | (apply DW.sa; exact rfl)); exact gva) | (refine hK _ _ ?_; clear hK; refine xsg xsl ?_) | (refine xsg ahd ?_; (first | ((first | apply gw_box (d := some 2) | apply gx_box (d := some 2)); exact rfl; exact rfl; intro b2) | ((first | apply gw_alloc (d := some 4) | apply gx_alloc (d := some 4)); exact rfl; intro b4) | ((first | apply gw_alloc (d := some 5) | apply gx_alloc (d := some 5)); exact rfl; intro b5) | ((first | apply gw_alloc (d := some 7) | apply gx_alloc (d := some 7)); exact rfl; intro b7) | ((first | apply gw_alloc (d := some 9) | apply gx_alloc (d := some 9)); exact rfl; intro b9) | ((first | apply gw_callE (f := 19) | apply gx_callE (f := 19)); exact evx; exact go19; intro G hG; exact hR G) | ((first | apply gw_callE (f := 20) | apply gx_callE (f := 20)); exact evx; exact go20; intro G hG; exact hO G) | ((first | apply gw_callE (f := 21) | apply gx_callE (f := 21)); exact evx; exact go21; intro G hG; exact hZ G) | ((first | apply gw_call (f := 22) | apply gx_call (f := 22)); exact evx; exact go22; intro G hG; refine SC.mono (choiceN_spec G) ?_; rintro v M ⟨ra, rc, rfl, rfl⟩; (try dsimp only [jL, jM])) | (apply gw_asg; exact rfl) | ((first | apply gw_alloc | apply gx_alloc); exact rfl; intro b) | ((first | apply gw_box | apply gx_box); exact rfl; exact rfl; intro b) | (refine gw_stx sto ?_) | (fail))) | (apply CW_region; intro K hK) | (apply CW_condX; exact rfl; exact tst; exact tst; all_goals (intro hq hc; try exact no)) | (refine CW_drawS (id := 8) [1, 2, 3] [([1, 2, 3], [], [(0, false), (1, false), (2, true), (3, true), (4, false)]), ([2, 1, 3], [], [(0, false), (2, true), (1, false), (3, true), (4, false)])] mixed (by kernel_rfl) ⟨fun K hK => ?_, fun K hK => ?_, trivial⟩) | (refine CW_drawS (id := 19) [1, 2, 3] [([1, 2, 3], [], [(0, false), (1, false), (2, true), (3, true), (4, false)]), ([2, 1, 3], [], [(0, false), (2, true), (1, false), (3, true), (4, false)])] mixed (by kernel_rfl) ⟨fun K hK => ?_, fun K hK => ?_, trivial⟩))
  iterate 2 (focus (exfalso; rcases hc with g | ⟨_, g⟩; exact hz0 g; exact g))
  refine CW_loop (fun m l L => ∃ (i : Nat) (v1 v2 v3 v4 : ByteArray) (v5 : Bool), m = 20 - i ∧ l = [(2, true, .pointer (some ⟨b2, 0, none⟩)), (4, true, .pointer (some ⟨b4, 0, none⟩)), (5, true, .pointer (some ⟨b5, 0, none⟩)), (7, true, .pointer (some ⟨b7, 0, none⟩)), (9, true, .pointer (some ⟨b9, 0, none⟩)), (42, true, .slice ra 20 rc), (43, true, .int .i64 20), (44, true, .int .i64 (i : Nat))] ∧
      L = [.box b9 30 [.string v1, .string v2, .string v3, .string v4, .bool v5], .own 30 5 ra 20 rc (chN.flatMap encP), .box b2 26 [.string (bstr n), .string (bstr d)], .box b4 30 [.string ⟨#[]⟩, .string ⟨#[]⟩, .string ⟨#[]⟩, .string ⟨#[]⟩, .bool false], .box b5 26 [.string ⟨#[]⟩, .string ⟨#[]⟩], .box b7 26 [.string (bstr (decB (1000 : Nat))), .string (bstr [49])]] ∧ i ≤ 20 ∧
      (∀ j y, j < i → chN[j]? = some y → ¬ a.natAbs * fD y < fN y * 1000 * q) ∧ (0 < i → ∃ x, chN[i - 1]? = some x ∧ encP x = [.string v1, .string v2, .string v3, .string v4, .bool v5]))
    ⟨_, _, _, ⟨0, _, _, _, _, _, rfl, rfl, rfl, by omega, fun j y hj => absurd hj (by omega), fun g => absurd g (by omega)⟩, by exact sbe, by exact sbl⟩ ?_
  rintro m l L ⟨i, v1, v2, v3, v4, v5, rfl, rfl, rfl, hi, hpr, hx⟩
  by_cases hin : i < 20
  · obtain ⟨x, hxe⟩ : ∃ x, chN[i]? = some x := ⟨_, List.getElem?_eq_getElem (by omega)⟩
    have hxm := List.mem_of_getElem? hxe
    obtain ⟨hxp, hxb⟩ := chN_ok x hxm
    clear hx
    have hB := below_ex n d (decB (1000 : Nat)) [49] a q 1000 x h hxp (by decide) (by decide) (lim_ok (by decide))
    generalize hbz : decide (a.natAbs * fD x < fN x * 1000 * q) = bz at hB
    obtain ⟨X, Y, e, hT⟩ := told_any (fn (a * (powN 1 (byP x) x.pw : Nat)) ((q : Int) * (powN (byP x) 1 x.pw : Nat))) (fd (a * (powN 1 (byP x) x.pw : Nat)) ((q : Int) * (powN (byP x) 1 x.pw : Nat)))
    have hQ := fun G => quoP_spec h hxp hT G
    cases bz with
    | false =>
      repeat' (first | ((first | apply RW.q1 | (apply DW.q1; exact rfl)); (first | (apply q_lao; exact rfl; exact rfl; infer_instance; exact hel _ _ hxe _ (by omega); exact rfl; decide) | (apply q_bld; exact rfl; first | exact bld26_ | exact bld30_) | exact qt)) | ((first | apply RW.qg | (apply DW.qg; exact rfl)); exact gvx; refine hgx tst ?_; intro hg hg'; (first | (apply q_lao; exact rfl; exact evgx; infer_instance; exact hel _ _ hxe _ (by omega); exact rfl; decide) | (apply q_bld; exact rfl; first | exact bld26_ | exact bld30_) | exact qu)) | refine xsg cts ?_ | (apply CW_condT; exact rfl; exact ar) | (apply CW_condF; exact rfl; exact ar) | ((first | apply RW.s1 | apply RW.s0 | (apply DW.sa; exact rfl)); exact gva) | (refine hK _ _ ?_; clear hK; refine xsg xsl ?_) | (refine xsg ahd ?_; (first | ((first | apply gw_callE (f := 23) | apply gx_callE (f := 23)); exact evx; exact go23; intro G hG; exact hB G) | (apply gw_asg; exact rfl) | ((first | apply gw_alloc | apply gx_alloc); exact rfl; intro b) | ((first | apply gw_box | apply gx_box); exact rfl; exact rfl; intro b) | (refine gw_stx sto ?_) | (fail))) | (apply CW_region; intro K hK) | (apply CW_condX; exact rfl; exact tst; exact tst; all_goals (intro hq hc; try exact no)) | (refine CW_drawS (id := 8) [1, 2, 3] [([1, 2, 3], [], [(0, false), (1, false), (2, true), (3, true), (4, false)]), ([2, 1, 3], [], [(0, false), (2, true), (1, false), (3, true), (4, false)])] mixed (by kernel_rfl) ⟨fun K hK => ?_, fun K hK => ?_, trivial⟩) | (refine CW_drawS (id := 19) [1, 2, 3] [([1, 2, 3], [], [(0, false), (1, false), (2, true), (3, true), (4, false)]), ([2, 1, 3], [], [(0, false), (2, true), (1, false), (3, true), (4, false)])] mixed (by kernel_rfl) ⟨fun K hK => ?_, fun K hK => ?_, trivial⟩))
      all_goals exact ⟨_, _, _, ⟨i + 1, _, _, _, _, _, rfl, rfl, rfl, by omega, step_no hpr hxe (of_decide_eq_false hbz), fun _ => ⟨x, hxe, rfl⟩⟩, by exact sbe, by exact sbl, by omega⟩
    | true =>
      repeat' (first | ((first | apply RW.q1 | (apply DW.q1; exact rfl)); (first | (apply q_lao; exact rfl; exact rfl; infer_instance; exact hel _ _ hxe _ (by omega); exact rfl; decide) | (apply q_bld; exact rfl; first | exact bld26_ | exact bld30_) | exact qt)) | ((first | apply RW.qg | (apply DW.qg; exact rfl)); exact gvx; refine hgx tst ?_; intro hg hg'; (first | (apply q_lao; exact rfl; exact evgx; infer_instance; exact hel _ _ hxe _ (by omega); exact rfl; decide) | (apply q_bld; exact rfl; first | exact bld26_ | exact bld30_) | exact qu)) | refine xsg cts ?_ | (apply CW_condT; exact rfl; exact ar) | (apply CW_condF; exact rfl; exact ar) | ((first | apply RW.s1 | apply RW.s0 | (apply DW.sa; exact rfl)); exact gva) | (refine hK _ _ ?_; clear hK; refine xsg xsl ?_) | (refine xsg ahd ?_; (first | ((first | apply gw_callE (f := 23) | apply gx_callE (f := 23)); exact evx; exact go23; intro G hG; exact hB G) | ((first | apply gw_callE (f := 24) | apply gx_callE (f := 24)); exact evx; exact go24; intro G hG; exact hQ G) | (apply gw_asg; exact rfl) | ((first | apply gw_alloc | apply gx_alloc); exact rfl; intro b) | ((first | apply gw_box | apply gx_box); exact rfl; exact rfl; intro b) | (refine gw_stx sto ?_) | (fail))) | (apply CW_region; intro K hK) | (apply CW_condX; exact rfl; exact tst; exact tst; all_goals (intro hq hc; try exact no)) | (refine CW_drawS (id := 8) [1, 2, 3] [([1, 2, 3], [], [(0, false), (1, false), (2, true), (3, true), (4, false)]), ([2, 1, 3], [], [(0, false), (2, true), (1, false), (3, true), (4, false)])] mixed (by kernel_rfl) ⟨fun K hK => ?_, fun K hK => ?_, trivial⟩) | (refine CW_drawS (id := 19) [1, 2, 3] [([1, 2, 3], [], [(0, false), (1, false), (2, true), (3, true), (4, false)]), ([2, 1, 3], [], [(0, false), (2, true), (1, false), (3, true), (4, false)])] mixed (by kernel_rfl) ⟨fun K hK => ?_, fun K hK => ?_, trivial⟩))
      all_goals (refine CW_ret ?_; refine xsg xsl ?_; refine bodyS_ret (L' := []) (rs := [.cell 4 30, .cell 5 26, .tmp 6]) (by kernel_rfl) (by (repeat (first | (apply resok_tmp; exact rfl) | (apply resok_cell; exact rfl; exact rfl; (focus ((iterate 16 (try (first | exact pick0 | apply pickS))); done)); (first | exact rfl | assumption | (simp only [List.length_map]; omega)); decide))); exact resok_nil) (by exact sbl) ?_)
      all_goals first | exact ⟨.inr ⟨hno, x, pickN hxe hin hpr (.inl (of_decide_eq_true hbz)) hout, X, Y, e, hT, .inr ⟨hc, rfl⟩⟩, rfl⟩ | exact ⟨.inr ⟨hno, x, pickN hxe hin hpr (.inl (of_decide_eq_true hbz)) hout, X, Y, e, hT, .inl ⟨hc, rfl⟩⟩, rfl⟩
  · obtain rfl : i = 20 := by omega
    obtain ⟨x, hxe, hxc⟩ := hx (by omega)
    have hxm := List.mem_of_getElem? hxe
    obtain ⟨hxp, hxb⟩ := chN_ok x hxm
    obtain ⟨X, Y, e, hT⟩ := told_any (fn (a * (powN 1 (byP x) x.pw : Nat)) ((q : Int) * (powN (byP x) 1 x.pw : Nat))) (fd (a * (powN 1 (byP x) x.pw : Nat)) ((q : Int) * (powN (byP x) 1 x.pw : Nat)))
    have hQ := fun G => quoP_spec h hxp hT G
    cases hxc
    repeat' (first | ((first | apply RW.q1 | (apply DW.q1; exact rfl)); (first | (apply q_bld; exact rfl; first | exact bld26_ | exact bld30_) | exact qt)) | ((first | apply RW.qg | (apply DW.qg; exact rfl)); exact gvx; refine hgx tst ?_; intro hg hg'; (first | (apply q_bld; exact rfl; first | exact bld26_ | exact bld30_) | exact qu)) | refine xsg cts ?_ | (apply CW_condT; exact rfl; exact ar) | (apply CW_condF; exact rfl; exact ar) | ((first | apply RW.s1 | apply RW.s0 | (apply DW.sa; exact rfl)); exact gva) | (refine hK _ _ ?_; clear hK; refine xsg xsl ?_) | (refine xsg ahd ?_; (first | ((first | apply gw_callE (f := 24) | apply gx_callE (f := 24)); exact evx; exact go24; intro G hG; exact hQ G) | (apply gw_asg; exact rfl) | ((first | apply gw_alloc | apply gx_alloc); exact rfl; intro b) | ((first | apply gw_box | apply gx_box); exact rfl; exact rfl; intro b) | (refine gw_stx sto ?_) | (fail))) | (apply CW_region; intro K hK) | (apply CW_condX; exact rfl; exact tst; exact tst; all_goals (intro hq hc; try exact no)) | (refine CW_drawS (id := 8) [1, 2, 3] [([1, 2, 3], [], [(0, false), (1, false), (2, true), (3, true), (4, false)]), ([2, 1, 3], [], [(0, false), (2, true), (1, false), (3, true), (4, false)])] mixed (by kernel_rfl) ⟨fun K hK => ?_, fun K hK => ?_, trivial⟩) | (refine CW_drawS (id := 19) [1, 2, 3] [([1, 2, 3], [], [(0, false), (1, false), (2, true), (3, true), (4, false)]), ([2, 1, 3], [], [(0, false), (2, true), (1, false), (3, true), (4, false)])] mixed (by kernel_rfl) ⟨fun K hK => ?_, fun K hK => ?_, trivial⟩))
    all_goals (refine CW_ret ?_; refine xsg xsl ?_; refine bodyS_ret (L' := []) (rs := [.cell 4 30, .cell 5 26, .tmp 6]) (by kernel_rfl) (by (repeat (first | (apply resok_tmp; exact rfl) | (apply resok_cell; exact rfl; exact rfl; (focus ((iterate 16 (try (first | exact pick0 | apply pickS))); done)); (first | exact rfl | assumption | (simp only [List.length_map]; omega)); decide))); exact resok_nil) (by exact sbl) ?_)
    all_goals first | exact ⟨.inr ⟨hno, x, pickN hxe (by omega) (fun j y hj => hpr j y (by omega)) (.inr rfl) hout, X, Y, e, hT, .inr ⟨hc, rfl⟩⟩, rfl⟩ | exact ⟨.inr ⟨hno, x, pickN hxe (by omega) (fun j y hj => hpr j y (by omega)) (.inr rfl) hout, X, Y, e, hT, .inl ⟨hc, rfl⟩⟩, rfl⟩
theorem bestX_B (n d : List UInt8) (a : Int) (q : Nat) (h : readQ n d = some (a, q)) (H : Hp) :
    SC Tryz.prog 9 [ratV n d, .bool true] H [] (fun v M => BestX n d a q true v ∧ M = []) := by
  have hR := fun G => right_ok n d a q h G
  have hO := fun G => of_spec 1000 G (by decide)
  have hO2 := fun G => of_spec 1024 G (by decide)
  obtain ⟨z, ⟨hz1, hz2⟩, hZ⟩ := size_ex n d (decB (1024 : Nat)) [49] a q 1024 h (lim_ok (by decide))
  by_cases h48 : n = [48]
  · (refine SC_intro Tryz.func9 rfl (by kernel_rfl) (by rw [Tryz.ntmps9]; exact Nat.le_of_ble_eq_true rfl) ?_; simp only [Tryz.ntmps9, argE, Nat.reduceAdd])
    
    repeat' (first | ((first | apply RW.q1 | (apply DW.q1; exact rfl)); (first | (apply q_sbT (b := [48]); exact rfl; exact rfl; exact h48) | (apply q_bld; exact rfl; first | exact bld26_ | exact bld30_) | exact qt)) | ((first | apply RW.qg | (apply DW.qg; exact rfl)); exact gvx; refine hgx tst ?_; intro hg hg'; (first | (apply q_sbT (b := [48]); exact evgx; exact rfl; exact h48) | (apply q_bld; exact rfl; first | exact bld26_ | exact bld30_) | exact qu)) | refine xsg cts ?_ | (apply CW_condT; exact rfl; exact ar) | (apply CW_condF; exact rfl; exact ar) | ((first | apply RW.s1 | apply RW.s0 | (apply DW.sa; exact rfl)); exact gva) | (refine hK _ _ ?_; clear hK; refine xsg xsl ?_) | (refine xsg ahd ?_; (first | ((first | apply gw_callE (f := 19) | apply gx_callE (f := 19)); exact evx; exact go19; intro G hG; exact hR G) | ((first | apply gw_callE (f := 20) | apply gx_callE (f := 20)); exact evx; exact go20; intro G hG; exact hO G) | ((first | apply gw_callE (f := 20) | apply gx_callE (f := 20)); exact evx; exact go20; intro G hG; exact hO2 G) | ((first | apply gw_callE (f := 21) | apply gx_callE (f := 21)); exact evx; exact go21; intro G hG; exact hZ G) | (apply gw_asg; exact rfl) | ((first | apply gw_alloc | apply gx_alloc); exact rfl; intro b) | ((first | apply gw_box | apply gx_box); exact rfl; exact rfl; intro b) | (refine gw_stx sto ?_) | (fail))) | (apply CW_region; intro K hK) | (apply CW_condX; exact rfl; exact tst; exact tst; all_goals (intro hq hc; try exact no)) | (refine CW_drawS (id := 8) [1, 2, 3] [([1, 2, 3], [], [(0, false), (1, false), (2, true), (3, true), (4, false)]), ([2, 1, 3], [], [(0, false), (2, true), (1, false), (3, true), (4, false)])] mixed (by kernel_rfl) ⟨fun K hK => ?_, fun K hK => ?_, trivial⟩) | (refine CW_drawS (id := 19) [1, 2, 3] [([1, 2, 3], [], [(0, false), (1, false), (2, true), (3, true), (4, false)]), ([2, 1, 3], [], [(0, false), (2, true), (1, false), (3, true), (4, false)])] mixed (by kernel_rfl) ⟨fun K hK => ?_, fun K hK => ?_, trivial⟩))
    all_goals (refine CW_ret ?_; refine xsg xsl ?_; refine bodyS_ret (L' := []) (rs := [.cell 4 30, .cell 5 26, .tmp 6]) (by kernel_rfl) (by (repeat (first | (apply resok_tmp; exact rfl) | (apply resok_cell; exact rfl; exact rfl; (focus ((iterate 16 (try (first | exact pick0 | apply pickS))); done)); (first | exact rfl | assumption | (simp only [List.length_map]; omega)); decide))); exact resok_nil) (by exact sbl) ?_)
    all_goals exact ⟨.inl ⟨.inl (zero_txt h h48), rfl⟩, rfl⟩
  by_cases hz0 : z ≤ 0
  · (refine SC_intro Tryz.func9 rfl (by kernel_rfl) (by rw [Tryz.ntmps9]; exact Nat.le_of_ble_eq_true rfl) ?_; simp only [Tryz.ntmps9, argE, Nat.reduceAdd])
    
    repeat' (first | ((first | apply RW.q1 | (apply DW.q1; exact rfl)); (first | (apply q_sbF (b := [48]); exact rfl; exact rfl; exact h48) | (apply q_bld; exact rfl; first | exact bld26_ | exact bld30_) | exact qt)) | ((first | apply RW.qg | (apply DW.qg; exact rfl)); exact gvx; refine hgx tst ?_; intro hg hg'; (first | (apply q_sbF (b := [48]); exact evgx; exact rfl; exact h48) | (apply q_bld; exact rfl; first | exact bld26_ | exact bld30_) | exact qu)) | refine xsg cts ?_ | (apply CW_condT; exact rfl; exact ar) | (apply CW_condF; exact rfl; exact ar) | ((first | apply RW.s1 | apply RW.s0 | (apply DW.sa; exact rfl)); exact gva) | (refine hK _ _ ?_; clear hK; refine xsg xsl ?_) | (refine xsg ahd ?_; (first | ((first | apply gw_callE (f := 19) | apply gx_callE (f := 19)); exact evx; exact go19; intro G hG; exact hR G) | ((first | apply gw_callE (f := 20) | apply gx_callE (f := 20)); exact evx; exact go20; intro G hG; exact hO G) | ((first | apply gw_callE (f := 20) | apply gx_callE (f := 20)); exact evx; exact go20; intro G hG; exact hO2 G) | ((first | apply gw_callE (f := 21) | apply gx_callE (f := 21)); exact evx; exact go21; intro G hG; exact hZ G) | (apply gw_asg; exact rfl) | ((first | apply gw_alloc | apply gx_alloc); exact rfl; intro b) | ((first | apply gw_box | apply gx_box); exact rfl; exact rfl; intro b) | (refine gw_stx sto ?_) | (fail))) | (apply CW_region; intro K hK) | (apply CW_condX; exact rfl; exact tst; exact tst; all_goals (intro hq hc; try exact no)) | (refine CW_drawS (id := 8) [1, 2, 3] [([1, 2, 3], [], [(0, false), (1, false), (2, true), (3, true), (4, false)]), ([2, 1, 3], [], [(0, false), (2, true), (1, false), (3, true), (4, false)])] mixed (by kernel_rfl) ⟨fun K hK => ?_, fun K hK => ?_, trivial⟩) | (refine CW_drawS (id := 19) [1, 2, 3] [([1, 2, 3], [], [(0, false), (1, false), (2, true), (3, true), (4, false)]), ([2, 1, 3], [], [(0, false), (2, true), (1, false), (3, true), (4, false)])] mixed (by kernel_rfl) ⟨fun K hK => ?_, fun K hK => ?_, trivial⟩))
    all_goals (refine CW_ret ?_; refine xsg xsl ?_; refine bodyS_ret (L' := []) (rs := [.cell 4 30, .cell 5 26, .tmp 6]) (by kernel_rfl) (by (repeat (first | (apply resok_tmp; exact rfl) | (apply resok_cell; exact rfl; exact rfl; (focus ((iterate 16 (try (first | exact pick0 | apply pickS))); done)); (first | exact rfl | assumption | (simp only [List.length_map]; omega)); decide))); exact resok_nil) (by exact sbl) ?_)
    all_goals exact ⟨.inl ⟨size_le hz1 hz2 hz0, rfl⟩, rfl⟩
  have hel : ∀ (i : Nat) (x : Px), chB[i]? = some x → ∀ j : Nat, j = 120 + i * 5 → ((pfx.flatMap encP).drop j).take 5 = encP x := by
    rintro i x hx j hj
    have hx2 : pfx[24 + i]? = some x := by
      have : chB[i]? = pfx[24 + i]? := List.getElem?_drop
      rw [← this]; exact hx
    have := ix_elem (enc := encP) (i := ((24 + i : Nat) : Int)) hx2 (Int.toNat_natCast _)
    rw [Int.toNat_natCast] at this
    rw [hj, show 120 + i * 5 = (24 + i) * 5 by omega]
    exact this
  have hlen : chB.length = 8 := rfl
  have hout : 1024 * q ≤ a.natAbs := by omega
  have hno : ¬ NoPre a q true := no_B h h48 hout
  (refine SC_intro Tryz.func9 rfl (by kernel_rfl) (by rw [Tryz.ntmps9]; exact Nat.le_of_ble_eq_true rfl) ?_; simp only [Tryz.ntmps9, argE, Nat.reduceAdd])
  
  repeat' (first | ((first | apply RW.q1 | (apply DW.q1; exact rfl)); (first | (apply q_sbF (b := [48]); exact rfl; exact rfl; exact h48) | (apply q_bld; exact rfl; first | exact bld26_ | exact bld30_) | exact qt)) | ((first | apply RW.qg | (apply DW.qg; exact rfl)); exact gvx; refine hgx tst ?_; intro hg hg'; (first | (apply q_sbF (b := [48]); exact evgx; exact rfl; exact h48) | (apply q_bld; exact rfl; first | exact bld26_ | exact bld30_) | exact qu)) | refine xsg cts ?_ | (apply CW_condT; exact rfl; exact ar) | (apply CW_condF; exact rfl; exact ar) | ((first | apply RW.s1 | apply RW.s0 | (apply DW.sa; exact rfl)); exact gva) | (refine hK _ _ ?_; clear hK; refine xsg xsl ?_) | (refine xsg ahd ?_; (first | ((first | apply gw_box (d := some 2) | apply gx_box (d := some 2)); exact rfl; exact rfl; intro b2) | ((first | apply gw_alloc (d := some 4) | apply gx_alloc (d := some 4)); exact rfl; intro b4) | ((first | apply gw_alloc (d := some 5) | apply gx_alloc (d := some 5)); exact rfl; intro b5) | ((first | apply gw_alloc (d := some 7) | apply gx_alloc (d := some 7)); exact rfl; intro b7) | ((first | apply gw_alloc (d := some 9) | apply gx_alloc (d := some 9)); exact rfl; intro b9) | ((first | apply gw_callE (f := 19) | apply gx_callE (f := 19)); exact evx; exact go19; intro G hG; exact hR G) | ((first | apply gw_callE (f := 20) | apply gx_callE (f := 20)); exact evx; exact go20; intro G hG; exact hO G) | ((first | apply gw_callE (f := 20) | apply gx_callE (f := 20)); exact evx; exact go20; intro G hG; exact hO2 G) | ((first | apply gw_callE (f := 21) | apply gx_callE (f := 21)); exact evx; exact go21; intro G hG; exact hZ G) | ((first | apply gw_call (f := 22) | apply gx_call (f := 22)); exact evx; exact go22; intro G hG; refine SC.mono (choiceB_spec G) ?_; rintro v M ⟨ra, rc, rfl, rN, rC, rfl, hrN⟩; (try dsimp only [jL, jM])) | (apply gw_asg; exact rfl) | ((first | apply gw_alloc | apply gx_alloc); exact rfl; intro b) | ((first | apply gw_box | apply gx_box); exact rfl; exact rfl; intro b) | (refine gw_stx sto ?_) | (fail))) | (apply CW_region; intro K hK) | (apply CW_condX; exact rfl; exact tst; exact tst; all_goals (intro hq hc; try exact no)) | (refine CW_drawS (id := 8) [1, 2, 3] [([1, 2, 3], [], [(0, false), (1, false), (2, true), (3, true), (4, false)]), ([2, 1, 3], [], [(0, false), (2, true), (1, false), (3, true), (4, false)])] mixed (by kernel_rfl) ⟨fun K hK => ?_, fun K hK => ?_, trivial⟩) | (refine CW_drawS (id := 19) [1, 2, 3] [([1, 2, 3], [], [(0, false), (1, false), (2, true), (3, true), (4, false)]), ([2, 1, 3], [], [(0, false), (2, true), (1, false), (3, true), (4, false)])] mixed (by kernel_rfl) ⟨fun K hK => ?_, fun K hK => ?_, trivial⟩))
  refine CW_loop (fun m l L => ∃ (i : Nat) (v1 v2 v3 v4 : ByteArray) (v5 : Bool), m = 8 - i ∧ l = [(2, true, .pointer (some ⟨b2, 0, none⟩)), (4, true, .pointer (some ⟨b4, 0, none⟩)), (5, true, .pointer (some ⟨b5, 0, none⟩)), (7, true, .pointer (some ⟨b7, 0, none⟩)), (9, true, .pointer (some ⟨b9, 0, none⟩)), (42, true, .slice (pt ra 120) 8 rc), (43, true, .int .i64 8), (44, true, .int .i64 (i : Nat))] ∧
      L = [.box b9 30 [.string v1, .string v2, .string v3, .string v4, .bool v5], .own 30 5 ra rN rC (pfx.flatMap encP), .box b2 26 [.string (bstr n), .string (bstr d)], .box b4 30 [.string ⟨#[]⟩, .string ⟨#[]⟩, .string ⟨#[]⟩, .string ⟨#[]⟩, .bool false], .box b5 26 [.string ⟨#[]⟩, .string ⟨#[]⟩], .box b7 26 [.string (bstr (decB (1024 : Nat))), .string (bstr [49])]] ∧ i ≤ 8 ∧
      (∀ j y, j < i → chB[j]? = some y → ¬ a.natAbs * fD y < fN y * 1024 * q) ∧ (0 < i → ∃ x, chB[i - 1]? = some x ∧ encP x = [.string v1, .string v2, .string v3, .string v4, .bool v5]))
    ⟨_, _, _, ⟨0, _, _, _, _, _, rfl, rfl, rfl, by omega, fun j y hj => absurd hj (by omega), fun g => absurd g (by omega)⟩, by exact sbe, by exact sbl⟩ ?_
  rintro m l L ⟨i, v1, v2, v3, v4, v5, rfl, rfl, rfl, hi, hpr, hx⟩
  by_cases hin : i < 8
  · obtain ⟨x, hxe⟩ : ∃ x, chB[i]? = some x := ⟨_, List.getElem?_eq_getElem (by omega)⟩
    have hxm := List.mem_of_getElem? hxe
    obtain ⟨hxp, hxb⟩ := chB_ok x hxm
    clear hx
    have hB := below_ex n d (decB (1024 : Nat)) [49] a q 1024 x h hxp (by decide) (by decide) (lim_ok (by decide))
    generalize hbz : decide (a.natAbs * fD x < fN x * 1024 * q) = bz at hB
    obtain ⟨X, Y, e, hT⟩ := told_any (fn (a * (powN 1 (byP x) x.pw : Nat)) ((q : Int) * (powN (byP x) 1 x.pw : Nat))) (fd (a * (powN 1 (byP x) x.pw : Nat)) ((q : Int) * (powN (byP x) 1 x.pw : Nat)))
    have hQ := fun G => quoP_spec h hxp hT G
    cases bz with
    | false =>
      repeat' (first | ((first | apply RW.q1 | (apply DW.q1; exact rfl)); (first | (apply q_ixp; exact rfl; infer_instance; exact hrN; exact rfl; omega) | (apply q_lao; exact rfl; exact rfl; infer_instance; exact hel _ _ hxe _ (by omega); exact rfl; decide) | (apply q_bld; exact rfl; first | exact bld26_ | exact bld30_) | exact qt)) | ((first | apply RW.qg | (apply DW.qg; exact rfl)); exact gvx; refine hgx tst ?_; intro hg hg'; (first | (apply q_ixp; exact evgx; infer_instance; exact hrN; exact evgx; omega) | (apply q_lao; exact rfl; exact evgx; infer_instance; exact hel _ _ hxe _ (by omega); exact rfl; decide) | (apply q_bld; exact rfl; first | exact bld26_ | exact bld30_) | exact qu)) | refine xsg cts ?_ | (apply CW_condT; exact rfl; exact ar) | (apply CW_condF; exact rfl; exact ar) | ((first | apply RW.s1 | apply RW.s0 | (apply DW.sa; exact rfl)); exact gva) | (refine hK _ _ ?_; clear hK; refine xsg xsl ?_) | (refine xsg ahd ?_; (first | ((first | apply gw_callE (f := 23) | apply gx_callE (f := 23)); exact evx; exact go23; intro G hG; exact hB G) | (apply gw_asg; exact rfl) | ((first | apply gw_alloc | apply gx_alloc); exact rfl; intro b) | ((first | apply gw_box | apply gx_box); exact rfl; exact rfl; intro b) | (refine gw_stx sto ?_) | (fail))) | (apply CW_region; intro K hK) | (apply CW_condX; exact rfl; exact tst; exact tst; all_goals (intro hq hc; try exact no)) | (refine CW_drawS (id := 8) [1, 2, 3] [([1, 2, 3], [], [(0, false), (1, false), (2, true), (3, true), (4, false)]), ([2, 1, 3], [], [(0, false), (2, true), (1, false), (3, true), (4, false)])] mixed (by kernel_rfl) ⟨fun K hK => ?_, fun K hK => ?_, trivial⟩) | (refine CW_drawS (id := 19) [1, 2, 3] [([1, 2, 3], [], [(0, false), (1, false), (2, true), (3, true), (4, false)]), ([2, 1, 3], [], [(0, false), (2, true), (1, false), (3, true), (4, false)])] mixed (by kernel_rfl) ⟨fun K hK => ?_, fun K hK => ?_, trivial⟩))
      all_goals exact ⟨_, _, _, ⟨i + 1, _, _, _, _, _, rfl, rfl, rfl, by omega, step_no hpr hxe (of_decide_eq_false hbz), fun _ => ⟨x, hxe, rfl⟩⟩, by exact sbe, by exact sbl, by omega⟩
    | true =>
      repeat' (first | ((first | apply RW.q1 | (apply DW.q1; exact rfl)); (first | (apply q_ixp; exact rfl; infer_instance; exact hrN; exact rfl; omega) | (apply q_lao; exact rfl; exact rfl; infer_instance; exact hel _ _ hxe _ (by omega); exact rfl; decide) | (apply q_bld; exact rfl; first | exact bld26_ | exact bld30_) | exact qt)) | ((first | apply RW.qg | (apply DW.qg; exact rfl)); exact gvx; refine hgx tst ?_; intro hg hg'; (first | (apply q_ixp; exact evgx; infer_instance; exact hrN; exact evgx; omega) | (apply q_lao; exact rfl; exact evgx; infer_instance; exact hel _ _ hxe _ (by omega); exact rfl; decide) | (apply q_bld; exact rfl; first | exact bld26_ | exact bld30_) | exact qu)) | refine xsg cts ?_ | (apply CW_condT; exact rfl; exact ar) | (apply CW_condF; exact rfl; exact ar) | ((first | apply RW.s1 | apply RW.s0 | (apply DW.sa; exact rfl)); exact gva) | (refine hK _ _ ?_; clear hK; refine xsg xsl ?_) | (refine xsg ahd ?_; (first | ((first | apply gw_callE (f := 23) | apply gx_callE (f := 23)); exact evx; exact go23; intro G hG; exact hB G) | ((first | apply gw_callE (f := 24) | apply gx_callE (f := 24)); exact evx; exact go24; intro G hG; exact hQ G) | (apply gw_asg; exact rfl) | ((first | apply gw_alloc | apply gx_alloc); exact rfl; intro b) | ((first | apply gw_box | apply gx_box); exact rfl; exact rfl; intro b) | (refine gw_stx sto ?_) | (fail))) | (apply CW_region; intro K hK) | (apply CW_condX; exact rfl; exact tst; exact tst; all_goals (intro hq hc; try exact no)) | (refine CW_drawS (id := 8) [1, 2, 3] [([1, 2, 3], [], [(0, false), (1, false), (2, true), (3, true), (4, false)]), ([2, 1, 3], [], [(0, false), (2, true), (1, false), (3, true), (4, false)])] mixed (by kernel_rfl) ⟨fun K hK => ?_, fun K hK => ?_, trivial⟩) | (refine CW_drawS (id := 19) [1, 2, 3] [([1, 2, 3], [], [(0, false), (1, false), (2, true), (3, true), (4, false)]), ([2, 1, 3], [], [(0, false), (2, true), (1, false), (3, true), (4, false)])] mixed (by kernel_rfl) ⟨fun K hK => ?_, fun K hK => ?_, trivial⟩))
      all_goals (refine CW_ret ?_; refine xsg xsl ?_; refine bodyS_ret (L' := []) (rs := [.cell 4 30, .cell 5 26, .tmp 6]) (by kernel_rfl) (by (repeat (first | (apply resok_tmp; exact rfl) | (apply resok_cell; exact rfl; exact rfl; (focus ((iterate 16 (try (first | exact pick0 | apply pickS))); done)); (first | exact rfl | assumption | (simp only [List.length_map]; omega)); decide))); exact resok_nil) (by exact sbl) ?_)
      all_goals first | exact ⟨.inr ⟨hno, x, pickB hxe hin hpr (.inl (of_decide_eq_true hbz)) hout, X, Y, e, hT, .inr ⟨hc, rfl⟩⟩, rfl⟩ | exact ⟨.inr ⟨hno, x, pickB hxe hin hpr (.inl (of_decide_eq_true hbz)) hout, X, Y, e, hT, .inl ⟨hc, rfl⟩⟩, rfl⟩
  · obtain rfl : i = 8 := by omega
    obtain ⟨x, hxe, hxc⟩ := hx (by omega)
    have hxm := List.mem_of_getElem? hxe
    obtain ⟨hxp, hxb⟩ := chB_ok x hxm
    obtain ⟨X, Y, e, hT⟩ := told_any (fn (a * (powN 1 (byP x) x.pw : Nat)) ((q : Int) * (powN (byP x) 1 x.pw : Nat))) (fd (a * (powN 1 (byP x) x.pw : Nat)) ((q : Int) * (powN (byP x) 1 x.pw : Nat)))
    have hQ := fun G => quoP_spec h hxp hT G
    cases hxc
    repeat' (first | ((first | apply RW.q1 | (apply DW.q1; exact rfl)); (first | (apply q_bld; exact rfl; first | exact bld26_ | exact bld30_) | exact qt)) | ((first | apply RW.qg | (apply DW.qg; exact rfl)); exact gvx; refine hgx tst ?_; intro hg hg'; (first | (apply q_bld; exact rfl; first | exact bld26_ | exact bld30_) | exact qu)) | refine xsg cts ?_ | (apply CW_condT; exact rfl; exact ar) | (apply CW_condF; exact rfl; exact ar) | ((first | apply RW.s1 | apply RW.s0 | (apply DW.sa; exact rfl)); exact gva) | (refine hK _ _ ?_; clear hK; refine xsg xsl ?_) | (refine xsg ahd ?_; (first | ((first | apply gw_callE (f := 24) | apply gx_callE (f := 24)); exact evx; exact go24; intro G hG; exact hQ G) | (apply gw_asg; exact rfl) | ((first | apply gw_alloc | apply gx_alloc); exact rfl; intro b) | ((first | apply gw_box | apply gx_box); exact rfl; exact rfl; intro b) | (refine gw_stx sto ?_) | (fail))) | (apply CW_region; intro K hK) | (apply CW_condX; exact rfl; exact tst; exact tst; all_goals (intro hq hc; try exact no)) | (refine CW_drawS (id := 8) [1, 2, 3] [([1, 2, 3], [], [(0, false), (1, false), (2, true), (3, true), (4, false)]), ([2, 1, 3], [], [(0, false), (2, true), (1, false), (3, true), (4, false)])] mixed (by kernel_rfl) ⟨fun K hK => ?_, fun K hK => ?_, trivial⟩) | (refine CW_drawS (id := 19) [1, 2, 3] [([1, 2, 3], [], [(0, false), (1, false), (2, true), (3, true), (4, false)]), ([2, 1, 3], [], [(0, false), (2, true), (1, false), (3, true), (4, false)])] mixed (by kernel_rfl) ⟨fun K hK => ?_, fun K hK => ?_, trivial⟩))
    all_goals (refine CW_ret ?_; refine xsg xsl ?_; refine bodyS_ret (L' := []) (rs := [.cell 4 30, .cell 5 26, .tmp 6]) (by kernel_rfl) (by (repeat (first | (apply resok_tmp; exact rfl) | (apply resok_cell; exact rfl; exact rfl; (focus ((iterate 16 (try (first | exact pick0 | apply pickS))); done)); (first | exact rfl | assumption | (simp only [List.length_map]; omega)); decide))); exact resok_nil) (by exact sbl) ?_)
    all_goals first | exact ⟨.inr ⟨hno, x, pickB hxe (by omega) (fun j y hj => hpr j y (by omega)) (.inr rfl) hout, X, Y, e, hT, .inr ⟨hc, rfl⟩⟩, rfl⟩ | exact ⟨.inr ⟨hno, x, pickB hxe (by omega) (fun j y hj => hpr j y (by omega)) (.inr rfl) hout, X, Y, e, hT, .inl ⟨hc, rfl⟩⟩, rfl⟩
end Go.Proofs.YtnhbipachchlgaaGreat.HL
