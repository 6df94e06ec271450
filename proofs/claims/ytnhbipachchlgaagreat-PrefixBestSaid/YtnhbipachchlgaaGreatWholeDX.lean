/- WholeD: NumX0: a piece of one's own row: rules; plain laws of the long division. No condition. NumX: guess: one digit of a quotient, the rest in place. Condition: the rows' lengths, a top word above 0. NumY: divide, any two numbers, the divisor above 0. Condition: the rows' lengths. NumU: GCD. Condition: the rows' lengths. NumV: Quo, the divisor above 0. Condition: the rows' lengths. NumW: SetFrac: two numbers as a fraction in its lowest terms. Condition: the rows' lengths, a divisor that is not 0. -/
import Derived.Test.YtnhbipachchlgaaGreatWholeCX
import Derived.Test.YtnhbipachchlgaaGreatEngX
namespace Go.Proofs.YtnhbipachchlgaaGreat.HL
open Go
set_option linter.unusedSimpArgs false
set_option maxHeartbeats 8000000
set_option maxRecDepth 100000
set_option linter.unusedVariables false

section
variable {P : Program} {l : Ents} {H : Hp} {L L' : List Res} {d : Option Tmp} {T : TypeId} {pos : String} {aft : Array Edge} {gd : Option (Nat × Bool)}
theorem q_ixp {t e e' : TypeId} {z n c' z' n' c kk : Nat} {x i : Operand} {a : Option Addr} {k : IntKind} {j : Int} {cs : List Value} [hu : Und P t (.slice e)] [hz : Szc P e z] (hx : evg l true x = some (.slice (pt a kk) n c')) (hp : POwn L a e' z' n' c cs L') (hn : 0 < n') (hi : evg l true i = some (.int k j)) (h : 0 ≤ j ∧ j < n) :
    QW P l H L ⟨d, .indexAddr t x i, T, pos, aft, gd⟩ (.pointer (pt a (kk + j.toNat * z))) := by
  rw [← pt_pt]; exact q_ixs hx hi (nn_pt (nn_own hp.h hn)) h.1 h.2
theorem q_slh {t e e' : TypeId} {n c : Nat} {x lo hi : Operand} {a : Option Addr} {kl kh : IntKind} {i j : Int} {cs : List Value} (p m : Nat) [hu : Und P t (.slice e)] [hz : Szc P e 1] (hx : evg l true x = some (.slice a n c)) (hl : evg l true lo = some (.int kl i)) (hh : evg l true hi = some (.int kh j)) (hp : POwn L a e' 1 n c cs L') (hii : i = (p : Int)) (hjj : j = ((p + m : Nat) : Int)) (h : p < n ∧ p + m ≤ n) :
    QW P l H L ⟨d, .slice t x (some lo) (some hi) none, T, pos, aft, gd⟩ (.slice (pt a p) m (c - p)) := fun G hg => by
  have hc := own_cap hg hp.h
  obtain ⟨b, off, ha⟩ := nn_own hp.h (by omega) G hg
  have e0 : evo l true none = some none := rfl
  have e1 : evo l true (some lo) = some (some (.int kl i)) := by simp [evo, hl]
  have e2 : evo l true (some hi) = some (some (.int kh j)) := by simp [evo, hh]
  have h3 := q_sls (P := P) (l := l) (t := t) (e := e) (z := 1) (d := d) (T := T) (pos := pos) (aft := aft) (gd := gd) hx e1 e2 e0 (bnd_lh (by omega) (by omega) (by omega)) G hg
  have h4 : i.toNat = p := by omega
  have h5 : j.toNat - p = m := by omega
  rw [h4, h5, if_neg (by omega), Nat.mul_one] at h3
  have h6 : a.map (·.add p) = pt a p := by
    subst ha
    simp only [pt, Option.map_some, add_none]
  rw [h6] at h3
  exact h3
theorem q_slk {t e e' : TypeId} {z z' : Nat} {x hi : Operand} {a : Option Addr} {n c : Nat} {cs : List Value} {kd : IntKind} {j : Int} (k : Nat) [hu : Und P t (.slice e)] [hz : Szc P e z] (hx : evg l true x = some (.slice a n c)) (hh : evg l true hi = some (.int kd j)) (hp : POwn L a e' z' n c cs L') (hj : j = (k : Int)) (hk : k ≤ n) :
    QW P l H L ⟨d, .slice t x none (some hi) none, T, pos, aft, gd⟩ (.slice a k c) := by
  subst hj
  have := q_slo (P := P) (T := T) (d := d) (pos := pos) (aft := aft) (gd := gd) (t := t) (e := e) (z := z) (H := H) (L := L) hx hh hp (by omega)
  rwa [Int.toNat_natCast] at this
end
theorem mid_at {A us B : List Nat} {j d : Nat} (h : us[j]? = some d) : (A ++ us ++ B)[A.length + j]? = some d := by
  have hlt : j < us.length := by
    rcases Nat.lt_or_ge j us.length with h' | h'
    · exact h'
    · rw [List.getElem?_eq_none h'] at h; cases h
  rw [List.getElem?_append_left (by rw [List.length_append]; omega), List.getElem?_append_right (by omega), Nat.add_sub_cancel_left]
  exact h
theorem mid_set {A us B : List Nat} {j : Nat} (d : Nat) (h : j < us.length) : (A ++ us ++ B).set (A.length + j) d = A ++ us.set j d ++ B := by
  rw [List.set_append_left _ _ (by rw [List.length_append]; omega), List.set_append_right _ _ (by omega), Nat.add_sub_cancel_left]
theorem nv_mid (W : Nat) (A us B : List Nat) : nv W (A ++ us ++ B) = nv W A + W ^ A.length * nv W us + W ^ (A.length + us.length) * nv W B := by
  rw [nv_app, nv_app, List.length_append]
theorem ws_atk {l : List Nat} {k d k' : Nat} (h : l[k]? = some d) (hj : k' = k) : ((ws l).drop k').take 1 = [.int .u32 (d : Int)] := by
  have := ws_at h (k : Int) (Int.toNat_natCast k)
  rw [Int.toNat_natCast, Nat.mul_one] at this
  rw [hj]; exact this
section
variable {P : Program} {l : Ents} {H : Hp} {L L' : List Res} {K : Value → List Res → Prop} {d : Option Tmp} {T : TypeId} {pos : String} {aft : Array Edge} {gd : Option (Nat × Bool)}
theorem gw_som {t e : TypeId} {m c : Nat} {x y : Operand} {v : Int} {a : Option Addr} {k : Nat} {A us B : List Nat} (j w : Nat) [hz : Szc P t 1] (hx : evg l true x = some (.pointer (pt a k))) (hy : evg l true y = some (.int .u32 v)) (hp : POwn L a e 1 m c (ws (A ++ us ++ B)) L')
    (hk : k = A.length + j) (hv : v = (w : Int)) (hl : j < us.length) (h : K undef (.own e 1 a m c (ws (A ++ us.set j w ++ B)) :: L')) : GW P l ⟨d, .store t x y, T, pos, aft, gd⟩ H L K := by
  refine gw_sow (A.length + j) w hx hy hp hk hv (by rw [List.length_append, List.length_append]; omega) ?_
  rw [mid_set w hl]; exact h
end
theorem and_word {x : Nat} (hx : x < 18446744073709551616) : bitI .and .u64 (x : Int) (4294967295 : Int) = some ((x % 4294967296 : Nat) : Int) := by
  have h1 : (BitVec.ofInt 64 (x : Int)).toNat = x := by rw [BitVec.toNat_ofInt]; omega
  have h2 : (BitVec.ofInt 64 (4294967295 : Int)).toNat = 4294967295 := by rw [BitVec.toNat_ofInt]; rfl
  have h3 : x &&& 4294967295 = x % 4294967296 := Nat.and_two_pow_sub_one_eq_mod x 32
  have h4 : ((BitVec.ofInt 64 (x : Int) &&& BitVec.ofInt 64 (4294967295 : Int)).toNat : Int) = ((x % 4294967296 : Nat) : Int) := by
    rw [BitVec.toNat_and, h1, h2, h3]
  show some (IntKind.u64.wrap ((BitVec.ofInt 64 (x : Int) &&& BitVec.ofInt 64 (4294967295 : Int)).toNat : Int)) = _
  rw [h4, HL.wrap64]
  congr 1; omega
theorem drop_at {l m : List Nat} {k j : Nat} (h : l.drop k = m.drop k) (hj : k ≤ j) : l[j]? = m[j]? := by
  have h1 : (l.drop k)[j - k]? = (m.drop k)[j - k]? := by rw [h]
  rw [List.getElem?_drop, List.getElem?_drop, show k + (j - k) = j by omega] at h1
  exact h1
theorem drop_set1 {l m : List Nat} {k w : Nat} (h : l.drop k = m.drop k) : (l.set k w).drop (k + 1) = m.drop (k + 1) := by
  rw [List.drop_set_of_lt (by omega), ← List.drop_drop, ← List.drop_drop, h]
theorem nv_settake {W : Nat} {l : List Nat} {k : Nat} (w : Nat) (h : k < l.length) : nv W ((l.set k w).take (k + 1)) = nv W (l.take k) + W ^ k * w := by
  rw [nv_take (List.getElem?_set_self h), List.take_set_of_le (Nat.le_refl k)]
theorem sub_end {P W u q w p c A S U N QV : Nat} (h : A + QV = S + P * (p + c)) (e1 : N = A + P * w) (e2 : U = S + P * u) (s : u + W * q = w + c + p) : N + QV = U + P * W * q := by
  have e3 : P * (u + W * q) = P * (w + (p + c)) := by rw [s, Nat.add_assoc w, Nat.add_comm c]
  rw [Nat.mul_add, Nat.mul_add P w, ← Nat.mul_assoc] at e3
  generalize P * u = a at *
  generalize P * W * q = b at *
  generalize P * w = c at *
  generalize P * (p + _) = d at *
  omega
theorem back_end {P N1 N3 V U Q e : Nat} (h1 : N1 + Q * V = U + P * 1) (h3 : N3 + P * e = N1 + V) (hQ : 0 < Q) (he : e ≤ 1) : N3 + (Q - 1) * V = U + P * (1 - e) := by
  obtain ⟨k, rfl⟩ : ∃ k, Q = k + 1 := ⟨Q - 1, by omega⟩
  rw [Nat.add_mul, Nat.one_mul] at h1
  rw [Nat.add_sub_cancel]
  rcases Nat.le_one_iff_eq_zero_or_eq_one.1 he with rfl | rfl
  · simp only [Nat.mul_zero, Nat.mul_one, Nat.add_zero, Nat.sub_zero] at *
    omega
  · simp only [Nat.mul_zero, Nat.mul_one, Nat.add_zero, Nat.sub_self] at *
    omega
theorem long_step {W i U V q r nA Q T : Nat} (h : nA + W ^ i * U + V * (W ^ (i + 1) * Q) = T) (hq : U = V * q + r) : nA + W ^ i * r + V * (W ^ i * (q + W * Q)) = T := by
  have e1 : W ^ i * U = W ^ i * r + V * (W ^ i * q) := by rw [hq, Nat.mul_add, Nat.mul_left_comm]; omega
  have e2 : W ^ (i + 1) * Q = W ^ i * (W * Q) := by rw [Nat.pow_succ, Nat.mul_assoc]
  have e3 : V * (W ^ i * (q + W * Q)) = V * (W ^ i * q) + V * (W ^ i * (W * Q)) := by rw [Nat.mul_add, Nat.mul_add]
  rw [e1, e2] at h
  omega
theorem nv_short {W m : Nat} {l : List Nat} (hm : m ≤ l.length) (h : nv W l < W ^ m) : nv W (l.take m) = nv W l ∧ nv W (l.drop m) = 0 := by
  have h1 := nv_split W l m hm
  have h2 : nv W (l.drop m) = 0 := by
    rcases Nat.eq_zero_or_pos (nv W (l.drop m)) with h0 | h0
    · exact h0
    · have := Nat.mul_le_mul_left (W ^ m) h0
      omega
  rw [h2] at h1
  exact ⟨by omega, h2⟩
theorem split3 {l : List Nat} {i m : Nat} (h : i + m ≤ l.length) : ∃ A us B, l = A ++ us ++ B ∧ A.length = i ∧ us.length = m ∧ A = l.take i ∧ us ++ B = l.drop i ∧ us = (l.drop i).take m := by
  refine ⟨l.take i, (l.drop i).take m, (l.drop i).drop m, ?_, by rw [List.length_take]; omega, by rw [List.length_take, List.length_drop]; omega, rfl, List.take_append_drop _ _, rfl⟩
  rw [List.append_assoc, List.take_append_drop, List.take_append_drop]
end Go.Proofs.YtnhbipachchlgaaGreat.HL
namespace Go.Proofs.YtnhbipachchlgaaGreat.HL
open Go
attribute [local irreducible] goFn thenS blockS bodyS CW RW DW GW QW NW SC Pick Picks SubL Rd NN ResOk SrcW subE hops hseg AW hgen HC qv bldv
set_option linter.unusedVariables false
set_option linter.unusedSimpArgs false

theorem guess_spec (A us B vs : List Nat) (U V vt : Nat) (a va : Option Addr) (N c cu n vc : Nat) (H : Hp) (hu : us.length = n + 1) (hv : vs.length = n) (hn0 : 0 < n) (hN : N = (A ++ us ++ B).length) (hb : N ≤ 1099511627776) (hx : Rs H 1 va n vc (ws vs)) (du : Dg W32 us) (dv : Dg W32 vs) (hV : nv W32 vs = V) (hU : nv W32 us = U) (htop : vs[n - 1]? = some vt) (ht0 : 0 < vt) (hlt : U < W32 * V) :
    SC Tryz.prog 144 [.slice (pt a A.length) (n + 1) cu, .slice va n vc] H [.own 116 1 a N c (ws (A ++ us ++ B))] (fun v M => v = .int .u32 ((U / V : Nat) : Int) ∧ ∃ us', us'.length = n + 1 ∧ Dg W32 us' ∧ nv W32 us' = U % V ∧ M = [.own 116 1 a N c (ws (A ++ us' ++ B))]) := by
  have hNl : N = A.length + (n + 1) + B.length := by rw [hN, List.length_append, List.length_append, hu]
  obtain ⟨u1, hu1⟩ : ∃ d, us[n]? = some d := ⟨_, List.getElem?_eq_getElem (by omega)⟩
  obtain ⟨u0, hu0⟩ : ∃ d, us[n - 1]? = some d := ⟨_, List.getElem?_eq_getElem (by omega)⟩
  have u1w : u1 < 4294967296 := dg_at du hu1
  have u0w : u0 < 4294967296 := dg_at du hu0
  have vtw : vt < 4294967296 := dg_at dv htop
  obtain ⟨t, ht⟩ : ∃ t, t = u1 * 4294967296 + u0 := ⟨_, rfl⟩
  have hor := or_word u1w u0w
  rw [← ht] at hor
  have hsl : IntKind.u64.wrap ((u1 : Int) * 2 ^ (min (32 : Int).toNat IntKind.u64.bits)) = ((u1 * 4294967296 : Nat) : Int) := by
    rw [show (2 : Int) ^ (min (32 : Int).toNat IntKind.u64.bits) = ((4294967296 : Nat) : Int) by decide, HL.wrap64]
    omega
  have htw : t < 18446744073709551616 := by omega
  obtain ⟨q0, hq0⟩ : ∃ q0, q0 = t / vt := ⟨_, rfl⟩
  have hq0w : q0 ≤ t := by rw [hq0]; exact Nat.div_le_self _ _
  have hqv : IntKind.u64.wrap ((t : Int).tdiv (vt : Int)) = (q0 : Int) := by
    rw [Int.tdiv_eq_ediv_of_nonneg (by omega), ← Int.natCast_ediv, ← hq0]
    exact w_in (by simp only [inb]; omega)
  have hvz : (vt : Int) ≠ 0 := by omega
  obtain ⟨Q, hQ⟩ : ∃ Q, Q = min q0 4294967295 := ⟨_, rfl⟩
  have hQw : Q ≤ 4294967295 := by omega
  have hQge : U / V ≤ Q := by
    have h1 := nv_take (B := W32) hu1
    rw [List.take_of_length_le (by omega), hU] at h1
    have h2 := nv_take (B := W32) hu0
    rw [show n - 1 + 1 = n by omega] at h2
    have h3 := nv_lt (dg_take du (n - 1))
    rw [List.length_take, Nat.min_eq_left (by omega)] at h3
    have h4 := nv_take (B := W32) htop
    rw [show n - 1 + 1 = n by omega, List.take_of_length_le (by omega), hV] at h4
    have h5 : W32 ^ n * u1 = W32 ^ (n - 1) * (u1 * W32) := by
      have : W32 ^ n = W32 ^ (n - 1) * W32 := by rw [← Nat.pow_succ, show (n - 1).succ = n by omega]
      rw [this, Nat.mul_assoc, Nat.mul_comm W32 u1]
    have h6 : U < W32 ^ (n - 1) * (t + 1) := by
      rw [h1, h2, h5, show t = u1 * W32 + u0 from ht, Nat.mul_add, Nat.mul_add]
      omega
    have := guess_ge (W := W32) (k := n - 1) ht0 h6 (by omega) hlt
    rw [← hq0, show W32 - 1 = 4294967295 from rfl] at this
    omega
  (refine SC_intro Tryz.func144 rfl (by kernel_rfl) (by rw [Tryz.ntmps144]; exact Nat.le_of_ble_eq_true rfl) ?_; simp only [Tryz.ntmps144, argE, Nat.reduceAdd])
  
  repeat' (first | ((first | apply RW.q1 | (apply DW.q1; exact rfl)); (first | (apply q_ixp; exact rfl; infer_instance; omega; exact rfl; omega) | (apply q_ldo; exact rfl; exact rfl; infer_instance; (first | exact ws_atk (mid_at hu1) (by omega) | exact ws_atk (mid_at hu0) (by omega))) | (apply q_ldr; exact rfl; exact rfl; exact hx; exact ws_at htop _ (by omega)) | (apply q_shl; exact rfl; exact rfl; decide; exact hsl) | (apply q_bit; exact rfl; exact rfl; exact hor) | (apply q_quo; exact rfl; exact rfl; exact hvz; exact hqv) | exact qt)) | refine xsg cts ?_ | (apply CW_condT; exact rfl; exact ar) | (apply CW_condF; exact rfl; exact ar) | (refine hK _ _ ?_; clear hK; refine xsg xsl ?_) | (refine xsg ahd ?_; (first | (apply gw_asg; exact rfl) | (refine gw_stx sto ?_) | (fail))) | (apply CW_region; intro K hK) | (apply CW_condX; exact rfl; exact tst; exact tst; all_goals (intro hq hc; try exact no)) | (refine CW_draw (id := 2) [] [(0, false), (1, false), (2, false), (3, false), (4, false), (5, false), (6, false), (7, false), (8, false), (9, false), (10, false), (11, false), (12, false), (13, false), (14, false), (15, false), (16, false), (17, false), (18, false), (19, false), (20, false), (21, false)] mixed (by kernel_rfl) (fun K hK => ?_)))
  have hV0 : 0 < V := by
    rcases Nat.eq_zero_or_pos V with h | h
    · rw [h, Nat.mul_zero] at hlt; omega
    · exact h
  refine CW_loop (fun m l L => ∃ (k cc p : Nat) (us' : List Nat), m = n - k ∧ l = [(0, true, .slice (pt a A.length) (n + 1) cu), (1, true, .slice va n vc), (5, true, .int .i64 (n : Nat)), (6, true, .int .u64 (Q : Nat)), (7, true, .int .u64 (cc : Nat)), (8, true, .int .u64 (p : Nat)), (39, true, .slice va n vc), (40, true, .int .i64 (n : Nat)), (41, true, .int .i64 (k : Nat))] ∧
      L = [.own 116 1 a N c (ws (A ++ us' ++ B))] ∧ k ≤ n ∧ us'.length = n + 1 ∧ Dg W32 us' ∧ cc < 4294967296 ∧ p ≤ 1 ∧ us'.drop k = us.drop k ∧ nv W32 (us'.take k) + Q * nv W32 (vs.take k) = nv W32 (us.take k) + W32 ^ k * (p + cc))
    ⟨_, _, _, ⟨0, 0, 0, us, rfl, rfl, rfl, Nat.zero_le _, hu, du, by decide, by decide, rfl, by simp [nv]⟩, by exact sbe, by exact sbl⟩ ?_
  rintro m l L ⟨k, cc, p, us', rfl, rfl, rfl, g1, g2, g3, g4, g5, g6, g7⟩
  by_cases hk : k < n
  · obtain ⟨vk, hvk⟩ : ∃ d, vs[k]? = some d := ⟨_, List.getElem?_eq_getElem (by omega)⟩
    obtain ⟨uk, huk⟩ : ∃ d, us'[k]? = some d := ⟨_, List.getElem?_eq_getElem (by omega)⟩
    have huk' : us[k]? = some uk := by rw [← drop_at g6 (Nat.le_refl k)]; exact huk
    have vkw : vk < 4294967296 := dg_at dv hvk
    have ukw : uk < 4294967296 := dg_at g3 huk
    have hpb : Q * vk ≤ 18446744065119617025 := by
      have := Nat.mul_le_mul hQw (show vk ≤ 4294967295 by omega)
      omega
    obtain ⟨pq, hpq⟩ : ∃ pq, pq = Q * vk := ⟨_, rfl⟩
    have hpi : ((Q : Nat) : Int) * ((vk : Nat) : Int) = (pq : Int) := by rw [hpq]; exact (Int.natCast_mul ..).symm
    rw [← hpq] at hpb
    have wpi : IntKind.u64.wrap (((Q : Nat) : Int) * ((vk : Nat) : Int)) = (pq : Int) := by rw [hpi]; exact w_in (by simp only [inb]; omega)
    obtain ⟨tt, htt⟩ : ∃ tt, tt = cc + pq := ⟨_, rfl⟩
    have wadd : IntKind.u64.wrap ((cc : Int) + (pq : Int)) = (tt : Int) := by rw [HL.wrap64]; omega
    have hand := and_word (x := tt) (by omega)
    have wsh : (tt : Int).fdiv (2 ^ (min (32 : Int).toNat IntKind.u64.bits)) = ((tt / 4294967296 : Nat) : Int) := by
      rw [show (2 : Int) ^ (min (32 : Int).toNat IntKind.u64.bits) = ((4294967296 : Nat) : Int) by decide, Int.fdiv_eq_ediv_of_nonneg _ (by omega)]
      omega
    have hmw : tt % 4294967296 < 4294967296 := Nat.mod_lt _ (by decide)
    have hsp : tt = tt % 4294967296 + W32 * (tt / 4294967296) := by show tt = _ + 4294967296 * _; omega
    have hcw : tt / 4294967296 < 4294967296 := by omega
    generalize tt % 4294967296 = mm at hand hmw hsp
    generalize tt / 4294967296 = c2 at wsh hsp hcw
    obtain ⟨dd, w, q', s1, s2, s3, s4, s5, s6⟩ := sub_dig (u := uk) (m := mm) (p := p) ukw hmw g5
    have hstep := sub_step (W := W32) (k := k) (v := vk) g7 (by rw [htt, hpq]) hsp s6
    
    repeat' (first | ((first | apply RW.q1 | (apply DW.q1; exact rfl)); (first | (apply q_ixp; exact rfl; infer_instance; omega; exact rfl; omega) | (apply q_mul; exact rfl; exact rfl; exact wpi) | (apply q_add; exact rfl; exact rfl; exact wadd) | (apply q_bit; exact rfl; exact rfl; exact hand) | (apply q_shr; exact rfl; exact rfl; decide; first | exact wsh | exact s3) | (apply q_cint; exact rfl; exact s2) | (apply q_ldr; exact rfl; exact rfl; exact hx; exact ws_at hvk _ (by omega)) | (apply q_ldo; exact rfl; exact rfl; infer_instance; exact ws_atk (mid_at huk) (by omega)) | exact qt)) | refine xsg cts ?_ | (apply CW_condT; exact rfl; exact ar) | (apply CW_condF; exact rfl; exact ar) | (refine hK _ _ ?_; clear hK; refine xsg xsl ?_) | (refine xsg ahd ?_; (first | (apply gw_som k w; exact rfl; exact rfl; infer_instance; omega; exact rfl; omega) | (apply gw_asg; exact rfl) | (refine gw_stx sto ?_) | (fail))) | (apply CW_region; intro K hK) | (apply CW_condX; exact rfl; exact tst; exact tst; all_goals (intro hq hc; try exact no)) | (refine CW_draw (id := 2) [] [(0, false), (1, false), (2, false), (3, false), (4, false), (5, false), (6, false), (7, false), (8, false), (9, false), (10, false), (11, false), (12, false), (13, false), (14, false), (15, false), (16, false), (17, false), (18, false), (19, false), (20, false), (21, false)] mixed (by kernel_rfl) (fun K hK => ?_)))
    refine ⟨_, _, _, ⟨k + 1, c2, q', us'.set k w, rfl, rfl, rfl, by omega, by rw [List.length_set]; exact g2, dg_set g3 s5, hcw, s4, drop_set1 g6, ?_⟩, by exact sbe, by exact sbl, by omega⟩
    rw [nv_settake w (by omega), nv_take hvk, nv_take huk']
    exact hstep
  · obtain rfl : k = n := by omega
    obtain ⟨uk, huk⟩ : ∃ d, us'[k]? = some d := ⟨_, List.getElem?_eq_getElem (by omega)⟩
    have huk' : us[k]? = some uk := by rw [← drop_at g6 (Nat.le_refl k)]; exact huk
    have ukw : uk < 4294967296 := dg_at g3 huk
    obtain ⟨dd, w, q', s1, s2, s3, s4, s5, s6⟩ := sub_dig (u := uk) (m := cc) (p := p) ukw g4 g5
    have hend : nv W32 (us'.set k w) + Q * V = U + W32 ^ (k + 1) * q' := by
      have e1 := nv_settake (W := W32) (l := us') (k := k) w (by omega)
      rw [List.take_of_length_le (by rw [List.length_set]; omega)] at e1
      have e2 := nv_take (B := W32) huk'
      rw [List.take_of_length_le (by omega), hU] at e2
      rw [List.take_of_length_le (l := vs) (by omega), hV] at g7
      have e3 := sub_end (W := W32) g7 e1 e2 s6
      rwa [← Nat.pow_succ] at e3
    
    repeat' (first | ((first | apply RW.q1 | (apply DW.q1; exact rfl)); (first | (apply q_ixp; exact rfl; infer_instance; omega; exact rfl; omega) | (apply q_shr; exact rfl; exact rfl; decide; exact s3) | (apply q_cint; exact rfl; exact s2) | (apply q_ldo; exact rfl; exact rfl; infer_instance; exact ws_atk (mid_at huk) (by omega)) | exact qt)) | refine xsg cts ?_ | (apply CW_condT; exact rfl; exact ar) | (apply CW_condF; exact rfl; exact ar) | (refine hK _ _ ?_; clear hK; refine xsg xsl ?_) | (refine xsg ahd ?_; (first | (apply gw_som k w; exact rfl; exact rfl; infer_instance; omega; exact rfl; omega) | (apply gw_asg; exact rfl) | (refine gw_stx sto ?_) | (fail))) | (apply CW_region; intro K hK) | (apply CW_condX; exact rfl; exact tst; exact tst; all_goals (intro hq hc; try exact no)) | (refine CW_draw (id := 2) [] [(0, false), (1, false), (2, false), (3, false), (4, false), (5, false), (6, false), (7, false), (8, false), (9, false), (10, false), (11, false), (12, false), (13, false), (14, false), (15, false), (16, false), (17, false), (18, false), (19, false), (20, false), (21, false)] mixed (by kernel_rfl) (fun K hK => ?_)))
    refine CW_loop (fun m l L => ∃ (low : Bool) (Qk bb : Nat) (us1 : List Nat), m = Qk + 1 ∧ l = [(0, true, .slice (pt a A.length) (k + 1) cu), (1, true, .slice va k vc), (5, true, .int .i64 (k : Nat)), (6, true, .int .u64 (Qk : Nat)), (13, true, .bool low)] ∧
        L = [.own 116 1 a N c (ws (A ++ us1 ++ B))] ∧ us1.length = k + 1 ∧ Dg W32 us1 ∧ bb ≤ 1 ∧ (low = true ↔ bb = 1) ∧ U / V ≤ Qk ∧ Qk ≤ 4294967295 ∧ nv W32 us1 + Qk * V = U + W32 ^ (k + 1) * bb)
      ⟨_, _, _, ⟨decide ((q' : Int) = 1), Q, q', us'.set k w, rfl, rfl, rfl, by rw [List.length_set]; exact g2, dg_set g3 s5, s4, by rw [jA]; omega, hQge, hQw, hend⟩, by exact sbe, by exact sbl⟩ ?_
    rintro m l L ⟨low, Qk, bb, us1, rfl, rfl, rfl, f1, f2, f3, f4, f5, f6, f7⟩
    cases low with
    | false =>
      obtain rfl : bb = 0 := by
        have : ¬ bb = 1 := fun e => by have := f4.2 e; cases this
        omega
      rw [Nat.mul_zero, Nat.add_zero] at f7
      have hQV : Qk ≤ U / V := by rw [Nat.le_div_iff_mul_le hV0]; omega
      obtain rfl : Qk = U / V := by omega
      have hrest : nv W32 us1 = U % V := by
        have := Nat.div_add_mod U V
        rw [Nat.mul_comm] at this
        omega
      have hcv0 : ∀ QQ : Nat, QQ ≤ 4294967295 → IntKind.u32.wrap (QQ : Int) = (QQ : Int) := fun QQ h => w_in (by simp only [inb]; omega)
      have hcv := hcv0 _ f6
      clear f5 hQV hQge
      generalize U / V = QQ at hcv f6 f7 ⊢
      
      repeat' (first | ((first | apply RW.q1 | (apply DW.q1; exact rfl)); (first | (apply q_cint; exact rfl; exact hcv) | exact qt)) | refine xsg cts ?_ | (apply CW_condT; exact rfl; exact ar) | (apply CW_condF; exact rfl; exact ar) | (refine hK _ _ ?_; clear hK; refine xsg xsl ?_) | (refine xsg ahd ?_; (first | (apply gw_asg; exact rfl) | (refine gw_stx sto ?_) | (fail))) | (apply CW_region; intro K hK) | (apply CW_condX; exact rfl; exact tst; exact tst; all_goals (intro hq hc; try exact no)) | (refine CW_draw (id := 2) [] [(0, false), (1, false), (2, false), (3, false), (4, false), (5, false), (6, false), (7, false), (8, false), (9, false), (10, false), (11, false), (12, false), (13, false), (14, false), (15, false), (16, false), (17, false), (18, false), (19, false), (20, false), (21, false)] mixed (by kernel_rfl) (fun K hK => ?_)))
      (refine CW_ret ?_; refine xsg xsl ?_; refine bR [.tmp 4] [.own 116 1 a N c (ws (A ++ us1 ++ B))] ?_)
      exact ⟨rfl, us1, f1, f2, hrest, rfl⟩
    | true =>
      obtain rfl := f4.1 rfl
      have n1 := nv_lt f2
      rw [f1] at n1
      have hQp : U / V < Qk := by
        rw [Nat.div_lt_iff_lt_mul hV0]
        rw [Nat.mul_one] at f7
        omega
      have hQ0 : 0 < Qk := Nat.lt_of_le_of_lt (Nat.zero_le _) hQp
      have hQ1 : U / V ≤ Qk - 1 := Nat.le_sub_one_of_lt hQp
      
      repeat' (first | ((first | apply RW.q1 | (apply DW.q1; exact rfl)); exact qt) | refine xsg cts ?_ | (apply CW_condT; exact rfl; exact ar) | (apply CW_condF; exact rfl; exact ar) | (refine hK _ _ ?_; clear hK; refine xsg xsl ?_) | (refine xsg ahd ?_; (first | (apply gw_asg; exact rfl) | (refine gw_stx sto ?_) | (fail))) | (apply CW_region; intro K hK) | (apply CW_condX; exact rfl; exact tst; exact tst; all_goals (intro hq hc; try exact no)) | (refine CW_draw (id := 2) [] [(0, false), (1, false), (2, false), (3, false), (4, false), (5, false), (6, false), (7, false), (8, false), (9, false), (10, false), (11, false), (12, false), (13, false), (14, false), (15, false), (16, false), (17, false), (18, false), (19, false), (20, false), (21, false)] mixed (by kernel_rfl) (fun K hK => ?_)))
      refine CW_loop (fun m l L => ∃ (j cc : Nat) (us2 : List Nat), m = k - j ∧ l = [(0, true, .slice (pt a A.length) (k + 1) cu), (1, true, .slice va k vc), (5, true, .int .i64 (k : Nat)), (6, true, .int .u64 (Qk : Nat)), (7, true, .int .u64 (cc : Nat)), (92, true, .slice va k vc), (93, true, .int .i64 (k : Nat)), (94, true, .int .i64 (j : Nat))] ∧
          L = [.own 116 1 a N c (ws (A ++ us2 ++ B))] ∧ j ≤ k ∧ us2.length = k + 1 ∧ Dg W32 us2 ∧ cc ≤ 1 ∧ us2.drop j = us1.drop j ∧ nv W32 (us2.take j) + W32 ^ j * cc = nv W32 (us1.take j) + nv W32 (vs.take j))
        ⟨_, _, _, ⟨0, 0, us1, rfl, rfl, rfl, Nat.zero_le _, f1, f2, by decide, rfl, by simp [nv]⟩, by exact sbe, by exact sbl⟩ ?_
      rintro m l L ⟨j, cc, us2, rfl, rfl, rfl, r1, r2, r3, r4, r5, r6⟩
      by_cases hj : j < k
      · obtain ⟨vj, hvj⟩ : ∃ d, vs[j]? = some d := ⟨_, List.getElem?_eq_getElem (by omega)⟩
        obtain ⟨uj, huj⟩ : ∃ d, us2[j]? = some d := ⟨_, List.getElem?_eq_getElem (by omega)⟩
        have huj' : us1[j]? = some uj := by rw [← drop_at r5 (Nat.le_refl j)]; exact huj
        have vjw : vj < 4294967296 := dg_at dv hvj
        have ujw : uj < 4294967296 := dg_at r3 huj
        obtain ⟨tt, htt⟩ : ∃ tt, tt = cc + (uj + vj) := ⟨_, rfl⟩
        have wadd : IntKind.u64.wrap ((cc : Int) + ((uj : Int) + (vj : Int))) = (tt : Int) := by rw [HL.wrap64]; omega
        have wsh : (tt : Int).fdiv (2 ^ (min (32 : Int).toNat IntKind.u64.bits)) = ((tt / 4294967296 : Nat) : Int) := by
          rw [show (2 : Int) ^ (min (32 : Int).toNat IntKind.u64.bits) = ((4294967296 : Nat) : Int) by decide, Int.fdiv_eq_ediv_of_nonneg _ (by omega)]
          omega
        have wcv : IntKind.u32.wrap (tt : Int) = ((tt % 4294967296 : Nat) : Int) := by rw [HL.wrap32]; omega
        have hmw : tt % 4294967296 < 4294967296 := Nat.mod_lt _ (by decide)
        have hsp : cc + (uj + vj) = tt % 4294967296 + W32 * (tt / 4294967296) := by show _ = _ + 4294967296 * _; omega
        have hcw : tt / 4294967296 ≤ 1 := by omega
        have hstep := back_step (W := W32) (k := j) r6 hsp
        generalize tt % 4294967296 = mm at wcv hmw hstep
        generalize tt / 4294967296 = c2 at wsh hstep hcw
        
        repeat' (first | ((first | apply RW.q1 | (apply DW.q1; exact rfl)); (first | (apply q_ixp; exact rfl; infer_instance; omega; exact rfl; omega) | (apply q_add; exact rfl; exact rfl; exact wadd) | (apply q_shr; exact rfl; exact rfl; decide; exact wsh) | (apply q_cint; exact rfl; exact wcv) | (apply q_ldr; exact rfl; exact rfl; exact hx; exact ws_at hvj _ (by omega)) | (apply q_ldo; exact rfl; exact rfl; infer_instance; exact ws_atk (mid_at huj) (by omega)) | exact qt)) | refine xsg cts ?_ | (apply CW_condT; exact rfl; exact ar) | (apply CW_condF; exact rfl; exact ar) | (refine hK _ _ ?_; clear hK; refine xsg xsl ?_) | (refine xsg ahd ?_; (first | (apply gw_som j mm; exact rfl; exact rfl; infer_instance; omega; exact rfl; omega) | (apply gw_asg; exact rfl) | (refine gw_stx sto ?_) | (fail))) | (apply CW_region; intro K hK) | (apply CW_condX; exact rfl; exact tst; exact tst; all_goals (intro hq hc; try exact no)) | (refine CW_draw (id := 2) [] [(0, false), (1, false), (2, false), (3, false), (4, false), (5, false), (6, false), (7, false), (8, false), (9, false), (10, false), (11, false), (12, false), (13, false), (14, false), (15, false), (16, false), (17, false), (18, false), (19, false), (20, false), (21, false)] mixed (by kernel_rfl) (fun K hK => ?_)))
        refine ⟨_, _, _, ⟨j + 1, c2, us2.set j mm, rfl, rfl, rfl, by omega, by rw [List.length_set]; exact r2, dg_set r3 hmw, hcw, drop_set1 r5, ?_⟩, by exact sbe, by exact sbl, by omega⟩
        rw [nv_settake mm (by omega), nv_take hvj, nv_take huj']
        exact hstep
      · obtain rfl : j = k := by omega
        obtain ⟨uj, huj⟩ : ∃ d, us2[j]? = some d := ⟨_, List.getElem?_eq_getElem (by omega)⟩
        have huj' : us1[j]? = some uj := by rw [← drop_at r5 (Nat.le_refl j)]; exact huj
        have ujw : uj < 4294967296 := dg_at r3 huj
        obtain ⟨tt, htt⟩ : ∃ tt, tt = cc + uj := ⟨_, rfl⟩
        have wadd : IntKind.u64.wrap ((cc : Int) + (uj : Int)) = (tt : Int) := by rw [HL.wrap64]; omega
        have wsh : (tt : Int).fdiv (2 ^ (min (32 : Int).toNat IntKind.u64.bits)) = ((tt / 4294967296 : Nat) : Int) := by
          rw [show (2 : Int) ^ (min (32 : Int).toNat IntKind.u64.bits) = ((4294967296 : Nat) : Int) by decide, Int.fdiv_eq_ediv_of_nonneg _ (by omega)]
          omega
        have wcv : IntKind.u32.wrap (tt : Int) = ((tt % 4294967296 : Nat) : Int) := by rw [HL.wrap32]; omega
        have hmw : tt % 4294967296 < 4294967296 := Nat.mod_lt _ (by decide)
        have hsp : cc + (uj + 0) = tt % 4294967296 + W32 * (tt / 4294967296) := by show _ = _ + 4294967296 * _; omega
        have hcw : tt / 4294967296 ≤ 1 := by omega
        have hstep := back_step (W := W32) (k := j) r6 hsp
        generalize tt % 4294967296 = mm at wcv hmw hstep
        generalize tt / 4294967296 = c2 at wsh hstep hcw
        have hnew : nv W32 (us2.set j mm) + W32 ^ (j + 1) * c2 = nv W32 us1 + V := by
          have e1 := nv_settake (W := W32) (l := us2) (k := j) mm (by omega)
          rw [List.take_of_length_le (by rw [List.length_set]; omega)] at e1
          have e2 := nv_take (B := W32) huj'
          rw [List.take_of_length_le (by omega)] at e2
          rw [List.take_of_length_le (l := vs) (by omega), hV, Nat.mul_zero, Nat.add_zero] at hstep
          rw [e1, e2]
          exact hstep
        have hfin := back_end (P := W32 ^ (j + 1)) f7 hnew hQ0 hcw
        
        repeat' (first | ((first | apply RW.q1 | (apply DW.q1; exact rfl)); (first | (apply q_ixp; exact rfl; infer_instance; omega; exact rfl; omega) | (apply q_add; exact rfl; exact rfl; exact wadd) | (apply q_shr; exact rfl; exact rfl; decide; exact wsh) | (apply q_cint; exact rfl; exact wcv) | (apply q_ldo; exact rfl; exact rfl; infer_instance; exact ws_atk (mid_at huj) (by omega)) | exact qt)) | refine xsg cts ?_ | (apply CW_condT; exact rfl; exact ar) | (apply CW_condF; exact rfl; exact ar) | (refine hK _ _ ?_; clear hK; refine xsg xsl ?_) | (refine xsg ahd ?_; (first | (apply gw_som j mm; exact rfl; exact rfl; infer_instance; omega; exact rfl; omega) | (apply gw_asg; exact rfl) | (refine gw_stx sto ?_) | (fail))) | (apply CW_region; intro K hK) | (apply CW_condX; exact rfl; exact tst; exact tst; all_goals (intro hq hc; try exact no)) | (refine CW_draw (id := 2) [] [(0, false), (1, false), (2, false), (3, false), (4, false), (5, false), (6, false), (7, false), (8, false), (9, false), (10, false), (11, false), (12, false), (13, false), (14, false), (15, false), (16, false), (17, false), (18, false), (19, false), (20, false), (21, false)] mixed (by kernel_rfl) (fun K hK => ?_)))
        exact ⟨_, _, _, ⟨decide ((c2 : Int) = 0), Qk - 1, 1 - c2, us2.set j mm, rfl, rfl, rfl, by rw [List.length_set]; exact r2, dg_set r3 hmw, by omega, by rw [jA]; omega, hQ1, by omega, hfin⟩, by exact sbe, by exact sbl, by omega⟩
end Go.Proofs.YtnhbipachchlgaaGreat.HL
namespace Go.Proofs.YtnhbipachchlgaaGreat.HL
open Go
attribute [local irreducible] goFn thenS blockS bodyS CW RW DW GW QW NW SC Pick Picks SubL Rd NN ResOk SrcW subE hops hseg AW hgen HC qv bldv
set_option linter.unusedVariables false
set_option linter.unusedSimpArgs false

theorem lz32_spec (x : Nat) (hx : x < 4294967296) (H : Hp) : SC Tryz.prog 142 [.int .u32 (x : Nat)] H [] (fun v M => v = .int .i64 ((32 - bl x : Nat) : Int) ∧ M = []) := by
  have h32 := bl_le32 hx
  (refine SC_intro Tryz.func142 rfl (by kernel_rfl) (by rw [Tryz.ntmps142]; exact Nat.le_of_ble_eq_true rfl) ?_; simp only [Tryz.ntmps142, argE, Nat.reduceAdd])
  repeat' (first | (apply RW.q1; exact qt) | refine xsg cts ?_ | (apply CW_condT; exact rfl; exact ar) | (apply CW_condF; exact rfl; exact ar) | (refine hK _ _ ?_; clear hK; refine xsg xsl ?_) | (apply RW.c1; (first | (apply nw_call (f := 124); exact rfl; exact go124; (intro G hG; exact (len32_spec x hx _).mono (fun v M h => h.1))))) | ((first | apply RW.a1 | apply RW.a0); (first | (apply gw_asg; exact rfl) | (fail))) | (apply CW_region; intro K hK) | (apply CW_condX; exact rfl; exact tst; exact tst; all_goals (intro hq hc; try exact nx)))
  (refine CW_ret ?_; refine xsg xsl ?_; refine bR [.tmp 2] [] ?_)
  exact ⟨ret_i64 (by omega), rfl⟩
theorem divideL_spec (x y m la : Nat) (xa ya : Option Addr) (xc yc : Nat) (H : Hp) (hla : (dgs W32 x).length = la) (hm : (dgs W32 y).length = m) (hx : Rs H 1 xa la xc (ws (dgs W32 x))) (hy : Rs H 1 ya m yc (ws (dgs W32 y))) (hN : la ≤ 1048576) (hM : m ≤ 1048576) (hyx : y ≤ x) (hm2 : 2 ≤ m) :
    SC Tryz.prog 130 [.slice xa la xc, .slice ya m yc] H [] (fun v M => DivPost x y v M) := by
  have hy0 : 0 < y := by
    rcases Nat.eq_zero_or_pos y with h | h
    · rw [h, dgs_zero] at hm; simp at hm; omega
    · exact h
  have hml : m ≤ la := by rw [← hm, ← hla]; exact dgs_len_le w1 hyx
  obtain ⟨bt, hbt⟩ : ∃ d, (dgs W32 y)[m - 1]? = some d := ⟨_, List.getElem?_eq_getElem (by omega)⟩
  have btw : bt < 4294967296 := dg_at (dgs_dg w1 _) hbt
  have bt0 : bt ≠ 0 := fun e => dgs_top w1 (n := y) (k := m - 1) (by omega) (by rw [hbt, e])
  have hbl1 := bl_le32 btw
  have hbl2 : 0 < bl bt := by unfold bl; rw [if_neg bt0]; omega
  have hbl3 := bl_lt bt
  obtain ⟨s, hs⟩ : ∃ s, s = 32 - bl bt := ⟨_, rfl⟩
  have hs32 : s < 32 := by omega
  have hps : 0 < 2 ^ s := Nat.pow_pos (by decide)
  have hyl : W32 ^ (m - 1) ≤ y := dgs_len_ge w1 (by omega)
  have hxl : x < W32 ^ la := by have := dgs_len_lt (n := x) w1; rwa [hla] at this
  have hWm : W32 ^ m = W32 ^ (m - 1) * W32 := by rw [← Nat.pow_succ, show (m - 1).succ = m by omega]
  have hVlt : y * 2 ^ s < W32 ^ m := by
    have h1 := nv_take (B := W32) hbt
    rw [show m - 1 + 1 = m by omega, List.take_of_length_le (by omega), nv_dgs w1] at h1
    have h2 := nv_lt (dg_take (dgs_dg w1 y) (m - 1))
    rw [List.length_take, Nat.min_eq_left (by omega)] at h2
    have h3 : y < W32 ^ (m - 1) * (bt + 1) := by rw [Nat.mul_add, Nat.mul_one]; omega
    have h4 : (bt + 1) * 2 ^ s ≤ W32 := by
      have h5 : (bt + 1) * 2 ^ s ≤ 2 ^ bl bt * 2 ^ s := Nat.mul_le_mul_right _ hbl3
      rw [← Nat.pow_add, show bl bt + s = 32 by omega] at h5
      exact h5
    have h6 : y * 2 ^ s < W32 ^ (m - 1) * (bt + 1) * 2 ^ s := Nat.mul_lt_mul_of_pos_right h3 hps
    rw [Nat.mul_assoc] at h6
    rw [hWm]
    exact Nat.lt_of_lt_of_le h6 (Nat.mul_le_mul_left _ h4)
  obtain ⟨V, hVe⟩ : ∃ V, V = y * 2 ^ s := ⟨_, rfl⟩
  obtain ⟨T, hTe⟩ : ∃ T, T = x * 2 ^ s := ⟨_, rfl⟩
  have hV0 : 0 < V := by rw [hVe]; exact Nat.mul_pos hy0 hps
  have hyV : y ≤ V := by rw [hVe]; exact Nat.le_mul_of_pos_right y hps
  rw [← hVe] at hVlt
  have hdiv : T / V = x / y := by rw [hTe, hVe]; exact Nat.mul_div_mul_right _ _ hps
  have hmod : T % V = x % y * 2 ^ s := by rw [hTe, hVe]; exact Nat.mul_mod_mul_right _ _ _
  obtain ⟨qn, hqn⟩ : ∃ qn, qn = la + 1 - m := ⟨_, rfl⟩
  have hTl : T < V * W32 ^ qn := by
    have h1 : T < W32 ^ la * 2 ^ s := by rw [hTe]; exact Nat.mul_lt_mul_of_pos_right hxl hps
    have h2 : W32 ^ (m - 1) * 2 ^ s * W32 ^ qn ≤ V * W32 ^ qn := by rw [hVe]; exact Nat.mul_le_mul_right _ (Nat.mul_le_mul_right _ hyl)
    have h3 : W32 ^ (m - 1) * 2 ^ s * W32 ^ qn = W32 ^ la * 2 ^ s := by
      rw [Nat.mul_right_comm, ← Nat.pow_add, show m - 1 + qn = la by omega]
    rw [h3] at h2
    exact Nat.lt_of_lt_of_le h1 h2
  obtain ⟨xs, hxs⟩ : ∃ xs, xs = dgs W32 x := ⟨_, rfl⟩
  obtain ⟨ys, hys⟩ : ∃ ys, ys = dgs W32 y := ⟨_, rfl⟩
  have dx : Dg W32 xs := by rw [hxs]; exact dgs_dg w1 x
  have dy : Dg W32 ys := by rw [hys]; exact dgs_dg w1 y
  have vx : nv W32 xs = x := by rw [hxs]; exact nv_dgs w1 _
  have vy : nv W32 ys = y := by rw [hys]; exact nv_dgs w1 _
  have hx' := hx
  have hy' := hy
  rw [← hxs] at hx' hla
  rw [← hys] at hy' hbt hm
  have hxr : Rs H 1 xa ((dgs W32 x).length) xc (ws (dgs W32 x)) := by rw [← hxs, hla, hxs]; exact hx
  have hyr : Rs H 1 ya ((dgs W32 y).length) yc (ws (dgs W32 y)) := by rw [← hys, hm, hys]; exact hy
  (refine SC_intro Tryz.func130 rfl (by kernel_rfl) (by rw [Tryz.ntmps130]; exact Nat.le_of_ble_eq_true rfl) ?_; simp only [Tryz.ntmps130, argE, Nat.reduceAdd])
  
  repeat' (first | ((first | apply RW.q1 | (apply DW.q1; exact rfl)); (first | (apply q_ldr; exact rfl; exact rfl; exact hy'; exact ws_at hbt _ (by omega)) | (apply q_slk m; exact rfl; exact rfl; infer_instance; omega; omega) | exact qt)) | refine xsg cts ?_ | (apply CW_condT; exact rfl; exact ar) | (apply CW_condF; exact rfl; exact ar) | (refine hK _ _ ?_; clear hK; refine xsg xsl ?_) | (refine xsg ahd ?_; (first | (apply gw_call (f := 132); exact rfl; exact go132; intro G hG; refine SC.mono (compare_spec x y xa ya la m xc yc G (by rw [← hxs]; exact hla) (by rw [← hys]; exact hm) (hx.ext hG.ext) (hy.ext hG.ext) (by omega) (by omega)) ?_; rintro v M ⟨r, rfl, r1, r2, r3, r4, rfl⟩; (try dsimp only [jL, jM])) | (apply gw_callE (f := 142); exact rfl; exact go142; intro G hG; exact lz32_spec bt btw G; rw [← hs]) | (apply gw_call (f := 143); exact rfl; exact go143; intro G hG; refine SC.mono (left_spec xs s xa la xc G (hx'.ext hG.ext) hla hN dx hs32) ?_; rintro v M ⟨ua, uc, us, rfl, rfl, u1, u2, u3⟩; (try dsimp only [jL, jM])) | (apply gw_call (f := 143); exact rfl; exact go143; intro G hG; refine SC.mono (left_spec ys s ya m yc G (hy'.ext hG.ext) hm hM dy hs32) ?_; rintro v M ⟨va, vc, vs0, rfl, rfl, v1, v2, v3⟩; (try dsimp only [jL, jM])) | (apply gw_asg; exact rfl) | (apply gw_make; exact rfl; exact rfl; exact rfl; exact rfl; omega; omega; omega; omega; intro b) | (apply gw_lit1; exact rfl; exact rfl; exact rfl; exact rfl; decide; intro b) | (apply gw_lit2; exact rfl; exact rfl; exact rfl; exact rfl; intro b) | (apply gw_lit3; exact rfl; exact rfl; exact rfl; exact rfl; exact rfl; intro b) | (refine gw_stx sto ?_) | (fail))) | (apply CW_region; intro K hK) | (apply CW_condX; exact rfl; exact tst; exact tst; all_goals (intro hq hc; try exact no)) | (refine CW_draw (id := 7) [] [(0, false), (1, false), (3, false), (4, false), (6, false), (7, false), (2, true), (5, true), (8, false), (9, false), (10, false)] mixed (by kernel_rfl) (fun K hK => ?_)) | (refine CW_draw (id := 13) [] [(0, false), (2, false), (3, false), (4, false), (5, false), (6, false), (1, true), (7, true), (8, true), (9, false), (10, false)] mixed (by kernel_rfl) (fun K hK => ?_)))
  have e0 : zrow [Value.int .u32 0] (((la + 1 : Nat) : Int) - (m : Int)).toNat = ws (List.replicate qn 0) := by rw [ws_zero, show (((la + 1 : Nat) : Int) - (m : Int)).toNat = qn by omega]
  rw [e0]
  rw [vx, ← hTe] at u3
  rw [vy, ← hVe] at v3
  obtain ⟨vs, hvs⟩ : ∃ vs, vs = vs0.take m := ⟨_, rfl⟩
  have hvl : vs.length = m := by rw [hvs, List.length_take]; omega
  have hvd : Dg W32 vs := by rw [hvs]; exact dg_take v2 m
  have hvv : nv W32 vs = V := by rw [hvs, (nv_short (W := W32) (l := vs0) (m := m) (by omega) (by rw [v3]; exact hVlt)).1]; exact v3
  obtain ⟨vt, hvt⟩ : ∃ d, vs[m - 1]? = some d := ⟨_, List.getElem?_eq_getElem (by omega)⟩
  have vt0 : 0 < vt := by
    rcases Nat.eq_zero_or_pos vt with h | h
    · exfalso
      have h1 := nv_take (B := W32) hvt
      rw [show m - 1 + 1 = m by omega, List.take_of_length_le (by omega), hvv, h, Nat.mul_zero, Nat.add_zero] at h1
      have h2 := nv_lt (dg_take hvd (m - 1))
      rw [List.length_take, Nat.min_eq_left (by omega), ← h1] at h2
      exact absurd (Nat.lt_of_le_of_lt hyl (Nat.lt_of_le_of_lt hyV h2)) (Nat.lt_irrefl _)
    · exact h
  refine CW_loop (fun mm l L => ∃ (k : Nat) (qs os : List Nat) (qa : Option Addr) (qm qc : Nat), mm = k + 1 ∧ l = [(8, true, .int .i64 (s : Nat)), (9, true, .slice ua (la + 1) uc), (10, true, .slice va m vc), (11, true, .slice qa qm qc), (12, true, .int .i64 ((k : Int) - 1))] ∧
      L = [.own 116 1 qa qm qc (ws qs), .own 116 1 ua (la + 1) uc (ws os), .own 116 1 va (m + 1) vc (ws vs0)] ∧ qm = qn ∧ k ≤ qn ∧ qs.length = qn ∧ Dg W32 qs ∧ os.length = la + 1 ∧ Dg W32 os ∧ nv W32 os + V * (W32 ^ k * nv W32 (qs.drop k)) = T ∧ nv W32 (os.drop k) < V)
    ⟨_, _, _, ⟨qn, _, us, _, (((la + 1 : Nat) : Int) - (m : Int)).toNat, _, rfl, rfl, rfl, by omega, Nat.le_refl _, List.length_replicate, dg_zeros (by decide) _, u1, u2, ?_, ?_⟩, by exact sbe, by exact sbl⟩ ?_
  · rw [List.drop_eq_nil_of_le (by rw [List.length_replicate]; exact Nat.le_refl _), u3]; simp [nv]
  · have h1 := nv_split W32 us qn (by omega)
    rw [u3] at h1
    refine Nat.lt_of_mul_lt_mul_left (a := W32 ^ qn) (Nat.lt_of_le_of_lt ?_ (by rw [Nat.mul_comm]; exact hTl))
    omega
  rintro mm l L ⟨k, qs, os, qa, qm, qc, rfl, rfl, rfl, h0, h1, h2, h3, h4, h5, h6, h7⟩
  subst h0
  by_cases hk : 0 < k
  · obtain ⟨i, rfl⟩ : ∃ i, k = i + 1 := ⟨k - 1, by omega⟩
    obtain ⟨A, ps, B, e1, e2, e3, e4, e5, e6⟩ := split3 (l := os) (i := i) (m := m + 1) (by omega)
    subst e1
    subst e2
    have dps : Dg W32 ps := (dg_append.1 (dg_append.1 h5).1).2
    obtain ⟨o, ho⟩ : ∃ d, (A ++ ps ++ B)[A.length]? = some d := ⟨_, List.getElem?_eq_getElem (by omega)⟩
    have how : o < 4294967296 := dg_at h5 ho
    have h8 := nv_drop (B := W32) ho
    rw [← e5] at h8
    have hWV : o + W32 * nv W32 ((A ++ ps ++ B).drop (A.length + 1)) < W32 * V := by
      have := Nat.mul_le_mul_left W32 h7
      rw [Nat.mul_succ] at this
      exact Nat.lt_of_lt_of_le (by rw [Nat.add_comm]; exact Nat.add_lt_add_left how _) this
    rw [← h8] at hWV
    have hlt2 : nv W32 (ps ++ B) < W32 ^ (m + 1) := by
      rw [Nat.pow_succ, Nat.mul_comm (W32 ^ m)]
      exact Nat.lt_trans hWV (Nat.mul_lt_mul_of_pos_left hVlt (by decide))
    have h9 := nv_short (W := W32) (m := m + 1) (l := ps ++ B) (by rw [List.length_append]; omega) hlt2
    rw [List.take_left' e3, List.drop_left' e3] at h9
    rw [← h9.1] at hWV
    obtain ⟨U, hU⟩ : ∃ U, U = nv W32 ps := ⟨_, rfl⟩
    rw [← hU] at hWV
    have hUV : U / V < 4294967296 := by apply Nat.div_lt_of_lt_mul; rw [Nat.mul_comm]; exact hWV
    have hrsv : ∀ G L, Hs H L G → (∃ L', Pick L (.own 116 1 va (m + 1) vc (ws vs0)) L') → Rs G 1 va m vc (ws vs) := fun G L hG ⟨L', hp⟩ => by
      have := rs_take (sl_own hp hG) (k := m) (by omega)
      rw [ws_take, ← hvs] at this
      exact this
    
    repeat' (first | ((first | apply RW.q1 | (apply DW.q1; exact rfl)); (first | (apply q_slh A.length (m + 1); exact rfl; exact rfl; exact rfl; infer_instance; omega; omega; omega) | exact qt)) | refine xsg cts ?_ | (apply CW_condT; exact rfl; exact ar) | (apply CW_condF; exact rfl; exact ar) | (refine hK _ _ ?_; clear hK; refine xsg xsl ?_) | (refine xsg ahd ?_; (first | (apply gw_callc (f := 144) (M := [.own 116 1 ua (la + 1) uc (ws (A ++ ps ++ B))]); exact rfl; exact go144; exact pcs; intro G hG; refine SC.mono (guess_spec A ps B vs U V vt ua va (la + 1) uc (uc - A.length) m vc G e3 hvl (by omega) (by omega) (by omega) (hrsv G _ hG ⟨_, by exact pkx⟩) dps hvd hvv hU.symm hvt vt0 hWV) ?_; rintro v M ⟨rfl, ps', p1, p2, p3, rfl⟩; (try dsimp only [jL, jM])) | (apply gw_sow A.length (U / V); exact rfl; exact rfl; infer_instance; omega; exact rfl; omega) | (apply gw_asg; exact rfl) | (apply gw_make; exact rfl; exact rfl; exact rfl; exact rfl; omega; omega; omega; omega; intro b) | (apply gw_lit1; exact rfl; exact rfl; exact rfl; exact rfl; decide; intro b) | (apply gw_lit2; exact rfl; exact rfl; exact rfl; exact rfl; intro b) | (apply gw_lit3; exact rfl; exact rfl; exact rfl; exact rfl; exact rfl; intro b) | (refine gw_stx sto ?_) | (fail))) | (apply CW_region; intro K hK) | (apply CW_condX; exact rfl; exact tst; exact tst; all_goals (intro hq hc; try exact no)) | (refine CW_draw (id := 7) [] [(0, false), (1, false), (3, false), (4, false), (6, false), (7, false), (2, true), (5, true), (8, false), (9, false), (10, false)] mixed (by kernel_rfl) (fun K hK => ?_)) | (refine CW_draw (id := 13) [] [(0, false), (2, false), (3, false), (4, false), (5, false), (6, false), (1, true), (7, true), (8, true), (9, false), (10, false)] mixed (by kernel_rfl) (fun K hK => ?_)))
    refine ⟨_, _, _, ⟨A.length, qs.set A.length (U / V), A ++ ps' ++ B, qa, qm, qc, rfl, rfl, rfl, rfl, by omega, by rw [List.length_set]; exact h2, dg_set h3 hUV, ?_, dg_append.2 ⟨dg_append.2 ⟨(dg_append.1 (dg_append.1 h5).1).1, p2⟩, (dg_append.1 h5).2⟩, ?_, ?_⟩, by exact sbe, by exact sbl, by omega⟩
    · rw [List.length_append, List.length_append] at h4 ⊢
      omega
    · rw [nv_mid, h9.2, Nat.mul_zero, Nat.add_zero, ← hU] at h6
      rw [nv_mid, h9.2, Nat.mul_zero, Nat.add_zero, p3, nv_drop (List.getElem?_set_self (by omega)), set_drop (Nat.lt_succ_self _)]
      exact long_step h6 (Nat.div_add_mod U V).symm
    · rw [List.append_assoc, List.drop_left, nv_app, h9.2, Nat.mul_zero, Nat.add_zero, p3]
      exact Nat.mod_lt _ hV0
  · obtain rfl : k = 0 := by omega
    rw [Nat.pow_zero, Nat.one_mul, List.drop_zero] at h6
    rw [List.drop_zero] at h7
    have hnq : nv W32 qs = x / y := by rw [← hdiv, ← h6, Nat.add_mul_div_left _ _ hV0, Nat.div_eq_of_lt h7, Nat.zero_add]
    have hno : nv W32 os = x % y * 2 ^ s := by rw [← hmod, ← h6, Nat.add_mul_mod_self_left, Nat.mod_eq_of_lt h7]
    have hnt := (nv_short (W := W32) (l := os) (m := m) (by omega) (Nat.lt_trans h7 hVlt)).1
    rw [hno] at hnt
    have hrsu : ∀ G L, Hs H L G → (∃ L', Pick L (.own 116 1 ua (la + 1) uc (ws os)) L') → Rs G 1 ua m uc (ws (os.take m)) := fun G L hG ⟨L', hp⟩ => by
      have := rs_take (sl_own hp hG) (k := m) (by omega)
      rw [ws_take] at this
      exact this
    
    repeat' (first | ((first | apply RW.q1 | (apply DW.q1; exact rfl)); (first | (apply q_slk m; exact rfl; exact rfl; infer_instance; omega; omega) | exact qt)) | refine xsg cts ?_ | (apply CW_condT; exact rfl; exact ar) | (apply CW_condF; exact rfl; exact ar) | (refine hK _ _ ?_; clear hK; refine xsg xsl ?_) | (refine xsg ahd ?_; (first | (apply gw_callE (f := 104); exact rfl; exact go104; intro G hG; exact trimN_spec qs (x / y) qa qm qc G (sl_own (by exact pkx) hG) h2 (by omega) h3 hnq) | (apply gw_call (f := 145); exact rfl; exact go145; intro G hG; refine SC.mono (right_spec (os.take m) s ua m uc G (hrsu G _ hG ⟨_, by exact pkx⟩) (by rw [List.length_take]; omega) hM (dg_take h5 m) hs32) ?_; rintro v M ⟨ra, rc, rs, rfl, rfl, w1', w2, w3⟩; (try dsimp only [jL, jM]); rw [hnt, Nat.mul_div_cancel _ hps] at w3) | (apply gw_callE (f := 104); exact rfl; exact go104; intro G hG; exact trimN_spec rs (x % y) ra m rc G (sl_own (by exact pkx) hG) w1' (by omega) w2 w3) | (apply gw_asg; exact rfl) | (apply gw_make; exact rfl; exact rfl; exact rfl; exact rfl; omega; omega; omega; omega; intro b) | (apply gw_lit1; exact rfl; exact rfl; exact rfl; exact rfl; decide; intro b) | (apply gw_lit2; exact rfl; exact rfl; exact rfl; exact rfl; intro b) | (apply gw_lit3; exact rfl; exact rfl; exact rfl; exact rfl; exact rfl; intro b) | (refine gw_stx sto ?_) | (fail))) | (apply CW_region; intro K hK) | (apply CW_condX; exact rfl; exact tst; exact tst; all_goals (intro hq hc; try exact no)) | (refine CW_draw (id := 7) [] [(0, false), (1, false), (3, false), (4, false), (6, false), (7, false), (2, true), (5, true), (8, false), (9, false), (10, false)] mixed (by kernel_rfl) (fun K hK => ?_)) | (refine CW_draw (id := 13) [] [(0, false), (2, false), (3, false), (4, false), (5, false), (6, false), (1, true), (7, true), (8, true), (9, false), (10, false)] mixed (by kernel_rfl) (fun K hK => ?_)))
    refine CW_drop [nvR (x / y) qa qc, nvR (x % y) ra rc] ?_ ?_
    · rw [← hnq, ← w3]
      apply subl_norm
      · exact pkx
      · exact h3
      · exact h2
      · apply subl_norm
        · exact pkx
        · exact w2
        · exact w1'
        · exact subl_nil
    · (refine CW_ret ?_; refine xsg xsl ?_; refine bR [.tmp 4, .tmp 5] [nvR (x / y) qa qc, nvR (x % y) ra rc] ?_)
      exact ⟨qa, qc, ra, rc, rfl, rfl⟩
theorem divide_spec (x y : Nat) (xa ya : Option Addr) (xc yc : Nat) (H : Hp) (hx : Rs H 1 xa (dgs W32 x).length xc (ws (dgs W32 x))) (hy : Rs H 1 ya (dgs W32 y).length yc (ws (dgs W32 y))) (hN : (dgs W32 x).length ≤ 1048576) (hM : (dgs W32 y).length ≤ 1048576) (hy0 : 0 < y) :
    SC Tryz.prog 130 [.slice xa (dgs W32 x).length xc, .slice ya (dgs W32 y).length yc] H [] (fun v M => DivPost x y v M) := by
  by_cases h : x < y ∨ (0 < y ∧ y < 4294967296)
  · exact divideS_spec x y xa ya xc yc H hx hy hN hM h
  · refine divideL_spec x y _ _ xa ya xc yc H rfl rfl hx hy hN hM (by omega) ?_
    rcases Nat.lt_or_ge (dgs W32 y).length 2 with g | g
    · exfalso
      have h1 := dgs_len_lt (n := y) w1
      have h2 : W32 ^ (dgs W32 y).length ≤ W32 ^ 1 := Nat.pow_le_pow_right (by decide) (by omega)
      rw [Nat.pow_one] at h2
      have h3 : y < 4294967296 := Nat.lt_of_lt_of_le h1 h2
      omega
    · exact g
end Go.Proofs.YtnhbipachchlgaaGreat.HL
namespace Go.Proofs.YtnhbipachchlgaaGreat.HL
open Go
attribute [local irreducible] goFn thenS blockS bodyS CW RW DW GW QW NW SC Pick Picks SubL Rd NN ResOk SrcW subE hops hseg AW hgen HC qv bldv
set_option linter.unusedVariables false
set_option linter.unusedSimpArgs false

theorem gcd_step {x y : Nat} : Nat.gcd y (x % y) = Nat.gcd x y := by rw [Nat.gcd_comm x y, Nat.gcd_rec y x, Nat.gcd_comm]
theorem gcd_spec (bz off : Nat) (TB : TypeId) (cs : List Value) (x y : Nat) (bx ox by' oy : Nat) (p1 p2 : Value) (H : Hp) (hoff : off + 1 < cs.length) (hx : IntW H [.box bz TB cs] bx ox ((x : Nat) : Int)) (hy : IntW H [.box bz TB cs] by' oy ((y : Nat) : Int)) (hN : (dgs W32 x).length ≤ 1048576) (hM : (dgs W32 y).length ≤ 1048576) :
    SC Tryz.prog 99 [.pointer (some ⟨bz, off, none⟩), p1, p2, .pointer (some ⟨bx, ox, none⟩), .pointer (some ⟨by', oy, none⟩)] H [.box bz TB cs] (fun v M => v = .pointer (some ⟨bz, off, none⟩) ∧ ∃ a c, M = [.box bz TB (intC cs off ((Nat.gcd x y : Nat) : Int) a c), intR ((Nat.gcd x y : Nat) : Int) a c]) := by
  obtain ⟨xa, xc, x1, x2, x3⟩ := hx
  obtain ⟨ya, yc, y1, y2, y3⟩ := hy
  rw [wd_nat] at x2 x3 y2 y3
  (refine SC_intro Tryz.func99 rfl (by kernel_rfl) (by rw [Tryz.ntmps99]; exact Nat.le_of_ble_eq_true rfl) ?_; simp only [Tryz.ntmps99, argE, Nat.reduceAdd])
  
  repeat' (first | ((first | apply RW.q1 | (apply DW.q1; exact rfl)); (first | (apply q_load; exact rfl; exact rfl; (first | exact Rd.sub x2 (by exact sbl) | exact Rd.sub y2 (by exact sbl))) | exact qt)) | refine xsg cts ?_ | (apply CW_condT; exact rfl; exact ar) | (apply CW_condF; exact rfl; exact ar) | (refine hK _ _ ?_; clear hK; refine xsg xsl ?_) | (refine xsg ahd ?_; (first | (apply gw_asg; exact rfl) | (fail))) | (apply CW_region; intro K hK) | (apply CW_condX; exact rfl; exact tst; exact tst; all_goals (intro hq hc; try exact no)) | (refine CW_draw (id := 1) [] [(0, false), (1, false), (2, false), (3, false), (4, false), (5, false), (6, false), (7, false), (8, false), (9, false)] mixed (by kernel_rfl) (fun K hK => ?_)))
  refine CW_loop (fun m l L => ∃ (x' y' : Nat) (xa ya : Option Addr) (xc yc : Nat) (L' : List Res), m = y' + 1 ∧ l = [(0, true, .pointer (some ⟨bz, off, none⟩)), (11, true, .slice xa (dgs W32 x').length xc), (12, true, .slice ya (dgs W32 y').length yc)] ∧
      L = .box bz TB cs :: L' ∧ Nat.gcd x' y' = Nat.gcd x y ∧ (dgs W32 x').length ≤ 1048576 ∧ (dgs W32 y').length ≤ 1048576 ∧ (∀ G, Hs H L' G → Rs G 1 xa (dgs W32 x').length xc (ws (dgs W32 x'))) ∧ (∀ G, Hs H L' G → Rs G 1 ya (dgs W32 y').length yc (ws (dgs W32 y'))))
    ⟨_, _, _, ⟨x, y, xa, ya, xc, yc, [], rfl, rfl, rfl, rfl, hN, hM, fun G hG => x3.ext hG.ext, fun G hG => y3.ext hG.ext⟩, by exact sbe, by exact sbl⟩ ?_
  rintro m l L ⟨x', y', xa', ya', xc', yc', L', rfl, rfl, rfl, g1, g3, g4, g5, g6⟩
  by_cases h0 : y' = 0
  · subst h0
    rw [Nat.gcd_zero_right] at g1
    subst g1
    have e0 : (dgs W32 0).length = 0 := by rw [dgs_zero]; rfl
    have wg := wd_nat (Nat.gcd x y)
    have hP := fun G ra rc hr => putI_spec bz off TB cs ((Nat.gcd x y : Nat) : Int) ra rc G hoff hr (by rw [wd_nat]; omega)
    rw [wg, decide_eq_false (show ¬ ((Nat.gcd x y : Nat) : Int) < 0 by omega)] at hP
    
    repeat' (first | ((first | apply RW.q1 | (apply DW.q1; exact rfl)); exact qt) | refine xsg cts ?_ | (apply CW_condT; exact rfl; exact ar) | (apply CW_condF; exact rfl; exact ar) | (refine hK _ _ ?_; clear hK; refine xsg xsl ?_) | (refine xsg ahd ?_; (first | (apply gw_call (f := 131); exact rfl; exact go131; intro G hG; refine SC.mono (clone_spec (dgs W32 (Nat.gcd x y)) xa' _ xc' G rfl (by omega) (g5 G (hG.sub (subl_skip subl_refl)))) ?_; rintro v M ⟨ra, rc, rfl, rfl⟩; (try dsimp only [jL, jM])) | (apply gw_callc (f := 111) (M := [.box bz TB cs]); exact rfl; exact go111; exact pcs; intro G hG; refine SC.mono (hP G ra rc (sl_own (by exact pkx) hG)) ?_; rintro v M ⟨rfl, rfl⟩; (try dsimp only [jL, jM])) | (apply gw_asg; exact rfl) | (fail))) | (apply CW_region; intro K hK) | (apply CW_condX; exact rfl; exact tst; exact tst; all_goals (intro hq hc; try exact no)) | (refine CW_draw (id := 1) [] [(0, false), (1, false), (2, false), (3, false), (4, false), (5, false), (6, false), (7, false), (8, false), (9, false)] mixed (by kernel_rfl) (fun K hK => ?_)))
    (refine CW_ret ?_; refine xsg xsl ?_; refine bR [.tmp 10] [.box bz TB (intC cs off ((Nat.gcd x y : Nat) : Int) ra rc), nvR (Nat.gcd x y) ra rc] ?_)
    exact ⟨rfl, ra, rc, by unfold intR nvR; rw [wd_nat]⟩
  · have hy0 : 0 < y' := Nat.pos_of_ne_zero h0
    have hlp : 0 < (dgs W32 y').length := by rw [dgs_pos w1 hy0]; exact Nat.succ_pos _
    have hlr : (dgs W32 (x' % y')).length ≤ 1048576 := Nat.le_trans (dgs_len_le w1 (Nat.le_of_lt (Nat.mod_lt x' hy0))) g4
    have hml := Nat.mod_lt x' hy0
    
    repeat' (first | ((first | apply RW.q1 | (apply DW.q1; exact rfl)); exact qt) | refine xsg cts ?_ | (apply CW_condT; exact rfl; exact ar) | (apply CW_condF; exact rfl; exact ar) | (refine hK _ _ ?_; clear hK; refine xsg xsl ?_) | (refine xsg ahd ?_; (first | (apply gw_call (f := 130); exact rfl; exact go130; intro G hG; refine SC.mono (divide_spec x' y' xa' ya' xc' yc' G (g5 G (hG.sub (subl_skip subl_refl))) (g6 G (hG.sub (subl_skip subl_refl))) g3 g4 hy0) ?_; rintro v M ⟨qa, qc, ra, rc, rfl, rfl⟩; (try dsimp only [jL, jM])) | (apply gw_asg; exact rfl) | (fail))) | (apply CW_region; intro K hK) | (apply CW_condX; exact rfl; exact tst; exact tst; all_goals (intro hq hc; try exact no)) | (refine CW_draw (id := 1) [] [(0, false), (1, false), (2, false), (3, false), (4, false), (5, false), (6, false), (7, false), (8, false), (9, false)] mixed (by kernel_rfl) (fun K hK => ?_)))
    refine ⟨_, _, _, ⟨y', x' % y', ya', ra, yc', rc, nvR (x' / y') qa qc :: nvR (x' % y') ra rc :: L', rfl, rfl, rfl, gcd_step.trans g1, g4, hlr, fun G hG => g6 G (hG.sub (subl_skip (subl_skip subl_refl))), fun G hG => sl_own (by exact pkx) hG⟩, by exact sbe, by exact sbl, by omega⟩
end Go.Proofs.YtnhbipachchlgaaGreat.HL
namespace Go.Proofs.YtnhbipachchlgaaGreat.HL
open Go
attribute [local irreducible] goFn thenS blockS bodyS CW RW DW GW QW NW SC Pick Picks SubL Rd NN ResOk SrcW subE hops hseg AW hgen HC qv bldv
set_option linter.unusedVariables false
set_option linter.unusedSimpArgs false

theorem quo_spec (bz off : Nat) (TB : TypeId) (cs : List Value) (x y : Nat) (bx ox by' oy : Nat) (H : Hp) (hoff : off + 1 < cs.length) (hx : IntW H [.box bz TB cs] bx ox ((x : Nat) : Int)) (hy : IntW H [.box bz TB cs] by' oy ((y : Nat) : Int)) (hN : (dgs W32 x).length ≤ 1048576) (hM : (dgs W32 y).length ≤ 1048576) (hsm : 0 < y) :
    SC Tryz.prog 110 [.pointer (some ⟨bz, off, none⟩), .pointer (some ⟨bx, ox, none⟩), .pointer (some ⟨by', oy, none⟩)] H [.box bz TB cs] (fun v M => v = .pointer (some ⟨bz, off, none⟩) ∧ ∃ a c, M = [.box bz TB (intC cs off ((x / y : Nat) : Int) a c), intR ((x / y : Nat) : Int) a c]) := by
  obtain ⟨xa, xc, x1, x2, x3⟩ := hx
  obtain ⟨ya, yc, y1, y2, y3⟩ := hy
  rw [wd_nat] at x2 x3 y2 y3
  rw [decide_eq_false (by omega)] at x1 y1
  have wq := wd_nat (x / y)
  have hql : (dgs W32 (x / y)).length ≤ 1048576 := Nat.le_trans (dgs_len_le w1 (Nat.div_le_self x y)) hN
  have hP := fun G ra rc hr => putI_spec bz off TB cs ((x / y : Nat) : Int) ra rc G hoff hr (by rw [wd_nat]; omega)
  rw [wq, decide_eq_false (show ¬ ((x / y : Nat) : Int) < 0 from Int.not_lt.2 (Int.natCast_nonneg _))] at hP
  (refine SC_intro Tryz.func110 rfl (by kernel_rfl) (by rw [Tryz.ntmps110]; exact Nat.le_of_ble_eq_true rfl) ?_; simp only [Tryz.ntmps110, argE, Nat.reduceAdd])
  
  repeat' (first | ((first | apply RW.q1 | (apply DW.q1; exact rfl)); (first | (apply q_load; exact rfl; exact rfl; (first | exact Rd.sub x1 (by exact sbl) | exact Rd.sub x2 (by exact sbl) | exact Rd.sub y1 (by exact sbl) | exact Rd.sub y2 (by exact sbl))) | exact qt)) | refine xsg cts ?_ | (apply CW_condT; exact rfl; exact ar) | (apply CW_condF; exact rfl; exact ar) | (refine hK _ _ ?_; clear hK; refine xsg xsl ?_) | (refine xsg ahd ?_; (first | (apply gw_call (f := 130); exact rfl; exact go130; intro G hG; refine SC.mono (divide_spec x y xa ya xc yc G (x3.ext hG.ext) (y3.ext hG.ext) hN hM hsm) ?_; rintro v M ⟨qa, qc, ra, rc, rfl, rfl⟩; (try dsimp only [jL, jM])) | (apply gw_callc (f := 111) (M := [.box bz TB cs]); exact rfl; exact go111; exact pcs; intro G hG; refine SC.mono (hP G qa qc (sl_own (by exact pkx) hG)) ?_; rintro v M ⟨rfl, rfl⟩; (try dsimp only [jL, jM])) | (apply gw_asg; exact rfl) | (fail))) | (apply CW_region; intro K hK) | (apply CW_condX; exact rfl; exact tst; exact tst; all_goals (intro hq hc; try exact no)) | (refine CW_draw (id := 1) [] [(0, false), (1, false), (2, false), (3, false), (4, false), (5, false), (6, false), (7, false), (8, true), (9, false), (10, false), (11, false), (12, false), (13, false)] mixed (by kernel_rfl) (fun K hK => ?_)) | (refine CW_draw (id := 2) [] [(0, false), (1, false), (2, false), (3, false), (4, false), (5, false), (6, false), (7, false), (8, false), (9, false), (10, false), (11, true), (12, false)] mixed (by kernel_rfl) (fun K hK => ?_)))
  (refine CW_ret ?_; refine xsg xsl ?_; refine bR [.tmp 6] [.box bz TB (intC cs off ((x / y : Nat) : Int) qa qc), nvR (x / y) qa qc] ?_)
  exact ⟨rfl, qa, qc, by unfold intR nvR; rw [wd_nat]⟩
end Go.Proofs.YtnhbipachchlgaaGreat.HL
namespace Go.Proofs.YtnhbipachchlgaaGreat.HL
open Go
attribute [local irreducible] goFn thenS blockS bodyS CW RW DW GW QW NW SC Pick Picks SubL Rd NN ResOk SrcW subE hops hseg AW hgen HC qv bldv
set_option linter.unusedVariables false
set_option linter.unusedSimpArgs false

def sg (s : Bool) (n : Nat) : Int := if s = true then -(n : Int) else (n : Int)
theorem sg_abs (s : Bool) (n : Nat) : (sg s n).natAbs = n := by unfold sg; split <;> omega
theorem wd_sg (s : Bool) (n : Nat) : wd (sg s n) = dgs W32 n := by unfold wd; rw [sg_abs]
theorem sg_neg (s : Bool) (n : Nat) : (s && decide (0 < n)) = decide (sg s n < 0) := by
  unfold sg
  cases s
  · rw [if_neg (by decide), decide_eq_false (p := ((n : Int) < 0)) (by omega)]; rfl
  · rw [if_pos rfl]
    by_cases h : 0 < n
    · rw [decide_eq_true h, decide_eq_true (by omega)]; rfl
    · rw [decide_eq_false h, decide_eq_false (by omega)]; rfl
theorem putF_spec (b off : Nat) (TB : TypeId) (cs : List Value) (s : Bool) (n : Nat) (a : Option Addr) (c : Nat) (H : Hp) (hoff : off + 1 < cs.length) (hx : Rs H 1 a (dgs W32 n).length c (ws (dgs W32 n))) (hN : (dgs W32 n).length ≤ 1099511627776) :
    SC Tryz.prog 111 [.pointer (some ⟨b, off, none⟩), .bool s, .slice a (dgs W32 n).length c] H [.box b TB cs] (fun v M => v = .pointer (some ⟨b, off, none⟩) ∧ M = [.box b TB ((cs.set off (.bool (decide (sg s n < 0)))).set (off + 1) (.slice a (dgs W32 n).length c))]) := by
  have h := put_spec b off TB cs s (dgs W32 n) a _ c H hoff hx rfl hN (dgs_dg w1 _)
  rw [nv_dgs w1, sg_neg] at h
  exact h
def fn (x y : Int) : Int := sg (decide (x < 0) != decide (y < 0)) (x.natAbs / x.natAbs.gcd y.natAbs)
def fd (x y : Int) : Int := ((y.natAbs / x.natAbs.gcd y.natAbs : Nat) : Int)
abbrev ratB (p q : Int) (pa : Option Addr) (pc : Nat) (qa : Option Addr) (qc : Nat) : List Value := [.bool (decide (p < 0)), .slice pa (wd p).length pc, .bool (decide (q < 0)), .slice qa (wd q).length qc]
theorem setFrac_spec (bz : Nat) (TB : TypeId) (c0 c1 c2 c3 : Value) (x y : Int) (bx ox by' oy : Nat) (H : Hp) (hx : IntW H [.box bz TB [c0, c1, c2, c3]] bx ox x) (hy : IntW H [.box bz TB [c0, c1, c2, c3]] by' oy y) (hN : (wd x).length ≤ 1048576) (hM : (wd y).length ≤ 1048576) (hy0 : y ≠ 0) :
    SC Tryz.prog 81 [.pointer (some ⟨bz, 0, none⟩), .pointer (some ⟨bx, ox, none⟩), .pointer (some ⟨by', oy, none⟩)] H [.box bz TB [c0, c1, c2, c3]] (fun v M => v = .pointer (some ⟨bz, 0, none⟩) ∧ ∃ pa pc qa qc, M = [.box bz TB (ratB (fn x y) (fd x y) pa pc qa qc), intR (fn x y) pa pc, intR (fd x y) qa qc]) := by
  have kx := hx
  have ky := hy
  obtain ⟨xa, xc, x1, x2, x3⟩ := hx
  obtain ⟨ya, yc, y1, y2, y3⟩ := hy
  have ex : wd ((x.natAbs : Nat) : Int) = wd x := by unfold wd; rw [Int.natAbs_natCast]
  have ey : wd ((y.natAbs : Nat) : Int) = wd y := by unfold wd; rw [Int.natAbs_natCast]
  have hXl : (dgs W32 x.natAbs).length ≤ 1048576 := hN
  have hYl : (dgs W32 y.natAbs).length ≤ 1048576 := hM
  have hyp : 0 < y.natAbs := Int.natAbs_pos.2 hy0
  obtain ⟨g, hgd⟩ : ∃ g, g = x.natAbs.gcd y.natAbs := ⟨_, rfl⟩
  have hg0 : 0 < g := by rw [hgd]; exact Nat.gcd_pos_of_pos_right _ hyp
  have hgy : g ≤ y.natAbs := by rw [hgd]; exact Nat.gcd_le_right _ hyp
  obtain ⟨r, hr, hr1⟩ : ∃ r : Int, cmpZ ((g : Nat) : Int) 1 = r ∧ (0 < r ↔ 1 < g) := ⟨_, rfl, by unfold cmpZ; repeat' split <;> omega⟩
  have hGl : (dgs W32 g).length ≤ 1048576 := Nat.le_trans (dgs_len_le w1 hgy) hYl
  have hql : (dgs W32 (x.natAbs / g)).length ≤ 1048576 := Nat.le_trans (dgs_len_le w1 (Nat.div_le_self _ _)) hXl
  have hgl : (wd ((g : Nat) : Int)).length ≤ 1099511627776 := by rw [wd_nat]; omega
  have hC := fun (G : Hp) (b3 bo : Nat) (u : IntW G [] b3 0 ((g : Nat) : Int)) (w : IntW G [] bo 0 1) => cmp_spec ((g : Nat) : Int) 1 b3 0 bo 0 G [] u w hgl (by rw [show wd 1 = [1] from dgs_one (by decide) (by decide)]; decide)
  rw [hr] at hC
  have hfn : fn x y = sg (decide (x < 0) != decide (y < 0)) (x.natAbs / g) := by rw [hgd]; rfl
  have hfd : fd x y = ((y.natAbs / g : Nat) : Int) := by rw [hgd]; rfl
  rw [hfn, hfd]
  have hgcd := fun (b3 b1 b2 : Nat) (G : Hp) (cs3 : List Value) (T3 : TypeId) (h3 : 0 + 1 < cs3.length) (u : IntW G [.box b3 T3 cs3] b1 0 ((x.natAbs : Nat) : Int)) (w : IntW G [.box b3 T3 cs3] b2 0 ((y.natAbs : Nat) : Int)) => gcd_spec b3 0 T3 cs3 x.natAbs y.natAbs b1 0 b2 0 (.pointer none) (.pointer none) G h3 u w (by rw [← wd_nat, ex]; exact hN) (by rw [← wd_nat, ey]; exact hM)
  rw [← hgd] at hgcd
  by_cases h1 : 1 < g
  · have hr2 := hr1.2 h1
    (refine SC_intro Tryz.func81 rfl (by kernel_rfl) (by rw [Tryz.ntmps81]; exact Nat.le_of_ble_eq_true rfl) ?_; simp only [Tryz.ntmps81, argE, Nat.reduceAdd])
    
    repeat' (first | ((first | apply RW.q1 | (apply DW.q1; exact rfl)); (first | (apply q_load; exact rfl; exact rfl; (first | exact Rd.sub x1 (by exact sbl) | exact Rd.sub y1 (by exact sbl))) | exact qt)) | refine xsg cts ?_ | (apply CW_condT; exact rfl; exact ar) | (apply CW_condF; exact rfl; exact ar) | (refine hK _ _ ?_; clear hK; refine xsg xsl ?_) | (refine xsg ahd ?_; (first | (apply gw_alloc (d := some 11); exact rfl; intro b1) | (apply gw_alloc (d := some 14); exact rfl; intro b2) | (apply gw_alloc (d := some 26); exact rfl; intro b3) | (apply gw_callc (f := 100) (M := [.box b1 _ _]); exact rfl; exact go100; exact pcs; intro G hG; refine SC.mono (abs_spec b1 0 _ _ x bx ox G (by decide) (((kx.sub (by exact sbl)).base hG).sub subl_nil) (by omega)) ?_; rintro v M ⟨rfl, aa, ac, rfl⟩; (try dsimp only [jL, jM])) | (apply gw_callc (f := 100) (M := [.box b2 _ _]); exact rfl; exact go100; exact pcs; intro G hG; refine SC.mono (abs_spec b2 0 _ _ y by' oy G (by decide) (((ky.sub (by exact sbl)).base hG).sub subl_nil) (by omega)) ?_; rintro v M ⟨rfl, ba, bc, rfl⟩; (try dsimp only [jL, jM])) | (apply gw_callc (f := 99) (M := [.box b3 _ _]); exact rfl; exact go99; exact pcs; intro G hG; refine SC.mono (hgcd b3 b1 b2 G _ _ (by decide) (intW_own (by exact pkx) (by exact pkx) hG _) (intW_own (by exact pkx) (by exact pkx) hG _)) ?_; rintro v M ⟨rfl, ga, gc, rfl⟩; (try dsimp only [jL, jM])) | (apply gw_call (f := 72); exact rfl; exact go72; intro G hG; refine SC.mono (newInt_spec 1 G (by decide)) ?_; rintro v M ⟨bo, oa, oc, rfl, rfl⟩; (try dsimp only [jL, jM])) | (apply gw_callE (f := 101); exact rfl; exact go101; intro G hG; exact hC G b3 bo (intW_own (by exact pkx) (by exact pkx) hG _) (intW_own (by exact pkx) (by exact pkx) hG _)) | (apply gw_callc (f := 110) (M := [.box b1 _ _]); exact rfl; exact go110; exact pcs; intro G hG; refine SC.mono (quo_spec b1 0 _ _ x.natAbs g b1 0 b3 0 G (Nat.lt_succ_self 1) (intW_of (by exact pkx) (sl_own (by exact pkx) hG)) (intW_own (by exact pkx) (by exact pkx) hG _) hXl hGl hg0) ?_; rintro v M ⟨rfl, pa, pc, rfl⟩; (try dsimp only [jL, jM])) | (apply gw_callc (f := 110) (M := [.box b2 _ _]); exact rfl; exact go110; exact pcs; intro G hG; refine SC.mono (quo_spec b2 0 _ _ y.natAbs g b2 0 b3 0 G (Nat.lt_succ_self 1) (intW_of (by exact pkx) (sl_own (by exact pkx) hG)) (intW_own (by exact pkx) (by exact pkx) hG _) hYl hGl hg0) ?_; rintro v M ⟨rfl, pa2, pc2, rfl⟩; (try dsimp only [jL, jM])) | (apply gw_callc (f := 111) (M := [.box bz TB _]); exact rfl; exact go111; exact pcs; intro G hG; refine SC.mono (putF_spec bz 0 TB _ ((decide (x < 0)) != (decide (y < 0))) (x.natAbs / g) pa pc G (Nat.lt_succ_of_le (Nat.le_add_left 1 2)) (by rw [← wd_nat]; exact sl_own (by exact pkx) hG) (by omega)) ?_; rintro v M ⟨rfl, rfl⟩; (try dsimp only [jL, jM])) | (apply gw_stb; exact rfl; exact rfl; infer_instance; exact rfl; exact rfl; exact Nat.le_refl 4; exact rfl; exact rfl) | (apply gw_asg; exact rfl) | (apply gw_alloc; exact rfl; intro b) | (refine gw_stx sto ?_) | (fail))) | (apply CW_region; intro K hK) | (apply CW_condX; exact rfl; exact tst; exact tst; all_goals (intro hq hc; try exact no)) | (refine CW_draw (id := 2) [] [(0, false), (1, false), (2, false), (3, false), (4, false), (5, false), (6, false), (7, false), (8, false), (9, false)] mixed (by kernel_rfl) (fun K hK => ?_)) | (refine CW_draw (id := 7) [] [(0, false), (1, false), (2, false), (3, false), (4, false), (5, false), (6, false), (7, false), (8, true)] mixed (by kernel_rfl) (fun K hK => ?_)))
    refine CW_drop [.box bz TB (ratB (sg (decide (x < 0) != decide (y < 0)) (x.natAbs / g)) ((y.natAbs / g : Nat) : Int) pa pc pa2 pc2), intR (sg (decide (x < 0) != decide (y < 0)) (x.natAbs / g)) pa pc, intR ((y.natAbs / g : Nat) : Int) pa2 pc2] ?_ ?_
    · unfold ratB intR
      rw [wd_sg]
      exact sbl
    · (refine CW_ret ?_; refine xsg xsl ?_; refine bR [.tmp 6] [.box bz TB (ratB (sg (decide (x < 0) != decide (y < 0)) (x.natAbs / g)) ((y.natAbs / g : Nat) : Int) pa pc pa2 pc2), intR (sg (decide (x < 0) != decide (y < 0)) (x.natAbs / g)) pa pc, intR ((y.natAbs / g : Nat) : Int) pa2 pc2] ?_)
      exact ⟨rfl, pa, pc, pa2, pc2, rfl⟩
  · obtain rfl : g = 1 := by omega
    have hr2 : ¬ 0 < r := fun h => h1 (hr1.1 h)
    rw [Nat.div_one, Nat.div_one]
    (refine SC_intro Tryz.func81 rfl (by kernel_rfl) (by rw [Tryz.ntmps81]; exact Nat.le_of_ble_eq_true rfl) ?_; simp only [Tryz.ntmps81, argE, Nat.reduceAdd])
    
    repeat' (first | ((first | apply RW.q1 | (apply DW.q1; exact rfl)); (first | (apply q_load; exact rfl; exact rfl; (first | exact Rd.sub x1 (by exact sbl) | exact Rd.sub y1 (by exact sbl))) | exact qt)) | refine xsg cts ?_ | (apply CW_condT; exact rfl; exact ar) | (apply CW_condF; exact rfl; exact ar) | (refine hK _ _ ?_; clear hK; refine xsg xsl ?_) | (refine xsg ahd ?_; (first | (apply gw_alloc (d := some 11); exact rfl; intro b1) | (apply gw_alloc (d := some 14); exact rfl; intro b2) | (apply gw_alloc (d := some 26); exact rfl; intro b3) | (apply gw_callc (f := 100) (M := [.box b1 _ _]); exact rfl; exact go100; exact pcs; intro G hG; refine SC.mono (abs_spec b1 0 _ _ x bx ox G (by decide) (((kx.sub (by exact sbl)).base hG).sub subl_nil) (by omega)) ?_; rintro v M ⟨rfl, aa, ac, rfl⟩; (try dsimp only [jL, jM])) | (apply gw_callc (f := 100) (M := [.box b2 _ _]); exact rfl; exact go100; exact pcs; intro G hG; refine SC.mono (abs_spec b2 0 _ _ y by' oy G (by decide) (((ky.sub (by exact sbl)).base hG).sub subl_nil) (by omega)) ?_; rintro v M ⟨rfl, ba, bc, rfl⟩; (try dsimp only [jL, jM])) | (apply gw_callc (f := 99) (M := [.box b3 _ _]); exact rfl; exact go99; exact pcs; intro G hG; refine SC.mono (hgcd b3 b1 b2 G _ _ (by decide) (intW_own (by exact pkx) (by exact pkx) hG _) (intW_own (by exact pkx) (by exact pkx) hG _)) ?_; rintro v M ⟨rfl, ga, gc, rfl⟩; (try dsimp only [jL, jM])) | (apply gw_call (f := 72); exact rfl; exact go72; intro G hG; refine SC.mono (newInt_spec 1 G (by decide)) ?_; rintro v M ⟨bo, oa, oc, rfl, rfl⟩; (try dsimp only [jL, jM])) | (apply gw_callE (f := 101); exact rfl; exact go101; intro G hG; exact hC G b3 bo (intW_own (by exact pkx) (by exact pkx) hG _) (intW_own (by exact pkx) (by exact pkx) hG _)) | (apply gw_callc (f := 111) (M := [.box bz TB _]); exact rfl; exact go111; exact pcs; intro G hG; refine SC.mono (putF_spec bz 0 TB _ ((decide (x < 0)) != (decide (y < 0))) x.natAbs aa ac G (Nat.lt_succ_of_le (Nat.le_add_left 1 2)) (by rw [← wd_nat]; exact sl_own (by exact pkx) hG) (by omega)) ?_; rintro v M ⟨rfl, rfl⟩; (try dsimp only [jL, jM])) | (apply gw_stb; exact rfl; exact rfl; infer_instance; exact rfl; exact rfl; exact Nat.le_refl 4; exact rfl; exact rfl) | (apply gw_asg; exact rfl) | (apply gw_alloc; exact rfl; intro b) | (refine gw_stx sto ?_) | (fail))) | (apply CW_region; intro K hK) | (apply CW_condX; exact rfl; exact tst; exact tst; all_goals (intro hq hc; try exact no)) | (refine CW_draw (id := 2) [] [(0, false), (1, false), (2, false), (3, false), (4, false), (5, false), (6, false), (7, false), (8, false), (9, false)] mixed (by kernel_rfl) (fun K hK => ?_)) | (refine CW_draw (id := 7) [] [(0, false), (1, false), (2, false), (3, false), (4, false), (5, false), (6, false), (7, false), (8, true)] mixed (by kernel_rfl) (fun K hK => ?_)))
    refine CW_drop [.box bz TB (ratB (sg (decide (x < 0) != decide (y < 0)) x.natAbs) (y.natAbs : Int) aa ac ba bc), intR (sg (decide (x < 0) != decide (y < 0)) x.natAbs) aa ac, intR (y.natAbs : Int) ba bc] ?_ ?_
    · unfold ratB intR
      rw [wd_sg]
      exact sbl
    · (refine CW_ret ?_; refine xsg xsl ?_; refine bR [.tmp 6] [.box bz TB (ratB (sg (decide (x < 0) != decide (y < 0)) x.natAbs) (y.natAbs : Int) aa ac ba bc), intR (sg (decide (x < 0) != decide (y < 0)) x.natAbs) aa ac, intR (y.natAbs : Int) ba bc] ?_)
      exact ⟨rfl, aa, ac, ba, bc, rfl⟩
end Go.Proofs.YtnhbipachchlgaaGreat.HL
