/- NamesV: the order of texts: as a plain law; slices.Compare, cmp.Or, the comparing function of names.Sort, the document's Ahead. Conditions: the texts' length; the library's tables stand. -/
import Derived.Test.YtmgjmjhnhgnfcaaDoorNamesO
import Derived.Test.YtmgjmjhnhgnfcaaDoorNamesK
namespace Go.Proofs.YtmgjmjhnhgnfcaaDoor.HL
open Go
attribute [local irreducible] goFn thenS blockS bodyS CW RW DW GW QW NW SC Pick Picks SubL Rd NN ResOk SrcW subE hops hseg AW hgen HC qv
set_option linter.unusedVariables false
set_option linter.unusedSimpArgs false

def cmpL : List Int → List Int → Int
  | [], [] => 0
  | [], _ :: _ => -1
  | _ :: _, [] => 1
  | x :: xs, y :: ys => if x < y then -1 else if y < x then 1 else cmpL xs ys
theorem cmpL_anti : ∀ xs ys, cmpL ys xs = - cmpL xs ys
  | [], [] => rfl
  | [], _ :: _ => rfl
  | _ :: _, [] => rfl
  | x :: xs, y :: ys => by
    have := cmpL_anti xs ys
    simp only [cmpL]
    repeat' split
    all_goals omega
theorem cmpL_zero : ∀ xs ys, cmpL xs ys = 0 ↔ xs = ys
  | [], [] => by simp [cmpL]
  | [], _ :: _ => by simp [cmpL]
  | _ :: _, [] => by simp [cmpL]
  | x :: xs, y :: ys => by
    have := cmpL_zero xs ys
    simp only [cmpL, List.cons.injEq]
    by_cases h1 : x < y
    · rw [if_pos h1]; constructor
      · intro h; omega
      · rintro ⟨h, _⟩; omega
    · rw [if_neg h1]
      by_cases h2 : y < x
      · rw [if_pos h2]; constructor
        · intro h; omega
        · rintro ⟨h, _⟩; omega
      · rw [if_neg h2, this]
        exact ⟨fun h => ⟨by omega, h⟩, fun h => h.2⟩
theorem cmpL_rg : ∀ xs ys, -1 ≤ cmpL xs ys ∧ cmpL xs ys ≤ 1
  | [], [] => by simp [cmpL]
  | [], _ :: _ => by simp [cmpL]
  | _ :: _, [] => by simp [cmpL]
  | x :: xs, y :: ys => by
    have := cmpL_rg xs ys
    simp only [cmpL]
    repeat' split
    all_goals omega
theorem cmpL_tr : ∀ xs ys zs, 0 ≤ cmpL xs ys → 0 ≤ cmpL ys zs → 0 ≤ cmpL xs zs
  | [], [], zs, _, h => h
  | [], _ :: _, _, h, _ => by simp [cmpL] at h
  | _ :: _, [], [], _, _ => by simp [cmpL]
  | _ :: _, [], _ :: _, _, h => by simp [cmpL] at h
  | _ :: _, _ :: _, [], _, _ => by simp [cmpL]
  | x :: xs, y :: ys, z :: zs, h1, h2 => by
    have := cmpL_tr xs ys zs
    simp only [cmpL] at h1 h2 ⊢
    split at h1
    · omega
    · split at h2
      · omega
      · rw [if_neg (by omega)]
        split
        · omega
        · rw [if_neg (by omega)] at h1 h2
          exact this h1 h2
def bytesI (a : ByteArray) : List Int := a.data.toList.map fun b => (b.toNat : Int)
theorem compareBytes_eq : ∀ a b : List UInt8, Lib.compareBytes a b = cmpL (a.map fun b => (b.toNat : Int)) (b.map fun b => (b.toNat : Int))
  | [], [] => rfl
  | [], _ :: _ => rfl
  | _ :: _, [] => rfl
  | x :: xs, y :: ys => by
    simp only [Lib.compareBytes, List.map_cons, cmpL, compareBytes_eq xs ys, UInt8.lt_iff_toNat_lt, Int.ofNat_lt]
theorem bytesLess_eq : ∀ a b : List UInt8, Op.bytesLess a b = decide (cmpL (a.map fun b => (b.toNat : Int)) (b.map fun b => (b.toNat : Int)) < 0)
  | [], [] => by simp [Op.bytesLess, cmpL]
  | [], _ :: _ => by simp [Op.bytesLess, cmpL]
  | _ :: _, [] => by simp [Op.bytesLess, cmpL]
  | x :: xs, y :: ys => by
    have ih := bytesLess_eq xs ys
    simp only [Op.bytesLess, List.map_cons, cmpL, ih]
    by_cases h1 : x.toNat < y.toNat
    · have : x < y := UInt8.lt_iff_toNat_lt.2 h1
      rw [if_pos (by omega)]
      simp [this]
    · have h1' : ¬ x < y := fun h => h1 (UInt8.lt_iff_toNat_lt.1 h)
      rw [if_neg (by omega)]
      by_cases h2 : y.toNat < x.toNat
      · have : (x == y) = false := by simp only [beq_eq_false_iff_ne, ne_eq]; intro e; rw [e] at h2; omega
        rw [if_pos (by omega)]
        simp [h1', this]
      · have : x = y := UInt8.toNat_inj.1 (by omega)
        rw [if_neg (by omega)]
        simp [h1', this]
theorem bytesI_inj {a b : ByteArray} (h : bytesI a = bytesI b) : a = b := by
  apply ByteArray.ext
  apply Array.toList_inj.1
  refine List.map_inj_right (f := fun (b : UInt8) => (b.toNat : Int)) (fun x y e => ?_) |>.1 h
  exact UInt8.toNat_inj.1 (by omega)
def rl (s : ByteArray) : List Int := (rns s).map fun x => (x.r : Int)
theorem rl_own (s : ByteArray) : (rns s).map (rI s false) = rl s := by
  unfold rl
  refine List.map_congr_left fun x _ => ?_
  unfold rI; simp
def cmpN (a b : ByteArray) : Int := if cmpL (rl a) (rl b) ≠ 0 then cmpL (rl a) (rl b) else cmpL (bytesI a) (bytesI b)
def ltN (a b : ByteArray) : Prop := cmpN a b < 0
instance (a b : ByteArray) : Decidable (ltN a b) := by unfold ltN; infer_instance
theorem cmpN_anti (a b : ByteArray) : cmpN b a = - cmpN a b := by
  unfold cmpN
  rw [cmpL_anti (rl a) (rl b), cmpL_anti (bytesI a) (bytesI b)]
  by_cases h : cmpL (rl a) (rl b) = 0
  · rw [if_neg (by omega), if_neg (by omega)]
  · rw [if_pos (by omega), if_pos (by omega)]
theorem cmpN_tr (a b c : ByteArray) (h1 : 0 ≤ cmpN a b) (h2 : 0 ≤ cmpN b c) : 0 ≤ cmpN a c := by
  unfold cmpN at h1 h2 ⊢
  by_cases e1 : cmpL (rl a) (rl b) = 0
  · rw [if_neg (by omega)] at h1
    rw [(cmpL_zero _ _).1 e1]
    by_cases e2 : cmpL (rl b) (rl c) = 0
    · rw [if_neg (by omega)] at h2 ⊢
      exact cmpL_tr _ _ _ h1 h2
    · rw [if_pos e2] at h2 ⊢; exact h2
  · rw [if_pos e1] at h1
    by_cases e2 : cmpL (rl b) (rl c) = 0
    · rw [← (cmpL_zero _ _).1 e2, if_pos e1]; exact h1
    · rw [if_pos e2] at h2
      have h3 := cmpL_tr _ _ _ h1 h2
      rw [if_pos]; exact h3
      intro e3
      rw [(cmpL_zero _ _).1 e3, cmpL_anti] at h1
      omega
theorem ordN : Ord ltN := by
  refine ⟨fun u v h => ?_, fun u v w h1 h2 => ?_⟩
  · unfold ltN at h ⊢; rw [cmpN_anti]; omega
  · unfold ltN at h1 h2 ⊢
    have := cmpN_tr w v u (by omega) (by omega)
    omega
theorem ordN_eq (u v : ByteArray) (h1 : ¬ ltN u v) (h2 : ¬ ltN v u) : u = v := by
  unfold ltN at h1 h2
  rw [cmpN_anti] at h2
  have h : cmpN u v = 0 := by omega
  unfold cmpN at h
  split at h
  · rename_i hn; exact absurd h hn
  · exact bytesI_inj ((cmpL_zero _ _).1 h)
theorem sLt_eq (a b : ByteArray) : sLt a b = decide (cmpL (bytesI a) (bytesI b) < 0) := bytesLess_eq _ _

/-! walks -/
theorem isNaN_spec (x : Int) (H : Hp) : SC Tryd.prog 68 [.int .i32 x] H [] (fun v M => v = .bool false ∧ M = []) := by
  (refine SC_intro Tryd.func68 rfl (by kernel_rfl) (by rw [Tryd.ntmps68]; exact Nat.le_of_ble_eq_true rfl) ?_; simp only [Tryd.ntmps68, argE, Nat.reduceAdd])
  repeat' (first | (apply RW.q1; (first | ((first | apply q_move | apply q_asgn); exact rfl) | (apply q_cmp; exact rfl; exact rfl; exact rfl))) | apply RW.nil | (refine hK _ _ ?_; clear hK; (repeat' (first | apply xs_n | apply xb_e | apply xb_n | apply xs_r | apply xb_r | apply xs_e | (apply xb_o; exact rfl) | apply xs_g | apply xb_g | fail))) | ((first | apply RW.a1 | apply RW.a0); (first | (fail))) | apply CW_seq | apply CW_block | (apply CW_region; intro K hK) | ((first | apply CW_skip | apply CW_exit); (repeat' (first | apply xs_n | apply xb_e | apply xb_n | apply xs_r | apply xb_r | apply xs_e | (apply xb_o; exact rfl) | apply xs_g | apply xb_g | fail))) | (apply CW_condT; exact rfl; first | assumption | exact rfl) | (apply CW_condF; exact rfl; first | assumption | exact rfl) | (apply CW_cond; exact rfl; all_goals (intro hc; have hq := hc; (try simp only [jA, jB, jC, jD, jE, jF, jG, jH, jI, jJ, not_and, not_or] at hc); (try contradiction))) | fail)
  (refine CW_ret ?_; (repeat' (first | apply xs_n | apply xb_e | apply xb_n | apply xs_r | apply xb_r | apply xs_e | (apply xb_o; exact rfl) | apply xs_g | apply xb_g | fail)); refine bodyS_ret (L' := []) (rs := [.tmp 2]) (by kernel_rfl) (by (repeat (apply resok_tmp; exact rfl)); exact resok_nil) (by ((repeat (first | (apply subl_cons; (focus ((iterate 9 (try (first | exact pick0 | apply pickS))); done))) | apply subl_nilown)); first | exact subl_nil | exact subl_refl)) ?_)
  exact ⟨by simp [resOne], rfl⟩
theorem cmpRune_spec (x y : Int) (H : Hp) : SC Tryd.prog 60 [.int .i32 x, .int .i32 y] H [] (fun v M => v = .int .i64 (if x < y then -1 else if y < x then 1 else 0) ∧ M = []) := by
  (refine SC_intro Tryd.func60 rfl (by kernel_rfl) (by rw [Tryd.ntmps60]; exact Nat.le_of_ble_eq_true rfl) ?_; simp only [Tryd.ntmps60, argE, Nat.reduceAdd])
  
  repeat' (first | (apply RW.q1; (first | ((first | apply q_move | apply q_asgn); exact rfl) | (apply q_cmp; exact rfl; exact rfl; exact rfl))) | apply RW.nil | (refine hK _ _ ?_; clear hK; (repeat' (first | apply xs_n | apply xb_e | apply xb_n | apply xs_r | apply xb_r | apply xs_e | (apply xb_o; exact rfl) | apply xs_g | apply xb_g | fail))) | (apply RW.c1; (first | (apply nw_call; exact rfl; exact go68; (intro G hG; exact (isNaN_spec _ _).mono (fun v M h => h.1))))) | ((first | apply RW.a1 | apply RW.a0); (first | (fail))) | apply CW_seq | apply CW_block | (apply CW_region; intro K hK) | ((first | apply CW_skip | apply CW_exit); (repeat' (first | apply xs_n | apply xb_e | apply xb_n | apply xs_r | apply xb_r | apply xs_e | (apply xb_o; exact rfl) | apply xs_g | apply xb_g | fail))) | (apply CW_condT; exact rfl; first | assumption | exact rfl) | (apply CW_condF; exact rfl; first | assumption | exact rfl) | (apply CW_cond; exact rfl; all_goals (intro hc; have hq := hc; (try simp only [jA, jB, jC, jD, jE, jF, jG, jH, jI, jJ, not_and, not_or] at hc); (try contradiction); (try (exfalso; omega)))) | fail)
  all_goals (refine CW_ret ?_; (repeat' (first | apply xs_n | apply xb_e | apply xb_n | apply xs_r | apply xb_r | apply xs_e | (apply xb_o; exact rfl) | apply xs_g | apply xb_g | fail)); refine bodyS_ret (L' := []) (rs := [.tmp 4]) (by kernel_rfl) (by (repeat (apply resok_tmp; exact rfl)); exact resok_nil) (by ((repeat (first | (apply subl_cons; (focus ((iterate 9 (try (first | exact pick0 | apply pickS))); done))) | apply subl_nilown)); first | exact subl_nil | exact subl_refl)) ?_)
  all_goals refine ⟨ret_i64 ?_, rfl⟩
  all_goals repeat' split
  all_goals omega
set_option maxRecDepth 100000 in
theorem compare_spec (xs ys : List Int) (a b : Option Addr) (c d : Nat) (H : Hp) (hx : Rs H 1 a xs.length c (xs.map (Value.int .i32))) (hy : Rs H 1 b ys.length d (ys.map (Value.int .i32))) (hxl : xs.length ≤ 1099511627776) (hyl : ys.length ≤ 1099511627776) :
    SC Tryd.prog 50 [.slice a xs.length c, .slice b ys.length d] H [] (fun v M => v = .int .i64 (cmpL xs ys) ∧ M = []) := by
  (refine SC_intro Tryd.func50 rfl (by kernel_rfl) (by rw [Tryd.ntmps50]; exact Nat.le_of_ble_eq_true rfl) ?_; simp only [Tryd.ntmps50, argE, Nat.reduceAdd])
  
  repeat' (first | (apply RW.q1; (first | ((first | apply q_move | apply q_asgn | apply q_lens | apply q_lenv | apply q_lena); exact rfl) | (apply q_add; exact rfl; exact rfl; (first | assumption | (apply w_in; simp only [inb]; omega) | exact rfl)) | (apply q_cmp; exact rfl; exact rfl; exact rfl) | (apply q_ldb; exact rfl; exact rfl; infer_instance; exact rfl) | ((first | (apply q_ldo; exact rfl; exact rfl; infer_instance) | (apply q_ldr; exact rfl; exact rfl; assumption)); (first | exact rfl | (apply ix_map; assumption; omega) | (apply ix_set; first | omega | (simp only [List.length_map]; omega)) | (apply ix_int; first | omega | (simp only [List.length_map]; omega)) | (apply ix_elem; assumption; omega) | (apply ix_fld; assumption; omega; decide) | (apply ix_id; assumption; omega))) | (apply q_ldc; exact rfl; exact rfl; assumption) | (apply q_ixo; exact rfl; infer_instance; exact rfl; omega) | (apply q_ixr; exact rfl; assumption; exact rfl; omega) | (apply q_ixb; exact rfl; exact rfl; omega) | (apply q_ixap; exact rfl; infer_instance; omega; exact rfl; omega) | (apply q_ixar; exact rfl; assumption; omega; exact rfl; omega) | (apply q_blt; exact rfl; (first | assumption | exact rfl)))) | apply RW.nil | (refine hK _ _ ?_; clear hK; (repeat' (first | apply xs_n | apply xb_e | apply xb_n | apply xs_r | apply xb_r | apply xs_e | (apply xb_o; exact rfl) | apply xs_g | apply xb_g | fail))) | ((first | apply RW.a1 | apply RW.a0); (first | (fail))) | apply CW_seq | apply CW_block | (apply CW_region; intro K hK) | ((first | apply CW_skip | apply CW_exit); (repeat' (first | apply xs_n | apply xb_e | apply xb_n | apply xs_r | apply xb_r | apply xs_e | (apply xb_o; exact rfl) | apply xs_g | apply xb_g | fail))) | (apply CW_condT; exact rfl; first | assumption | exact rfl) | (apply CW_condF; exact rfl; first | assumption | exact rfl) | (apply CW_cond; exact rfl; all_goals (intro hc; have hq := hc; (try simp only [jA, jB, jC, jD, jE, jF, jG, jH, jI, jJ, not_and, not_or] at hc); (try contradiction); (try (exfalso; omega)))) | fail)
  refine CW_loop (fun m l L => ∃ (i : Nat), m = xs.length - i ∧ l = [(0, true, .slice a xs.length c), (1, true, .slice b ys.length d), (9, true, .slice a xs.length c), (10, true, .int .i64 (xs.length : Nat)), (11, true, .int .i64 (i : Nat))] ∧
      L = [] ∧ i ≤ xs.length ∧ i ≤ ys.length ∧ cmpL xs ys = cmpL (xs.drop i) (ys.drop i))
    ⟨_, _, _, ⟨0, rfl, rfl, rfl, by omega, by omega, rfl⟩, by ((repeat (first | (apply subE_cons; exact rfl) | (apply subE_cons; apply look_int; exact rfl; omega))); exact subE_nil _), by ((repeat (first | (apply subl_cons; (focus ((iterate 9 (try (first | exact pick0 | apply pickS))); done))) | apply subl_nilown)); first | exact subl_nil | exact subl_refl)⟩ ?_
  rintro m l L ⟨i, rfl, rfl, rfl, h1, h2, h3⟩
  rw [h3]
  by_cases hlt : i < xs.length
  · obtain ⟨x, hx'⟩ : ∃ x, xs[i]? = some x := ⟨_, List.getElem?_eq_getElem hlt⟩
    rw [drop_at hx']
    by_cases hlt2 : i < ys.length
    · obtain ⟨y, hy'⟩ : ∃ y, ys[i]? = some y := ⟨_, List.getElem?_eq_getElem hlt2⟩
      rw [drop_at hy', cmpL]
      repeat' (first | (apply RW.q1; (first | (apply q_ldr; exact rfl; exact rfl; exact hx; exact ix_map hx' (by omega)) | (apply q_ldr; exact rfl; exact rfl; exact hy; exact ix_map hy' (by omega)) | (first | ((first | apply q_move | apply q_asgn | apply q_lens | apply q_lenv | apply q_lena); exact rfl) | (apply q_add; exact rfl; exact rfl; (first | assumption | (apply w_in; simp only [inb]; omega) | exact rfl)) | (apply q_cmp; exact rfl; exact rfl; exact rfl) | (apply q_ldb; exact rfl; exact rfl; infer_instance; exact rfl) | ((first | (apply q_ldo; exact rfl; exact rfl; infer_instance) | (apply q_ldr; exact rfl; exact rfl; assumption)); (first | exact rfl | (apply ix_map; assumption; omega) | (apply ix_set; first | omega | (simp only [List.length_map]; omega)) | (apply ix_int; first | omega | (simp only [List.length_map]; omega)) | (apply ix_elem; assumption; omega) | (apply ix_fld; assumption; omega; decide) | (apply ix_id; assumption; omega))) | (apply q_ldc; exact rfl; exact rfl; assumption) | (apply q_ixo; exact rfl; infer_instance; exact rfl; omega) | (apply q_ixr; exact rfl; assumption; exact rfl; omega) | (apply q_ixb; exact rfl; exact rfl; omega) | (apply q_ixap; exact rfl; infer_instance; omega; exact rfl; omega) | (apply q_ixar; exact rfl; assumption; omega; exact rfl; omega) | (apply q_blt; exact rfl; (first | assumption | exact rfl))))) | apply RW.nil | (refine hK _ _ ?_; clear hK; (repeat' (first | apply xs_n | apply xb_e | apply xb_n | apply xs_r | apply xb_r | apply xs_e | (apply xb_o; exact rfl) | apply xs_g | apply xb_g | fail))) | (apply RW.c1; (first | (apply nw_call; exact rfl; exact go60; (intro G hG; exact (cmpRune_spec x y _).mono (fun v M h => h.1))))) | ((first | apply RW.a1 | apply RW.a0); (first | (fail))) | apply CW_seq | apply CW_block | (apply CW_region; intro K hK) | ((first | apply CW_skip | apply CW_exit); (repeat' (first | apply xs_n | apply xb_e | apply xb_n | apply xs_r | apply xb_r | apply xs_e | (apply xb_o; exact rfl) | apply xs_g | apply xb_g | fail))) | (apply CW_condT; exact rfl; first | assumption | exact rfl) | (apply CW_condF; exact rfl; first | assumption | exact rfl) | (apply CW_cond; exact rfl; all_goals (intro hc; have hq := hc; (try simp only [jA, jB, jC, jD, jE, jF, jG, jH, jI, jJ, not_and, not_or] at hc); (try contradiction); (try (exfalso; omega)))) | fail)
      · (refine CW_ret ?_; (repeat' (first | apply xs_n | apply xb_e | apply xb_n | apply xs_r | apply xb_r | apply xs_e | (apply xb_o; exact rfl) | apply xs_g | apply xb_g | fail)); refine bodyS_ret (L' := []) (rs := [.tmp 4]) (by kernel_rfl) (by (repeat (apply resok_tmp; exact rfl)); exact resok_nil) (by ((repeat (first | (apply subl_cons; (focus ((iterate 9 (try (first | exact pick0 | apply pickS))); done))) | apply subl_nilown)); first | exact subl_nil | exact subl_refl)) ?_)
        refine ⟨ret_i64 ?_, rfl⟩
        repeat' split
        all_goals first | rfl | omega
      · have : ¬ x < y ∧ ¬ y < x := by
          constructor
          · intro h; rw [if_pos h] at hc; omega
          · intro h; rw [if_neg (by omega), if_pos h] at hc; omega
        refine ⟨_, _, _, ⟨i + 1, rfl, rfl, rfl, by omega, by omega, ?_⟩, by ((repeat (first | (apply subE_cons; exact rfl) | (apply subE_cons; apply look_int; exact rfl; omega))); exact subE_nil _), by ((repeat (first | (apply subl_cons; (focus ((iterate 9 (try (first | exact pick0 | apply pickS))); done))) | apply subl_nilown)); first | exact subl_nil | exact subl_refl), by omega⟩
        rw [if_neg this.1, if_neg this.2]
    · rw [show ys.drop i = [] from List.drop_eq_nil_of_le (by omega), cmpL]
      repeat' (first | (apply RW.q1; (first | (apply q_ldr; exact rfl; exact rfl; exact hx; exact ix_map hx' (by omega)) | (first | ((first | apply q_move | apply q_asgn | apply q_lens | apply q_lenv | apply q_lena); exact rfl) | (apply q_add; exact rfl; exact rfl; (first | assumption | (apply w_in; simp only [inb]; omega) | exact rfl)) | (apply q_cmp; exact rfl; exact rfl; exact rfl) | (apply q_ldb; exact rfl; exact rfl; infer_instance; exact rfl) | ((first | (apply q_ldo; exact rfl; exact rfl; infer_instance) | (apply q_ldr; exact rfl; exact rfl; assumption)); (first | exact rfl | (apply ix_map; assumption; omega) | (apply ix_set; first | omega | (simp only [List.length_map]; omega)) | (apply ix_int; first | omega | (simp only [List.length_map]; omega)) | (apply ix_elem; assumption; omega) | (apply ix_fld; assumption; omega; decide) | (apply ix_id; assumption; omega))) | (apply q_ldc; exact rfl; exact rfl; assumption) | (apply q_ixo; exact rfl; infer_instance; exact rfl; omega) | (apply q_ixr; exact rfl; assumption; exact rfl; omega) | (apply q_ixb; exact rfl; exact rfl; omega) | (apply q_ixap; exact rfl; infer_instance; omega; exact rfl; omega) | (apply q_ixar; exact rfl; assumption; omega; exact rfl; omega) | (apply q_blt; exact rfl; (first | assumption | exact rfl))))) | apply RW.nil | (refine hK _ _ ?_; clear hK; (repeat' (first | apply xs_n | apply xb_e | apply xb_n | apply xs_r | apply xb_r | apply xs_e | (apply xb_o; exact rfl) | apply xs_g | apply xb_g | fail))) | ((first | apply RW.a1 | apply RW.a0); (first | (fail))) | apply CW_seq | apply CW_block | (apply CW_region; intro K hK) | ((first | apply CW_skip | apply CW_exit); (repeat' (first | apply xs_n | apply xb_e | apply xb_n | apply xs_r | apply xb_r | apply xs_e | (apply xb_o; exact rfl) | apply xs_g | apply xb_g | fail))) | (apply CW_condT; exact rfl; first | assumption | exact rfl) | (apply CW_condF; exact rfl; first | assumption | exact rfl) | (apply CW_cond; exact rfl; all_goals (intro hc; have hq := hc; (try simp only [jA, jB, jC, jD, jE, jF, jG, jH, jI, jJ, not_and, not_or] at hc); (try contradiction); (try (exfalso; omega)))) | fail)
      (refine CW_ret ?_; (repeat' (first | apply xs_n | apply xb_e | apply xb_n | apply xs_r | apply xb_r | apply xs_e | (apply xb_o; exact rfl) | apply xs_g | apply xb_g | fail)); refine bodyS_ret (L' := []) (rs := [.tmp 4]) (by kernel_rfl) (by (repeat (apply resok_tmp; exact rfl)); exact resok_nil) (by ((repeat (first | (apply subl_cons; (focus ((iterate 9 (try (first | exact pick0 | apply pickS))); done))) | apply subl_nilown)); first | exact subl_nil | exact subl_refl)) ?_)
      exact ⟨rfl, rfl⟩
  · rw [show xs.drop i = [] from List.drop_eq_nil_of_le (by omega)]
    by_cases hlt2 : i < ys.length
    · obtain ⟨y, hy'⟩ : ∃ y, ys[i]? = some y := ⟨_, List.getElem?_eq_getElem hlt2⟩
      rw [drop_at hy', cmpL]
      repeat' (first | (apply RW.q1; (first | ((first | apply q_move | apply q_asgn | apply q_lens | apply q_lenv | apply q_lena); exact rfl) | (apply q_add; exact rfl; exact rfl; (first | assumption | (apply w_in; simp only [inb]; omega) | exact rfl)) | (apply q_cmp; exact rfl; exact rfl; exact rfl) | (apply q_ldb; exact rfl; exact rfl; infer_instance; exact rfl) | ((first | (apply q_ldo; exact rfl; exact rfl; infer_instance) | (apply q_ldr; exact rfl; exact rfl; assumption)); (first | exact rfl | (apply ix_map; assumption; omega) | (apply ix_set; first | omega | (simp only [List.length_map]; omega)) | (apply ix_int; first | omega | (simp only [List.length_map]; omega)) | (apply ix_elem; assumption; omega) | (apply ix_fld; assumption; omega; decide) | (apply ix_id; assumption; omega))) | (apply q_ldc; exact rfl; exact rfl; assumption) | (apply q_ixo; exact rfl; infer_instance; exact rfl; omega) | (apply q_ixr; exact rfl; assumption; exact rfl; omega) | (apply q_ixb; exact rfl; exact rfl; omega) | (apply q_ixap; exact rfl; infer_instance; omega; exact rfl; omega) | (apply q_ixar; exact rfl; assumption; omega; exact rfl; omega) | (apply q_blt; exact rfl; (first | assumption | exact rfl)))) | apply RW.nil | (refine hK _ _ ?_; clear hK; (repeat' (first | apply xs_n | apply xb_e | apply xb_n | apply xs_r | apply xb_r | apply xs_e | (apply xb_o; exact rfl) | apply xs_g | apply xb_g | fail))) | ((first | apply RW.a1 | apply RW.a0); (first | (fail))) | apply CW_seq | apply CW_block | (apply CW_region; intro K hK) | ((first | apply CW_skip | apply CW_exit); (repeat' (first | apply xs_n | apply xb_e | apply xb_n | apply xs_r | apply xb_r | apply xs_e | (apply xb_o; exact rfl) | apply xs_g | apply xb_g | fail))) | (apply CW_condT; exact rfl; first | assumption | exact rfl) | (apply CW_condF; exact rfl; first | assumption | exact rfl) | (apply CW_cond; exact rfl; all_goals (intro hc; have hq := hc; (try simp only [jA, jB, jC, jD, jE, jF, jG, jH, jI, jJ, not_and, not_or] at hc); (try contradiction); (try (exfalso; omega)))) | fail)
      all_goals (refine CW_ret ?_; (repeat' (first | apply xs_n | apply xb_e | apply xb_n | apply xs_r | apply xb_r | apply xs_e | (apply xb_o; exact rfl) | apply xs_g | apply xb_g | fail)); refine bodyS_ret (L' := []) (rs := [.tmp 4]) (by kernel_rfl) (by (repeat (apply resok_tmp; exact rfl)); exact resok_nil) (by ((repeat (first | (apply subl_cons; (focus ((iterate 9 (try (first | exact pick0 | apply pickS))); done))) | apply subl_nilown)); first | exact subl_nil | exact subl_refl)) ?_)
      all_goals exact ⟨rfl, rfl⟩
    · rw [show ys.drop i = [] from List.drop_eq_nil_of_le (by omega), cmpL]
      repeat' (first | (apply RW.q1; (first | ((first | apply q_move | apply q_asgn | apply q_lens | apply q_lenv | apply q_lena); exact rfl) | (apply q_add; exact rfl; exact rfl; (first | assumption | (apply w_in; simp only [inb]; omega) | exact rfl)) | (apply q_cmp; exact rfl; exact rfl; exact rfl) | (apply q_ldb; exact rfl; exact rfl; infer_instance; exact rfl) | ((first | (apply q_ldo; exact rfl; exact rfl; infer_instance) | (apply q_ldr; exact rfl; exact rfl; assumption)); (first | exact rfl | (apply ix_map; assumption; omega) | (apply ix_set; first | omega | (simp only [List.length_map]; omega)) | (apply ix_int; first | omega | (simp only [List.length_map]; omega)) | (apply ix_elem; assumption; omega) | (apply ix_fld; assumption; omega; decide) | (apply ix_id; assumption; omega))) | (apply q_ldc; exact rfl; exact rfl; assumption) | (apply q_ixo; exact rfl; infer_instance; exact rfl; omega) | (apply q_ixr; exact rfl; assumption; exact rfl; omega) | (apply q_ixb; exact rfl; exact rfl; omega) | (apply q_ixap; exact rfl; infer_instance; omega; exact rfl; omega) | (apply q_ixar; exact rfl; assumption; omega; exact rfl; omega) | (apply q_blt; exact rfl; (first | assumption | exact rfl)))) | apply RW.nil | (refine hK _ _ ?_; clear hK; (repeat' (first | apply xs_n | apply xb_e | apply xb_n | apply xs_r | apply xb_r | apply xs_e | (apply xb_o; exact rfl) | apply xs_g | apply xb_g | fail))) | ((first | apply RW.a1 | apply RW.a0); (first | (fail))) | apply CW_seq | apply CW_block | (apply CW_region; intro K hK) | ((first | apply CW_skip | apply CW_exit); (repeat' (first | apply xs_n | apply xb_e | apply xb_n | apply xs_r | apply xb_r | apply xs_e | (apply xb_o; exact rfl) | apply xs_g | apply xb_g | fail))) | (apply CW_condT; exact rfl; first | assumption | exact rfl) | (apply CW_condF; exact rfl; first | assumption | exact rfl) | (apply CW_cond; exact rfl; all_goals (intro hc; have hq := hc; (try simp only [jA, jB, jC, jD, jE, jF, jG, jH, jI, jJ, not_and, not_or] at hc); (try contradiction); (try (exfalso; omega)))) | fail)
      all_goals (refine CW_ret ?_; (repeat' (first | apply xs_n | apply xb_e | apply xb_n | apply xs_r | apply xb_r | apply xs_e | (apply xb_o; exact rfl) | apply xs_g | apply xb_g | fail)); refine bodyS_ret (L' := []) (rs := [.tmp 4]) (by kernel_rfl) (by (repeat (apply resok_tmp; exact rfl)); exact resok_nil) (by ((repeat (first | (apply subl_cons; (focus ((iterate 9 (try (first | exact pick0 | apply pickS))); done))) | apply subl_nilown)); first | exact subl_nil | exact subl_refl)) ?_)
      all_goals exact ⟨rfl, rfl⟩
set_option maxRecDepth 100000 in
theorem or_spec (x y : Int) (a : Option Addr) (c : Nat) (H : Hp) (hx : Rs H 1 a 2 c [.int .i64 x, .int .i64 y]) :
    SC Tryd.prog 49 [.slice a 2 c] H [] (fun v M => v = .int .i64 (if x ≠ 0 then x else y) ∧ M = []) := by
  (refine SC_intro Tryd.func49 rfl (by kernel_rfl) (by rw [Tryd.ntmps49]; exact Nat.le_of_ble_eq_true rfl) ?_; simp only [Tryd.ntmps49, argE, Nat.reduceAdd])
  
  repeat' (first | (apply RW.q1; (first | ((first | apply q_move | apply q_asgn | apply q_lens | apply q_lenv | apply q_lena); exact rfl) | (apply q_add; exact rfl; exact rfl; (first | assumption | (apply w_in; simp only [inb]; omega) | exact rfl)) | (apply q_cmp; exact rfl; exact rfl; exact rfl) | (apply q_ldb; exact rfl; exact rfl; infer_instance; exact rfl) | ((first | (apply q_ldo; exact rfl; exact rfl; infer_instance) | (apply q_ldr; exact rfl; exact rfl; assumption)); (first | exact rfl | (apply ix_map; assumption; omega) | (apply ix_set; first | omega | (simp only [List.length_map]; omega)) | (apply ix_int; first | omega | (simp only [List.length_map]; omega)) | (apply ix_elem; assumption; omega) | (apply ix_fld; assumption; omega; decide) | (apply ix_id; assumption; omega))) | (apply q_ldc; exact rfl; exact rfl; assumption) | (apply q_ixo; exact rfl; infer_instance; exact rfl; omega) | (apply q_ixr; exact rfl; assumption; exact rfl; omega) | (apply q_ixb; exact rfl; exact rfl; omega) | (apply q_ixap; exact rfl; infer_instance; omega; exact rfl; omega) | (apply q_ixar; exact rfl; assumption; omega; exact rfl; omega) | (apply q_blt; exact rfl; (first | assumption | exact rfl)))) | apply RW.nil | (refine hK _ _ ?_; clear hK; (repeat' (first | apply xs_n | apply xb_e | apply xb_n | apply xs_r | apply xb_r | apply xs_e | (apply xb_o; exact rfl) | apply xs_g | apply xb_g | fail))) | ((first | apply RW.a1 | apply RW.a0); (first | (fail))) | apply CW_seq | apply CW_block | (apply CW_region; intro K hK) | ((first | apply CW_skip | apply CW_exit); (repeat' (first | apply xs_n | apply xb_e | apply xb_n | apply xs_r | apply xb_r | apply xs_e | (apply xb_o; exact rfl) | apply xs_g | apply xb_g | fail))) | (apply CW_condT; exact rfl; first | assumption | exact rfl) | (apply CW_condF; exact rfl; first | assumption | exact rfl) | (apply CW_cond; exact rfl; all_goals (intro hc; have hq := hc; (try simp only [jA, jB, jC, jD, jE, jF, jG, jH, jI, jJ, not_and, not_or] at hc); (try contradiction); (try (exfalso; omega)))) | fail)
  refine CW_loop (fun m l L => ∃ (i : Nat), m = 2 - i ∧ l = [(3, true, .int .i64 0), (6, true, .slice a 2 c), (7, true, .int .i64 2), (8, true, .int .i64 (i : Nat))] ∧ L = [] ∧ i ≤ 2 ∧ (1 ≤ i → x = 0) ∧ (2 ≤ i → y = 0))
    ⟨_, _, _, ⟨0, rfl, rfl, rfl, by omega, by omega, by omega⟩, by ((repeat (first | (apply subE_cons; exact rfl) | (apply subE_cons; apply look_int; exact rfl; omega))); exact subE_nil _), by ((repeat (first | (apply subl_cons; (focus ((iterate 9 (try (first | exact pick0 | apply pickS))); done))) | apply subl_nilown)); first | exact subl_nil | exact subl_refl)⟩ ?_
  rintro m l L ⟨i, rfl, rfl, rfl, h1, h2, h3⟩
  rcases (show i = 0 ∨ i = 1 ∨ i = 2 by omega) with rfl | rfl | rfl
  · repeat' (first | (apply RW.q1; (first | (apply q_ldr; exact rfl; exact rfl; exact hx; exact rfl) | (first | ((first | apply q_move | apply q_asgn | apply q_lens | apply q_lenv | apply q_lena); exact rfl) | (apply q_add; exact rfl; exact rfl; (first | assumption | (apply w_in; simp only [inb]; omega) | exact rfl)) | (apply q_cmp; exact rfl; exact rfl; exact rfl) | (apply q_ldb; exact rfl; exact rfl; infer_instance; exact rfl) | ((first | (apply q_ldo; exact rfl; exact rfl; infer_instance) | (apply q_ldr; exact rfl; exact rfl; assumption)); (first | exact rfl | (apply ix_map; assumption; omega) | (apply ix_set; first | omega | (simp only [List.length_map]; omega)) | (apply ix_int; first | omega | (simp only [List.length_map]; omega)) | (apply ix_elem; assumption; omega) | (apply ix_fld; assumption; omega; decide) | (apply ix_id; assumption; omega))) | (apply q_ldc; exact rfl; exact rfl; assumption) | (apply q_ixo; exact rfl; infer_instance; exact rfl; omega) | (apply q_ixr; exact rfl; assumption; exact rfl; omega) | (apply q_ixb; exact rfl; exact rfl; omega) | (apply q_ixap; exact rfl; infer_instance; omega; exact rfl; omega) | (apply q_ixar; exact rfl; assumption; omega; exact rfl; omega) | (apply q_blt; exact rfl; (first | assumption | exact rfl))))) | apply RW.nil | (refine hK _ _ ?_; clear hK; (repeat' (first | apply xs_n | apply xb_e | apply xb_n | apply xs_r | apply xb_r | apply xs_e | (apply xb_o; exact rfl) | apply xs_g | apply xb_g | fail))) | ((first | apply RW.a1 | apply RW.a0); (first | (fail))) | apply CW_seq | apply CW_block | (apply CW_region; intro K hK) | ((first | apply CW_skip | apply CW_exit); (repeat' (first | apply xs_n | apply xb_e | apply xb_n | apply xs_r | apply xb_r | apply xs_e | (apply xb_o; exact rfl) | apply xs_g | apply xb_g | fail))) | (apply CW_condT; exact rfl; first | assumption | exact rfl) | (apply CW_condF; exact rfl; first | assumption | exact rfl) | (apply CW_cond; exact rfl; all_goals (intro hc; have hq := hc; (try simp only [jA, jB, jC, jD, jE, jF, jG, jH, jI, jJ, not_and, not_or] at hc); (try contradiction); (try (exfalso; omega)))) | fail)
    · (refine CW_ret ?_; (repeat' (first | apply xs_n | apply xb_e | apply xb_n | apply xs_r | apply xb_r | apply xs_e | (apply xb_o; exact rfl) | apply xs_g | apply xb_g | fail)); refine bodyS_ret (L' := []) (rs := [.tmp 2]) (by kernel_rfl) (by (repeat (apply resok_tmp; exact rfl)); exact resok_nil) (by ((repeat (first | (apply subl_cons; (focus ((iterate 9 (try (first | exact pick0 | apply pickS))); done))) | apply subl_nilown)); first | exact subl_nil | exact subl_refl)) ?_)
      refine ⟨ret_i64 ?_, rfl⟩
      rw [if_pos (by omega)]
    · exact ⟨_, _, _, ⟨1, rfl, rfl, rfl, by omega, by omega, by omega⟩, by ((repeat (first | (apply subE_cons; exact rfl) | (apply subE_cons; apply look_int; exact rfl; omega))); exact subE_nil _), by ((repeat (first | (apply subl_cons; (focus ((iterate 9 (try (first | exact pick0 | apply pickS))); done))) | apply subl_nilown)); first | exact subl_nil | exact subl_refl), by omega⟩
  · repeat' (first | (apply RW.q1; (first | (apply q_ldr; exact rfl; exact rfl; exact hx; exact rfl) | (first | ((first | apply q_move | apply q_asgn | apply q_lens | apply q_lenv | apply q_lena); exact rfl) | (apply q_add; exact rfl; exact rfl; (first | assumption | (apply w_in; simp only [inb]; omega) | exact rfl)) | (apply q_cmp; exact rfl; exact rfl; exact rfl) | (apply q_ldb; exact rfl; exact rfl; infer_instance; exact rfl) | ((first | (apply q_ldo; exact rfl; exact rfl; infer_instance) | (apply q_ldr; exact rfl; exact rfl; assumption)); (first | exact rfl | (apply ix_map; assumption; omega) | (apply ix_set; first | omega | (simp only [List.length_map]; omega)) | (apply ix_int; first | omega | (simp only [List.length_map]; omega)) | (apply ix_elem; assumption; omega) | (apply ix_fld; assumption; omega; decide) | (apply ix_id; assumption; omega))) | (apply q_ldc; exact rfl; exact rfl; assumption) | (apply q_ixo; exact rfl; infer_instance; exact rfl; omega) | (apply q_ixr; exact rfl; assumption; exact rfl; omega) | (apply q_ixb; exact rfl; exact rfl; omega) | (apply q_ixap; exact rfl; infer_instance; omega; exact rfl; omega) | (apply q_ixar; exact rfl; assumption; omega; exact rfl; omega) | (apply q_blt; exact rfl; (first | assumption | exact rfl))))) | apply RW.nil | (refine hK _ _ ?_; clear hK; (repeat' (first | apply xs_n | apply xb_e | apply xb_n | apply xs_r | apply xb_r | apply xs_e | (apply xb_o; exact rfl) | apply xs_g | apply xb_g | fail))) | ((first | apply RW.a1 | apply RW.a0); (first | (fail))) | apply CW_seq | apply CW_block | (apply CW_region; intro K hK) | ((first | apply CW_skip | apply CW_exit); (repeat' (first | apply xs_n | apply xb_e | apply xb_n | apply xs_r | apply xb_r | apply xs_e | (apply xb_o; exact rfl) | apply xs_g | apply xb_g | fail))) | (apply CW_condT; exact rfl; first | assumption | exact rfl) | (apply CW_condF; exact rfl; first | assumption | exact rfl) | (apply CW_cond; exact rfl; all_goals (intro hc; have hq := hc; (try simp only [jA, jB, jC, jD, jE, jF, jG, jH, jI, jJ, not_and, not_or] at hc); (try contradiction); (try (exfalso; omega)))) | fail)
    · (refine CW_ret ?_; (repeat' (first | apply xs_n | apply xb_e | apply xb_n | apply xs_r | apply xb_r | apply xs_e | (apply xb_o; exact rfl) | apply xs_g | apply xb_g | fail)); refine bodyS_ret (L' := []) (rs := [.tmp 2]) (by kernel_rfl) (by (repeat (apply resok_tmp; exact rfl)); exact resok_nil) (by ((repeat (first | (apply subl_cons; (focus ((iterate 9 (try (first | exact pick0 | apply pickS))); done))) | apply subl_nilown)); first | exact subl_nil | exact subl_refl)) ?_)
      refine ⟨ret_i64 ?_, rfl⟩
      rw [if_neg (by omega)]
    · exact ⟨_, _, _, ⟨2, rfl, rfl, rfl, by omega, by omega, by omega⟩, by ((repeat (first | (apply subE_cons; exact rfl) | (apply subE_cons; apply look_int; exact rfl; omega))); exact subE_nil _), by ((repeat (first | (apply subl_cons; (focus ((iterate 9 (try (first | exact pick0 | apply pickS))); done))) | apply subl_nilown)); first | exact subl_nil | exact subl_refl), by omega⟩
  · repeat' (first | (apply RW.q1; (first | ((first | apply q_move | apply q_asgn | apply q_lens | apply q_lenv | apply q_lena); exact rfl) | (apply q_add; exact rfl; exact rfl; (first | assumption | (apply w_in; simp only [inb]; omega) | exact rfl)) | (apply q_cmp; exact rfl; exact rfl; exact rfl) | (apply q_ldb; exact rfl; exact rfl; infer_instance; exact rfl) | ((first | (apply q_ldo; exact rfl; exact rfl; infer_instance) | (apply q_ldr; exact rfl; exact rfl; assumption)); (first | exact rfl | (apply ix_map; assumption; omega) | (apply ix_set; first | omega | (simp only [List.length_map]; omega)) | (apply ix_int; first | omega | (simp only [List.length_map]; omega)) | (apply ix_elem; assumption; omega) | (apply ix_fld; assumption; omega; decide) | (apply ix_id; assumption; omega))) | (apply q_ldc; exact rfl; exact rfl; assumption) | (apply q_ixo; exact rfl; infer_instance; exact rfl; omega) | (apply q_ixr; exact rfl; assumption; exact rfl; omega) | (apply q_ixb; exact rfl; exact rfl; omega) | (apply q_ixap; exact rfl; infer_instance; omega; exact rfl; omega) | (apply q_ixar; exact rfl; assumption; omega; exact rfl; omega) | (apply q_blt; exact rfl; (first | assumption | exact rfl)))) | apply RW.nil | (refine hK _ _ ?_; clear hK; (repeat' (first | apply xs_n | apply xb_e | apply xb_n | apply xs_r | apply xb_r | apply xs_e | (apply xb_o; exact rfl) | apply xs_g | apply xb_g | fail))) | ((first | apply RW.a1 | apply RW.a0); (first | (fail))) | apply CW_seq | apply CW_block | (apply CW_region; intro K hK) | ((first | apply CW_skip | apply CW_exit); (repeat' (first | apply xs_n | apply xb_e | apply xb_n | apply xs_r | apply xb_r | apply xs_e | (apply xb_o; exact rfl) | apply xs_g | apply xb_g | fail))) | (apply CW_condT; exact rfl; first | assumption | exact rfl) | (apply CW_condF; exact rfl; first | assumption | exact rfl) | (apply CW_cond; exact rfl; all_goals (intro hc; have hq := hc; (try simp only [jA, jB, jC, jD, jE, jF, jG, jH, jI, jJ, not_and, not_or] at hc); (try contradiction); (try (exfalso; omega)))) | fail)
    (refine CW_ret ?_; (repeat' (first | apply xs_n | apply xb_e | apply xb_n | apply xs_r | apply xb_r | apply xs_e | (apply xb_o; exact rfl) | apply xs_g | apply xb_g | fail)); refine bodyS_ret (L' := []) (rs := [.tmp 2]) (by kernel_rfl) (by (repeat (apply resok_tmp; exact rfl)); exact resok_nil) (by ((repeat (first | (apply subl_cons; (focus ((iterate 9 (try (first | exact pick0 | apply pickS))); done))) | apply subl_nilown)); first | exact subl_nil | exact subl_refl)) ?_)
    refine ⟨ret_i64 ?_, rfl⟩
    rw [if_neg (by omega)]; omega
theorem strcmp_spec (a b : ByteArray) (H : Hp) : SC Tryd.prog 51 [.string a, .string b] H [] (fun v M => v = .int .i64 (cmpL (bytesI a) (bytesI b)) ∧ M = []) :=
  SC_same (fun Ω w fw => Tryd.strings_Compare a b w) ⟨by rw [compareBytes_eq]; rfl, rfl⟩ subl_nil
theorem runesF_spec (s : ByteArray) (H : Hp) (hT : TabsH H) (hs : s.size ≤ 2097152) :
    SC Tryd.prog 35 [.string s, .bool false] H [] (fun v M => ∃ a c, v = .slice a (rl s).length c ∧ M = [.own 21 1 a (rl s).length c ((rl s).map (Value.int .i32))]) := by
  have hl : (rl s).length = (rns s).length := by unfold rl; rw [List.length_map]
  rw [hl, ← rl_own]
  exact runes_spec s false H hT hs
set_option maxRecDepth 100000 in
theorem sort1_spec (a b : ByteArray) (H : Hp) (hT : TabsH H) (ha : a.size ≤ 1048576) (hb : b.size ≤ 1048576) :
    SC Tryd.prog 48 [.string a, .string b] H [] (fun v M => v = .int .i64 (cmpN a b) ∧ M = []) := by
  have la : (rl a).length ≤ 1048576 := by unfold rl; rw [List.length_map]; have := rns_le a; omega
  have lb : (rl b).length ≤ 1048576 := by unfold rl; rw [List.length_map]; have := rns_le b; omega
  have h1 := cmpL_rg (rl a) (rl b)
  have h2 := cmpL_rg (bytesI a) (bytesI b)
  (refine SC_intro Tryd.func48 rfl (by kernel_rfl) (by rw [Tryd.ntmps48]; exact Nat.le_of_ble_eq_true rfl) ?_; simp only [Tryd.ntmps48, argE, Nat.reduceAdd])
  repeat' (first | (apply RW.q1; (first | ((first | apply q_move | apply q_asgn); exact rfl) | (apply q_bld; exact rfl; (first | assumption)))) | apply RW.nil | (refine hK _ _ ?_; clear hK; (repeat' (first | apply xs_n | apply xb_e | apply xb_n | apply xs_r | apply xb_r | apply xs_e | (apply xb_o; exact rfl) | apply xs_g | apply xb_g | fail))) | (apply RW.c1; (first | (apply nw_call; exact rfl; exact go50; (intro G hG; exact (compare_spec (rl a) (rl b) _ _ _ _ G (sl_own (by (focus ((iterate 9 (try (first | exact pick0 | apply pickS))); done))) hG) (sl_own (by (focus ((iterate 9 (try (first | exact pick0 | apply pickS))); done))) hG) (by omega) (by omega)).mono (fun v M h => h.1))) | (apply nw_call; exact rfl; exact go51; (intro G hG; exact (strcmp_spec a b _).mono (fun v M h => h.1))) | (apply nw_call; exact rfl; exact go49; (intro G hG; exact (or_spec _ _ _ _ G (sl_own (by (focus ((iterate 9 (try (first | exact pick0 | apply pickS))); done))) hG)).mono (fun v M h => h.1))))) | ((first | apply RW.a1 | apply RW.a0); (first | (refine gw_call rfl go35 (fun G hG => SC.mono (runesF_spec a G (hT.ext hG.ext) (by omega)) ?_); rintro v M ⟨x, cx, rfl, rfl⟩; (try dsimp only [List.nil_append, List.cons_append])) | (refine gw_call rfl go35 (fun G hG => SC.mono (runesF_spec b G (hT.ext hG.ext) (by omega)) ?_); rintro v M ⟨y, cy, rfl, rfl⟩; (try dsimp only [List.nil_append, List.cons_append])) | (apply gw_lit1; exact rfl; exact rfl; exact rfl; exact rfl; decide; intro b) | (apply gw_lit2; exact rfl; exact rfl; exact rfl; exact rfl; intro b) | (apply gw_lit3; exact rfl; exact rfl; exact rfl; exact rfl; exact rfl; intro b) | (fail))) | apply CW_seq | apply CW_block | (apply CW_region; intro K hK) | ((first | apply CW_skip | apply CW_exit); (repeat' (first | apply xs_n | apply xb_e | apply xb_n | apply xs_r | apply xb_r | apply xs_e | (apply xb_o; exact rfl) | apply xs_g | apply xb_g | fail))) | (apply CW_condT; exact rfl; first | assumption | exact rfl) | (apply CW_condF; exact rfl; first | assumption | exact rfl) | (apply CW_cond; exact rfl; all_goals (intro hc; have hq := hc; (try simp only [jA, jB, jC, jD, jE, jF, jG, jH, jI, jJ, not_and, not_or] at hc); (try contradiction); (try (exfalso; omega)))) | fail)
  (refine CW_ret ?_; (repeat' (first | apply xs_n | apply xb_e | apply xb_n | apply xs_r | apply xb_r | apply xs_e | (apply xb_o; exact rfl) | apply xs_g | apply xb_g | fail)); refine bodyS_ret (L' := []) (rs := [.tmp 4]) (by kernel_rfl) (by (repeat (apply resok_tmp; exact rfl)); exact resok_nil) (by ((repeat (first | (apply subl_cons; (focus ((iterate 9 (try (first | exact pick0 | apply pickS))); done))) | apply subl_nilown)); first | exact subl_nil | exact subl_refl)) ?_)
  exact ⟨rfl, rfl⟩
end Go.Proofs.YtmgjmjhnhgnfcaaDoor.HL
