/- NamesN: the laws NamesRaised and NamesPowers: they answer true. Conditions: the texts' length; the library's tables stand. -/
import Derived.Test.YtmgjmjhnhgnfcaaDoorNamesL
import Derived.Test.YtmgjmjhnhgnfcaaDoorNamesI
namespace Go.Proofs.YtmgjmjhnhgnfcaaDoor.HL
open Go
attribute [local irreducible] goFn thenS blockS bodyS CW RW DW GW QW NW SC Pick Picks SubL Rd NN ResOk SrcW subE hops hseg AW hgen HC qv
set_option linter.unusedVariables false
set_option linter.unusedSimpArgs false

/-! there and back, as a plain law -/
theorem pgo_stop2 {x : Rn} (hx : raisedF x.r < 0) (xs : List Rn) : ∀ (A : List Rn) (first : Bool) (n e : Int) (sm : Bool) (sg : Int), (A = [] → first = false) → pgo first (A ++ x :: xs) n e sm sg = pgo first A n e sm sg
  | [], first, n, e, sm, sg, h => by
    have := h rfl; subst this
    rw [List.nil_append, pgo_cons, if_neg (fun h => by cases h.1), if_pos hx, pgo_nil]
  | y :: ys, first, n, e, sm, sg, _ => by
    rw [List.cons_append, pgo_cons, pgo_cons]
    split
    · exact pgo_stop2 hx xs ys false n e sm _ (fun _ => rfl)
    · split
      · rfl
      · exact pgo_stop2 hx xs ys false _ _ true sg (fun _ => rfl)
theorem raised_all : ∀ k : Fin 199, powQ (pgo true (wr 0 (raiseR ((k.val : Int) - 99))) 0 0 false 1) = ((k.val : Int) - 99, (((raiseR ((k.val : Int) - 99)).flatMap enc).length : Int), 0) ∧ (∀ r ∈ raiseR ((k.val : Int) - 99), 0 ≤ r ∧ r < 0xd800) ∧ ((raiseR ((k.val : Int) - 99)).flatMap enc).length ≤ 9 ∧ raiseR ((k.val : Int) - 99) ≠ [] := by decide +kernel
theorem raised_at {m : Int} (h0 : -99 ≤ m) (h1 : m ≤ 99) : powQ (pgo true (wr 0 (raiseR m)) 0 0 false 1) = (m, (((raiseR m).flatMap enc).length : Int), 0) ∧ (∀ r ∈ raiseR m, okR r) ∧ ((raiseR m).flatMap enc).length ≤ 9 ∧ raiseR m ≠ [] := by
  have := raised_all ⟨(m + 99).toNat, by omega⟩
  have e : (((⟨(m + 99).toNat, by omega⟩ : Fin 199).val : Nat) : Int) - 99 = m := by show (((m + 99).toNat : Nat) : Int) - 99 = m; omega
  rw [e] at this
  exact this
theorem powT_of (T : ByteArray) : powT T 0 = powQ (pgo true (rns T) 0 0 false 1) := by
  unfold powT
  rw [if_neg (by omega)]
  congr 2
  have : T.extract (0 : Int).toNat T.size = T := by
    apply ByteArray.ext; apply Array.toList_inj.1
    rw [extract_toList]; rfl
  rw [this]
theorem powT_raise {m : Int} (h0 : -99 ≤ m) (h1 : m ≤ 99) : powT (runesBytes (raiseR m)) 0 = (m, ((runesBytes (raiseR m)).size : Int), 0) ∧ (runesBytes (raiseR m)).size ≤ 9 ∧
    ∀ t : ByteArray, powT (runesBytes (raiseR m) ++ ⟨#[109]⟩ ++ t) 0 = (m, ((runesBytes (raiseR m)).size : Int), 0) := by
  obtain ⟨q1, q2, q3, q4⟩ := raised_at h0 h1
  have ht : (runesBytes (raiseR m)).data.toList = (raiseR m).flatMap enc := by rw [runesBytes_eq]; simp [bstr]
  have hsz : (runesBytes (raiseR m)).size = ((raiseR m).flatMap enc).length := by rw [runesBytes_eq, bstr_size]
  have hw := rnL_wr (raiseR m) 0
  refine ⟨?_, by omega, fun t => ?_⟩
  · rw [powT_of, rns_L, ht]
    have := hw [] q2
    rw [List.append_nil, rnL_nil, List.append_nil] at this
    rw [this, q1, hsz]
  · rw [powT_of, rns_L, ByteArray.data_append, ByteArray.data_append, Array.toList_append, Array.toList_append, ht, List.append_assoc, hw _ q2]
    have e1 : rnL (0 + ((raiseR m).flatMap enc).length) ((#[109] : Array UInt8).toList ++ t.data.toList) = ⟨109, 0 + ((raiseR m).flatMap enc).length, 1⟩ :: rnL (0 + ((raiseR m).flatMap enc).length + 1) t.data.toList := by
      have := rnL_enc (r := 109) ⟨by decide, by decide⟩ (0 + ((raiseR m).flatMap enc).length) t.data.toList
      exact this
    rw [e1, pgo_stop2 (by show raisedF (109 : Nat) < 0; decide) _ _ _ _ _ _ _ (fun h => absurd (by have := congrArg List.length h; rw [wr_length] at this; exact List.eq_nil_of_length_eq_zero this) q4), q1, hsz]

set_option maxRecDepth 100000 in
theorem raised_law (n : Int) (b : ByteArray) (H : Hp) (hT : TabsH H) (hn0 : -9223372036854775808 ≤ n) (hn1 : n ≤ 9223372036854775807) (hb : b.size ≤ 1048576) :
    SC Tryd.prog 8 [.int .i64 n, .string b] H [] (fun v M => v = .bool true) := by
  have hm : -99 ≤ n.tmod 100 ∧ n.tmod 100 ≤ 99 := by
    have h1 := Int.lt_tmod_of_pos n (b := 100) (by decide)
    have h2 := Int.tmod_lt_of_pos n (b := 100) (by decide)
    omega
  obtain ⟨h1, h2, h3⟩ := powT_raise hm.1 hm.2
  have hR : raiseT (n.tmod 100) = (runesBytes (raiseR (n.tmod 100)), 0) := by unfold raiseT; rw [if_neg (by omega)]
  have hrs := fun H => raise_spec (n.tmod 100) H
  rw [hR] at hrs
  have h3 := h3 b
  generalize runesBytes (raiseR (n.tmod 100)) = T at *
  generalize hmm : n.tmod 100 = m at *
  have hA1 : (ByteArray.mk #[109]).size = 1 := rfl
  have hA2 : (T ++ ByteArray.mk #[109]).size = T.size + 1 := by rw [ByteArray.size_append, hA1]
  (refine SC_intro Tryd.func8 rfl (by kernel_rfl) (by rw [Tryd.ntmps8]; exact Nat.le_of_ble_eq_true rfl) ?_; simp only [Tryd.ntmps8, argE, Nat.reduceAdd])
  
  repeat' (first | ((first | apply RW.q1 | (apply RW.qg; (first | exact gv_1 rfl rfl | exact gv_0 rfl rfl | exact gv_1g rfl rfl | exact gv_0g rfl rfl); (intro hg; have hg' := hg; (try simp only [Bool.and_eq_true, Bool.or_eq_true, decide_eq_true_eq, decide_eq_false_iff_not, Bool.not_eq_true', Bool.and_eq_false_iff, Bool.not_eq_false', Bool.or_eq_false_iff] at hg')))); (first | (apply q_rem; exact rfl; exact rfl; omega; exact hmm) | (first | ((first | apply q_move | apply q_asgn | apply q_lens | apply q_lenv | apply q_lena); (first | exact rfl | (apply ev_g; exact rfl; first | assumption | (focus (simp_all; done))))) | (apply q_cmp; (first | exact rfl | (apply ev_g; exact rfl; first | assumption | (focus (simp_all; done)))); (first | exact rfl | (apply ev_g; exact rfl; first | assumption | (focus (simp_all; done)))); exact rfl) | (apply q_ext; (first | exact rfl | (apply ev_g; exact rfl; first | assumption | (focus (simp_all; done)))); exact rfl) | ((first | apply q_and | apply q_or); (first | exact rfl | (apply ev_g; exact rfl; first | assumption | (focus (simp_all; done)))); (first | exact rfl | exact ev_t rfl | (apply ev_p; exact rfl; intro h; first | exact h | (focus (simp_all; done)) | (simp only [Bool.and_eq_true, Bool.or_eq_true, decide_eq_true_eq, Bool.not_eq_true', decide_eq_false_iff_not, Bool.and_eq_false_iff, Bool.or_eq_false_iff] at h ⊢; omega) | (exfalso; simp only [Bool.and_eq_true, decide_eq_true_eq] at h; omega)))) | (apply q_pickT; (first | exact rfl | (apply ev_g; exact rfl; first | assumption | (focus (simp_all; done)))); assumption; (first | exact rfl | (apply ev_g; exact rfl; first | assumption | (focus (simp_all; done)))); exact ⟨_, rfl⟩) | (apply q_pickF; (first | exact rfl | (apply ev_g; exact rfl; first | assumption | (focus (simp_all; done)))); assumption; (first | exact rfl | (apply ev_g; exact rfl; first | assumption | (focus (simp_all; done)))); exact ⟨_, rfl⟩) | (apply q_pick; (first | exact rfl | (apply ev_g; exact rfl; first | assumption | (focus (simp_all; done)))); (first | exact rfl | exact ev_t rfl | (apply ev_p; exact rfl; intro h; first | exact h | (focus (simp_all; done)) | (simp only [Bool.and_eq_true, Bool.or_eq_true, decide_eq_true_eq, Bool.not_eq_true', decide_eq_false_iff_not, Bool.and_eq_false_iff, Bool.or_eq_false_iff] at h ⊢; omega) | (exfalso; simp only [Bool.and_eq_true, decide_eq_true_eq] at h; omega))); (first | exact rfl | exact ev_t rfl | (apply ev_p; exact rfl; intro h; first | exact h | (focus (simp_all; done)) | (simp only [Bool.and_eq_true, Bool.or_eq_true, decide_eq_true_eq, Bool.not_eq_true', decide_eq_false_iff_not, Bool.and_eq_false_iff, Bool.or_eq_false_iff] at h ⊢; omega) | (exfalso; simp only [Bool.and_eq_true, decide_eq_true_eq] at h; omega)))) | (apply q_rem; (first | exact rfl | (apply ev_g; exact rfl; first | assumption | (focus (simp_all; done)))); (first | exact rfl | (apply ev_g; exact rfl; first | assumption | (focus (simp_all; done)))); omega; (first | (apply Int.tmod_eq_emod_of_nonneg; omega) | exact rfl)) | (apply q_sadd; (first | exact rfl | (apply ev_g; exact rfl; first | assumption | (focus (simp_all; done)))); (first | exact rfl | (apply ev_g; exact rfl; first | assumption | (focus (simp_all; done)))); omega) | (apply q_blt; exact rfl; (first | assumption | exact rfl))))) | apply RW.nil | (refine hK _ _ ?_; clear hK; (repeat' (first | apply xs_n | apply xb_e | apply xb_n | apply xs_r | apply xb_r | apply xs_e | (apply xb_o; exact rfl) | apply xs_g | apply xb_g | fail))) | (apply RW.c1; (first | (apply nw_call; exact rfl; exact go15; (intro G hG; exact (awake_spec G (hT.ext hG.ext)).mono (fun v M h => h.1))))) | ((first | apply RW.a1 | apply RW.a0 | (apply RW.at; (apply gv_is; (first | exact gv_1 rfl rfl | exact gv_0 rfl rfl | exact gv_1g rfl rfl | exact gv_0g rfl rfl); first | assumption | exact rfl | (apply decide_eq_true; omega) | (apply decide_eq_false; omega) | (simp only [Bool.not_not, Bool.not_eq_true', Bool.not_eq_false', decide_eq_true_eq, decide_eq_false_iff_not, Bool.and_eq_true, Bool.or_eq_true, Bool.and_eq_false_iff, Bool.or_eq_false_iff] <;> omega)))); (first | (refine gw_call rfl go25 (fun G hG => SC.mono (hrs _) ?_); rintro v M ⟨rfl, rfl⟩; (try dsimp only [List.nil_append, List.cons_append])) | (refine gw_call ?_ go25 (fun G hG => SC.mono (hrs _) ?_); ((repeat (apply evs_c; (first | exact rfl | (apply ev_g; exact rfl; first | assumption | (focus (simp_all; done)))))); exact evs_n); rintro v M ⟨rfl, rfl⟩; (try dsimp only [List.nil_append, List.cons_append])) | (refine gw_call rfl go26 (fun G hG => SC.mono (power_spec T 0 _ (by omega)) ?_); rintro v M ⟨rfl, rfl⟩; (try dsimp only [List.nil_append, List.cons_append]); rw [h1]; unfold int3) | (refine gw_call ?_ go26 (fun G hG => SC.mono (power_spec T 0 _ (by omega)) ?_); ((repeat (apply evs_c; (first | exact rfl | (apply ev_g; exact rfl; first | assumption | (focus (simp_all; done)))))); exact evs_n); rintro v M ⟨rfl, rfl⟩; (try dsimp only [List.nil_append, List.cons_append]); rw [h1]; unfold int3) | (refine gw_call rfl go26 (fun G hG => SC.mono (power_spec (T ++ ⟨#[109]⟩ ++ b) 0 _ (by simp only [ByteArray.size_append]; rw [show (ByteArray.mk #[109]).size = 1 from rfl]; omega)) ?_); rintro v M ⟨rfl, rfl⟩; (try dsimp only [List.nil_append, List.cons_append]); rw [h3]; unfold int3) | (refine gw_call ?_ go26 (fun G hG => SC.mono (power_spec (T ++ ⟨#[109]⟩ ++ b) 0 _ (by simp only [ByteArray.size_append]; rw [show (ByteArray.mk #[109]).size = 1 from rfl]; omega)) ?_); ((repeat (apply evs_c; (first | exact rfl | (apply ev_g; exact rfl; first | assumption | (focus (simp_all; done)))))); exact evs_n); rintro v M ⟨rfl, rfl⟩; (try dsimp only [List.nil_append, List.cons_append]); rw [h3]; unfold int3) | (fail))) | ((first | apply RW.s1 | apply RW.s0); (apply gv_is; (first | exact gv_1 rfl rfl | exact gv_0 rfl rfl | exact gv_1g rfl rfl | exact gv_0g rfl rfl); first | assumption | exact rfl | (apply decide_eq_true; omega) | (apply decide_eq_false; omega) | (simp only [Bool.not_not, Bool.not_eq_true', Bool.not_eq_false', decide_eq_true_eq, decide_eq_false_iff_not, Bool.and_eq_true, Bool.or_eq_true, Bool.and_eq_false_iff, Bool.or_eq_false_iff] <;> omega))) | (apply RW.cg; (first | exact gv_1 rfl rfl | exact gv_0 rfl rfl | exact gv_1g rfl rfl | exact gv_0g rfl rfl); (intro hg; have hg' := hg; (try simp only [Bool.and_eq_true, Bool.or_eq_true, decide_eq_true_eq, decide_eq_false_iff_not, Bool.not_eq_true', Bool.and_eq_false_iff, Bool.not_eq_false', Bool.or_eq_false_iff] at hg'); first | (apply nw_call; ((repeat (apply evs_c; (first | exact rfl | (apply ev_g; exact rfl; first | assumption | (focus (simp_all; done)))))); exact evs_n); exact go15; (intro G hG; exact (awake_spec G (hT.ext hG.ext)).mono (fun v M h => h.1))))) | apply CW_seq | apply CW_block | (apply CW_region; intro K hK) | ((first | apply CW_skip | apply CW_exit); (repeat' (first | apply xs_n | apply xb_e | apply xb_n | apply xs_r | apply xb_r | apply xs_e | (apply xb_o; exact rfl) | apply xs_g | apply xb_g | fail))) | (apply CW_condT; exact rfl; first | assumption | exact rfl) | (apply CW_condF; exact rfl; first | assumption | exact rfl) | (apply CW_cond; exact rfl; all_goals (intro hc; have hq := hc; (try simp only [decide_eq_true_eq, decide_eq_false_iff_not, Bool.and_eq_true, Bool.or_eq_true, Bool.not_eq_true', Bool.not_eq_false', Bool.and_eq_false_iff, Bool.or_eq_false_iff, Bool.true_eq_false, Bool.false_eq_true, not_and, not_or] at hc); (try contradiction); (try (exfalso; omega)))) | fail)
  all_goals (refine CW_ret ?_; (repeat' (first | apply xs_n | apply xb_e | apply xb_n | apply xs_r | apply xb_r | apply xs_e | (apply xb_o; exact rfl) | apply xs_g | apply xb_g | fail)); refine bodyS_ret (L' := []) (rs := [.tmp 4]) (by kernel_rfl) (by (repeat (apply resok_tmp; exact rfl)); exact resok_nil) (by ((repeat (first | (apply subl_cons; (focus ((repeat (first | exact pick0 | apply pickS)); done))) | apply subl_nilown)); first | exact subl_nil | exact subl_refl)) ?_)
  all_goals simp [resOne]
end Go.Proofs.YtmgjmjhnhgnfcaaDoor.HL
