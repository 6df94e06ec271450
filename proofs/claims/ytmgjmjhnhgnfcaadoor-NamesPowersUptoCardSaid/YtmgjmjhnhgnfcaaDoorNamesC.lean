/- NamesC: names.word: the longest word with which a text begins, what the program computes. Conditions: the text's length; the library's tables stand. -/
import Derived.Test.YtmgjmjhnhgnfcaaDoorNamesB
import Derived.Test.YtmgjmjhnhgnfcaaDoorLibB
namespace Go.Proofs.YtmgjmjhnhgnfcaaDoor.HL
open Go
attribute [local irreducible] goFn thenS blockS bodyS CW RW DW GW QW NW SC Pick Picks SubL Rd NN ResOk SrcW subE hops hseg AW hgen HC qv
set_option linter.unusedVariables false
set_option linter.unusedSimpArgs false

/-! the words -/
def cls (x : Rn) : Int := if brk x then 0 else classF x.r
def frst (f : Int) (x : Rn) : Int := if f < 0 then foldedF x.r else f
def moreP (f : Int) (x : Rn) : Prop := (f < 0 ∧ (cls x = 1 ∨ cls x = 4)) ∨ (0 ≤ f ∧ cls x = 1 ∧ (f = 176 ∨ classF f = 1)) ∨ (0 ≤ f ∧ cls x = 2 ∧ classF f = 1)
instance (f : Int) (x : Rn) : Decidable (moreP f x) := by unfold moreP; infer_instance
def wgo (f : Int) : List Rn → Nat
  | [] => 0
  | x :: xs => if moreP f x then 1 + wgo (frst f x) xs else 0
/-- the bytes of folded runes -/
def toldB (l : List Rn) : List UInt8 := l.flatMap fun x => enc (foldedF x.r)
/-- where the n-th rune begins -/
def posOf (s : ByteArray) (l : List Rn) (n : Nat) : Nat := match l.drop n with | x :: _ => x.p | [] => s.size
theorem toldB_snoc (l : List Rn) (x : Rn) : toldB (l ++ [x]) = toldB l ++ enc (foldedF x.r) := by simp [toldB]
theorem enc_len (r : Int) : (enc r).length ≤ 4 := by
  unfold enc Utf8.encode
  simp only
  repeat' split
  all_goals simp
theorem toldB_len (l : List Rn) : (toldB l).length ≤ 4 * l.length := by
  unfold toldB
  induction l with
  | nil => simp
  | cons x l ih => rw [List.flatMap_cons, List.length_append, List.length_cons]; have := enc_len (foldedF x.r); omega
theorem class_fold {r : Int} (h : classF r ≠ 0) : 0 ≤ foldedF r ∧ foldedF r < 0xd800 := by
  unfold classF classG letterP raisedP signP at h
  by_cases h0 : 0 ≤ foldedF r ∧ foldedF r < 0xd800
  · exact h0
  · exfalso; apply h
    repeat' split
    all_goals omega
theorem posOf_at {s : ByteArray} {p : Nat} (dn : List Rn) (h : p ≤ s.size) : posOf s (dn ++ rnFrom s p) dn.length = p := by
  unfold posOf
  rw [List.drop_left]
  by_cases hp : p < s.size
  · rw [rnFrom_lt hp]
  · rw [rnFrom_ge hp]; show s.size = p; omega


set_option maxHeartbeats 1000000 in
set_option maxRecDepth 100000 in
theorem word_spec (s : ByteArray) (H : Hp) (hT : TabsH H) (hs : s.size ≤ 1048576) :
    SC Tryd.prog 39 [.string s] H [] (fun v M => v = .tuple #[.string (bstr (toldB ((rns s).take (wgo (-1) (rns s))))), .int .i64 (posOf s (rns s) (wgo (-1) (rns s)))] ∧ M = []) := by
  (refine SC_intro Tryd.func39 rfl (by kernel_rfl) (by rw [Tryd.ntmps39]; exact Nat.le_of_ble_eq_true rfl) ?_; simp only [Tryd.ntmps39, argE, Nat.reduceAdd])
  repeat' (first | ((first | apply RW.q1 | (apply RW.qg; (first | exact gv_1 rfl rfl | exact gv_0 rfl rfl | exact gv_1g rfl rfl | exact gv_0g rfl rfl); (intro hg; have hg' := hg; (try simp only [jC, jD, jA, jB, jE, jG, jF, jH] at hg')))); (first | ((first | apply q_move | apply q_asgn | apply q_lens | apply q_lenv | apply q_lena); (first | exact rfl | (apply ev_g; exact rfl; first | assumption | (focus (simp_all; done))))) | (apply q_cmp; (first | exact rfl | (apply ev_g; exact rfl; first | assumption | (focus (simp_all; done)))); (first | exact rfl | (apply ev_g; exact rfl; first | assumption | (focus (simp_all; done)))); exact rfl) | (apply q_ext; (first | exact rfl | (apply ev_g; exact rfl; first | assumption | (focus (simp_all; done)))); exact rfl) | ((first | apply q_and | apply q_or); (first | exact rfl | (apply ev_g; exact rfl; first | assumption | (focus (simp_all; done)))); (first | exact rfl | exact ev_t rfl | (apply ev_p; exact rfl; intro h; first | exact h | (focus (simp_all; done)) | (simp only [jC, jD, jA, jE, jB, jG, jH] at h ⊢; omega) | (exfalso; simp only [jC, jA] at h; omega)))) | (apply q_pickT; (first | exact rfl | (apply ev_g; exact rfl; first | assumption | (focus (simp_all; done)))); assumption; (first | exact rfl | (apply ev_g; exact rfl; first | assumption | (focus (simp_all; done)))); exact ⟨_, rfl⟩) | (apply q_pickF; (first | exact rfl | (apply ev_g; exact rfl; first | assumption | (focus (simp_all; done)))); assumption; (first | exact rfl | (apply ev_g; exact rfl; first | assumption | (focus (simp_all; done)))); exact ⟨_, rfl⟩) | (apply q_pick; (first | exact rfl | (apply ev_g; exact rfl; first | assumption | (focus (simp_all; done)))); (first | exact rfl | exact ev_t rfl | (apply ev_p; exact rfl; intro h; first | exact h | (focus (simp_all; done)) | (simp only [jC, jD, jA, jE, jB, jG, jH] at h ⊢; omega) | (exfalso; simp only [jC, jA] at h; omega))); (first | exact rfl | exact ev_t rfl | (apply ev_p; exact rfl; intro h; first | exact h | (focus (simp_all; done)) | (simp only [jC, jD, jA, jE, jB, jG, jH] at h ⊢; omega) | (exfalso; simp only [jC, jA] at h; omega)))) | (apply q_str; (first | exact rfl | (apply ev_g; exact rfl; first | assumption | (focus (simp_all; done)))); exact rfl; exact rfl; (first | (apply bnd_lo <;> omega) | (apply bnd_hi <;> omega) | (apply bnd_lh <;> omega) | exact bnd_no)) | (apply q_blt; exact rfl; (first | assumption | exact rfl)))) | apply RW.nil | (refine hK _ _ ?_; clear hK; (repeat' (first | apply xs_n | apply xb_e | apply xb_n | apply xs_r | apply xb_r | apply xs_e | (apply xb_o; exact rfl) | apply xs_g | apply xb_g | fail))) | ((first | apply RW.a1 | apply RW.a0 | (apply RW.at; (apply gv_is; (first | exact gv_1 rfl rfl | exact gv_0 rfl rfl | exact gv_1g rfl rfl | exact gv_0g rfl rfl); first | assumption | exact rfl | (apply decide_eq_true; omega) | (apply decide_eq_false; omega) | (simp only [jK, jE, jF, jA, jB, jC, jD, jG, jH] <;> omega)))); (first | (apply gw_alloc; exact rfl; intro b) | (apply gw_range; exact rfl; intro it) | (fail))) | ((first | apply RW.s1 | apply RW.s0); (apply gv_is; (first | exact gv_1 rfl rfl | exact gv_0 rfl rfl | exact gv_1g rfl rfl | exact gv_0g rfl rfl); first | assumption | exact rfl | (apply decide_eq_true; omega) | (apply decide_eq_false; omega) | (simp only [jK, jE, jF, jA, jB, jC, jD, jG, jH] <;> omega))) | apply CW_seq | apply CW_block | (apply CW_region; intro K hK) | ((first | apply CW_skip | apply CW_exit); (repeat' (first | apply xs_n | apply xb_e | apply xb_n | apply xs_r | apply xb_r | apply xs_e | (apply xb_o; exact rfl) | apply xs_g | apply xb_g | fail))) | (apply CW_condT; exact rfl; first | assumption | exact rfl) | (apply CW_condF; exact rfl; first | assumption | exact rfl) | (apply CW_cond; exact rfl; all_goals (intro hc; have hq := hc; (try simp only [jA, jB, jC, jD, jE, jF, jG, jH, jI, jJ, not_and, not_or] at hc); (try contradiction))) | fail)
  have fin : ∀ (p : Nat) (dn : List Rn), p ≤ s.size → dn ++ rnFrom s p = rns s → dn.length = wgo (-1) (rns s) →
      Value.tuple #[.string (bstr (toldB dn)), .int .i64 (p : Int)] = .tuple #[.string (bstr (toldB ((rns s).take (wgo (-1) (rns s))))), .int .i64 (posOf s (rns s) (wgo (-1) (rns s)))] := by
    intro p dn h1 h2 h3
    rw [← h3, ← h2, List.take_left, posOf_at dn h1]
  refine CW_loop (fun m l L => ∃ p f adr a n c cs dn, m = s.size - p ∧ l = [(0, true, .string s), (4, true, .pointer (some ⟨b, 0, none⟩)), (5, true, .int .i32 f), (12, true, .pointer (some ⟨it, 0, none⟩))] ∧
      L = [.box b 75 [adr, .slice a n c], .own 5 1 a n c cs, .obj it (.stringIter s p)] ∧ n = (toldB dn).length ∧ cs = u8s (toldB dn) ∧ p ≤ s.size ∧ dn ++ rnFrom s p = rns s ∧ dn.length + wgo f (rnFrom s p) = wgo (-1) (rns s) ∧ dn.length ≤ p ∧
      (adr = .pointer none ∨ adr = .pointer (some ⟨b, 0, none⟩)) ∧ (toldB dn = [] → a = none) ∧ -1 ≤ f ∧ f ≤ 2147483647)
    ⟨_, _, _, ⟨0, -1, .pointer none, none, 0, 0, _, [], rfl, rfl, rfl, rfl, rfl, Nat.zero_le _, rfl, by simp [rns], Nat.le_refl _, .inl rfl, fun _ => rfl, by omega, by omega⟩, by ((repeat (first | (apply subE_cons; exact rfl) | (apply subE_cons; apply look_int; exact rfl; omega))); exact subE_nil _), by ((repeat (first | (apply subl_cons; (focus ((iterate 9 (try (first | exact pick0 | apply pickS))); done))) | apply subl_nilown)); first | exact subl_nil | exact subl_refl)⟩ ?_
  rintro m l L ⟨p, f, adr, a, _, c, _, dn, rfl, rfl, rfl, rfl, rfl, h1, h2, h3, h4, h5, h6, h7, h8⟩
  have hlen := toldB_len dn
  have hr := rune_le s p
  have hw := width_ge s p
  repeat' (first | ((first | apply RW.q1 | (apply RW.qg; (first | exact gv_1 rfl rfl | exact gv_0 rfl rfl | exact gv_1g rfl rfl | exact gv_0g rfl rfl); (intro hg; have hg' := hg; (try simp only [jC, jD, jA, jB, jE, jG, jF, jH] at hg')))); (first | ((first | apply q_move | apply q_asgn | apply q_lens | apply q_lenv | apply q_lena); (first | exact rfl | (apply ev_g; exact rfl; first | assumption | (focus (simp_all; done))))) | (apply q_cmp; (first | exact rfl | (apply ev_g; exact rfl; first | assumption | (focus (simp_all; done)))); (first | exact rfl | (apply ev_g; exact rfl; first | assumption | (focus (simp_all; done)))); exact rfl) | (apply q_ext; (first | exact rfl | (apply ev_g; exact rfl; first | assumption | (focus (simp_all; done)))); exact rfl) | ((first | apply q_and | apply q_or); (first | exact rfl | (apply ev_g; exact rfl; first | assumption | (focus (simp_all; done)))); (first | exact rfl | exact ev_t rfl | (apply ev_p; exact rfl; intro h; first | exact h | (focus (simp_all; done)) | (simp only [jC, jD, jA, jE, jB, jG, jH] at h ⊢; omega) | (exfalso; simp only [jC, jA] at h; omega)))) | (apply q_pickT; (first | exact rfl | (apply ev_g; exact rfl; first | assumption | (focus (simp_all; done)))); assumption; (first | exact rfl | (apply ev_g; exact rfl; first | assumption | (focus (simp_all; done)))); exact ⟨_, rfl⟩) | (apply q_pickF; (first | exact rfl | (apply ev_g; exact rfl; first | assumption | (focus (simp_all; done)))); assumption; (first | exact rfl | (apply ev_g; exact rfl; first | assumption | (focus (simp_all; done)))); exact ⟨_, rfl⟩) | (apply q_pick; (first | exact rfl | (apply ev_g; exact rfl; first | assumption | (focus (simp_all; done)))); (first | exact rfl | exact ev_t rfl | (apply ev_p; exact rfl; intro h; first | exact h | (focus (simp_all; done)) | (simp only [jC, jD, jA, jE, jB, jG, jH] at h ⊢; omega) | (exfalso; simp only [jC, jA] at h; omega))); (first | exact rfl | exact ev_t rfl | (apply ev_p; exact rfl; intro h; first | exact h | (focus (simp_all; done)) | (simp only [jC, jD, jA, jE, jB, jG, jH] at h ⊢; omega) | (exfalso; simp only [jC, jA] at h; omega)))) | (apply q_str; (first | exact rfl | (apply ev_g; exact rfl; first | assumption | (focus (simp_all; done)))); exact rfl; exact rfl; (first | (apply bnd_lo <;> omega) | (apply bnd_hi <;> omega) | (apply bnd_lh <;> omega) | exact bnd_no)) | (apply q_blt; exact rfl; (first | assumption | exact rfl)))) | apply RW.nil | (refine hK _ _ ?_; clear hK; (repeat' (first | apply xs_n | apply xb_e | apply xb_n | apply xs_r | apply xb_r | apply xs_e | (apply xb_o; exact rfl) | apply xs_g | apply xb_g | fail))) | (apply RW.c1; (first | (apply nw_call; exact rfl; exact go21; (intro G hG; exact (class_spec _ _ (by omega) (by omega)).mono (fun v M h => h.1))) | (apply nw_call; exact rfl; exact go42; (intro G hG; exact (folded_spec _ _).mono (fun v M h => h.1))))) | ((first | apply RW.a1 | apply RW.a0 | (apply RW.at; (apply gv_is; (first | exact gv_1 rfl rfl | exact gv_0 rfl rfl | exact gv_1g rfl rfl | exact gv_0g rfl rfl); first | assumption | exact rfl | (apply decide_eq_true; omega) | (apply decide_eq_false; omega) | (simp only [jK, jE, jF, jA, jB, jC, jD, jG, jH] <;> omega)))); (first | (apply gw_nxt; exact rfl; infer_instance; all_goals intro hlt) | (refine gw_call rfl go37 (fun G hG => SC.mono (dec_at s p G (hT.ext hG.ext) hlt) ?_); rintro v M ⟨rfl, rfl⟩; (try dsimp only [List.nil_append, List.cons_append])) | (refine gw_call ?_ go37 (fun G hG => SC.mono (dec_at s p G (hT.ext hG.ext) hlt) ?_); ((repeat (apply evs_c; (first | exact rfl | (apply ev_g; exact rfl; first | assumption | (focus (simp_all; done)))))); exact evs_n); rintro v M ⟨rfl, rfl⟩; (try dsimp only [List.nil_append, List.cons_append])) | (refine gw_callc (M := [.box b 75 [adr, .slice a (toldB dn).length c], .own 5 1 a (toldB dn).length c (u8s (toldB dn))]) rfl go56 (by (repeat ((apply picks_cons; (focus ((iterate 9 (try (first | exact pick0 | apply pickS))); done))))); exact picks_nil) (fun G hG => SC.mono (string_spec b adr (toldB dn) a c _ h6 (by omega)) ?_); rintro v M ⟨rfl, rfl⟩; (try dsimp only [List.nil_append, List.cons_append])) | (refine gw_callc (M := [.box b 75 [adr, .slice a (toldB dn).length c], .own 5 1 a (toldB dn).length c (u8s (toldB dn))]) ?_ go56 (by (repeat ((apply picks_cons; (focus ((iterate 9 (try (first | exact pick0 | apply pickS))); done))))); exact picks_nil) (fun G hG => SC.mono (string_spec b adr (toldB dn) a c _ h6 (by omega)) ?_); ((repeat (apply evs_c; (first | exact rfl | (apply ev_g; exact rfl; first | assumption | (focus (simp_all; done)))))); exact evs_n); rintro v M ⟨rfl, rfl⟩; (try dsimp only [List.nil_append, List.cons_append])) | (apply gw_alloc; exact rfl; intro b) | (apply gw_range; exact rfl; intro it) | (fail))) | ((first | apply RW.s1 | apply RW.s0); (apply gv_is; (first | exact gv_1 rfl rfl | exact gv_0 rfl rfl | exact gv_1g rfl rfl | exact gv_0g rfl rfl); first | assumption | exact rfl | (apply decide_eq_true; omega) | (apply decide_eq_false; omega) | (simp only [jK, jE, jF, jA, jB, jC, jD, jG, jH] <;> omega))) | (apply RW.cg; (first | exact gv_1 rfl rfl | exact gv_0 rfl rfl | exact gv_1g rfl rfl | exact gv_0g rfl rfl); (intro hg; have hg' := hg; (try simp only [jC, jD, jA, jB, jE, jG, jF, jH] at hg'); first | (apply nw_call; ((repeat (apply evs_c; (first | exact rfl | (apply ev_g; exact rfl; first | assumption | (focus (simp_all; done)))))); exact evs_n); exact go21; (intro G hG; exact (class_spec _ _ (by omega) (by omega)).mono (fun v M h => h.1))) | (apply nw_call; ((repeat (apply evs_c; (first | exact rfl | (apply ev_g; exact rfl; first | assumption | (focus (simp_all; done)))))); exact evs_n); exact go42; (intro G hG; exact (folded_spec _ _).mono (fun v M h => h.1))))) | apply CW_seq | apply CW_block | (apply CW_region; intro K hK) | ((first | apply CW_skip | apply CW_exit); (repeat' (first | apply xs_n | apply xb_e | apply xb_n | apply xs_r | apply xb_r | apply xs_e | (apply xb_o; exact rfl) | apply xs_g | apply xb_g | fail))) | (apply CW_condT; exact rfl; first | assumption | exact rfl) | (apply CW_condF; exact rfl; first | assumption | exact rfl) | (apply CW_cond; exact rfl; all_goals (intro hc; have hq := hc; (try simp only [jA, jB, jC, jD, jE, jF, jG, jH, jI, jJ, not_and, not_or] at hc); (try contradiction))) | fail)
  · rw [rnFrom_ge hlt] at h2 h3
    (refine CW_ret ?_; (repeat' (first | apply xs_n | apply xb_e | apply xb_n | apply xs_r | apply xb_r | apply xs_e | (apply xb_o; exact rfl) | apply xs_g | apply xb_g | fail)); refine bodyS_ret (L' := []) (rs := [.tmp 2, .tmp 3]) (by kernel_rfl) (by (repeat (apply resok_tmp; exact rfl)); exact resok_nil) (by ((repeat (first | (apply subl_cons; (focus ((iterate 9 (try (first | exact pick0 | apply pickS))); done))) | apply subl_nilown)); first | exact subl_nil | exact subl_refl)) ?_)
    refine ⟨?_, rfl⟩
    have e : s.size = p := by omega
    rw [← fin p dn h1 (by rw [rnFrom_ge hlt]; exact h2) h3, ← e]; rfl
  all_goals
    have hrn := rnFrom_lt hlt
    rw [hrn] at h2 h3
    have hcl : cls ⟨(Utf8.decode s p).1, p, (Utf8.decode s p).2⟩ = if ((Utf8.decode s p).1 : Int) = 65533 ∧ ((Utf8.decode s p).2 : Int) < 2 then 0 else classF (Utf8.decode s p).1 := by
      unfold cls brk
      by_cases q : (Utf8.decode s p).1 = 65533 ∧ (Utf8.decode s p).2 < 2
      · rw [if_pos (by simp [q.1, q.2]), if_pos (by omega)]
      · rw [if_neg (by simpa [jC] using q), if_neg (by omega)]
  all_goals first
    | (have hst : ¬ moreP f ⟨(Utf8.decode s p).1, p, (Utf8.decode s p).2⟩ := by
         unfold moreP; rw [hcl]; split <;> omega
       (refine CW_ret ?_; (repeat' (first | apply xs_n | apply xb_e | apply xb_n | apply xs_r | apply xb_r | apply xs_e | (apply xb_o; exact rfl) | apply xs_g | apply xb_g | fail)); refine bodyS_ret (L' := []) (rs := [.tmp 2, .tmp 3]) (by kernel_rfl) (by (repeat (apply resok_tmp; exact rfl)); exact resok_nil) (by ((repeat (first | (apply subl_cons; (focus ((iterate 9 (try (first | exact pick0 | apply pickS))); done))) | apply subl_nilown)); first | exact subl_nil | exact subl_refl)) ?_)
       refine ⟨?_, rfl⟩
       rw [← fin p dn h1 (by rw [hrn]; exact h2) (by rw [← h3, wgo, if_neg hst]; rfl)]; rfl)
    | skip
  all_goals
    have hne : classF (Utf8.decode s p).1 ≠ 0 := by omega
    have hmo : moreP f ⟨(Utf8.decode s p).1, p, (Utf8.decode s p).2⟩ := by
      unfold moreP; rw [hcl]; split <;> omega
    have hfo := class_fold hne
    apply RW.a1
    (refine gw_callc (M := [.box b 75 [adr, .slice a (toldB dn).length c], .own 5 1 a (toldB dn).length c (u8s (toldB dn))]) rfl go57 (by (repeat ((apply picks_cons; (focus ((iterate 9 (try (first | exact pick0 | apply pickS))); done))))); exact picks_nil) (fun G hG => SC.mono (write_spec b adr (toldB dn) a c _ _ h5 hfo.1 hfo.2 (by omega)) ?_); rintro v M ⟨a2, c2, rfl⟩; (try dsimp only [List.nil_append, List.cons_append]))
    dsimp only [bld, List.cons_append, List.nil_append]
    repeat' (first | ((first | apply RW.q1 | (apply RW.qg; (first | exact gv_1 rfl rfl | exact gv_0 rfl rfl | exact gv_1g rfl rfl | exact gv_0g rfl rfl); (intro hg; have hg' := hg; (try simp only [jC, jD, jA, jB, jE, jG, jF, jH] at hg')))); (first | ((first | apply q_move | apply q_asgn | apply q_lens | apply q_lenv | apply q_lena); (first | exact rfl | (apply ev_g; exact rfl; first | assumption | (focus (simp_all; done))))) | (apply q_cmp; (first | exact rfl | (apply ev_g; exact rfl; first | assumption | (focus (simp_all; done)))); (first | exact rfl | (apply ev_g; exact rfl; first | assumption | (focus (simp_all; done)))); exact rfl) | (apply q_ext; (first | exact rfl | (apply ev_g; exact rfl; first | assumption | (focus (simp_all; done)))); exact rfl) | ((first | apply q_and | apply q_or); (first | exact rfl | (apply ev_g; exact rfl; first | assumption | (focus (simp_all; done)))); (first | exact rfl | exact ev_t rfl | (apply ev_p; exact rfl; intro h; first | exact h | (focus (simp_all; done)) | (simp only [jC, jD, jA, jE, jB, jG, jH] at h ⊢; omega) | (exfalso; simp only [jC, jA] at h; omega)))) | (apply q_pickT; (first | exact rfl | (apply ev_g; exact rfl; first | assumption | (focus (simp_all; done)))); assumption; (first | exact rfl | (apply ev_g; exact rfl; first | assumption | (focus (simp_all; done)))); exact ⟨_, rfl⟩) | (apply q_pickF; (first | exact rfl | (apply ev_g; exact rfl; first | assumption | (focus (simp_all; done)))); assumption; (first | exact rfl | (apply ev_g; exact rfl; first | assumption | (focus (simp_all; done)))); exact ⟨_, rfl⟩) | (apply q_pick; (first | exact rfl | (apply ev_g; exact rfl; first | assumption | (focus (simp_all; done)))); (first | exact rfl | exact ev_t rfl | (apply ev_p; exact rfl; intro h; first | exact h | (focus (simp_all; done)) | (simp only [jC, jD, jA, jE, jB, jG, jH] at h ⊢; omega) | (exfalso; simp only [jC, jA] at h; omega))); (first | exact rfl | exact ev_t rfl | (apply ev_p; exact rfl; intro h; first | exact h | (focus (simp_all; done)) | (simp only [jC, jD, jA, jE, jB, jG, jH] at h ⊢; omega) | (exfalso; simp only [jC, jA] at h; omega)))) | (apply q_str; (first | exact rfl | (apply ev_g; exact rfl; first | assumption | (focus (simp_all; done)))); exact rfl; exact rfl; (first | (apply bnd_lo <;> omega) | (apply bnd_hi <;> omega) | (apply bnd_lh <;> omega) | exact bnd_no)) | (apply q_blt; exact rfl; (first | assumption | exact rfl)))) | apply RW.nil | (refine hK _ _ ?_; clear hK; (repeat' (first | apply xs_n | apply xb_e | apply xb_n | apply xs_r | apply xb_r | apply xs_e | (apply xb_o; exact rfl) | apply xs_g | apply xb_g | fail))) | ((first | apply RW.a1 | apply RW.a0 | (apply RW.at; (apply gv_is; (first | exact gv_1 rfl rfl | exact gv_0 rfl rfl | exact gv_1g rfl rfl | exact gv_0g rfl rfl); first | assumption | exact rfl | (apply decide_eq_true; omega) | (apply decide_eq_false; omega) | (simp only [jK, jE, jF, jA, jB, jC, jD, jG, jH] <;> omega)))); (first | (apply gw_alloc; exact rfl; intro b) | (apply gw_range; exact rfl; intro it) | (fail))) | ((first | apply RW.s1 | apply RW.s0); (apply gv_is; (first | exact gv_1 rfl rfl | exact gv_0 rfl rfl | exact gv_1g rfl rfl | exact gv_0g rfl rfl); first | assumption | exact rfl | (apply decide_eq_true; omega) | (apply decide_eq_false; omega) | (simp only [jK, jE, jF, jA, jB, jC, jD, jG, jH] <;> omega))) | apply CW_seq | apply CW_block | (apply CW_region; intro K hK) | ((first | apply CW_skip | apply CW_exit); (repeat' (first | apply xs_n | apply xb_e | apply xb_n | apply xs_r | apply xb_r | apply xs_e | (apply xb_o; exact rfl) | apply xs_g | apply xb_g | fail))) | (apply CW_condT; exact rfl; first | assumption | exact rfl) | (apply CW_condF; exact rfl; first | assumption | exact rfl) | (apply CW_cond; exact rfl; all_goals (intro hc; have hq := hc; (try simp only [jA, jB, jC, jD, jE, jF, jG, jH, jI, jJ, not_and, not_or] at hc); (try contradiction))) | fail)
    rw [wgo, if_pos hmo] at h3
    have hw2 := width_in s p hlt
    have hfr : frst f ⟨(Utf8.decode s p).1, p, (Utf8.decode s p).2⟩ = if f < 0 then foldedF (Utf8.decode s p).1 else f := rfl
    refine ⟨_, _, _, ⟨p + (Utf8.decode s p).2, frst f ⟨(Utf8.decode s p).1, p, (Utf8.decode s p).2⟩, _, a2, _, c2, _, dn ++ [⟨(Utf8.decode s p).1, p, (Utf8.decode s p).2⟩], rfl, rfl, rfl, ?_, ?_, hw2, ?_, ?_, ?_, .inr rfl, ?_, ?_, ?_⟩, ?_, by ((repeat (first | (apply subl_cons; (focus ((iterate 9 (try (first | exact pick0 | apply pickS))); done))) | apply subl_nilown)); first | exact subl_nil | exact subl_refl), by omega⟩
    · rw [toldB_snoc]
    · rw [toldB_snoc]
    · rw [← h2]; simp
    · rw [List.length_append, List.length_singleton]; omega
    · rw [List.length_append, List.length_singleton]; omega
    · rw [toldB_snoc]; intro e
      have := enc_ne hfo.1 hfo.2
      exact absurd (List.append_eq_nil_iff.1 e).2 (fun e => this (by rw [e]; rfl))
    · rw [hfr]; split <;> omega
    · rw [hfr]; split <;> omega
    · rw [hfr]
      first | rw [if_pos (by omega)] | rw [if_neg (by omega)]
      ((repeat (first | (apply subE_cons; exact rfl) | (apply subE_cons; apply look_int; exact rfl; omega))); exact subE_nil _)
end Go.Proofs.YtmgjmjhnhgnfcaaDoor.HL
