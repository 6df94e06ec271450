/- NamesB: the runes of a text: what a range over it and the library's decoder tell; names.runes: what the program computes. Conditions: the text's length; the library's tables stand. -/
import Derived.Test.YtmgjmjhnhgnfcaaDoorNamesA
import Derived.Test.YtmgjmjhnhgnfcaaDoorShelf
import Derived.Lib.FieldsU
import Derived.Lib.TrimU
import Derived.Below
namespace Go.Proofs.YtmgjmjhnhgnfcaaDoor.HL
open Go
attribute [local irreducible] goFn thenS blockS bodyS CW RW DW GW QW NW SC Pick Picks SubL Rd NN ResOk SrcW subE hops hseg AW hgen HC qv
set_option linter.unusedVariables false
set_option linter.unusedSimpArgs false

/-- the library's tables of utf8 stand -/
def TabsH (H : Hp) : Prop :=
  (∀ c, c < 256 → H.cell? ⟨0, c, none⟩ = some (.int .u8 (Lib.firstT c))) ∧
  (∀ i, i < 16 → H.cell? ⟨1, 2 * i, none⟩ = some (.int .u8 (Lib.accLo i)) ∧ H.cell? ⟨1, 2 * i + 1, none⟩ = some (.int .u8 (Lib.accHi i)))
theorem TabsH.ext {H H' : Hp} (h : TabsH H) (hx : Ext H H') : TabsH H' :=
  ⟨fun c hc => hx.cell (h.1 c hc), fun i hi => ⟨hx.cell (h.2 i hi).1, hx.cell (h.2 i hi).2⟩⟩
theorem TabsH.fit {Ω : World} {H : Hp} {w : World} (h : TabsH H) (fw : Fit Ω H w) : Lib.Utf8Tabs 0 1 w :=
  ⟨fun c hc => fw.cell (h.1 c hc), fun i hi => ⟨fw.cell (h.2 i hi).1, fw.cell (h.2 i hi).2⟩⟩

/-! the decoder at a place -/
theorem get_extract (s : ByteArray) (p k : Nat) (hp : p ≤ s.size) : (s.extract p s.size).get! k = s.get! (p + k) := by
  have e : ∀ (b : ByteArray) (i : Nat), b.get! i = (b.data[i]?).getD default := by
    intro b i
    show b.data[i]! = _
    simp only [getElem!_def]
    cases b.data[i]? <;> rfl
  rw [e, e, ByteArray.data_extract, Array.getElem?_extract]
  have hs : s.data.size = s.size := rfl
  split
  · rfl
  · rename_i h
    rw [Array.getElem?_eq_none (by rw [hs] at *; omega)]
theorem decode_extract (s : ByteArray) (p : Nat) (hp : p ≤ s.size) : Utf8.decode (s.extract p s.size) 0 = Utf8.decode s p := by
  rw [Lib.decode_at, Lib.decode_at]
  simp only [get_extract s p _ hp, ByteArray.size_extract, Nat.min_self, Nat.sub_zero, Nat.zero_add, Nat.add_zero]
theorem decodeGo_at (s : ByteArray) (p : Nat) (hp : p < s.size) : Lib.decodeGo (s.extract p s.size) = Utf8.decode s p := by
  unfold Lib.decodeGo
  rw [if_neg (by rw [ByteArray.size_extract]; omega), decode_extract s p (by omega)]
theorem width_ge (s : ByteArray) (p : Nat) : 1 ≤ (Utf8.decode s p).2 := Lib.width_pos s p
theorem width_in (s : ByteArray) (p : Nat) (hp : p < s.size) : p + (Utf8.decode s p).2 ≤ s.size := by
  rw [Lib.decode_at]
  have := Lib.decodeN_le_n' (s.size - p) (s.get! p).toNat (s.get! (p + 1)).toNat (s.get! (p + 2)).toNat (s.get! (p + 3)).toNat (by omega)
  omega
theorem rune_le (s : ByteArray) (p : Nat) : (Utf8.decode s p).1 ≤ 1114111 := Lib.rune_le s p

/-- a rune of a text: its number, its place, its bytes -/
structure Rn where
  r : Nat
  p : Nat
  w : Nat
def rnFrom (s : ByteArray) (p : Nat) : List Rn :=
  if h : p < s.size then ⟨(Utf8.decode s p).1, p, (Utf8.decode s p).2⟩ :: rnFrom s (p + (Utf8.decode s p).2) else []
termination_by s.size - p
decreasing_by have := width_ge s p; omega
theorem rnFrom_lt {s : ByteArray} {p : Nat} (h : p < s.size) : rnFrom s p = ⟨(Utf8.decode s p).1, p, (Utf8.decode s p).2⟩ :: rnFrom s (p + (Utf8.decode s p).2) := by
  rw [rnFrom]; rw [dif_pos h]
theorem rnFrom_ge {s : ByteArray} {p : Nat} (h : ¬ p < s.size) : rnFrom s p = [] := by rw [rnFrom]; rw [dif_neg h]
def rns (s : ByteArray) : List Rn := rnFrom s 0

/-- a broken byte -/
def brk (x : Rn) : Bool := decide (x.r = 65533) && decide (x.w < 2)
/-- a rune as names.runes tells it -/
def rI (s : ByteArray) (own : Bool) (x : Rn) : Int := if own && brk x then -1 - bt s x.p else x.r
theorem bt_range (s : ByteArray) (i : Int) : 0 ≤ bt s i ∧ bt s i ≤ 255 := by
  unfold bt
  have := UInt8.toNat_lt (s.data.toList.getD i.toNat 0)
  omega


theorem dec_at (s : ByteArray) (p : Nat) (H : Hp) (hT : TabsH H) (hp : p < s.size) :
    SC Tryd.prog 37 [.string (s.extract ((p : Nat) : Int).toNat s.size)] H [] (fun v M => v = .tuple #[.int .i32 (Utf8.decode s p).1, .int .i64 (Utf8.decode s p).2] ∧ M = []) := by
  have e : ((p : Nat) : Int).toNat = p := by omega
  rw [e]
  refine SC_below (fun Ω w fw => Tryd.utf8_DecodeRuneInString _ w (hT.fit fw)) ⟨?_, rfl⟩ subl_nil
  rw [decodeGo_at s p hp]

set_option maxRecDepth 100000 in
theorem runes_spec (s : ByteArray) (own : Bool) (H : Hp) (hT : TabsH H) (hs : s.size ≤ 2097152) :
    SC Tryd.prog 35 [.string s, .bool own] H [] (fun v M => ∃ a c, v = .slice a (rns s).length c ∧ M = [.own 21 1 a (rns s).length c (((rns s).map (rI s own)).map (Value.int .i32))]) := by
  (refine SC_intro Tryd.func35 rfl (by kernel_rfl) (by rw [Tryd.ntmps35]; exact Nat.le_of_ble_eq_true rfl) ?_; simp only [Tryd.ntmps35, argE, Nat.reduceAdd])
  repeat' (first | ((first | apply RW.q1 | (apply RW.qg; (first | exact gv_1 rfl rfl | exact gv_0 rfl rfl | exact gv_1g rfl rfl | exact gv_0g rfl rfl); (intro hg; have hg' := hg; (try simp only [jC, jD, jA, jB, jE, jG, jF, jH] at hg')))); (first | ((first | apply q_move | apply q_asgn); (first | exact rfl | (apply ev_g; exact rfl; first | assumption | (focus (simp_all; done))))) | (apply q_sub; (first | exact rfl | (apply ev_g; exact rfl; first | assumption | (focus (simp_all; done)))); (first | exact rfl | (apply ev_g; exact rfl; first | assumption | (focus (simp_all; done)))); (first | assumption | (apply w_in; simp only [inb]; omega) | exact rfl)) | (apply q_cmp; (first | exact rfl | (apply ev_g; exact rfl; first | assumption | (focus (simp_all; done)))); (first | exact rfl | (apply ev_g; exact rfl; first | assumption | (focus (simp_all; done)))); exact rfl) | (apply q_ext; (first | exact rfl | (apply ev_g; exact rfl; first | assumption | (focus (simp_all; done)))); exact rfl) | ((first | apply q_and | apply q_or); (first | exact rfl | (apply ev_g; exact rfl; first | assumption | (focus (simp_all; done)))); (first | exact rfl | exact ev_t rfl | (apply ev_p; exact rfl; intro h; first | exact h | (focus (simp_all; done)) | (simp only [jC, jD, jA, jE, jB, jG, jH] at h ⊢; omega) | (exfalso; simp only [jC, jA] at h; omega)))) | (apply q_pickT; (first | exact rfl | (apply ev_g; exact rfl; first | assumption | (focus (simp_all; done)))); assumption; (first | exact rfl | (apply ev_g; exact rfl; first | assumption | (focus (simp_all; done)))); exact ⟨_, rfl⟩) | (apply q_pickF; (first | exact rfl | (apply ev_g; exact rfl; first | assumption | (focus (simp_all; done)))); assumption; (first | exact rfl | (apply ev_g; exact rfl; first | assumption | (focus (simp_all; done)))); exact ⟨_, rfl⟩) | (apply q_pick; (first | exact rfl | (apply ev_g; exact rfl; first | assumption | (focus (simp_all; done)))); (first | exact rfl | exact ev_t rfl | (apply ev_p; exact rfl; intro h; first | exact h | (focus (simp_all; done)) | (simp only [jC, jD, jA, jE, jB, jG, jH] at h ⊢; omega) | (exfalso; simp only [jC, jA] at h; omega))); (first | exact rfl | exact ev_t rfl | (apply ev_p; exact rfl; intro h; first | exact h | (focus (simp_all; done)) | (simp only [jC, jD, jA, jE, jB, jG, jH] at h ⊢; omega) | (exfalso; simp only [jC, jA] at h; omega)))) | (apply q_ixstr; (first | exact rfl | (apply ev_g; exact rfl; first | assumption | (focus (simp_all; done)))); (first | exact rfl | (apply ev_g; exact rfl; first | assumption | (focus (simp_all; done)))); omega; omega) | (apply q_str; (first | exact rfl | (apply ev_g; exact rfl; first | assumption | (focus (simp_all; done)))); exact rfl; exact rfl; (first | (apply bnd_lo <;> omega) | (apply bnd_hi <;> omega) | (apply bnd_lh <;> omega) | exact bnd_no)) | (apply q_bld; exact rfl; (first | assumption)) | (apply q_cint; (first | exact rfl | (apply ev_g; exact rfl; first | assumption | (focus (simp_all; done)))); (first | assumption | (apply w_in; simp only [inb]; omega) | exact rfl)) | (apply q_blt; exact rfl; (first | assumption | exact rfl)))) | apply RW.nil | (refine hK _ _ ?_; clear hK; (repeat' (first | apply xs_n | apply xb_e | apply xb_n | apply xs_r | apply xb_r | apply xs_e | (apply xb_o; exact rfl) | apply xs_g | apply xb_g | fail))) | ((first | apply RW.a1 | apply RW.a0 | (apply RW.at; (apply gv_is; (first | exact gv_1 rfl rfl | exact gv_0 rfl rfl | exact gv_1g rfl rfl | exact gv_0g rfl rfl); first | assumption | exact rfl | (apply decide_eq_true; omega) | (apply decide_eq_false; omega) | (simp only [jK, jE, jF, jA, jB, jC, jD, jG, jH] <;> omega)))); (first | (apply gw_lit1; exact rfl; exact rfl; exact rfl; exact rfl; decide; intro b) | (apply gw_lit2; exact rfl; exact rfl; exact rfl; exact rfl; intro b) | (apply gw_lit3; exact rfl; exact rfl; exact rfl; exact rfl; exact rfl; intro b) | (apply gw_range; exact rfl; intro it) | (apply gw_ap1; exact rfl; exact rfl; infer_instance; infer_instance; exact rfl; exact rfl; exact rfl; exact rfl; omega; intro a c) | (apply gw_ap1n; exact rfl; exact rfl; infer_instance; exact rfl; exact rfl; exact rfl; exact rfl; omega; intro a c) | (fail))) | ((first | apply RW.s1 | apply RW.s0); (apply gv_is; (first | exact gv_1 rfl rfl | exact gv_0 rfl rfl | exact gv_1g rfl rfl | exact gv_0g rfl rfl); first | assumption | exact rfl | (apply decide_eq_true; omega) | (apply decide_eq_false; omega) | (simp only [jK, jE, jF, jA, jB, jC, jD, jG, jH] <;> omega))) | apply CW_seq | apply CW_block | (apply CW_region; intro K hK) | ((first | apply CW_skip | apply CW_exit); (repeat' (first | apply xs_n | apply xb_e | apply xb_n | apply xs_r | apply xb_r | apply xs_e | (apply xb_o; exact rfl) | apply xs_g | apply xb_g | fail))) | (apply CW_condT; exact rfl; first | assumption | exact rfl) | (apply CW_condF; exact rfl; first | assumption | exact rfl) | (apply CW_cond; exact rfl; all_goals (intro hc; have hq := hc; (try simp only [jA, jB, jC, jD, jE, jF, jG, jH, jI, jJ, not_and, not_or] at hc); (try contradiction))) | fail)
  refine CW_loop (fun m l L => ∃ p a n c cs dn, m = s.size - p ∧ l = [(0, true, .string s), (1, true, .bool own), (5, true, .slice a n c), (11, true, .pointer (some ⟨it, 0, none⟩))] ∧
      L = [.own 21 1 a n c cs, .obj it (.stringIter s p)] ∧ n = dn.length ∧ cs = dn.map (Value.int .i32) ∧ p ≤ s.size ∧ dn ++ (rnFrom s p).map (rI s own) = (rns s).map (rI s own) ∧ dn.length ≤ p)
    ⟨_, _, _, ⟨0, none, 0, 0, _, [], rfl, rfl, rfl, rfl, rfl, Nat.zero_le _, rfl, Nat.le_refl _⟩, by ((repeat (first | (apply subE_cons; exact rfl) | (apply subE_cons; apply look_int; exact rfl; omega))); exact subE_nil _), by ((repeat (first | (apply subl_cons; (focus ((iterate 9 (try (first | exact pick0 | apply pickS))); done))) | apply subl_nilown)); first | exact subl_nil | exact subl_refl)⟩ ?_
  rintro m l L ⟨p, a, _, c, _, dn, rfl, rfl, rfl, rfl, rfl, h1, h2, h3⟩
  have hbt := bt_range s p
  have hr := rune_le s p
  have hw := width_ge s p
  repeat' (first | ((first | apply RW.q1 | (apply RW.qg; (first | exact gv_1 rfl rfl | exact gv_0 rfl rfl | exact gv_1g rfl rfl | exact gv_0g rfl rfl); (intro hg; have hg' := hg; (try simp only [jC, jD, jA, jB, jE, jG, jF, jH] at hg')))); (first | ((first | apply q_move | apply q_asgn); (first | exact rfl | (apply ev_g; exact rfl; first | assumption | (focus (simp_all; done))))) | (apply q_sub; (first | exact rfl | (apply ev_g; exact rfl; first | assumption | (focus (simp_all; done)))); (first | exact rfl | (apply ev_g; exact rfl; first | assumption | (focus (simp_all; done)))); (first | assumption | (apply w_in; simp only [inb]; omega) | exact rfl)) | (apply q_cmp; (first | exact rfl | (apply ev_g; exact rfl; first | assumption | (focus (simp_all; done)))); (first | exact rfl | (apply ev_g; exact rfl; first | assumption | (focus (simp_all; done)))); exact rfl) | (apply q_ext; (first | exact rfl | (apply ev_g; exact rfl; first | assumption | (focus (simp_all; done)))); exact rfl) | ((first | apply q_and | apply q_or); (first | exact rfl | (apply ev_g; exact rfl; first | assumption | (focus (simp_all; done)))); (first | exact rfl | exact ev_t rfl | (apply ev_p; exact rfl; intro h; first | exact h | (focus (simp_all; done)) | (simp only [jC, jD, jA, jE, jB, jG, jH] at h ⊢; omega) | (exfalso; simp only [jC, jA] at h; omega)))) | (apply q_pickT; (first | exact rfl | (apply ev_g; exact rfl; first | assumption | (focus (simp_all; done)))); assumption; (first | exact rfl | (apply ev_g; exact rfl; first | assumption | (focus (simp_all; done)))); exact ⟨_, rfl⟩) | (apply q_pickF; (first | exact rfl | (apply ev_g; exact rfl; first | assumption | (focus (simp_all; done)))); assumption; (first | exact rfl | (apply ev_g; exact rfl; first | assumption | (focus (simp_all; done)))); exact ⟨_, rfl⟩) | (apply q_pick; (first | exact rfl | (apply ev_g; exact rfl; first | assumption | (focus (simp_all; done)))); (first | exact rfl | exact ev_t rfl | (apply ev_p; exact rfl; intro h; first | exact h | (focus (simp_all; done)) | (simp only [jC, jD, jA, jE, jB, jG, jH] at h ⊢; omega) | (exfalso; simp only [jC, jA] at h; omega))); (first | exact rfl | exact ev_t rfl | (apply ev_p; exact rfl; intro h; first | exact h | (focus (simp_all; done)) | (simp only [jC, jD, jA, jE, jB, jG, jH] at h ⊢; omega) | (exfalso; simp only [jC, jA] at h; omega)))) | (apply q_ixstr; (first | exact rfl | (apply ev_g; exact rfl; first | assumption | (focus (simp_all; done)))); (first | exact rfl | (apply ev_g; exact rfl; first | assumption | (focus (simp_all; done)))); omega; omega) | (apply q_str; (first | exact rfl | (apply ev_g; exact rfl; first | assumption | (focus (simp_all; done)))); exact rfl; exact rfl; (first | (apply bnd_lo <;> omega) | (apply bnd_hi <;> omega) | (apply bnd_lh <;> omega) | exact bnd_no)) | (apply q_bld; exact rfl; (first | assumption)) | (apply q_cint; (first | exact rfl | (apply ev_g; exact rfl; first | assumption | (focus (simp_all; done)))); (first | assumption | (apply w_in; simp only [inb]; omega) | exact rfl)) | (apply q_blt; exact rfl; (first | assumption | exact rfl)))) | apply RW.nil | (refine hK _ _ ?_; clear hK; (repeat' (first | apply xs_n | apply xb_e | apply xb_n | apply xs_r | apply xb_r | apply xs_e | (apply xb_o; exact rfl) | apply xs_g | apply xb_g | fail))) | ((first | apply RW.a1 | apply RW.a0 | (apply RW.at; (apply gv_is; (first | exact gv_1 rfl rfl | exact gv_0 rfl rfl | exact gv_1g rfl rfl | exact gv_0g rfl rfl); first | assumption | exact rfl | (apply decide_eq_true; omega) | (apply decide_eq_false; omega) | (simp only [jK, jE, jF, jA, jB, jC, jD, jG, jH] <;> omega)))); (first | (apply gw_nxt; exact rfl; infer_instance; all_goals intro hlt) | (refine gw_call rfl go37 (fun G hG => SC.mono (dec_at s p G (hT.ext hG.ext) hlt) ?_); rintro v M ⟨rfl, rfl⟩; (try dsimp only [List.nil_append, List.cons_append])) | (refine gw_call ?_ go37 (fun G hG => SC.mono (dec_at s p G (hT.ext hG.ext) hlt) ?_); ((repeat (apply evs_c; (first | exact rfl | (apply ev_g; exact rfl; first | assumption | (focus (simp_all; done)))))); exact evs_n); rintro v M ⟨rfl, rfl⟩; (try dsimp only [List.nil_append, List.cons_append])) | (apply gw_lit1; exact rfl; exact rfl; exact rfl; exact rfl; decide; intro b) | (apply gw_lit2; exact rfl; exact rfl; exact rfl; exact rfl; intro b) | (apply gw_lit3; exact rfl; exact rfl; exact rfl; exact rfl; exact rfl; intro b) | (apply gw_range; exact rfl; intro it) | (apply gw_ap1; exact rfl; exact rfl; infer_instance; infer_instance; exact rfl; exact rfl; exact rfl; exact rfl; omega; intro a c) | (apply gw_ap1n; exact rfl; exact rfl; infer_instance; exact rfl; exact rfl; exact rfl; exact rfl; omega; intro a c) | (fail))) | ((first | apply RW.s1 | apply RW.s0); (apply gv_is; (first | exact gv_1 rfl rfl | exact gv_0 rfl rfl | exact gv_1g rfl rfl | exact gv_0g rfl rfl); first | assumption | exact rfl | (apply decide_eq_true; omega) | (apply decide_eq_false; omega) | (simp only [jK, jE, jF, jA, jB, jC, jD, jG, jH] <;> omega))) | apply CW_seq | apply CW_block | (apply CW_region; intro K hK) | ((first | apply CW_skip | apply CW_exit); (repeat' (first | apply xs_n | apply xb_e | apply xb_n | apply xs_r | apply xb_r | apply xs_e | (apply xb_o; exact rfl) | apply xs_g | apply xb_g | fail))) | (apply CW_condT; exact rfl; first | assumption | exact rfl) | (apply CW_condF; exact rfl; first | assumption | exact rfl) | (apply CW_cond; exact rfl; all_goals (intro hc; have hq := hc; (try simp only [jA, jB, jC, jD, jE, jF, jG, jH, jI, jJ, not_and, not_or] at hc); (try contradiction))) | fail)
  · rw [rnFrom_ge hlt, List.map_nil, List.append_nil] at h2
    subst h2
    rw [List.length_map]
    (refine CW_ret ?_; (repeat' (first | apply xs_n | apply xb_e | apply xb_n | apply xs_r | apply xb_r | apply xs_e | (apply xb_o; exact rfl) | apply xs_g | apply xb_g | fail)); refine bodyS_ret (L' := [.own 21 1 a (rns s).length c _]) (rs := [.tmp 4]) (by kernel_rfl) (by (repeat (apply resok_tmp; exact rfl)); exact resok_nil) (by ((repeat (first | (apply subl_cons; (focus ((iterate 9 (try (first | exact pick0 | apply pickS))); done))) | apply subl_nilown)); first | exact subl_nil | exact subl_refl)) ?_)
    exact ⟨a, c, rfl, rfl⟩
  all_goals
    have hw2 := width_in s p hlt
    rw [rnFrom_lt hlt] at h2
    refine ⟨_, _, _, ⟨p + (Utf8.decode s p).2, _, _, _, _, dn ++ [rI s own ⟨(Utf8.decode s p).1, p, (Utf8.decode s p).2⟩], rfl, rfl, rfl, ?_, ?_, hw2, ?_, ?_⟩, by ((repeat (first | (apply subE_cons; exact rfl) | (apply subE_cons; apply look_int; exact rfl; omega))); exact subE_nil _), by ((repeat (first | (apply subl_cons; (focus ((iterate 9 (try (first | exact pick0 | apply pickS))); done))) | apply subl_nilown)); first | exact subl_nil | exact subl_refl), by omega⟩
    · simp
    · rw [List.map_append]
      congr 1
      unfold rI brk
      simp only [List.map_cons, List.map_nil]
      have hb : (own && (decide ((Utf8.decode s p).1 = 65533) && decide ((Utf8.decode s p).2 < 2))) = (own && decide (((Utf8.decode s p).1 : Int) = 65533) && decide (((Utf8.decode s p).2 : Int) < 2)) := by
        rw [Bool.and_assoc]; congr 2 <;> (rw [Bool.eq_iff_iff]; simp only [jA]; omega)
      rw [hb, hq]; rfl
    · rw [← h2]; simp
    · simp only [List.length_append, List.length_cons, List.length_nil]; omega
end Go.Proofs.YtmgjmjhnhgnfcaaDoor.HL
