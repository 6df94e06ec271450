/- NamesWb: the law NamesWords: it answers true. Conditions: the text's length; the library's tables stand. -/
import Derived.Test.YtmgjmjhnhgnfcaaDoorNamesWa
import Derived.Test.YtmgjmjhnhgnfcaaDoorNamesDa
import Derived.Test.YtmgjmjhnhgnfcaaDoorNamesI
namespace Go.Proofs.YtmgjmjhnhgnfcaaDoor.HL
open Go
attribute [local irreducible] goFn thenS blockS bodyS CW RW DW GW QW NW SC Pick Picks SubL Rd NN ResOk SrcW subE hops hseg AW hgen HC qv
set_option linter.unusedVariables false
set_option linter.unusedSimpArgs false

theorem runesFrom_app (s : ByteArray) : ∀ (n p : Nat) (acc : Array Value), s.size ≤ p + n → (Conv.runesFrom s n p acc).toList = acc.toList ++ (rnFrom s p).map fun x => Value.int .i32 x.r
  | 0, p, acc, h => by rw [rnFrom_ge (by omega)]; simp [Conv.runesFrom]
  | n + 1, p, acc, h => by
    have hw := width_ge s p
    by_cases hp : p < s.size
    · rw [rnFrom_lt hp, List.map_cons]
      have := runesFrom_app s n (p + (Utf8.decode s p).2) (acc.push (.int .i32 (Int.ofNat (Utf8.decode s p).1))) (by omega)
      unfold Conv.runesFrom
      rw [if_pos hp]
      simp only [this, Array.toList_push, List.append_assoc, List.singleton_append]
      rfl
    · rw [rnFrom_ge hp]
      unfold Conv.runesFrom
      rw [if_neg hp]; simp
def rI32 (s : ByteArray) : List Value := (rns s).map fun x => Value.int .i32 x.r
theorem runesFrom_eq (s : ByteArray) : (Conv.runesFrom s s.size 0 #[]).toList = rI32 s := by
  have := runesFrom_app s s.size 0 #[] (by omega)
  rw [this]; rfl
theorem runesFrom_len (s : ByteArray) : (Conv.runesFrom s s.size 0 #[]).size = (rns s).length := by
  rw [← Array.length_toList, runesFrom_eq]; simp [rI32]
section
variable {Ω : World} {P : Program} {l : Ents} {H : Hp} {L : List Res} {K : Value → List Res → Prop} {d : Option Tmp} {T : TypeId} {pos : String} {aft : Array Edge} {gd : Option (Nat × Bool)}
theorem gw_runes {s t e : TypeId} {x : Operand} {v : ByteArray} [hs : Und P s .string] [hd : Und P t (.slice e)] [he : Und P e (.int .i32)] (hx : evg l true x = some (.string v)) (h46 : v.size ≤ 70368744177664)
    (h : ∀ a c, K (.slice a (rns v).length c) (.own e 1 a (rns v).length c (rI32 v) :: L)) : GW P l ⟨d, .convert s t x, T, pos, aft, gd⟩ H L K := by
  refine gw_s2r hx (by rw [runesFrom_len]; have := rns_le v; omega) ?_
  rw [runesFrom_len, runesFrom_eq]; exact h
end

theorem enc_le {r : Int} (h0 : 0 ≤ foldedF r) (h1 : foldedF r < 0xd800) : (enc (foldedF r)).length ≤ (Lib.encodeRune r).length := by
  have hr : foldedF r = r ∨ r = 0xb5 ∨ r = 0x2126 ∨ r = 0x212b ∨ r = 0x212a ∨ r = 0x2032 ∨ r = 0x2019 ∨ r = 0x2033 := by unfold foldedF; omega
  rcases hr with e | rfl | rfl | rfl | rfl | rfl | rfl | rfl
  · rw [e] at h0 h1 ⊢
    have hl : ∀ l : List UInt8, (u8s l).length = l.length := fun l => by unfold u8s; rw [List.length_map]
    rw [← hl]
    unfold Lib.encodeRune Lib.encodeRuneZ
    rw [List.length_map]
    by_cases a1 : r < 128
    · rw [enc1 h0 a1, if_pos (by omega)]; simp
    by_cases a2 : r < 2048
    · rw [enc2 (by omega) (by omega), if_neg (by omega), if_pos (by omega)]; simp
    · rw [enc3 (by omega) (by omega), if_neg (by omega), if_neg (by omega), if_pos (by omega)]; simp
  all_goals decide
theorem rn_len {t : ByteArray} {n : Nat} {x : Rn} (hx : (rns t)[n]? = some x) (hc : cls x ≠ 0) : (enc (foldedF x.r)).length ≤ x.w := by
  obtain ⟨h1, h2, h3⟩ := rn_dec t.size 0 (by omega) x (List.mem_of_getElem? hx)
  obtain ⟨k1, k2, _, _⟩ := cls_wr (x := x) (p := 0) (w := 0) hc
  have hd := drop_rune t x.p h3
  rw [← h1, ← h2] at hd
  have hb : brk ⟨x.r, x.p, x.w⟩ = false := k1
  have e : rI t true ⟨x.r, x.p, x.w⟩ = x.r := by unfold rI; rw [hb]; rfl
  rw [e] at hd
  unfold ownB at hd
  rw [if_neg (by omega)] at hd
  have hl := congrArg List.length hd
  rw [List.length_append, List.length_drop, List.length_drop, Array.length_toList] at hl
  obtain ⟨m1, m2, m3, _⟩ := rn_mem hx
  have hs : t.data.size = t.size := rfl
  rw [hs] at hl
  have := enc_le (r := x.r) k2.1 (by
    have hcc : classF x.r ≠ 0 := by unfold cls at hc; rw [if_neg (by rw [k1]; decide)] at hc; exact hc
    exact (class_fold hcc).2)
  omega
theorem word_size (t : ByteArray) : ∀ n, n ≤ wN t → (toldB ((rns t).take n)).length ≤ posOf t (rns t) n
  | 0, _ => by simp [toldB]
  | n + 1, h => by
    have hle := wgo_le (-1) (rns t)
    have e : wgo (-1) (rns t) = wN t := rfl
    rw [e] at hle
    obtain ⟨x, hx⟩ : ∃ x, (rns t)[n]? = some x := ⟨_, List.getElem?_eq_getElem (by omega)⟩
    have ih := word_size t n (by omega)
    rw [posOf_get hx] at ih
    rw [posOf_next hx, List.take_add_one, hx, Option.toList_some, toldB_snoc, List.length_append]
    have hc := (wgo_wr (rns t) (-1) 0).2.2 x (by
      rw [e]; exact List.mem_iff_getElem?.2 ⟨n, by rw [List.getElem?_take, if_pos (by omega)]; exact hx⟩)
    have := rn_len hx (by omega)
    omega
theorem wS_size (t : ByteArray) : (wS t).size ≤ t.size := by
  have h1 := word_size t (wN t) (Nat.le_refl _)
  have h2 : posOf t (rns t) (wN t) = wP t := rfl
  have h3 : (wS t).size = (toldB ((rns t).take (wN t))).length := by unfold wS; exact bstr_size _
  by_cases h : wS t = emp
  · rw [h]; exact Nat.zero_le _
  · have := (wP_ge t h).2.2; omega

/-- Fold of what is folded -/
theorem fold_again (s fa : ByteArray) (fe fp : Int) (h : foldT s = (fa, fe, fp)) (he : fe = 0) : foldT fa = (fa, 0, 0) ∧ rightT fa = true ∧ (fa.size : Int) ≤ 40 := by
  unfold foldT at h
  split at h
  · cases h; exact absurd he (by decide)
  split at h
  · cases h; exact absurd he (by decide)
  split at h
  · cases h; exact absurd he (by decide)
  rename_i h1 h2 h3
  obtain ⟨rfl, -⟩ : wS s = fa ∧ True := ⟨by cases h; rfl, trivial⟩
  obtain ⟨-, -, g3, g4, -, -⟩ := word_again s
  have : foldT (wS s) = (wS s, 0, 0) := by
    unfold foldT
    rw [g3, g4, if_neg (by simp only [not_or] at h1 ⊢; exact ⟨h1.1, by omega⟩), if_neg h2, if_neg h3]
  refine ⟨this, ?_, by omega⟩
  unfold rightT; rw [this]; simp
theorem emp_size {t : ByteArray} (h : t ≠ emp) : 1 ≤ t.size := by
  rcases Nat.eq_zero_or_pos t.size with h' | h'
  · exfalso; apply h; apply ByteArray.ext; apply Array.eq_empty_of_size_eq_zero; exact h'
  · exact h'
theorem cut_again (s w : ByteArray) (a n e : Int) (h : cutT s a = (w, n, e)) (he : e = 0) :
    0 ≤ a ∧ 1 ≤ n ∧ a + n ≤ s.size ∧ w ≠ emp ∧ cutT w 0 = (w, (w.size : Int), 0) ∧ (∀ x ∈ rns w, classF x.r = 1 ∨ classF x.r = 2 ∨ classF x.r = 4) ∧ w.size ≤ s.size ∧
    ∃ x, (rns w)[0]? = some x ∧ (classF x.r = 1 → ∀ r k, cutT s (a + n) = (r, k, 0) → r ≠ emp ∧ r.size ≤ s.size ∧ ∃ y, (rns r)[0]? = some y ∧ classF y.r = 4) := by
  unfold cutT at h
  split at h
  · cases h; exact absurd he (by decide)
  split at h
  · cases h; exact absurd he (by decide)
  rename_i h1 h2
  obtain ⟨t, ht⟩ : ∃ t, t = s.extract a.toNat s.size := ⟨_, rfl⟩
  rw [← ht] at h h2
  obtain ⟨rfl, rfl⟩ : wS t = w ∧ (wP t : Int) = n := by cases h; exact ⟨rfl, rfl⟩
  clear h he
  obtain ⟨-, -, g3, g4, g5, g6⟩ := word_again t
  obtain ⟨k1, k2, k3⟩ := wP_ge t h2
  have hts : t.size = s.size - a.toNat := by rw [ht, ByteArray.size_extract]; omega
  have hws := wS_size t
  have hw0 : (wS t).extract 0 (wS t).size = wS t := by
    apply ByteArray.ext; apply Array.toList_inj.1
    have := extract_toList (wS t) 0
    rw [this]; rfl
  refine ⟨by omega, by omega, by omega, h2, ?_, g5, by omega, ?_⟩
  · unfold cutT
    rw [if_neg (by omega), show (0 : Int).toNat = 0 from rfl, hw0, g3, if_neg h2, g4]
  · obtain ⟨x, hx⟩ : ∃ x, (rns (wS t))[0]? = some x := ⟨_, List.getElem?_eq_getElem (by omega)⟩
    refine ⟨x, hx, fun hc r k hr => ?_⟩
    unfold cutT at hr
    rw [if_neg (by omega)] at hr
    split at hr
    · cases hr
    rename_i h3
    obtain ⟨t2, ht2⟩ : ∃ t2, t2 = s.extract (a + (wP t : Int)).toNat s.size := ⟨_, rfl⟩
    rw [← ht2] at hr h3
    obtain ⟨rfl, -⟩ : wS t2 = r ∧ True := ⟨by cases hr; rfl, trivial⟩
    have hs2 := wS_size t2
    have ht2s : t2.size ≤ s.size := by rw [ht2, ByteArray.size_extract]; omega
    have htt : t2 = t.extract (wP t) t.size := by
      apply ByteArray.ext; apply Array.toList_inj.1
      rw [ht2, ht, extract_toList, extract_toList, extract_toList, List.drop_drop]
      congr 1; omega
    exact ⟨h3, by omega, behind t h2 x hx hc t2 htt h3⟩

theorem get_r32 {w : ByteArray} {x : Rn} (h : (rns w)[0]? = some x) : (rI32 w)[0]? = some (.int .i32 x.r) ∧ 0 < (rns w).length := by
  refine ⟨by unfold rI32; rw [List.getElem?_map, h]; rfl, ?_⟩
  rcases Nat.eq_zero_or_pos (rns w).length with h' | h'
  · rw [List.getElem?_eq_none (by omega)] at h; cases h
  · exact h'
theorem r32 {t : ByteArray} {n : Nat} {x : Rn} (h : (rns t)[n]? = some x) : -2147483648 ≤ (x.r : Int) ∧ (x.r : Int) ≤ 2147483647 := by
  have := (rns_facts t x (List.mem_of_getElem? h)).2.2; omega
end Go.Proofs.YtmgjmjhnhgnfcaaDoor.HL
