/- HLn: maps whose keys are texts: make, insert, look up. No condition. -/
import Derived.Test.YtkhmimlgkjenfaaHLmX
namespace Go.Proofs.Ytkhmimlgkjenfaa.HL
open Go
set_option linter.unusedVariables false
set_option linter.unusedSimpArgs false
variable {Ω : World}

theorem bb_eq (a b : ByteArray) : (a == b) = decide (a = b) := by rw [beq_toListBytes, seq_eq]
section
variable {P : Program} {l : Ents} {H : Hp} {K : Value → Hp → Prop} {d : Option Tmp} {T : TypeId} {pos : String} {aft : Array Edge} {gd : Option (Nat × Bool)}
theorem hw_checkStr {kt : TypeId} {e : Bool} {n : Nat} {key : ByteArray} {K : Unit → Hp → Prop} (hs : P.underlying kt = some .string) (h : K () H) : hw P (Instr.checkKey e (n + 1) kt (.string key)) H K := by
  unfold Instr.checkKey
  rw [hw_bind]
  exact hw_und hs h
theorem hw_findStr {kt : TypeId} {key : ByteArray} {es : List MapEntry} {r : Option (Nat × Value)} {K : Option (Nat × Value) → Hp → Prop} (hs : P.underlying kt = some .string) (hf : Instr.findNow .string (.string key) es 0 = some r) (h : K r H) : hw P (Instr.findKey kt (.string key) es) H K := by
  unfold Instr.findKey
  rw [hw_bind]
  refine hw_und hs ?_
  rw [hf]
  exact h
theorem hgen_makeMap {t : TypeId} (h : newK H (.map #[] 0) fun b H1 => K (.map (some b)) H1) : hgen P l ⟨d, .makeMap t none, T, pos, aft, gd⟩ H K := by
  refine hgen_hw (by simp [Op.operands]) ?_
  simp only [execOp, Instr.makeMap, Option.map_none]
  rw [hw_bind]
  show hw P (newObj (.map #[] 0) >>= _) H _
  rw [hw_bind]
  intro b hb
  exact h b _ hb (Ext.upd hb _) (upd_self _ _ _)
theorem hw_put {t kt et : TypeId} {key : ByteArray} {v : Value} {b : Nat} {es : Array MapEntry} {ck : Nat} {K : Unit → Hp → Prop} (hu : P.underlying t = some (.map kt et)) (hs : P.underlying kt = some .string) (hb : H b = some (.map es ck)) (hf : Instr.findNow .string (.string key) es.toList 0 = some none)
    (h : ∀ H1, (∀ x, x ≠ b → H1 x = H x) → H1 b = some (.map (es.push { key := .string key, val := v, born := ck }) (ck + 1)) → K () H1) : hw P (Instr.mapUpdate t (.map (some b)) (.string key) v) H K := by
  unfold Instr.mapUpdate
  rw [hw_bind]
  refine hw_und hu ?_
  rw [hw_bind]
  refine ⟨_, hb, rfl, ?_⟩
  simp only [hw]
  rw [hw_bind]
  refine hw_checkStr (n := 9999) hs ?_
  rw [hw_bind]
  refine hw_findStr hs hf ?_
  simp only
  exact ⟨_, hb, rfl, h _ (fun x hx => upd_ne _ _ hx) (upd_self _ _ _)⟩
end
section
variable {P : Program} {l : Ents} {H : Hp} {L L' : List Res} {K : Value → List Res → Prop} {d : Option Tmp} {T : TypeId} {pos : String} {aft : Array Edge} {gd : Option (Nat × Bool)}
theorem gw_mkmap {t : TypeId} (h : ∀ b, K (.map (some b)) (.obj b (.map #[] 0) :: L)) : GW P l ⟨d, .makeMap t none, T, pos, aft, gd⟩ H L K := fun G hg =>
  hgen_makeMap fun b G1 hb hx hk => ⟨_, hg.new (r := .obj b (.map #[] 0)) (fp := fun x => x = b) hx ⟨fun _ => Iff.rfl, hk⟩ (by rintro _ rfl; exact hb), h b⟩
end
end Go.Proofs.Ytkhmimlgkjenfaa.HL
