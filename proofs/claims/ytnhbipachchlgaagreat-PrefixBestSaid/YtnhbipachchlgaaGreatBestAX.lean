/- BestA: PfxK: the powers and products of the prefixes' factors. No condition. PfxW: a right number's own texts; a number brought back. Condition: none. PfxX: size and below answer. Condition: right numbers. PfxY: below answers. Condition: right numbers. -/
import Derived.Test.YtnhbipachchlgaaGreatPrefsAX
import Derived.Test.YtnhbipachchlgaaGreatQuoBX
import Derived.Test.YtnhbipachchlgaaGreatEngX
namespace Go.Proofs.YtnhbipachchlgaaGreat.HL
open Go
attribute [local irreducible] goFn thenS blockS bodyS CW RW DW GW QW NW SC Pick Picks SubL Rd NN ResOk SrcW subE hops hseg AW hgen HC qv bldv
set_option linter.unusedVariables false
set_option linter.unusedSimpArgs false

theorem readQ_fac {x : Px} (hx : x ∈ pfx) : readQ (facN x) (facD x) = some ((powN (byP x) 1 x.pw : Int), powN 1 (byP x) x.pw) := by
  obtain ⟨h1, h2⟩ := byP_le x
  obtain ⟨a1, a2, a3, a4⟩ := fac_ok h1 h2 (pfx_pw x hx)
  exact readQ_dec a1 a2 a3 a4
theorem powN_pos {X Y : Nat} {n : Int} (hX : 0 < X) (hY : 0 < Y) : 0 < powN X Y n := by
  unfold powN
  split
  · exact Nat.pow_pos hY
  · exact Nat.pow_pos hX
end Go.Proofs.YtnhbipachchlgaaGreat.HL
namespace Go.Proofs.YtnhbipachchlgaaGreat.HL
open Go
attribute [local irreducible] goFn thenS blockS bodyS CW RW DW GW QW NW SC Pick Picks SubL Rd NN ResOk SrcW subE hops hseg AW hgen HC qv bldv
set_option linter.unusedVariables false
set_option linter.unusedSimpArgs false

end Go.Proofs.YtnhbipachchlgaaGreat.HL
namespace Go.Proofs.YtnhbipachchlgaaGreat.HL
open Go
attribute [local irreducible] goFn thenS blockS bodyS CW RW DW GW QW NW SC Pick Picks SubL Rd NN ResOk SrcW subE hops hseg AW hgen HC qv bldv
set_option linter.unusedVariables false
set_option linter.unusedSimpArgs false

theorem neg_txt {n d : List UInt8} {a : Int} {q : Nat} (h : readQ n d = some (a, q)) : toldV (-a) (q : Int) = .tuple #[ratV (decB (-a)) d, .int .i64 0] := by
  obtain ⟨h1, h2, h3, _, h5, h6⟩ := readQ_txt h
  unfold toldV
  rw [den_pos h3, decB_nat, Int.natAbs_neg, if_pos ⟨h5, h6⟩, ← h2]
theorem decB_abs (a : Int) : (decB a).length ≤ (Lib.decDigits a.natAbs).length + 1 := by
  unfold decB
  split
  · simp
  · omega
end Go.Proofs.YtnhbipachchlgaaGreat.HL
namespace Go.Proofs.YtnhbipachchlgaaGreat.HL
open Go
attribute [local irreducible] goFn thenS blockS bodyS CW RW DW GW QW NW SC Pick Picks SubL Rd NN ResOk SrcW subE hops hseg AW hgen HC qv bldv
set_option linter.unusedVariables false
set_option linter.unusedSimpArgs false

theorem told_len (p q : Int) : ∃ x y e, toldV p q = .tuple #[ratV x y, .int .i64 e] ∧ x.length ≤ 601 ∧ y.length ≤ 601 := by
  unfold toldV
  split
  · rename_i h
    have := decB_abs p
    exact ⟨_, _, _, rfl, by omega, by omega⟩
  · exact ⟨_, _, _, rfl, by simp, by simp⟩
end Go.Proofs.YtnhbipachchlgaaGreat.HL
