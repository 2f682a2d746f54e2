/- Numbers drawn out of bytes lie below their bound. Plain Lean. -/
import Derived.Test.YtamjcfdjcagjmaaPx1
import Derived.Test.YtamjcfdjcagjmaaHW
namespace Go.Proofs.Ytamjcfdjcagjmaa.P
open Go.RowKit Go.Proofs.YtamjcfdjcagjmaaW.PrintWords Go.Proofs.YtamjcfdjcagjmaaW.PrintLast Go.Proofs.YtamjcfdjcagjmaaW.PrintMore
set_option linter.unusedVariables false
set_option linter.unusedSimpArgs false

theorem u8_rd {l : List Int} (h : ∀ x ∈ l, (Lit.int .u8 x).wf = true) (i : Int) : 0 ≤ rd l i ∧ rd l i ≤ 255 := by
  have key : ∀ x, (Lit.int .u8 x).wf = true → 0 ≤ x ∧ x ≤ 255 := by
    intro x hx
    simp only [Lit.wf, Bool.and_eq_true, decide_eq_true_eq] at hx
    have e1 : IntKind.u8.min = 0 := by decide
    have e2 : IntKind.u8.max = 255 := by decide
    omega
  unfold rd
  rw [List.getD_eq_getElem?_getD]
  by_cases hi : i.toNat < l.length
  · rw [List.getElem?_eq_getElem hi]
    exact key _ (h _ (List.getElem_mem hi))
  · rw [List.getElem?_eq_none (by omega)]
    simp
theorem b10At_val (l : List Int) (h : ∀ x ∈ l, (Lit.int .u8 x).wf = true) (i n : Int) (hi : 0 ≤ i) (hi2 : i ≤ 1000000) (hn : 1 ≤ n) : ∃ v, laws_b10At.f l i n = some v ∧ 0 ≤ v ∧ v < n := by
  unfold laws_b10At.f
  by_cases c : n ≤ 1
  · rw [if_pos c]
    exact ⟨0, rfl, by omega, by omega⟩
  · rw [if_neg c]
    by_cases c2 : i < (l.length : Int)
    · obtain ⟨a, b⟩ := u8_rd h i
      have hw : wrap64 (rd l i) = rd l i := by unfold wrap64; omega
      rw [if_pos c2, if_pos hi, if_neg (by omega), hw]
      refine ⟨_, rfl, ?_, ?_⟩
      · exact Int.tmod_nonneg _ a
      · exact Int.tmod_lt_of_pos _ (by omega)
    · have hw : wrap64 (i * 37) = i * 37 := by unfold wrap64; omega
      have hw2 : wrap64 (i * 37 + 11) = i * 37 + 11 := by unfold wrap64; omega
      rw [if_neg c2, if_neg (by omega), hw, hw2]
      refine ⟨_, rfl, ?_, ?_⟩
      · exact Int.tmod_nonneg _ (by omega)
      · exact Int.tmod_lt_of_pos _ (by omega)
theorem b10Long_val (l0 l1 : List Int) : ∃ b, laws_b10Long.f l0 l1 = some b := by
  unfold laws_b10Long.f
  split <;> exact ⟨_, rfl⟩
end Go.Proofs.Ytamjcfdjcagjmaa.P
