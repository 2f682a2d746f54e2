/- Pictures that are valid, told plainly. Plain Lean. -/
import Derived.Test.YtamjcfdjcagjmaaPx1
import Derived.Test.YtamjcfdjcagjmaaPE
namespace Go.Proofs.Ytamjcfdjcagjmaa.P
open Go.RowKit Go.Proofs.YtamjcfdjcagjmaaW.PrintWords Go.Proofs.YtamjcfdjcagjmaaW.PrintLast Go.Proofs.YtamjcfdjcagjmaaW.PrintMore
set_option linter.unusedVariables false
set_option linter.unusedSimpArgs false

/-- A picture that is valid: as many numbers in each row, from 0 to 255. -/
def picB (P : List (List Int)) : Bool := decide (1 ≤ P.length) && decide (P.length ≤ 12) && decide (1 ≤ (rdR P 0).length) && decide ((rdR P 0).length ≤ 12) && areRowsB P 255
theorem pic_rows {P : List (List Int)} (h : picB P = true) : (1 ≤ P.length ∧ P.length ≤ 12 ∧ 1 ≤ (rdR P 0).length ∧ (rdR P 0).length ≤ 12) ∧ ∀ j, j < P.length → (rdR P j).length = (rdR P 0).length ∧ ∀ x ∈ rdR P j, 0 ≤ x ∧ x ≤ 255 := by
  unfold picB areRowsB at h
  simp only [Bool.and_eq_true, decide_eq_true_eq, List.all_eq_true] at h
  refine ⟨by omega, fun j hj => ?_⟩
  obtain ⟨_, hr⟩ := h
  have := hr (rdR P j) (by rw [rdR_mem hj]; exact List.getElem_mem hj)
  exact ⟨this.1, this.2⟩
end Go.Proofs.Ytamjcfdjcagjmaa.P
