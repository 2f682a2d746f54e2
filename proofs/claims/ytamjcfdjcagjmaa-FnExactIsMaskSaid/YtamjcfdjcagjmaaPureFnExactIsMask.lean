/- IsMask: the program's answer is the reference's, for every list of rows. Plain Lean; no condition. -/
import Derived.Test.YtamjcfdjcagjmaaPM
namespace Go.Proofs.Ytamjcfdjcagjmaa.Pure
open Go.RowKit Go.Proofs.Ytamjcfdjcagjmaa.P Go.Proofs.YtamjcfdjcagjmaaW.PrintWords
theorem FnExactIsMask : ∀ (l0 : List (List (Int))), (l0.length ≤ maxLen ∧ ∀ y0 ∈ l0, (y0.length ≤ maxLen ∧ ∀ y1 ∈ y0, (Lit.int .i64 y1).wf = true)) → ∃ k, laws_FnExactIsMask.f k l0 = some true := by
  intro l0 ⟨h0, h1⟩
  simp only [maxLen] at h0 h1
  obtain ⟨v, hv, hv2⟩ := szInt64SS_ev l0 1048576 (by omega) (by omega) h0 (fun row hr => (h1 row hr).1)
  refine Ev.rounds (show Ev (fun k => laws_FnExactIsMask.f k l0) true from ?_)
  unfold laws_FnExactIsMask.f
  refine Ev.bind hv ?_
  by_cases hc : v < 0
  · exact Ev.of_ite_pos hc (Ev.now _)
  · rcases hv2 with hv2 | ⟨_, _, a, b⟩
    · exact absurd hv2 hc
    · have hto := toInt64SS_ev l0 (by omega) (fun row hr => by have := b row hr; omega)
      refine Ev.of_ite_neg hc (Ev.bind hto (Ev.bind (specMask_ev l0 h0) (Ev.bind hto (Ev.bindc rfl ?_))))
      refine Ev.of_ite_neg (by simp) (Ev.bind hto (Ev.bind (eqInt64SS_ev l0 l0 h0 (fun row hr => (h1 row hr).1)) ?_))
      exact Ev.of_ite_pos (by simp) (Ev.now _)
end Go.Proofs.Ytamjcfdjcagjmaa.Pure
