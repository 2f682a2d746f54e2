/- SpreadOf: the program's answer is the reference's, for every list of rows and every count. Plain Lean; no condition. -/
import Derived.Test.YtamjcfdjcagjmaaPx12
import Derived.Test.YtamjcfdjcagjmaaPSa
namespace Go.Proofs.Ytamjcfdjcagjmaa.Pure
open Go.RowKit Go.Proofs.Ytamjcfdjcagjmaa.P Go.Proofs.YtamjcfdjcagjmaaW.PrintWords
theorem FnExactSpreadOf : ∀ (l0 : List (List (Int))) (a1 : Int), (l0.length ≤ maxLen ∧ ∀ y0 ∈ l0, (y0.length ≤ maxLen ∧ ∀ y1 ∈ y0, (Lit.int .i64 y1).wf = true)) → (Lit.int .i64 a1).wf = true → ∃ k, laws_FnExactSpreadOf.f k l0 a1 = some true := by
  intro l0 a1 ⟨h0, h1⟩ _
  simp only [maxLen] at h0 h1
  obtain ⟨v, hv, hv2⟩ := szInt64SS_ev l0 1048576 (by omega) (by omega) h0 (fun row hr => (h1 row hr).1)
  refine Ev.rounds (show Ev (fun k => laws_FnExactSpreadOf.f k l0 a1) true from ?_)
  unfold laws_FnExactSpreadOf.f
  refine Ev.bind hv ?_
  by_cases hc : v < 0
  · exact Ev.of_ite_pos hc (Ev.now _)
  · rcases hv2 with hv2 | ⟨_, _, a, b⟩
    · exact absurd hv2 hc
    · have hto := toInt64SS_ev l0 (by omega) (fun row hr => by have := b row hr; omega)
      have hspec : ∀ r, impl_SpreadOf.f l0 a1 = some r → Ev (fun k => spec_SpreadOf.f k l0 a1) r := by
        intro r hr
        have hr := Option.some.inj hr
        unfold spec_SpreadOf.f
        refine Ev.bind (specMask_ev' l0 h0) ?_
        by_cases cm : (decide (1 ≤ l0.length) && decide (l0.length ≤ 8) && maskB l0) = true
        · rw [cm] at hr ⊢
          rw [in_val]
          refine Ev.of_ite_pos rfl (Ev.bindc rfl ?_)
          by_cases cw : (decide (2 ≤ a1) && decide (a1 ≤ wrap64 ((l0.length : Int) * (l0.length : Int)))) = true
          · rw [cw] at hr ⊢
            have cw' := cw
            simp only [Bool.and_eq_true, decide_eq_true_eq] at cw'
            rw [← hr]
            exact spec_spread_ev l0 h0 a1 cm cw'.1 cw'.2
          · rw [Bool.not_eq_true] at cw
            rw [cw] at hr ⊢
            rw [← hr]
            exact Ev.step (f := fun _ => some (0, false)) (fun k => by simp only [spec_SpreadOf.j0]; rfl) (Ev.const rfl)
        · rw [Bool.not_eq_true] at cm
          rw [cm] at hr ⊢
          rw [← hr]
          exact Ev.of_ite_neg (by simp) (Ev.step (f := fun _ => some (0, false)) (fun k => by simp only [spec_SpreadOf.j0]; rfl) (Ev.const rfl))
      refine Ev.of_ite_neg hc (Ev.bind hto (Ev.bind (hspec _ rfl) (Ev.bind hto (Ev.bindc rfl ?_))))
      refine Ev.of_ite_pos rfl ?_
      refine Ev.step (f := fun k => ((laws_toInt64SS.f k l0).bind fun t187 => ((laws_eqInt64SS.f k l0 t187).bind fun t190 => (if t190 = true then (some true) else (some false))))) (fun k => by simp only [laws_FnExactSpreadOf.j0]; rw [if_neg (by simp)]) ?_
      refine Ev.bind hto (Ev.bind (eqInt64SS_ev l0 l0 h0 (fun row hr => (h1 row hr).1)) ?_)
      exact Ev.of_ite_pos (by simp) (Ev.now _)
end Go.Proofs.Ytamjcfdjcagjmaa.Pure
