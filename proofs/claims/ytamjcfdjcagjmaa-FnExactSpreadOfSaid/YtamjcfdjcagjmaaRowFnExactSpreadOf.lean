/- The row of FnExactSpreadOf: whatever input can be read, the law returns true and its input reads as it did. No condition. -/
import Derived.Test.YtamjcfdjcagjmaaRows
import Derived.Test.YtamjcfdjcagjmaaPx12
import Derived.Test.YtamjcfdjcagjmaaPureFnExactSpreadOf
import Derived.Test.YtamjcfdjcagjmaaHR
import Derived.WalkKit
import Derived.ProofKit
import Derived.OpenShut
import Derived.ShutString
import Derived.ChangeOld
import Derived.Below
import Derived.SizedLaws
namespace Go.Proofs.Ytamjcfdjcagjmaa.fnExactSpreadOf
open Go.ChangeShapes Go.WideShapes Go.ChangeAt Go.RowKit Go.Proofs.YtamjcfdjcagjmaaW.PrintWords Go.Proofs.Ytamjcfdjcagjmaa.P
open Go.ChangeMaps (open_string shut_string)
set_option linter.unusedVariables false
theorem own : ownKnob Try.prog.godebug = none := by kernel_rfl
theorem laidOut : laidOutB Try.prog = true := by kernel_rfl
set_option maxRecDepth 100000 in
theorem lifted (os : Os) (started : os.Started) (H : Type) (enc : TypeId × Value → H) :
    ReturnsInHanded {} Try.checked os 8 .any (Rows.fnExactSpreadOfSpec.pre6 enc Try.prog Try.f8 Rows.fnExactSpreadOfRow.domain false) (Rows.fnExactSpreadOfSpec.post enc Try.prog Try.f8 false true false false) := by
  refine returnsInHanded_of_change_sized (C := Try.checked) own started (by kernel_rfl) Try.func8
    (ChangeSpec.witness6 (enc := enc) (C := Try.checked) false ⟨#[], #[.slice none 0 0, .int .i64 0], []⟩ 8 (by kernel_rfl) (by kernel_rfl) (by kernel_rfl) (by kernel_rfl)) ?_
  intro W base args ds gs before hval0 hW hcnd hsz0 _
  have hval : ∀ (j : Nat) t v, Try.f8.params[j]? = some t → args[j]? = some v → Value.okWide Try.prog W .any base t v := hval0
  have hW' := hW
  obtain ⟨p, q, hA0, hV, rfl, hfz, hnd⟩ := hW
  have hA : DataW.TrodAll enc Try.prog W 0 (fun _ => true) true Try.f8.params.toList args.toList ds p := hA0
  rw [Try.params8] at hA hval
  obtain ⟨v0, vs0, d0, ds0, p0, q0, hargs, rfl, rfl, h0, r0⟩ := trodAll_cons hA
  obtain ⟨v1, vs1, d1, ds1, p1, q1, rfl, rfl, rfl, h1, r1⟩ := trodAll_cons r0
  obtain ⟨rfl, rfl, rfl⟩ := trodAll_nil r1
  obtain rfl : args = #[v0, v1] := by cases args; simp_all
  obtain ⟨rfl, rfl⟩ := trodVars_none hV
  have k0 := h0
  have lt0 : ∀ x ∈ p0, x.block < W.heap.size := by obtain ⟨m, hm⟩ := k0; exact DataW.trod_lt m _ _ _ hm
  obtain ⟨A0, c0, l0, ev0, hl0, hC0, ok0⟩ : ∃ A c l, v0 = .slice A (List.length l) c ∧ l.length ≤ c ∧ Kd.C (Kd.slice 2 (Kd.int .i64)) W A l.length l ∧ (l.length ≤ maxLen ∧ ∀ y0 ∈ l, (y0.length ≤ maxLen ∧ ∀ y1 ∈ y0, (Lit.int .i64 y1).wf = true)) := by
    obtain ⟨a_, len_, cap_, rfl⟩ := okWide_slice Try.underlying25 (hval 0 25 v0 rfl rfl)
    obtain ⟨fuel, hf⟩ := h0
    obtain ⟨l, ⟨A, c, e, hl, hC⟩, hok⟩ := (opens_slice Try.underlying25 (by kernel_rfl) (opens_slice Try.underlying31 (by kernel_rfl) (opens_int Try.underlying2))) H enc W true fuel _ _ hf
    simp [Value.cells] at e
    obtain ⟨rfl, rfl, rfl⟩ := e
    exact ⟨a_, cap_, l, rfl, hl, hC, hok⟩
  subst ev0
  obtain ⟨a1, rfl, rfl, rfl, w1⟩ := open_int Try.underlying2 (hval 1 2 v1 rfl rfl) h1
  clear hA0 hval0 hsz0
  obtain ⟨k, hk⟩ := Pure.FnExactSpreadOf l0 a1 ok0 w1
  refine (laws_FnExactSpreadOf.calls k A0 c0 l0 a1 true W hC0 hl0 hk).mono fun e W' ⟨he, bel⟩ => ?_
  subst he
  exact ⟨_, rfl, _, _, _, [], _, [], hW', trodAll_mk1 (shut_bool Try.underlying4 _), (trodAll_cons_mk (Below.trod laidOut (by kernel_rfl) (of_decide_eq_true (by kernel_rfl)) k0 bel lt0) (trodAll_cons_mk (shut_int Try.underlying2 w1) trodAll_mk0)), rfl, bel.frame _, fun h => by cases h⟩
theorem over : Rows.fnExactSpreadOfRow.holds Try.pinned (OpenSpec.ofChange Rows.fnExactSpreadOfSpec) :=
  OpenClaim.holds_of_wide 8 Try.f8 rfl rfl rfl rfl rfl rfl rfl ⟨rfl, rfl, rfl, rfl, rfl⟩ rfl rfl rfl rfl rfl (by kernel_rfl) Try.func8 (by kernel_rfl)
    (of_decide_eq_true (by kernel_rfl)) (by unfold Func.isWrapper; first | (rw [if_pos (by decide +kernel)]; kernel_rfl) | (rw [if_neg (by decide +kernel)]; exact ⟨rfl, rfl⟩))
    (fun os started H enc _ => lifted os started H enc)
theorem proved : Rows.FnExactSpreadOfSaid := over
#print axioms proved
end Go.Proofs.Ytamjcfdjcagjmaa.fnExactSpreadOf
namespace Go.Proofs.Ytamjcfdjcagjmaa
/-- The row, under a short name, for the claim. -/
theorem fnExactSpreadOf_holds : Rows.FnExactSpreadOfSaid := fnExactSpreadOf.proved
end Go.Proofs.Ytamjcfdjcagjmaa
