/- The row of FnExactMaskDither: whatever input can be read, the law returns true and its input reads as it did. No condition. -/
import Derived.Test.YtamjcfdjcagjmaaRows
import Derived.Test.YtamjcfdjcagjmaaLwFnExactMaskDither
import Derived.Test.YtamjcfdjcagjmaaPureFnExactMaskDither
import Derived.Test.YtamjcfdjcagjmaaHR
import Derived.WalkKit
import Derived.ProofKit
import Derived.OpenShut
import Derived.ShutString
import Derived.ChangeOld
import Derived.Below
import Derived.SizedLaws
namespace Go.Proofs.Ytamjcfdjcagjmaa.fnExactMaskDither
open Go.ChangeShapes Go.WideShapes Go.ChangeAt Go.RowKit Go.Proofs.YtamjcfdjcagjmaaW.PrintWords Go.Proofs.Ytamjcfdjcagjmaa.P
open Go.ChangeMaps (open_string shut_string)
set_option linter.unusedVariables false
theorem own : ownKnob Try.prog.godebug = none := by kernel_rfl
theorem laidOut : laidOutB Try.prog = true := by kernel_rfl
set_option maxRecDepth 100000 in
theorem lifted (os : Os) (started : os.Started) (H : Type) (enc : TypeId × Value → H) :
    ReturnsInHanded {} Try.checked os 10 .any (Rows.fnExactMaskDitherSpec.pre6 enc Try.prog Try.f10 Rows.fnExactMaskDitherRow.domain false) (Rows.fnExactMaskDitherSpec.post enc Try.prog Try.f10 false true false false) := by
  refine returnsInHanded_of_change_sized (C := Try.checked) own started (by kernel_rfl) Try.func10
    (ChangeSpec.witness6 (enc := enc) (C := Try.checked) false ⟨#[], #[.agg #[.slice none 0 0], .slice none 0 0], []⟩ 8 (by kernel_rfl) (by kernel_rfl) (by kernel_rfl) (by kernel_rfl)) ?_
  intro W base args ds gs before hval0 hW hcnd hsz0 _
  have hval : ∀ (j : Nat) t v, Try.f10.params[j]? = some t → args[j]? = some v → Value.okWide Try.prog W .any base t v := hval0
  have hW' := hW
  obtain ⟨p, q, hA0, hV, rfl, hfz, hnd⟩ := hW
  have hA : DataW.TrodAll enc Try.prog W 0 (fun _ => true) true Try.f10.params.toList args.toList ds p := hA0
  rw [Try.params10] at hA hval
  obtain ⟨v0, vs0, d0, ds0, p0, q0, hargs, rfl, rfl, h0, r0⟩ := trodAll_cons hA
  obtain ⟨v1, vs1, d1, ds1, p1, q1, rfl, rfl, rfl, h1, r1⟩ := trodAll_cons r0
  obtain ⟨rfl, rfl, rfl⟩ := trodAll_nil r1
  obtain rfl : args = #[v0, v1] := by cases args; simp_all
  obtain ⟨rfl, rfl⟩ := trodVars_none hV
  have k0 := h0
  have lt0 : ∀ x ∈ p0, x.block < W.heap.size := by obtain ⟨m, hm⟩ := k0; exact DataW.trod_lt m _ _ _ hm
  obtain ⟨v0_0, y0_0, n0, ev0, hd0, hp0, t0_0⟩ := open_agg1 Try.underlying39 (by kernel_rfl) (by kernel_rfl) (hval 0 39 v0 rfl rfl) h0
  subst ev0
  obtain ⟨A0_0, c0_0, l0_0, ev0_0, hl0_0, hC0_0, ok0_0⟩ : ∃ A c l, v0_0 = .slice A (List.length l) c ∧ l.length ≤ c ∧ Kd.C (Kd.slice 2 (Kd.int .i64)) W A l.length l ∧ (l.length ≤ maxLen ∧ ∀ y0 ∈ l, (y0.length ≤ maxLen ∧ ∀ y1 ∈ y0, (Lit.int .i64 y1).wf = true)) := by
    obtain ⟨a_, len_, cap_, he_⟩ := Go.Joins.slice_form Try.underlying25 t0_0
    obtain ⟨l, ⟨A, c, e, hl, hC⟩, hok⟩ := (opens_slice Try.underlying25 (by kernel_rfl) (opens_slice Try.underlying31 (by kernel_rfl) (opens_int Try.underlying2))) H enc W true _ _ _ t0_0
    simp at e he_
    subst he_
    simp at e
    obtain ⟨rfl, rfl, rfl⟩ := e
    exact ⟨a_, cap_, l, rfl, hl, hC, hok⟩
  subst ev0_0
  have k1 := h1
  have lt1 : ∀ x ∈ p1, x.block < W.heap.size := by obtain ⟨m, hm⟩ := k1; exact DataW.trod_lt m _ _ _ hm
  obtain ⟨A1, c1, l1, ev1, hl1, hC1, ok1⟩ : ∃ A c l, v1 = .slice A (List.length l) c ∧ l.length ≤ c ∧ Kd.C (Kd.slice 2 (Kd.int .i64)) W A l.length l ∧ (l.length ≤ maxLen ∧ ∀ y0 ∈ l, (y0.length ≤ maxLen ∧ ∀ y1 ∈ y0, (Lit.int .i64 y1).wf = true)) := by
    obtain ⟨a_, len_, cap_, rfl⟩ := okWide_slice Try.underlying25 (hval 1 25 v1 rfl rfl)
    obtain ⟨fuel, hf⟩ := h1
    obtain ⟨l, ⟨A, c, e, hl, hC⟩, hok⟩ := (opens_slice Try.underlying25 (by kernel_rfl) (opens_slice Try.underlying31 (by kernel_rfl) (opens_int Try.underlying2))) H enc W true fuel _ _ hf
    simp [Value.cells] at e
    obtain ⟨rfl, rfl, rfl⟩ := e
    exact ⟨a_, cap_, l, rfl, hl, hC, hok⟩
  subst ev1
  clear hA0 hval0 hsz0
  obtain ⟨k, hk⟩ := Pure.FnExactMaskDither l0_0 l1 ok0_0 ok1
  refine (laws_FnExactMaskDither.calls k A0_0 c0_0 l0_0 A1 c1 l1 W hC0_0 hl0_0 hC1 hl1 hk).mono fun e W' ⟨he, bel⟩ => ?_
  subst he
  exact ⟨_, rfl, _, _, _, [], _, [], hW', trodAll_mk1 (shut_bool Try.underlying4 _), (trodAll_cons_mk (Below.trod laidOut (by kernel_rfl) (of_decide_eq_true (by kernel_rfl)) k0 bel lt0) (trodAll_cons_mk (Below.trod laidOut (by kernel_rfl) (of_decide_eq_true (by kernel_rfl)) k1 bel lt1) trodAll_mk0)), rfl, bel.frame _, fun h => by cases h⟩
theorem over : Rows.fnExactMaskDitherRow.holds Try.pinned (OpenSpec.ofChange Rows.fnExactMaskDitherSpec) :=
  OpenClaim.holds_of_wide 10 Try.f10 rfl rfl rfl rfl rfl rfl rfl ⟨rfl, rfl, rfl, rfl, rfl⟩ rfl rfl rfl rfl rfl (by kernel_rfl) Try.func10 (by kernel_rfl)
    (of_decide_eq_true (by kernel_rfl)) (by unfold Func.isWrapper; first | (rw [if_pos (by decide +kernel)]; kernel_rfl) | (rw [if_neg (by decide +kernel)]; exact ⟨rfl, rfl⟩))
    (fun os started H enc _ => lifted os started H enc)
theorem proved : Rows.FnExactMaskDitherSaid := over
#print axioms proved
end Go.Proofs.Ytamjcfdjcagjmaa.fnExactMaskDither
namespace Go.Proofs.Ytamjcfdjcagjmaa
/-- The row, under a short name, for the claim. -/
theorem fnExactMaskDither_holds : Rows.FnExactMaskDitherSaid := fnExactMaskDither.proved
end Go.Proofs.Ytamjcfdjcagjmaa
