/- Spread: what FnSpread says of the drawn doubling mask holds. Plain Lean; no condition. -/
import Derived.Test.YtamjcfdjcagjmaaPx8
import Derived.Test.YtamjcfdjcagjmaaPT
import Derived.Test.YtamjcfdjcagjmaaPB
namespace Go.Proofs.Ytamjcfdjcagjmaa.Pure
open Go.RowKit Go.Proofs.Ytamjcfdjcagjmaa.P Go.Proofs.YtamjcfdjcagjmaaW.PrintWords Go.Proofs.YtamjcfdjcagjmaaW.PrintLast
/-- What stands behind the drawn order, the mask given. -/
theorem spread_core (M : List (List Int)) (S : Int) (N : Nat) (hM : M.length = N) (hS : S = (N : Int) * (N : Int)) (h2 : 2 ≤ N) (h8 : N ≤ 8) (hm : maskB M = true)
    (hfirst : spreadOut M.length (spreadPl M 2 M.length) (spreadPl M 2 M.length).length (wrap64 (2 * (M.length : Int) * (M.length : Int))) = wrap64 (Int.tdiv S 2))
    (l1 : List Int) (hu1 : ∀ x ∈ l1, (Lit.int .u8 x).wf = true) :
    ((impl_SpreadOf.f M 2).bind fun bt380 => ((laws_b10At.f l1 0 (wrap64 (S - 1))).bind fun t382 => ((impl_SpreadOf.f M (wrap64 (2 + t382))).bind fun bt383 => ((impl_SpreadOf.f M S).bind fun bt385 => (if true = true then (if bt380.2 = true then (if bt383.2 = true then (if bt385.2 = true then (if bt380.1 = wrap64 (Int.tdiv S 2) then (if bt383.1 ≤ bt380.1 then (if bt385.1 ≤ bt383.1 then (some (bt385.1 == 1)) else (some false)) else (some false)) else (some false)) else (some false)) else (some false)) else (some false)) else (some false)))))) = some true := by
  have hPm := (maskB_iff M).1 hm
  have hrow := hPm.1
  have hlast := spread_last M hPm (by omega) (by omega)
  have hsq : (N : Int) * (N : Int) = ((N * N : Nat) : Int) := by simp
  have hsq2 : N * N ≤ 8 * 8 := Nat.mul_le_mul h8 h8
  have hsq3 : 2 * 2 ≤ N * N := Nat.mul_le_mul h2 h2
  have hw : wrap64 ((M.length : Int) * (M.length : Int)) = S := by rw [hM, hS]; unfold wrap64; omega
  have hS2 : (M.length : Int) * (M.length : Int) = S := by rw [hM, hS]
  rw [hS2] at hlast
  have hval : ∀ c : Int, 2 ≤ c → c ≤ S → impl_SpreadOf.f M c = some (spreadOut M.length (spreadPl M c M.length) (spreadPl M c M.length).length (wrap64 (2 * (M.length : Int) * (M.length : Int))), true) := by
    intro c h1 h2
    unfold impl_SpreadOf.f
    rw [hw, if_pos (by simp [hm]; omega)]
  have hw1 : wrap64 (S - 1) = S - 1 := by unfold wrap64; omega
  rw [hw1]
  obtain ⟨v, hv, hv0, hv1⟩ := b10At_val l1 hu1 0 (S - 1) (by omega) (by omega) (by omega)
  have hc : wrap64 (2 + v) = 2 + v := by unfold wrap64; omega
  have hmo1 := spread_mono M hrow 2 (2 + v) (wrap64 (2 * (M.length : Int) * (M.length : Int))) (by omega)
  have hmo2 := spread_mono M hrow (2 + v) S (wrap64 (2 * (M.length : Int) * (M.length : Int))) (by omega)
  rw [hval 2 (by omega) (by omega), Option.bind_some, hv, Option.bind_some, hc, hval (2 + v) (by omega) (by omega), Option.bind_some, hval S (by omega) (by omega), Option.bind_some]
  rw [if_pos rfl, if_pos rfl, if_pos rfl, if_pos rfl, if_pos hfirst, if_pos hmo1, if_pos hmo2]
  dsimp only
  rw [hlast]
  rfl
theorem mask1 : maskB (dbl 1) = true := by rw [maskB_iff]; unfold IsMaskP; decide +kernel
theorem mask2 : maskB (dbl 2) = true := by rw [maskB_iff]; unfold IsMaskP; decide +kernel
theorem mask3 : maskB (dbl 3) = true := by rw [maskB_iff]; unfold IsMaskP; decide +kernel
theorem FnSpread : laws_FnSpread.Pure := by
  intro l0 l1 h0 _ hu0 h1 _ hu1
  unfold laws_FnSpread.f
  obtain ⟨b, hb⟩ := b10Long_val l0 l1
  rw [hb, Option.bind_some]
  by_cases c : b = true
  · rw [if_pos c]
  · rw [if_neg c]
    obtain ⟨v, hv, hv0, hv3⟩ := b10At_val l0 hu0 0 3 (by omega) (by omega) (by omega)
    rw [hv, Option.bind_some]
    obtain rfl | rfl | rfl : v = 0 ∨ v = 1 ∨ v = 2 := by omega
    · have e1 : impl_DoublingMask.f (wrap64 (1 + 0)) = some (dbl 1, true) := by decide +kernel
      have e2 : wrap64 ((shl .i64 1 (IntKind.u64.wrap (wrap64 (1 + 0)))) * (shl .i64 1 (IntKind.u64.wrap (wrap64 (1 + 0))))) = 4 := by decide +kernel
      rw [e1, Option.bind_some, if_pos (by decide +kernel), e2]
      exact spread_core (dbl 1) 4 2 (by decide +kernel) (by decide) (by omega) (by omega) mask1 (by decide +kernel) l1 hu1
    · have e1 : impl_DoublingMask.f (wrap64 (1 + 1)) = some (dbl 2, true) := by decide +kernel
      have e2 : wrap64 ((shl .i64 1 (IntKind.u64.wrap (wrap64 (1 + 1)))) * (shl .i64 1 (IntKind.u64.wrap (wrap64 (1 + 1))))) = 16 := by decide +kernel
      rw [e1, Option.bind_some, if_pos (by decide +kernel), e2]
      exact spread_core (dbl 2) 16 4 (by decide +kernel) (by decide) (by omega) (by omega) mask2 (by decide +kernel) l1 hu1
    · have e1 : impl_DoublingMask.f (wrap64 (1 + 2)) = some (dbl 3, true) := by decide +kernel
      have e2 : wrap64 ((shl .i64 1 (IntKind.u64.wrap (wrap64 (1 + 2)))) * (shl .i64 1 (IntKind.u64.wrap (wrap64 (1 + 2))))) = 64 := by decide +kernel
      rw [e1, Option.bind_some, if_pos (by decide +kernel), e2]
      exact spread_core (dbl 3) 64 8 (by decide +kernel) (by decide) (by omega) (by omega) mask3 (by decide +kernel) l1 hu1
end Go.Proofs.Ytamjcfdjcagjmaa.Pure
