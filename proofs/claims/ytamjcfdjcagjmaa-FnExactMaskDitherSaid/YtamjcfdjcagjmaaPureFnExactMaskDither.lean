/- MaskDither: the program's answer is the reference's, for every picture and every mask; what was handed in and what is handed out share nothing. Plain Lean; no condition. -/
import Derived.Test.YtamjcfdjcagjmaaLwFnExactMaskDither
import Derived.Test.YtamjcfdjcagjmaaPM
import Derived.Test.YtamjcfdjcagjmaaPD
import Derived.Test.YtamjcfdjcagjmaaPA
import Derived.Test.YtamjcfdjcagjmaaPF
import Derived.Test.YtamjcfdjcagjmaaPQ
namespace Go.Proofs.Ytamjcfdjcagjmaa.Pure
open Go.RowKit Go.Proofs.Ytamjcfdjcagjmaa.P Go.Proofs.YtamjcfdjcagjmaaW.PrintWords Go.Proofs.YtamjcfdjcagjmaaW.PrintLast
set_option linter.unusedVariables false
set_option linter.unusedSimpArgs false
theorem fillM_skip (h w : Nat) (V : Nat → Nat → Int) (i k : Nat) (hi : i < h) (hk : k < w) (hV : V i k = 0) : fillM h w V i k = fillM h w V i (k + 1) := by
  rw [← fillM_put h w V i k hi hk, hV]
  apply List.ext_getElem
  · simp
  · intro r h1 h2
    rw [List.getElem_set]
    split
    · next e =>
      subst e
      rw [← rdR_at h1, fillM_row _ _ _ _ _ _ hi]
      apply List.ext_getElem
      · simp
      · intro c h3 h4
        rw [List.getElem_set]
        split
        · next e2 =>
          subst e2
          simp
        · rfl
    · rfl
theorem sdither_l1 (P M : List (List Int)) (hP : picB P = true) (hM : mskB M = true) (i : Nat) (hi : i < P.length) (R : List (List Int) × Bool)
    (cont : Ev (fun q => spec_MaskDither.l0 q M M.length (fillM P.length (rdR P 0).length (ditV P M) (i + 1) 0) ((i + 1 : Nat) : Int) P) R) (d : Nat) :
    ∀ k : Nat, (rdR P 0).length - k = d → k ≤ (rdR P 0).length → Ev (fun q => spec_MaskDither.l1 q M M.length (fillM P.length (rdR P 0).length (ditV P M) i k) i (k : Int) P) R := by
  obtain ⟨⟨p1, p2, p3, p4⟩, p5⟩ := pic_rows hP
  have hlen := (p5 i hi).1
  unfold mskB at hM
  simp only [Bool.and_eq_true, decide_eq_true_eq] at hM
  obtain ⟨⟨m1, m2⟩, m3⟩ := hM
  have hrow := ((maskB_iff M).1 m3).1
  have hfl := fun k => fillM_len P.length (rdR P 0).length (ditV P M) i k
  have hrl : ∀ k, (rdR (fillM P.length (rdR P 0).length (ditV P M) i k) i).length = (rdR P 0).length := fun k => by rw [fillM_row _ _ _ _ _ _ hi]; simp
  induction d with
  | zero =>
    intro k hd hk
    obtain rfl : k = (rdR P 0).length := by omega
    have h1 := hfl (rdR P 0).length
    have h2 := hrl (rdR P 0).length
    refine Ev.step (fun q => spec_MaskDither.l1.eq_2 M _ _ _ _ P q) (Ev.of_ite_pos (by omega) (Ev.of_ite_pos (by omega) (Ev.of_ite_neg (by rw [rdL2]; omega) ?_)))
    rw [wrap_succ hi (by omega), fillM_next]
    exact cont
  | succ d ih =>
    intro k hd hk
    have hlt : k < (rdR P 0).length := by omega
    have hih := ih (k + 1) (by omega) (by omega)
    have hti : Int.tmod (i : Int) (M.length : Int) = ((i % M.length : Nat) : Int) := (Int.ofNat_tmod _ _).symm
    have htk : Int.tmod (k : Int) (M.length : Int) = ((k % M.length : Nat) : Int) := (Int.ofNat_tmod _ _).symm
    have hmi : i % M.length < M.length := Nat.mod_lt _ (by omega)
    have hmk : k % M.length < M.length := Nat.mod_lt _ (by omega)
    have hml : (rdR M (i % M.length)).length = M.length := by rw [rdR_mem hmi]; exact hrow _ (List.getElem_mem hmi)
    have hV : ditV P M i k = if wrap64 ((wrap64 ((wrap64 (2 * (M.length : Int))) * (M.length : Int))) * (rd (rdR P i) (k : Int))) > (wrap64 (255 * (wrap64 ((wrap64 (2 * (rd (rdR M (i % M.length)) ((k % M.length : Nat) : Int)))) + 1)))) then 1 else 0 := by
      unfold ditV
      have e : wrap64 (wrap64 (2 * (M.length : Int)) * (M.length : Int)) = wrap64 (2 * wrap64 ((M.length : Int) * (M.length : Int))) := by
        have hm0 : (0 : Int) ≤ (M.length : Int) * (M.length : Int) := Int.mul_nonneg (by omega) (by omega)
        have hm1 : (M.length : Int) * (M.length : Int) ≤ 8 * 8 := Int.mul_le_mul (by omega) (by omega) (by omega) (by omega)
        have e2 : (2 * (M.length : Int)) * (M.length : Int) = 2 * ((M.length : Int) * (M.length : Int)) := Int.mul_assoc _ _ _
        rw [wrapI (x := 2 * (M.length : Int)) (by omega) (by omega), e2]
        generalize (M.length : Int) * (M.length : Int) = S at *
        rw [wrapI (x := S) (by omega) (by omega)]
      rw [e]
    have h1 := hfl k
    have h2 := hrl k
    have c5 : ((i % M.length : Nat) : Int) < (M.length : Int) := Int.ofNat_lt.2 hmi
    have c6 : ((k % M.length : Nat) : Int) < ((rdR M (i % M.length)).length : Int) := by rw [hml]; exact Int.ofNat_lt.2 hmk
    refine Ev.step (fun q => spec_MaskDither.l1.eq_2 M _ _ _ _ P q) (Ev.of_ite_pos (by omega) (Ev.of_ite_pos (by omega) (Ev.of_ite_pos (by rw [rdL2]; omega) (Ev.of_ite_pos (by omega) (Ev.of_ite_pos (by omega) (Ev.of_ite_pos (by rw [rdL2]; omega) (Ev.of_ite_neg (by omega) ?_)))))))
    rw [hti, htk]
    refine Ev.of_ite_pos (Int.natCast_nonneg _) (Ev.of_ite_pos c5 (Ev.of_ite_pos (Int.natCast_nonneg _) (Ev.of_ite_pos c6 ?_)))
    have hw : wrap64 ((k : Int) + 1) = ((k + 1 : Nat) : Int) := wrap_succ hlt (by omega)
    rw [hw]
    by_cases c : wrap64 ((wrap64 ((wrap64 (2 * (M.length : Int))) * (M.length : Int))) * (rd (rdR P i) (k : Int))) > (wrap64 (255 * (wrap64 ((wrap64 (2 * (rd (rdR M (i % M.length)) ((k % M.length : Nat) : Int)))) + 1))))
    · rw [if_pos c] at hV
      refine Ev.of_ite_pos c ?_
      rw [Int.toNat_natCast, Int.toNat_natCast, rdL2, ← hV, fillM_put _ _ _ _ _ hi hlt]
      exact hih
    · rw [if_neg c] at hV
      refine Ev.of_ite_neg c ?_
      rw [fillM_skip _ _ _ _ _ hi hlt hV]
      exact hih
theorem sdither_l0 (P M : List (List Int)) (hP : picB P = true) (hM : mskB M = true) (d : Nat) :
    ∀ i : Nat, P.length - i = d → i ≤ P.length → Ev (fun q => spec_MaskDither.l0 q M M.length (fillM P.length (rdR P 0).length (ditV P M) i 0) (i : Int) P) (fullM P.length (rdR P 0).length (ditV P M), true) := by
  have hfl := fun i => fillM_len P.length (rdR P 0).length (ditV P M) i 0
  induction d with
  | zero =>
    intro i hd hi
    obtain rfl : i = P.length := by omega
    have := hfl P.length
    exact Ev.step (fun q => spec_MaskDither.l0.eq_2 M _ _ _ P q) (Ev.of_ite_neg (by omega) (Ev.const (by rw [fillM_full])))
  | succ d ih =>
    intro i hd hi
    have hlt : i < P.length := by omega
    have := hfl i
    exact Ev.step (fun q => spec_MaskDither.l0.eq_2 M _ _ _ P q) (Ev.of_ite_pos (by omega) (sdither_l1 P M hP hM i hlt _ (ih (i + 1) (by omega) (by omega)) (rdR P 0).length 0 (by omega) (by omega)))
/-- What both answer. -/
def ditR (P M : List (List Int)) : List (List Int) × Bool := if picB P = true ∧ mskB M = true then (fullM P.length (rdR P 0).length (ditV P M), true) else ([], false)
theorem spec_ditR (P M : List (List Int)) (hl : P.length ≤ 9223372036854775807) (hr : ∀ j, j < P.length → (rdR P j).length ≤ 9223372036854775807) (hm : M.length ≤ 9223372036854775807) : Ev (fun k => spec_MaskDither.f k P M) (ditR P M) := by
  have hno : Ev (fun k => spec_MaskDither.j0 k M true P) (([] : List (List Int)), false) := Ev.step (fun q => spec_MaskDither.j0.eq_2 M true P q) (Ev.of_ite_pos rfl (Ev.now _))
  unfold spec_MaskDither.f spec_l09Is.f ditR
  refine Ev.bind (Ev.bind (form_ev P 255 hr hl) (Ev.now _)) ?_
  by_cases hP : picB P = true
  · refine Ev.of_ite_pos hP (Ev.bind (specMask_ev' M hm) ?_)
    by_cases hM : mskB M = true
    · obtain ⟨⟨p1, p2, p3, p4⟩, p5⟩ := pic_rows hP
      rw [if_pos ⟨hP, hM⟩]
      show Ev (fun k => spec_MaskDither.j0 k M (!(mskB M)) P) _
      rw [hM]
      refine Ev.step (fun q => spec_MaskDither.j0.eq_2 M false P q) (Ev.of_ite_neg (by simp) (Ev.of_ite_pos (by omega) (Ev.bind (square_ev P.length (rdR P 0).length (by omega) (by omega)) ?_)))
      have := sdither_l0 P M hP hM P.length 0 (by omega) (by omega)
      rw [fillM_zero] at this
      exact this
    · rw [if_neg (fun h => hM h.2)]
      show Ev (fun k => spec_MaskDither.j0 k M (!(mskB M)) P) _
      rw [Bool.not_eq_true] at hM
      rw [hM]
      exact hno
  · rw [if_neg (fun h => hP h.1)]
    exact Ev.of_ite_neg hP hno
theorem impl_ditR (P M : List (List Int)) : Ev (fun k => impl_MaskDither.f k P M) (ditR P M) := by
  have hno : Ev (fun k => impl_MaskDither.j0 k M true P) (([] : List (List Int)), false) := Ev.step (fun q => impl_MaskDither.j0.eq_2 M true P q) (Ev.of_ite_pos rfl (Ev.now _))
  unfold ditR
  by_cases hP : picB P = true
  · by_cases hM : mskB M = true
    · rw [if_pos ⟨hP, hM⟩]
      exact dither_ev P M hP hM
    · rw [if_neg (fun h => hM h.2)]
      unfold impl_MaskDither.f
      have hm : impl_IsMask.f M = some (mskB M) := rfl
      rw [Bool.not_eq_true] at hM
      rw [hM] at hm
      exact Ev.bindc (validPic_val P) (Ev.of_ite_pos hP (Ev.bindc hm hno))
  · rw [if_neg (fun h => hP h.1)]
    unfold impl_MaskDither.f
    exact Ev.bindc (validPic_val P) (Ev.of_ite_neg hP hno)
theorem ditR_small (P M : List (List Int)) : (ditR P M).1.length ≤ 1048576 ∧ ∀ j, j < (ditR P M).1.length → (rdR (ditR P M).1 j).length ≤ 1048576 := by
  unfold ditR
  split
  · next h =>
    obtain ⟨⟨p1, p2, p3, p4⟩, p5⟩ := pic_rows h.1
    have hl : (fullM P.length (rdR P 0).length (ditV P M)).length = P.length := by simp [fullM]
    refine ⟨by dsimp only; omega, fun j hj => ?_⟩
    dsimp only at hj ⊢
    rw [fullM_row _ _ _ _ (by omega)]
    simp
    omega
  · exact ⟨by simp, fun j hj => by simp at hj⟩
theorem FnExactMaskDither : ∀ (l0_0 : List (List (Int))) (l1 : List (List (Int))), (l0_0.length ≤ maxLen ∧ ∀ y0 ∈ l0_0, (y0.length ≤ maxLen ∧ ∀ y1 ∈ y0, (Lit.int .i64 y1).wf = true)) → (l1.length ≤ maxLen ∧ ∀ y0 ∈ l1, (y0.length ≤ maxLen ∧ ∀ y1 ∈ y0, (Lit.int .i64 y1).wf = true)) → ∃ k, laws_FnExactMaskDither.f k l0_0 l1 = some true := by
  intro P M ⟨h0, h1⟩ ⟨g0, g1⟩
  simp only [maxLen] at h0 h1 g0 g1
  obtain ⟨v, hv, hv2⟩ := szInt64SS_ev P 1048576 (by omega) (by omega) h0 (fun row hr => (h1 row hr).1)
  refine Ev.rounds (show Ev (fun k => laws_FnExactMaskDither.f k P M) true from ?_)
  unfold laws_FnExactMaskDither.f
  by_cases hc : v < 0
  · exact Ev.bind (show Ev (fun k => laws_szPicture.f k P 1048576) (-1) from Ev.bind hv (Ev.of_ite_pos hc (Ev.now _))) (Ev.of_ite_pos (by omega) (Ev.now _))
  refine Ev.bind (show Ev (fun k => laws_szPicture.f k P 1048576) v from Ev.bind hv (Ev.of_ite_neg hc (Ev.now _))) (Ev.of_ite_neg hc ?_)
  rcases hv2 with hv2 | ⟨v0, v1, a, b⟩
  · exact absurd hv2 hc
  obtain ⟨u, hu, hu2⟩ := szInt64SS_ev M v (by omega) (by omega) g0 (fun row hr => (g1 row hr).1)
  by_cases hc2 : u < 0
  · exact Ev.bind hu (Ev.of_ite_pos hc2 (Ev.now _))
  refine Ev.bind hu (Ev.of_ite_neg hc2 ?_)
  rcases hu2 with hu2 | ⟨_, _, a2, b2⟩
  · exact absurd hu2 hc2
  have toP := toInt64SS_ev P (by omega) (fun row hr => by have := b row hr; omega)
  have toM := toInt64SS_ev M (by omega) (fun row hr => by have := b2 row hr; omega)
  have rowsOf : ∀ (l : List (List Int)), (∀ row ∈ l, row.length ≤ 1048576) → ∀ j, j < l.length → (rdR l j).length ≤ 1048576 := fun l h j hj => by rw [rdR_at hj]; exact h _ (List.getElem_mem hj)
  have hPr := rowsOf P b
  have hMr := rowsOf M b2
  obtain ⟨s1, s2⟩ := ditR_small P M
  have hsp := spec_ditR P M h0 (fun j hj => by have := hPr j hj; omega) g0
  have him := impl_ditR P M
  generalize ditR P M = D at *
  have heq := eqInt64SS_ev D.1 D.1 (by omega) (fun row hr => by
    obtain ⟨j, hj, rfl⟩ := List.getElem_of_mem hr
    have := s2 j hj
    rw [rdR_at hj] at this
    omega)
  have heqP := eqInt64SS_ev P P h0 (fun row hr => (h1 row hr).1)
  have heqM := eqInt64SS_ev M M g0 (fun row hr => (g1 row hr).1)
  rw [decide_eq_true rfl] at heq heqP heqM
  have mk0 := marks_ev P 1 a hPr (by omega) (by omega)
  obtain ⟨z0, z1⟩ := markAt_le P 1 1048576 hPr P.length (Nat.le_refl _)
  have z2 : (P.length : Int) * ((1048576 : Nat) : Int) ≤ 1048576 * 1048576 := Int.mul_le_mul (by omega) (by omega) (by omega) (by omega)
  have z3 : markAt P 1 P.length ≤ 2000000000000 := by
    generalize (P.length : Int) * ((1048576 : Nat) : Int) = z at *
    omega
  have mk1 := marks_ev M (markAt P 1 P.length) a2 hMr (by omega) z3
  have mk2 := marks_ev D.1 1 s1 s2 (by omega) (by omega)
  have hh := helds_ev D.1 1 s1 s2 (by omega) (by omega)
  refine Ev.bind (show Ev (fun k => laws_toPicture.f k P) P from Ev.bind toP (Ev.now _)) (Ev.bind toM (Ev.bind hsp (Ev.bind him (Ev.bind heq (Ev.bind (show Ev (fun k => laws_eqPicture.f k P P) true from Ev.bind heqP (Ev.of_ite_pos rfl (Ev.now _))) (Ev.bind heqM (Ev.bind mk0 (Ev.bind mk1 (Ev.bind mk2 (Ev.bind hh (Ev.of_ite_pos ?_ (Ev.now _))))))))))))
  have w1 := (markAt_le M (markAt P 1 P.length) 1048576 hMr M.length (Nat.le_refl _)).1
  have w2 := (markAt_le D.1 1 1048576 s2 D.1.length (Nat.le_refl _)).1
  exact ⟨rfl, rfl, rfl, rfl, by dsimp only; omega, by omega, rfl⟩
end Go.Proofs.Ytamjcfdjcagjmaa.Pure
