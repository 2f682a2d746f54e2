/- What MaskDither computes, in plain Lean. -/
import Derived.Test.YtamjcfdjcagjmaaPx11
import Derived.Test.YtamjcfdjcagjmaaPx1
import Derived.Test.YtamjcfdjcagjmaaPx9
import Derived.Test.YtamjcfdjcagjmaaPK
import Derived.Test.YtamjcfdjcagjmaaPP
namespace Go.Proofs.Ytamjcfdjcagjmaa.P
open Go.RowKit Go.Proofs.YtamjcfdjcagjmaaW.PrintWords Go.Proofs.YtamjcfdjcagjmaaW.PrintLast Go.Proofs.YtamjcfdjcagjmaaW.PrintMore
set_option linter.unusedVariables false
set_option linter.unusedSimpArgs false

/-! ### matrices filled place by place -/
def fillM (h w : Nat) (V : Nat → Nat → Int) (i k : Nat) : List (List Int) := (List.range h).map fun r => (List.range w).map fun c => if r < i ∨ r = i ∧ c < k then V r c else 0
def fullM (h w : Nat) (V : Nat → Nat → Int) : List (List Int) := (List.range h).map fun r => (List.range w).map fun c => V r c
theorem fillM_len (h w : Nat) (V : Nat → Nat → Int) (i k : Nat) : (fillM h w V i k).length = h := by simp [fillM]
theorem fillM_row (h w : Nat) (V : Nat → Nat → Int) (i k r : Nat) (hr : r < h) : rdR (fillM h w V i k) r = (List.range w).map fun c => if r < i ∨ r = i ∧ c < k then V r c else 0 := by
  rw [rdR_mem (by rw [fillM_len]; exact hr)]
  simp [fillM]
theorem fullM_row (h w : Nat) (V : Nat → Nat → Int) (r : Nat) (hr : r < h) : rdR (fullM h w V) r = (List.range w).map fun c => V r c := by
  rw [rdR_mem (by simp [fullM]; exact hr)]
  simp [fullM]
theorem fillM_zero (h w : Nat) (V : Nat → Nat → Int) : fillM h w V 0 0 = List.replicate h (List.replicate w 0) := by
  apply List.ext_getElem
  · simp [fillM]
  · intro r h1 h2
    simp only [fillM, List.getElem_map, List.getElem_range, List.getElem_replicate]
    apply List.ext_getElem
    · simp
    · intro c h3 h4
      simp only [List.getElem_map, List.getElem_range, List.getElem_replicate]
      rw [if_neg (by omega)]
theorem fillM_next (h w : Nat) (V : Nat → Nat → Int) (i : Nat) : fillM h w V i w = fillM h w V (i + 1) 0 := by
  apply List.ext_getElem
  · simp [fillM]
  · intro r h1 h2
    simp only [fillM, List.getElem_map, List.getElem_range]
    apply List.ext_getElem
    · simp
    · intro c h3 h4
      simp only [List.getElem_map, List.getElem_range]
      simp only [List.length_map, List.length_range] at h3
      by_cases e : r < i ∨ r = i ∧ c < w
      · rw [if_pos e, if_pos (by omega)]
      · rw [if_neg e, if_neg (by omega)]
theorem fillM_full (h w : Nat) (V : Nat → Nat → Int) : fillM h w V h 0 = fullM h w V := by
  apply List.ext_getElem
  · simp [fillM, fullM]
  · intro r h1 h2
    simp only [fillM, fullM, List.getElem_map, List.getElem_range]
    simp only [fillM_len] at h1
    apply List.ext_getElem
    · simp
    · intro c h3 h4
      simp only [List.getElem_map, List.getElem_range]
      rw [if_pos (by omega)]
theorem fillM_put (h w : Nat) (V : Nat → Nat → Int) (i k : Nat) (hi : i < h) (hk : k < w) : (fillM h w V i k).set i ((rdR (fillM h w V i k) i).set k (V i k)) = fillM h w V i (k + 1) := by
  apply List.ext_getElem
  · simp [fillM]
  · intro r h1 h2
    rw [fillM_len] at h2
    rw [List.getElem_set]
    by_cases e : i = r
    · rw [if_pos e]
      subst e
      rw [fillM_row h w V i k i hi]
      simp only [fillM, List.getElem_map, List.getElem_range]
      apply List.ext_getElem
      · simp
      · intro c h3 h4
        rw [List.getElem_set]
        simp only [List.getElem_map, List.getElem_range]
        by_cases e : k = c
        · subst e
          simp
        · rw [if_neg e]
          by_cases e2 : c < k
          · have e3 : c < k + 1 := by omega
            simp [e2, e3]
          · have e3 : ¬ c < k + 1 := by omega
            simp [e2, e3]
    · rw [if_neg e]
      simp only [fillM, List.getElem_map, List.getElem_range]
      apply List.ext_getElem
      · simp
      · intro c h3 h4
        simp only [List.getElem_map, List.getElem_range]
        by_cases e2 : r < i ∨ r = i ∧ c < k
        · rw [if_pos e2, if_pos (by omega)]
        · rw [if_neg e2, if_neg (by omega)]

/-! ### MaskDither -/
def mskB (M : List (List Int)) : Bool := decide (1 ≤ M.length) && decide (M.length ≤ 8) && maskB M
def ditV (P M : List (List Int)) (i k : Nat) : Int := if wrap64 (wrap64 (2 * wrap64 ((M.length : Int) * (M.length : Int))) * rd (rdR P i) (k : Nat)) > wrap64 (255 * wrap64 (wrap64 (2 * rd (rdR M (i % M.length)) ((k % M.length : Nat))) + 1)) then 1 else 0
theorem noughts_ev (n m : Nat) (hn : n ≤ 11728124029610) (hm : m ≤ 35184372088832) : Ev (fun k => impl_noughts.f k n m) (List.replicate n (List.replicate m 0)) := by
  obtain ⟨k, hk⟩ := noughts_val n m hn hm
  exact Ev.of (fun k => impl_noughts.mono _ _ k) hk
theorem bit_val (p : Prop) [Decidable p] : impl_bit.f (decide p) = some (if p then 1 else 0) := by
  unfold impl_bit.f
  by_cases h : p <;> simp [h]
theorem dither_l1 (P M : List (List Int)) (hP : picB P = true) (hM : mskB M = true) (i : Nat) (hi : i < P.length) (R : List (List Int) × Bool)
    (cont : Ev (fun q => impl_MaskDither.l0 q M M.length (fillM P.length (rdR P 0).length (ditV P M) (i + 1) 0) P P.length ((i + 1 : Nat) : Int)) R) (d : Nat) :
    ∀ k : Nat, (rdR P 0).length - k = d → k ≤ (rdR P 0).length → Ev (fun q => impl_MaskDither.l1 q M M.length (fillM P.length (rdR P 0).length (ditV P M) i k) i P P.length i (rdR P i) ((rdR P i).length : Int) (k : Int)) R := by
  obtain ⟨⟨p1, p2, p3, p4⟩, p5⟩ := pic_rows hP
  have hlen := (p5 i hi).1
  unfold mskB at hM
  simp only [Bool.and_eq_true, decide_eq_true_eq] at hM
  obtain ⟨⟨m1, m2⟩, m3⟩ := hM
  have hrow := ((maskB_iff M).1 m3).1
  induction d with
  | zero =>
    intro k hd hk
    obtain rfl : k = (rdR P 0).length := by omega
    refine Ev.step (f := fun q => impl_MaskDither.l0 q M M.length (fillM P.length (rdR P 0).length (ditV P M) (i + 1) 0) P P.length ((i + 1 : Nat) : Int)) (fun q => ?_) cont
    simp only [impl_MaskDither.l1]
    rw [if_neg (by omega), wrapI (by omega) (by omega), fillM_next]
    rfl
  | succ d ih =>
    intro k hd hk
    have hlt : k < (rdR P 0).length := by omega
    have hti : Int.tmod (i : Int) (M.length : Int) = ((i % M.length : Nat) : Int) := rfl
    have htk : Int.tmod (k : Int) (M.length : Int) = ((k % M.length : Nat) : Int) := rfl
    have hmi : i % M.length < M.length := Nat.mod_lt _ (by omega)
    have hmk : k % M.length < M.length := Nat.mod_lt _ (by omega)
    have hml : (rdR M (i % M.length)).length = M.length := by rw [rdR_mem hmi]; exact hrow _ (List.getElem_mem hmi)
    have hml2 : ((k % M.length : Nat) : Int) < ((rd_L2 M ((i % M.length : Nat) : Int)).length : Int) := by rw [rdL2]; omega
    have hfl := fillM_len P.length (rdR P 0).length (ditV P M) i k
    have hfr : (k : Int) < ((rd_L2 (fillM P.length (rdR P 0).length (ditV P M) i k) (i : Int)).length : Int) := by rw [rdL2, fillM_row _ _ _ _ _ _ hi]; simp; omega
    refine Ev.step (f := fun q => impl_MaskDither.l1 q M M.length (fillM P.length (rdR P 0).length (ditV P M) i (k + 1)) i P P.length i (rdR P i) ((rdR P i).length : Int) ((k + 1 : Nat) : Int)) (fun q => ?_) (ih (k + 1) (by omega) (by omega))
    simp only [impl_MaskDither.l1]
    rw [hti, htk]
    rw [if_pos (by omega), if_pos (by omega), if_pos (by omega), if_pos (by omega), if_pos (by omega), if_neg (by omega), if_pos (by omega), if_pos (by omega), if_pos (by omega), if_pos hml2, bit_val]
    simp only [Option.bind_some]
    rw [if_pos hfr, wrapI (x := (k : Int) + 1) (by omega) (by omega), ← fillM_put _ _ _ _ _ hi hlt]
    rfl
theorem dither_l0 (P M : List (List Int)) (hP : picB P = true) (hM : mskB M = true) (d : Nat) :
    ∀ i : Nat, P.length - i = d → i ≤ P.length → Ev (fun q => impl_MaskDither.l0 q M M.length (fillM P.length (rdR P 0).length (ditV P M) i 0) P P.length (i : Int)) (fullM P.length (rdR P 0).length (ditV P M), true) := by
  obtain ⟨⟨p1, p2, p3, p4⟩, p5⟩ := pic_rows hP
  induction d with
  | zero =>
    intro i hd hi
    obtain rfl : i = P.length := by omega
    refine Ev.step (f := fun _ => some (fillM P.length (rdR P 0).length (ditV P M) P.length 0, true)) (fun q => ?_) (Ev.const (by rw [fillM_full]))
    simp only [impl_MaskDither.l0]
    rw [if_neg (by omega)]
  | succ d ih =>
    intro i hd hi
    have hlt : i < P.length := by omega
    refine Ev.step (f := fun q => impl_MaskDither.l1 q M M.length (fillM P.length (rdR P 0).length (ditV P M) i 0) i P P.length i (rdR P i) ((rdR P i).length : Int) ((0 : Nat) : Int)) (fun q => ?_) (dither_l1 P M hP hM i hlt _ (ih (i + 1) (by omega) (by omega)) (rdR P 0).length 0 (by omega) (by omega))
    simp only [impl_MaskDither.l0]
    rw [if_pos (by omega), if_pos (by omega), if_pos (by omega)]
    rfl
theorem validPic_val (P : List (List Int)) : impl_ValidPicture.f P = some (picB P) := rfl
theorem dither_ev (P M : List (List Int)) (hP : picB P = true) (hM : mskB M = true) : Ev (fun q => impl_MaskDither.f q P M) (fullM P.length (rdR P 0).length (ditV P M), true) := by
  obtain ⟨⟨p1, p2, p3, p4⟩, p5⟩ := pic_rows hP
  unfold impl_MaskDither.f
  rw [validPic_val, hP]
  refine Ev.bindc rfl (Ev.of_ite_pos rfl ?_)
  have hmm : impl_IsMask.f M = some (mskB M) := rfl
  rw [hmm, hM]
  refine Ev.bindc rfl ?_
  refine Ev.step (f := fun q => ((impl_noughts.f q (P.length : Int) ((rd_L2 P 0).length : Int)).bind fun t391 => (impl_MaskDither.l0 q M (M.length : Int) t391 P (P.length : Int) 0))) (fun q => ?_) ?_
  · simp only [impl_MaskDither.j0]
    rw [if_neg (by simp), if_pos (by omega)]
  · refine Ev.bind (noughts_ev P.length (rdR P 0).length (by omega) (by omega)) ?_
    have := dither_l0 P M hP hM P.length 0 (by omega) (by omega)
    rw [fillM_zero] at this
    exact this
end Go.Proofs.Ytamjcfdjcagjmaa.P
