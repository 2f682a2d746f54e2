/- Rows of as many numbers up to a bound, as spec tells them; zeros. Plain Lean. -/
import Derived.Test.YtamjcfdjcagjmaaPx4
import Derived.Test.YtamjcfdjcagjmaaPx6
import Derived.Test.YtamjcfdjcagjmaaPx3
import Derived.Test.YtamjcfdjcagjmaaPE
import Derived.Test.YtamjcfdjcagjmaaPP
namespace Go.Proofs.Ytamjcfdjcagjmaa.P
open Go.RowKit Go.Proofs.YtamjcfdjcagjmaaW.PrintWords Go.Proofs.YtamjcfdjcagjmaaW.PrintLast Go.Proofs.YtamjcfdjcagjmaaW.PrintMore
set_option linter.unusedVariables false
set_option linter.unusedSimpArgs false

def inB (m n : Int) : Bool := decide (0 ≤ n) && decide (n ≤ m)
def formB (l : List (List Int)) (m : Int) : Bool := decide (1 ≤ l.length) && decide (l.length ≤ 12) && decide (1 ≤ (rdR l 0).length) && decide ((rdR l 0).length ≤ 12) && areRowsB l m
def rowB (l : List (List Int)) (m : Int) (row : List Int) : Bool := decide (row.length = (rdR l 0).length) && row.all fun n => decide (0 ≤ n) && decide (n ≤ m)
theorem inval (a c : Int) : spec_l00In.f a 0 c = some (decide (0 ≤ a) && decide (a ≤ c)) := by
  unfold spec_l00In.f
  by_cases h : 0 ≤ a
  · rw [if_pos h]; simp [h]
  · rw [if_neg h]; simp [h]
theorem form_l1 (l : List (List Int)) (m : Int) (hr : ∀ j, j < l.length → (rdR l j).length ≤ 9223372036854775807) (hl : l.length ≤ 9223372036854775807) (i : Nat) (hi : i < l.length) (R : Bool) (cont : Ev (fun k => spec_l09Form.l0 k l m ((i + 1 : Nat) : Int)) R) (d : Nat) :
    ∀ j : Nat, (rdR l i).length - j = d → j ≤ (rdR l i).length → Ev (fun k => spec_l09Form.l1 k l m (i : Int) (j : Int)) (((rdR l i).drop j).all (fun n => decide (0 ≤ n) && decide (n ≤ m)) && R) := by
  have hri := hr i hi
  induction d with
  | zero =>
    intro j hd hj
    have e : (rdR l i).drop j = [] := List.drop_eq_nil_of_le (by omega)
    rw [e]
    refine Ev.step (fun q => spec_l09Form.l1.eq_2 l m i j q) (Ev.of_ite_pos (by omega) (Ev.of_ite_pos (by omega) (Ev.of_ite_neg (by rw [rdL2]; omega) ?_)))
    rw [wrap_succ hi hl]
    simpa using cont
  | succ d ih =>
    intro j hd hj
    have hlt : j < (rdR l i).length := by omega
    have e : (rdR l i).drop j = rd (rdR l i) (j : Int) :: (rdR l i).drop (j + 1) := by rw [List.drop_eq_getElem_cons hlt, rd_mem hlt]
    rw [e, List.all_cons]
    refine Ev.step (fun q => spec_l09Form.l1.eq_2 l m i j q) (Ev.of_ite_pos (by omega) (Ev.of_ite_pos (by omega) (Ev.of_ite_pos (by rw [rdL2]; omega) (Ev.of_ite_pos (by omega) (Ev.bindc (by rw [rdL2]; exact inval _ _) ?_)))))
    by_cases c : (decide (0 ≤ rd (rdR l i) (j : Int)) && decide (rd (rdR l i) (j : Int) ≤ m)) = true
    · refine Ev.of_ite_pos c ?_
      rw [c, Bool.true_and, wrap_succ hlt hri]
      exact ih (j + 1) (by omega) (by omega)
    · refine Ev.of_ite_neg c (Ev.const ?_)
      rw [Bool.not_eq_true] at c
      rw [c]
      rfl
theorem form_l0 (l : List (List Int)) (m : Int) (hr : ∀ j, j < l.length → (rdR l j).length ≤ 9223372036854775807) (hl : l.length ≤ 9223372036854775807) (d : Nat) : ∀ i : Nat, l.length - i = d → i ≤ l.length → Ev (fun k => spec_l09Form.l0 k l m (i : Int)) ((l.drop i).all (rowB l m)) := by
  induction d with
  | zero =>
    intro i hd hi
    have e : l.drop i = [] := List.drop_eq_nil_of_le (by omega)
    rw [e]
    exact Ev.step (fun q => spec_l09Form.l0.eq_2 l m i q) (Ev.of_ite_neg (by omega) (Ev.now _))
  | succ d ih =>
    intro i hd hi
    have hlt : i < l.length := by omega
    have e : l.drop i = rdR l i :: l.drop (i + 1) := by rw [List.drop_eq_getElem_cons hlt, rdR_at hlt]
    rw [e, List.all_cons]
    refine Ev.step (fun q => spec_l09Form.l0.eq_2 l m i q) (Ev.of_ite_pos (by omega) (Ev.of_ite_pos (by omega) (Ev.of_ite_pos (by omega) ?_)))
    have r0 : rd_L2 l 0 = rdR l 0 := rfl
    by_cases c : (rdR l i).length = (rdR l 0).length
    · refine Ev.of_ite_pos (by rw [rdL2, r0, c]) ?_
      have := form_l1 l m hr hl i hlt _ (ih (i + 1) (by omega) (by omega)) (rdR l i).length 0 (by omega) (by omega)
      rw [show rowB l m (rdR l i) = ((rdR l i).all fun n => decide (0 ≤ n) && decide (n ≤ m)) from by unfold rowB; rw [decide_eq_true c, Bool.true_and]]
      simpa using this
    · refine Ev.of_ite_neg (by rw [rdL2, r0]; omega) (Ev.const ?_)
      rw [show rowB l m (rdR l i) = false from by unfold rowB; rw [decide_eq_false c]; rfl]
      rfl
theorem form_ev (l : List (List Int)) (m : Int) (hr : ∀ j, j < l.length → (rdR l j).length ≤ 9223372036854775807) (hl : l.length ≤ 9223372036854775807) : Ev (fun k => spec_l09Form.f k l m) (formB l m) := by
  have r0 : rd_L2 l 0 = rdR l 0 := rfl
  have hno : Ev (fun k => spec_l09Form.j0 k l m true) false := Ev.step (fun q => spec_l09Form.j0.eq_2 l m true q) (Ev.of_ite_pos rfl (Ev.now _))
  unfold spec_l09Form.f formB
  by_cases c1 : 1 ≤ l.length
  · refine Ev.of_ite_neg (by omega) ?_
    by_cases c2 : l.length ≤ 12
    · refine Ev.of_ite_neg (by omega) (Ev.of_ite_pos (by omega) ?_)
      by_cases c3 : 1 ≤ (rdR l 0).length
      · refine Ev.of_ite_neg (by rw [r0]; omega) ?_
        by_cases c4 : (rdR l 0).length ≤ 12
        · have e : decide (((rd_L2 l 0).length : Int) > 12) = false := decide_eq_false (by rw [r0]; omega)
          rw [e]
          refine Ev.step (fun q => spec_l09Form.j0.eq_2 l m false q) (Ev.of_ite_neg (by simp) ?_)
          have := form_l0 l m hr hl l.length 0 (by omega) (by omega)
          rw [List.drop_zero] at this
          rw [decide_eq_true c1, decide_eq_true c2, decide_eq_true c3, decide_eq_true c4]
          exact this
        · have e : decide (((rd_L2 l 0).length : Int) > 12) = true := decide_eq_true (by rw [r0]; omega)
          rw [e, decide_eq_false c4]
          simpa using hno
      · refine Ev.of_ite_pos (by rw [r0]; omega) ?_
        rw [decide_eq_false c3]
        simpa using hno
    · refine Ev.of_ite_pos (by omega) ?_
      rw [decide_eq_false c2]
      simpa using hno
  · refine Ev.of_ite_pos (by omega) ?_
    rw [decide_eq_false c1]
    simpa using hno
theorem square_loop (n m : Nat) (hn : n ≤ 1000000) (hm : m ≤ 35184372088832) (d : Nat) : ∀ i : Nat, n - i = d → i ≤ n → Ev (fun k => spec_l09Square.l0 k n m (List.replicate i (List.replicate m 0)) (i : Int)) (List.replicate n (List.replicate m 0)) := by
  induction d with
  | zero =>
    intro i hd hi
    obtain rfl : i = n := by omega
    exact Ev.step (fun q => spec_l09Square.l0.eq_2 i m _ i q) (Ev.of_ite_neg (by omega) (Ev.now _))
  | succ d ih =>
    intro i hd hi
    have hlt : i < n := by omega
    refine Ev.step (fun q => spec_l09Square.l0.eq_2 n m _ i q) (Ev.of_ite_pos (by omega) (Ev.of_ite_pos (by omega) (Ev.of_ite_pos (by omega) (Ev.of_ite_pos (by simp; omega) ?_))))
    rw [wrap_succ hlt (by omega), Int.toNat_natCast, ← List.replicate_succ']
    exact ih (i + 1) (by omega) (by omega)
theorem square_ev (n m : Nat) (hn : n ≤ 1000000) (hm : m ≤ 35184372088832) : Ev (fun k => spec_l09Square.f k n m) (List.replicate n (List.replicate m 0)) := square_loop n m hn hm n 0 (by omega) (by omega)
end Go.Proofs.Ytamjcfdjcagjmaa.P
