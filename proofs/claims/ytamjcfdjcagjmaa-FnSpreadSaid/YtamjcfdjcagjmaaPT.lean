/- Spread: with more places the least distance never grows; drawn numbers lie below their bound. Plain Lean. -/
import Derived.Test.YtamjcfdjcagjmaaPS
namespace Go.Proofs.Ytamjcfdjcagjmaa.P
open Go.RowKit Go.Proofs.YtamjcfdjcagjmaaW.PrintWords Go.Proofs.YtamjcfdjcagjmaaW.PrintLast Go.Proofs.YtamjcfdjcagjmaaW.PrintMore
set_option linter.unusedVariables false
set_option linter.unusedSimpArgs false

theorem spread_mono (l : List (List Int)) (hrow : ∀ row ∈ l, row.length = l.length) (c c' b : Int) (h : c ≤ c') :
    spreadOut l.length (spreadPl l c' l.length) (spreadPl l c' l.length).length b ≤ spreadOut l.length (spreadPl l c l.length) (spreadPl l c l.length).length b := by
  obtain ⟨h1, h2, h3⟩ := spreadOut_min l.length (spreadPl l c l.length) b (spreadPl l c l.length).length
  obtain ⟨k1, k2, k3⟩ := spreadOut_min l.length (spreadPl l c' l.length) b (spreadPl l c' l.length).length
  rcases h3 with h3 | ⟨j, q, hq, hj, h3⟩
  · omega
  · rw [h3]
    have hpair := List.pairwise_iff_getElem.1 (spreadPl_pair l c l.length) q j (by omega) hj hq
    have up : ∀ x, x ∈ spreadPl l c l.length → x ∈ spreadPl l c' l.length := fun x hx => by
      obtain ⟨i, k, hi, hk, e, m⟩ := (mem_spreadPl l hrow c x).1 hx
      exact (mem_spreadPl l hrow c' x).2 ⟨i, k, hi, hk, e, by omega⟩
    obtain ⟨u, hu, eu⟩ := List.getElem_of_mem (up _ (List.getElem_mem hj))
    obtain ⟨v, hv, ev⟩ := List.getElem_of_mem (up _ (List.getElem_mem (by omega : q < (spreadPl l c l.length).length)))
    have huv : u ≠ v := by
      intro e
      subst e
      rw [eu] at ev
      rw [ev] at hpair
      omega
    rw [rdP_at hj, rdP_at (by omega : q < (spreadPl l c l.length).length)]
    refine k2 _ ?_
    rcases Nat.lt_or_gt_of_ne huv with e | e
    · exact ⟨v, u, e, hv, by rw [rdP_at hu, rdP_at hv, eu, ev, spreadD_comm]⟩
    · exact ⟨u, v, e, hu, by rw [rdP_at hu, rdP_at hv, eu, ev]⟩
theorem way_bounds (n a b : Int) (hn : n ≤ 8) (ha : 0 ≤ a) (ha2 : a < n) (hb : 0 ≤ b) (hb2 : b < n) : 0 ≤ wayI n a b ∧ wayI n a b ≤ 8 ∧ (a ≠ b → 1 ≤ wayI n a b) := by
  have w1 : wrap64 (a - b) = a - b := by unfold wrap64; omega
  have w2 : wrap64 (b - a) = b - a := by unfold wrap64; omega
  unfold wayI wayD
  rw [w1, w2]
  by_cases c : a - b < b - a
  · rw [if_pos c]
    have w3 : wrap64 (n - (b - a)) = n - (b - a) := by unfold wrap64; omega
    rw [w3]
    split <;> omega
  · rw [if_neg c]
    have w3 : wrap64 (n - (a - b)) = n - (a - b) := by unfold wrap64; omega
    rw [w3]
    split <;> omega
theorem sq_bounds {x : Int} (h0 : 0 ≤ x) (h1 : x ≤ 8) : 0 ≤ x * x ∧ x * x ≤ 64 ∧ (1 ≤ x → 1 ≤ x * x) := by
  refine ⟨Int.mul_nonneg h0 h0, ?_, fun h => ?_⟩
  · have : x * x ≤ 8 * 8 := Int.mul_le_mul h1 h1 h0 (by omega)
    omega
  · have : 1 * 1 ≤ x * x := Int.mul_le_mul h h (by omega) h0
    omega
theorem spreadD_pos (n : Int) (hn : n ≤ 8) (p q : Int × Int) (h : 0 ≤ p.1 ∧ p.1 < n ∧ 0 ≤ p.2 ∧ p.2 < n) (k : 0 ≤ q.1 ∧ q.1 < n ∧ 0 ≤ q.2 ∧ q.2 < n) (hne : p.1 ≠ q.1 ∨ p.2 ≠ q.2) : 1 ≤ spreadD n p q := by
  obtain ⟨a1, a2, a3⟩ := way_bounds n p.1 q.1 hn (by omega) (by omega) (by omega) (by omega)
  obtain ⟨b1, b2, b3⟩ := way_bounds n p.2 q.2 hn (by omega) (by omega) (by omega) (by omega)
  obtain ⟨c1, c2, c3⟩ := sq_bounds a1 a2
  obtain ⟨d1, d2, d3⟩ := sq_bounds b1 b2
  unfold spreadD
  have w1 : wrap64 (wayI n p.1 q.1 * wayI n p.1 q.1) = wayI n p.1 q.1 * wayI n p.1 q.1 := by unfold wrap64; omega
  have w2 : wrap64 (wayI n p.2 q.2 * wayI n p.2 q.2) = wayI n p.2 q.2 * wayI n p.2 q.2 := by unfold wrap64; omega
  rw [w1, w2]
  have w3 : wrap64 (wayI n p.1 q.1 * wayI n p.1 q.1 + wayI n p.2 q.2 * wayI n p.2 q.2) = wayI n p.1 q.1 * wayI n p.1 q.1 + wayI n p.2 q.2 * wayI n p.2 q.2 := by unfold wrap64; omega
  rw [w3]
  rcases hne with h | h
  · have := c3 (a3 h)
    omega
  · have := d3 (b3 h)
    omega
theorem way_zero (n : Int) (h2 : 2 ≤ n) (h8 : n ≤ 8) : wayI n 0 0 = 0 ∧ wayI n 1 0 = 1 := by
  have a0 : wayD 0 0 = 0 := by decide +kernel
  have a1 : wayD 1 0 = 1 := by decide +kernel
  unfold wayI
  rw [a0, a1]
  have w3 : wrap64 (n - 0) = n := by unfold wrap64; omega
  have w4 : wrap64 (n - 1) = n - 1 := by unfold wrap64; omega
  rw [w3, w4]
  constructor <;> split <;> omega
theorem spread_last (l : List (List Int)) (hP : IsMaskP l) (h8 : l.length ≤ 8) (h2 : 2 ≤ l.length) :
    spreadOut l.length (spreadPl l ((l.length : Int) * (l.length : Int)) l.length) (spreadPl l ((l.length : Int) * (l.length : Int)) l.length).length (wrap64 (2 * (l.length : Int) * (l.length : Int))) = 1 := by
  have hmem := mem_spreadPl l hP.1 ((l.length : Int) * (l.length : Int))
  have hN : ((l.length * l.length : Nat) : Int) = (l.length : Int) * (l.length : Int) := by simp
  have hsq : l.length * l.length ≤ 8 * 8 := Nat.mul_le_mul h8 h8
  have hsq2 : 2 * 2 ≤ l.length * l.length := Nat.mul_le_mul h2 h2
  have hw : wrap64 (2 * (l.length : Int) * (l.length : Int)) = 2 * ((l.length : Int) * (l.length : Int)) := by rw [Int.mul_assoc]; unfold wrap64; omega
  obtain ⟨h1, h2', h3⟩ := spreadOut_min l.length (spreadPl l ((l.length : Int) * (l.length : Int)) l.length) (wrap64 (2 * (l.length : Int) * (l.length : Int))) (spreadPl l ((l.length : Int) * (l.length : Int)) l.length).length
  have hpair := List.pairwise_iff_getElem.1 (spreadPl_pair l ((l.length : Int) * (l.length : Int)) l.length)
  have lo : 1 ≤ spreadOut l.length (spreadPl l ((l.length : Int) * (l.length : Int)) l.length) (spreadPl l ((l.length : Int) * (l.length : Int)) l.length).length (wrap64 (2 * (l.length : Int) * (l.length : Int))) := by
    rcases h3 with h3 | ⟨j, q, hq, hj, h3⟩
    · rw [h3, hw]
      omega
    · rw [h3, rdP_at hj, rdP_at (by omega)]
      have hpq := hpair q j (by omega) hj hq
      obtain ⟨i1, k1, hi1, hk1, e1, _⟩ := (hmem _).1 (List.getElem_mem hj)
      obtain ⟨i2, k2, hi2, hk2, e2, _⟩ := (hmem _).1 (List.getElem_mem (by omega : q < (spreadPl l ((l.length : Int) * (l.length : Int)) l.length).length))
      rw [e1, e2] at hpq ⊢
      refine spreadD_pos l.length (by omega) _ _ ⟨?_, ?_, ?_, ?_⟩ ⟨?_, ?_, ?_, ?_⟩ ?_ <;> simp at hpq ⊢ <;> omega
  have hi : spreadOut l.length (spreadPl l ((l.length : Int) * (l.length : Int)) l.length) (spreadPl l ((l.length : Int) * (l.length : Int)) l.length).length (wrap64 (2 * (l.length : Int) * (l.length : Int))) ≤ 1 := by
    have m1 := (mk_bound hP (by omega : 0 < l.length) (by omega : 0 < l.length)).2
    have m2 := (mk_bound hP (by omega : 0 < l.length) (by omega : 1 < l.length)).2
    obtain ⟨u, hu, eu⟩ := List.getElem_of_mem ((hmem ((0 : Int), (0 : Int))).2 ⟨0, 0, by omega, by omega, rfl, m1⟩)
    obtain ⟨v, hv, ev⟩ := List.getElem_of_mem ((hmem ((0 : Int), (1 : Int))).2 ⟨0, 1, by omega, by omega, rfl, m2⟩)
    have hD : spreadD l.length ((0 : Int), (1 : Int)) ((0 : Int), (0 : Int)) = 1 := by
      obtain ⟨a, b⟩ := way_zero (l.length : Int) (by omega) (by omega)
      unfold spreadD
      dsimp only
      rw [a, b]
      decide +kernel
    have huv : u ≠ v := by
      intro e
      subst e
      rw [eu] at ev
      have := congrArg Prod.snd ev
      simp at this
    rcases Nat.lt_or_gt_of_ne huv with e | e
    · exact h2' 1 ⟨v, u, e, hv, by rw [rdP_at hu, rdP_at hv, eu, ev, hD]⟩
    · exact h2' 1 ⟨u, v, e, hu, by rw [rdP_at hu, rdP_at hv, eu, ev, spreadD_comm, hD]⟩
  omega
end Go.Proofs.Ytamjcfdjcagjmaa.P
