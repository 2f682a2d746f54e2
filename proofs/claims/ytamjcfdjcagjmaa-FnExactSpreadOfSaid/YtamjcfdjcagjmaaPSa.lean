/- SpreadOf: what the reference computes. Plain Lean. -/
import Derived.Test.YtamjcfdjcagjmaaPS
namespace Go.Proofs.Ytamjcfdjcagjmaa.P
open Go.RowKit Go.Proofs.YtamjcfdjcagjmaaW.PrintWords Go.Proofs.YtamjcfdjcagjmaaW.PrintLast Go.Proofs.YtamjcfdjcagjmaaW.PrintMore
set_option linter.unusedVariables false
set_option linter.unusedSimpArgs false

theorem min_val (a b : Int) : spec_l00Min.f a b = some (if a < b then a else b) := by
  unfold spec_l00Min.f
  split <;> rfl
theorem spread_l3 (n : Int) (C : Nat) (x7 : List (List Int)) (P : Nat → Int × Int) (hC : C ≤ x7.length) (hbig : x7.length ≤ 64) (hP : ∀ a, a < C → rdR x7 a = [(P a).1, (P a).2]) (S : Int → Prop) (a : Nat) (ha : a < C)
    (cont : ∀ b0, ∃ r, Ev (fun k => spec_SpreadOf.l2 k C n x7 b0 ((a + 1 : Nat) : Int)) (r, true) ∧ IsMin b0 S r) (d : Nat) :
    ∀ (b : Nat) (b0 : Int), a - b = d → b ≤ a → ∃ r, Ev (fun k => spec_SpreadOf.l3 k C n x7 b0 (a : Int) (b : Int)) (r, true) ∧ IsMin b0 (fun x => S x ∨ ∃ q, b ≤ q ∧ q < a ∧ x = spreadD n (P a) (P q)) r := by
  induction d with
  | zero =>
    intro b b0 hd hb
    obtain rfl : b = a := by omega
    obtain ⟨r, hr, hm⟩ := cont b0
    refine ⟨r, Ev.step (f := fun k => spec_SpreadOf.l2 k C n x7 b0 ((b + 1 : Nat) : Int)) (fun k => ?_) hr, ?_⟩
    · simp only [spec_SpreadOf.l3]
      rw [if_neg (by omega), wrapI (by omega) (by omega)]
      rfl
    · obtain ⟨h1, h2, h3⟩ := hm
      refine ⟨h1, fun x hx => ?_, h3.imp id .inl⟩
      rcases hx with hx | ⟨q, hq1, hq2, _⟩
      · exact h2 x hx
      · omega
  | succ d ih =>
    intro b b0 hd hb
    have hlt : b < a := by omega
    obtain ⟨r, hr, hm⟩ := ih (b + 1) (if b0 < spreadD n (P a) (P b) then b0 else spreadD n (P a) (P b)) (by omega) (by omega)
    refine ⟨r, Ev.step (f := fun k => spec_SpreadOf.l3 k C n x7 (if b0 < spreadD n (P a) (P b) then b0 else spreadD n (P a) (P b)) (a : Int) ((b + 1 : Nat) : Int)) (fun k => ?_) hr, ?_⟩
    · simp only [spec_SpreadOf.l3]
      have ea : rd_L2 x7 (a : Int) = [(P a).1, (P a).2] := hP a ha
      have eb : rd_L2 x7 (b : Int) = [(P b).1, (P b).2] := hP b (by omega)
      rw [ea, eb]
      rw [if_pos (by omega), if_pos (by omega), if_pos (by omega), if_pos (by simp), if_pos (by omega), if_pos (by omega), if_pos (by simp)]
      rw [show rd [(P a).1, (P a).2] 0 = (P a).1 from rfl, show rd [(P b).1, (P b).2] 0 = (P b).1 from rfl, show rd [(P a).1, (P a).2] 1 = (P a).2 from rfl, show rd [(P b).1, (P b).2] 1 = (P b).2 from rfl]
      rw [round_val, round_val]
      simp only [Option.bind_some]
      rw [if_pos (by simp), if_pos (by simp), min_val]
      simp only [Option.bind_some]
      rw [wrapI (x := (b : Int) + 1) (by omega) (by omega)]
      rfl
    · refine IsMin.step hm (fun x => ?_)
      constructor
      · rintro (h | ⟨q, h1, h2, rfl⟩)
        · exact .inr (.inl h)
        · by_cases e : q = b
          · subst e
            exact .inl rfl
          · exact .inr (.inr ⟨q, by omega, h2, rfl⟩)
      · rintro (rfl | h | ⟨q, h1, h2, rfl⟩)
        · exact .inr ⟨b, Nat.le_refl _, hlt, rfl⟩
        · exact .inl h
        · exact .inr ⟨q, by omega, h2, rfl⟩
theorem spread_l2 (n : Int) (C : Nat) (x7 : List (List Int)) (P : Nat → Int × Int) (hC : C ≤ x7.length) (hbig : x7.length ≤ 64) (hP : ∀ a, a < C → rdR x7 a = [(P a).1, (P a).2]) (d : Nat) :
    ∀ (a : Nat) (b0 : Int), C - a = d → a ≤ C → ∃ r, Ev (fun k => spec_SpreadOf.l2 k C n x7 b0 (a : Int)) (r, true) ∧ IsMin b0 (fun x => ∃ j q, q < j ∧ a ≤ j ∧ j < C ∧ x = spreadD n (P j) (P q)) r := by
  induction d with
  | zero =>
    intro a b0 hd ha
    refine ⟨b0, Ev.step (f := fun _ => some (b0, true)) (fun k => ?_) (Ev.const rfl), Int.le_refl _, fun x ⟨j, q, _, h1, h2, _⟩ => by omega, .inl rfl⟩
    simp only [spec_SpreadOf.l2]
    rw [if_neg (by omega)]
  | succ d ih =>
    intro a b0 hd ha
    have hlt : a < C := by omega
    obtain ⟨r, hr, hm⟩ := spread_l3 n C x7 P hC hbig hP _ a hlt (fun b0 => ih (a + 1) b0 (by omega) (by omega)) a 0 b0 (by omega) (by omega)
    refine ⟨r, Ev.step (f := fun k => spec_SpreadOf.l3 k C n x7 b0 (a : Int) ((0 : Nat) : Int)) (fun k => ?_) hr, ?_⟩
    · simp only [spec_SpreadOf.l2]
      rw [if_pos (by omega)]
      rfl
    · obtain ⟨h1, h2, h3⟩ := hm
      have e : ∀ x, (∃ j q, q < j ∧ a ≤ j ∧ j < C ∧ x = spreadD n (P j) (P q)) ↔ ((∃ j q, q < j ∧ a + 1 ≤ j ∧ j < C ∧ x = spreadD n (P j) (P q)) ∨ ∃ q, 0 ≤ q ∧ q < a ∧ x = spreadD n (P a) (P q)) := by
        intro x
        constructor
        · rintro ⟨j, q, hq, h1, h2, rfl⟩
          by_cases e : j = a
          · subst e
            exact .inr ⟨q, Nat.zero_le _, hq, rfl⟩
          · exact .inl ⟨j, q, hq, by omega, h2, rfl⟩
        · rintro (⟨j, q, hq, h1, h2, rfl⟩ | ⟨q, _, hq, rfl⟩)
          · exact ⟨j, q, hq, by omega, h2, rfl⟩
          · exact ⟨a, q, hq, Nat.le_refl _, hlt, rfl⟩
      exact ⟨h1, fun x hx => h2 x ((e x).1 hx), h3.imp id (e _).2⟩
/-- The places that have been written. -/
def PlInv (l x7 : List (List Int)) (i k : Nat) : Prop := x7.length = l.length * l.length ∧ ∀ i' k' : Nat, i' < l.length → k' < l.length → (i' < i ∨ i' = i ∧ k' < k) → rdR x7 (mk l i' k').toNat = [(i' : Int), (k' : Int)]
theorem PlInv.next {l x7 : List (List Int)} {i : Nat} (h : PlInv l x7 i l.length) : PlInv l x7 (i + 1) 0 := ⟨h.1, fun i' k' a b c => h.2 i' k' a b (by omega)⟩
theorem PlInv.put {l x7 : List (List Int)} {i k : Nat} (hP : IsMaskP l) (hi : i < l.length) (hk : k < l.length) (h : PlInv l x7 i k) : PlInv l (x7.set (mk l i k).toNat [(i : Int), (k : Int)]) i (k + 1) := by
  have hb := mk_bound hP hi hk
  have hN : ((l.length * l.length : Nat) : Int) = (l.length : Int) * (l.length : Int) := by simp
  refine ⟨by rw [List.length_set]; exact h.1, fun i' k' a b c => ?_⟩
  by_cases e : i' = i ∧ k' = k
  · obtain ⟨rfl, rfl⟩ := e
    simp only [rdR, List.getD_eq_getElem?_getD]
    rw [List.getElem?_set_self (by have := h.1; omega)]
    rfl
  · have hne : mk l i' k' ≠ mk l i k := fun h => e (mk_inj hP a b hi hk h)
    have hb' := mk_bound hP a b
    have := h.2 i' k' a b (by omega)
    simp only [rdR, List.getD_eq_getElem?_getD] at this ⊢
    rw [List.getElem?_set_ne (by omega)]
    exact this
theorem spread_l1 (l : List (List Int)) (h8 : l.length ≤ 8) (hP : IsMaskP l) (cnt : Int) (R : Int × Bool) (i : Nat) (hi : i < l.length)
    (cont : ∀ x7, PlInv l x7 (i + 1) 0 → Ev (fun k => spec_SpreadOf.l0 k l cnt l.length x7 ((i + 1 : Nat) : Int)) R) (d : Nat) :
    ∀ (q : Nat) (x7 : List (List Int)), l.length - q = d → q ≤ l.length → PlInv l x7 i q → Ev (fun k => spec_SpreadOf.l1 k l cnt l.length x7 (i : Int) (q : Int)) R := by
  induction d with
  | zero =>
    intro q x7 hd hq hI
    obtain rfl : q = l.length := by omega
    refine Ev.step (f := fun k => spec_SpreadOf.l0 k l cnt l.length x7 ((i + 1 : Nat) : Int)) (fun k => ?_) (cont x7 hI.next)
    simp only [spec_SpreadOf.l1]
    rw [if_neg (by omega), wrapI (by omega) (by omega)]
    rfl
  | succ d ih =>
    intro q x7 hd hq hI
    have hlt : q < l.length := by omega
    have hb := mk_bound hP hi hlt
    have hN : ((l.length * l.length : Nat) : Int) = (l.length : Int) * (l.length : Int) := by simp
    have hlen := hI.1
    have hl : (rdR l i).length = l.length := by rw [rdR_mem hi]; exact hP.1 _ (List.getElem_mem hi)
    refine Ev.step (f := fun k => spec_SpreadOf.l1 k l cnt l.length (x7.set (mk l i q).toNat [(i : Int), (q : Int)]) (i : Int) ((q + 1 : Nat) : Int)) (fun k => ?_) (ih (q + 1) _ (by omega) (by omega) (hI.put hP hi hlt))
    simp only [spec_SpreadOf.l1]
    have hb0 : 0 ≤ rd (rd_L2 l (i : Int)) (q : Int) := hb.1
    have hb2 : mk l i q < (x7.length : Int) := by omega
    have hb1 : rd (rd_L2 l (i : Int)) (q : Int) < (x7.length : Int) := hb2
    have hl2 : (q : Int) < ((rd_L2 l (i : Int)).length : Int) := by rw [rdL2]; omega
    rw [if_pos (by omega), if_pos (by omega), if_pos (by omega), if_pos (by omega), if_pos hl2, if_pos hb0, if_pos hb1, wrapI (x := (q : Int) + 1) (by omega) (by omega)]
    rfl
theorem spread_l0 (l : List (List Int)) (h8 : l.length ≤ 8) (hP : IsMaskP l) (cnt : Int) (R : Int × Bool)
    (cont : ∀ x7, PlInv l x7 l.length 0 → Ev (fun k => spec_SpreadOf.l2 k cnt l.length x7 (wrap64 (2 * (l.length : Int) * (l.length : Int))) ((0 : Nat) : Int)) R) (d : Nat) :
    ∀ (i : Nat) (x7 : List (List Int)), l.length - i = d → i ≤ l.length → PlInv l x7 i 0 → Ev (fun k => spec_SpreadOf.l0 k l cnt l.length x7 (i : Int)) R := by
  induction d with
  | zero =>
    intro i x7 hd hi hI
    obtain rfl : i = l.length := by omega
    refine Ev.step (f := fun k => spec_SpreadOf.l2 k cnt l.length x7 (wrap64 (2 * (l.length : Int) * (l.length : Int))) ((0 : Nat) : Int)) (fun k => ?_) (cont x7 hI)
    simp only [spec_SpreadOf.l0]
    rw [if_neg (by omega), wrapI (x := 2 * (l.length : Int)) (by omega) (by omega)]
    rfl
  | succ d ih =>
    intro i x7 hd hi hI
    have hlt : i < l.length := by omega
    refine Ev.step (f := fun k => spec_SpreadOf.l1 k l cnt l.length x7 (i : Int) ((0 : Nat) : Int)) (fun k => ?_) (spread_l1 l h8 hP cnt R i hlt (fun x7 h => ih (i + 1) x7 (by omega) (by omega) h) l.length 0 x7 (by omega) (by omega) hI)
    simp only [spec_SpreadOf.l0]
    rw [if_pos (by omega)]
    rfl
theorem spec_spread_ev (l : List (List Int)) (hl : l.length ≤ 9223372036854775807) (cnt : Int) (hm : (decide (1 ≤ l.length) && decide (l.length ≤ 8) && maskB l) = true) (h2 : 2 ≤ cnt) (hc : cnt ≤ wrap64 ((l.length : Int) * (l.length : Int))) :
    Ev (fun k => spec_SpreadOf.j0 k l cnt l.length false) (spreadOut l.length (spreadPl l cnt l.length) (spreadPl l cnt l.length).length (wrap64 (2 * (l.length : Int) * (l.length : Int))), true) := by
  simp only [Bool.and_eq_true, decide_eq_true_eq] at hm
  obtain ⟨⟨h1, h8⟩, hm⟩ := hm
  have hP := (maskB_iff l).1 hm
  have hN : ((l.length * l.length : Nat) : Int) = (l.length : Int) * (l.length : Int) := by simp
  have hsq : l.length * l.length ≤ 8 * 8 := Nat.mul_le_mul h8 h8
  have hw : wrap64 ((l.length : Int) * (l.length : Int)) = ((l.length * l.length : Nat) : Int) := by rw [← hN, wrapI (by omega) (by omega)]
  rw [hw] at hc
  obtain ⟨C, rfl⟩ : ∃ C : Nat, cnt = (C : Int) := ⟨cnt.toNat, by omega⟩
  refine Ev.step (f := fun k => spec_SpreadOf.l0 k l C l.length (List.replicate (l.length * l.length) []) ((0 : Nat) : Int)) (fun k => ?_) ?_
  · simp only [spec_SpreadOf.j0]
    rw [hw, if_neg (by simp), if_pos (by omega), if_pos (by omega)]
    rfl
  refine spread_l0 l h8 hP C _ (fun x7 hI => ?_) l.length 0 _ (by omega) (by omega) ⟨by simp, fun i' k' _ _ h => by omega⟩
  have hPl : ∀ a : Nat, ∃ p : Int × Int, a < C → rdR x7 a = [p.1, p.2] ∧ ∃ i k : Nat, i < l.length ∧ k < l.length ∧ p = ((i : Int), (k : Int)) ∧ mk l i k = (a : Int) := by
    intro a
    by_cases h : a < C
    · obtain ⟨i, k, hi, hk, e⟩ := mk_surj hP (a : Int) (by omega) (by omega)
      refine ⟨((i : Int), (k : Int)), fun _ => ⟨?_, i, k, hi, hk, rfl, e⟩⟩
      have := hI.2 i k hi hk (.inl hi)
      rw [e] at this
      simpa using this
    · exact ⟨(0, 0), fun h' => absurd h' h⟩
  obtain ⟨P, hPP⟩ := Classical.axiomOfChoice hPl
  obtain ⟨r, hr, hmin⟩ := spread_l2 l.length C x7 P (by have := hI.1; omega) (by have := hI.1; omega) (fun a ha => (hPP a ha).1) C 0 (wrap64 (2 * (l.length : Int) * (l.length : Int))) (by omega) (by omega)
  have hmin2 := spreadOut_min l.length (spreadPl l C l.length) (wrap64 (2 * (l.length : Int) * (l.length : Int))) (spreadPl l C l.length).length
  have hmem := mem_spreadPl l hP.1 (C : Int)
  have hpair := List.pairwise_iff_getElem.1 (spreadPl_pair l C l.length)
  have : r = spreadOut l.length (spreadPl l C l.length) (spreadPl l C l.length).length (wrap64 (2 * (l.length : Int) * (l.length : Int))) := by
    refine hmin.unique hmin2 (fun x => ?_)
    constructor
    · rintro ⟨j, q, hq, _, hj, rfl⟩
      obtain ⟨_, i1, k1, hi1, hk1, e1, m1⟩ := hPP j hj
      obtain ⟨_, i2, k2, hi2, hk2, e2, m2⟩ := hPP q (by omega)
      obtain ⟨u, hu, eu⟩ := List.getElem_of_mem ((hmem (P j)).2 ⟨i1, k1, hi1, hk1, e1, by omega⟩)
      obtain ⟨v, hv, ev⟩ := List.getElem_of_mem ((hmem (P q)).2 ⟨i2, k2, hi2, hk2, e2, by omega⟩)
      have huv : u ≠ v := by
        intro h
        subst h
        rw [eu] at ev
        rw [e1, e2] at ev
        have a1 := congrArg Prod.fst ev
        have a2 := congrArg Prod.snd ev
        simp at a1 a2
        obtain rfl : i1 = i2 := by omega
        obtain rfl : k1 = k2 := by omega
        omega
      rcases Nat.lt_or_gt_of_ne huv with h | h
      · exact ⟨v, u, h, hv, by rw [rdP_at hu, rdP_at hv, eu, ev, spreadD_comm]⟩
      · exact ⟨u, v, h, hu, by rw [rdP_at hu, rdP_at hv, eu, ev]⟩
    · rintro ⟨j, q, hq, hj, rfl⟩
      obtain ⟨i1, k1, hi1, hk1, e1, m1⟩ := (hmem _).1 (List.getElem_mem hj)
      obtain ⟨i2, k2, hi2, hk2, e2, m2⟩ := (hmem _).1 (List.getElem_mem (by omega : q < (spreadPl l C l.length).length))
      have b1 := mk_bound hP hi1 hk1
      have b2 := mk_bound hP hi2 hk2
      have key : ∀ i k : Nat, i < l.length → k < l.length → mk l i k < C → P (mk l i k).toNat = ((i : Int), (k : Int)) := by
        intro i k hi hk hm
        have b := mk_bound hP hi hk
        obtain ⟨_, i', k', hi', hk', e', m'⟩ := hPP (mk l i k).toNat (by omega)
        obtain ⟨rfl, rfl⟩ := mk_inj hP hi' hk' hi hk (by omega)
        exact e'
      have hne : mk l i1 k1 ≠ mk l i2 k2 := by
        intro h
        obtain ⟨rfl, rfl⟩ := mk_inj hP hi1 hk1 hi2 hk2 h
        have := hpair q j (by omega) hj hq
        rw [e1, e2] at this
        simp at this
      rw [rdP_at hj, rdP_at (by omega), e1, e2]
      rcases Nat.lt_or_gt_of_ne (by omega : (mk l i1 k1).toNat ≠ (mk l i2 k2).toNat) with h | h
      · exact ⟨(mk l i2 k2).toNat, (mk l i1 k1).toNat, h, Nat.zero_le _, by omega, by rw [key i1 k1 hi1 hk1 m1, key i2 k2 hi2 hk2 m2, spreadD_comm]⟩
      · exact ⟨(mk l i1 k1).toNat, (mk l i2 k2).toNat, h, Nat.zero_le _, by omega, by rw [key i1 k1 hi1 hk1 m1, key i2 k2 hi2 hk2 m2]⟩
  rw [← this]
  exact hr
end Go.Proofs.Ytamjcfdjcagjmaa.P
