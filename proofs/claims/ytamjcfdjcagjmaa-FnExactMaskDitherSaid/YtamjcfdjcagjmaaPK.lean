/- Masks: what the test by a sorted list says; where the numbers of a mask lie. Plain Lean. -/
import Derived.Test.YtamjcfdjcagjmaaPx9
import Derived.Test.YtamjcfdjcagjmaaPE
namespace Go.Proofs.Ytamjcfdjcagjmaa.P
open Go.RowKit Go.Proofs.YtamjcfdjcagjmaaW.PrintWords Go.Proofs.YtamjcfdjcagjmaaW.PrintLast Go.Proofs.YtamjcfdjcagjmaaW.PrintMore
set_option linter.unusedVariables false
set_option linter.unusedSimpArgs false

def IsMaskP (l0 : List (List Int)) : Prop := (∀ row ∈ l0, row.length = l0.length) ∧ l0.flatten.Nodup ∧ ∀ x ∈ l0.flatten, 0 ≤ x ∧ x ≤ (l0.length : Int) * (l0.length : Int) - 1
theorem isSetB_iff (l : List Int) (n : Int) : isSetB l n = true ↔ (∀ x ∈ l, 0 ≤ x ∧ x ≤ n - 1) ∧ l.Pairwise (· < ·) := by
  unfold isSetB
  rw [List.all_eq_true]
  constructor
  · intro h
    have key : ∀ i (hi : i < l.length), (0 ≤ l[i] ∧ l[i] ≤ n - 1) ∧ (i = 0 ∨ rd l ((i - 1 : Nat) : Int) < l[i]) := by
      intro i hi
      have := h i (List.mem_range.2 hi)
      rw [rd_mem hi] at this
      simpa using this
    refine ⟨fun x hx => ?_, ?_⟩
    · obtain ⟨i, hi, rfl⟩ := List.getElem_of_mem hx
      exact (key i hi).1
    · rw [List.pairwise_iff_getElem]
      intro i j hi hj hij
      induction j with
      | zero => omega
      | succ j ih =>
        have h1 := (key (j + 1) hj).2
        rcases h1 with h1 | h1
        · omega
        · rw [show j + 1 - 1 = j by omega, rd_mem (by omega : j < l.length)] at h1
          by_cases e : i = j
          · subst e; exact h1
          · have := ih (by omega) (by omega)
            omega
  · intro ⟨h1, h2⟩ i hi
    have hi' := List.mem_range.1 hi
    rw [rd_mem hi']
    have h3 := h1 _ (List.getElem_mem hi')
    by_cases e : i = 0
    · subst e
      simpa using h3
    · rw [List.pairwise_iff_getElem] at h2
      have := h2 (i - 1) i (by omega) hi' (by omega)
      rw [rd_mem (by omega : i - 1 < l.length)]
      simp [h3.1, h3.2, this]
theorem sorted_lt_iff (L : List Int) : (L.mergeSort fun x y => decide (x ≤ y)).Pairwise (· < ·) ↔ L.Nodup := by
  have hp : (L.mergeSort fun x y => decide (x ≤ y)).Perm L := List.mergeSort_perm _ _
  have hs : (L.mergeSort fun x y => decide (x ≤ y)).Pairwise (fun a b => decide (a ≤ b) = true) := List.pairwise_mergeSort (fun a b c h1 h2 => by simp at *; omega) (fun a b => by simp; omega) L
  constructor
  · intro h
    refine hp.nodup_iff.1 ?_
    exact h.imp (fun h => by omega)
  · intro h
    have hn : (L.mergeSort fun x y => decide (x ≤ y)).Nodup := hp.nodup_iff.2 h
    have := List.Pairwise.and hs hn
    exact this.imp (fun ⟨h1, h2⟩ => by have := of_decide_eq_true h1; omega)
theorem maskB_iff (l0 : List (List Int)) : maskB l0 = true ↔ IsMaskP l0 := by
  unfold maskB IsMaskP
  rw [Bool.and_eq_true, List.all_eq_true, isSetB_iff, sorted_lt_iff]
  have hp : (l0.flatten.mergeSort fun x y => decide (x ≤ y)).Perm l0.flatten := List.mergeSort_perm _ _
  simp only [decide_eq_true_eq]
  constructor
  · intro ⟨h1, h2, h3⟩
    exact ⟨h1, h3, fun x hx => h2 x (hp.mem_iff.2 hx)⟩
  · intro ⟨h1, h2, h3⟩
    exact ⟨h1, fun x hx => h3 x (hp.mem_iff.1 hx), h2⟩

/-! ### places of a mask -/
def mk (l : List (List Int)) (i k : Nat) : Int := rd (rdR l i) (k : Nat)
theorem mk_at {l : List (List Int)} (hP : ∀ row ∈ l, row.length = l.length) {i k : Nat} (hi : i < l.length) (hk : k < l.length) : ∃ hk' : k < (l[i]).length, mk l i k = l[i][k] := by
  have hl := hP l[i] (List.getElem_mem hi)
  refine ⟨by omega, ?_⟩
  unfold mk
  rw [rdR_mem hi, rd_mem (by omega)]
theorem mk_inj {l : List (List Int)} (hP : IsMaskP l) {i k i' k' : Nat} (hi : i < l.length) (hk : k < l.length) (hi' : i' < l.length) (hk' : k' < l.length) (e : mk l i k = mk l i' k') : i = i' ∧ k = k' := by
  obtain ⟨hrow, hnd, _⟩ := hP
  obtain ⟨q1, e1⟩ := mk_at hrow hi hk
  obtain ⟨q2, e2⟩ := mk_at hrow hi' hk'
  rw [e1, e2] at e
  obtain ⟨h1, h2⟩ := List.pairwise_flatten.1 hnd
  have key : ∀ a b : Nat, ∀ (ha : a < l.length) (hb : b < l.length), a < b → ∀ x ∈ l[a], ∀ y ∈ l[b], x ≠ y := fun a b ha hb hab => List.pairwise_iff_getElem.1 h2 a b ha hb hab
  rcases Nat.lt_trichotomy i i' with h | h | h
  · exact absurd e (key i i' hi hi' h _ (List.getElem_mem _) _ (List.getElem_mem _))
  · subst h
    refine ⟨rfl, ?_⟩
    have h3 := List.pairwise_iff_getElem.1 (h1 l[i] (List.getElem_mem hi))
    rcases Nat.lt_trichotomy k k' with h | h | h
    · exact absurd e (h3 k k' q1 q2 h)
    · exact h
    · exact absurd e.symm (h3 k' k q2 q1 h)
  · exact absurd e.symm (key i' i hi' hi h _ (List.getElem_mem _) _ (List.getElem_mem _))
theorem sorted_len (s : List Int) : ∀ lo hi : Int, s.Pairwise (· < ·) → (∀ x ∈ s, lo ≤ x ∧ x < hi) → lo ≤ hi → (s.length : Int) ≤ hi - lo := by
  induction s with
  | nil => intro lo hi _ _ h; simp; omega
  | cons x xs ih =>
    intro lo hi hp hb hle
    have hx := hb x List.mem_cons_self
    rw [List.pairwise_cons] at hp
    have := ih (x + 1) hi hp.2 (fun y hy => ⟨by have := hp.1 y hy; omega, (hb y (List.mem_cons_of_mem _ hy)).2⟩) (by omega)
    rw [List.length_cons]
    omega
theorem sorted_full (s : List Int) : ∀ lo hi : Int, s.Pairwise (· < ·) → (∀ x ∈ s, lo ≤ x ∧ x < hi) → (s.length : Int) = hi - lo → ∀ m, lo ≤ m → m < hi → m ∈ s := by
  induction s with
  | nil => intro lo hi _ _ h m h1 h2; simp at h; omega
  | cons x xs ih =>
    intro lo hi hp hb hl m h1 h2
    have hx := hb x List.mem_cons_self
    rw [List.pairwise_cons] at hp
    have hxs : ∀ y ∈ xs, x + 1 ≤ y ∧ y < hi := fun y hy => ⟨by have := hp.1 y hy; omega, (hb y (List.mem_cons_of_mem _ hy)).2⟩
    have hlen := sorted_len xs (x + 1) hi hp.2 hxs (by omega)
    rw [List.length_cons] at hl
    have : x = lo := by omega
    subst this
    by_cases e : m = x
    · subst e
      exact List.mem_cons_self
    · exact List.mem_cons_of_mem _ (ih (x + 1) hi hp.2 hxs (by omega) m (by omega) h2)
theorem mk_surj {l : List (List Int)} (hP : IsMaskP l) (m : Int) (h0 : 0 ≤ m) (h1 : m < (l.length : Int) * (l.length : Int)) : ∃ i k : Nat, i < l.length ∧ k < l.length ∧ mk l i k = m := by
  obtain ⟨hrow, hnd, hb⟩ := hP
  have hs := (sorted_lt_iff l.flatten).2 hnd
  have hp : (l.flatten.mergeSort fun x y => decide (x ≤ y)).Perm l.flatten := List.mergeSort_perm _ _
  have hlen : (l.flatten.length : Int) = (l.length : Int) * (l.length : Int) := by rw [flat_len l l.length hrow]; simp
  have hm := hp.mem_iff.1 (sorted_full _ 0 ((l.length : Int) * (l.length : Int)) hs (fun x hx => by have := hb x (hp.mem_iff.1 hx); omega) (by rw [hp.length_eq, hlen]; omega) m h0 h1)
  obtain ⟨row, hr, hx⟩ := List.mem_flatten.1 hm
  obtain ⟨i, hi, rfl⟩ := List.getElem_of_mem hr
  obtain ⟨k, hk, rfl⟩ := List.getElem_of_mem hx
  have hl := hrow l[i] (List.getElem_mem hi)
  obtain ⟨_, e⟩ := mk_at hrow hi (by omega : k < l.length)
  exact ⟨i, k, hi, by omega, e⟩
theorem mk_bound {l : List (List Int)} (hP : IsMaskP l) {i k : Nat} (hi : i < l.length) (hk : k < l.length) : 0 ≤ mk l i k ∧ mk l i k < (l.length : Int) * (l.length : Int) := by
  obtain ⟨hrow, hnd, hb⟩ := hP
  obtain ⟨q1, e1⟩ := mk_at hrow hi hk
  have := hb (l[i][k]) (List.mem_flatten.2 ⟨_, List.getElem_mem hi, List.getElem_mem q1⟩)
  rw [e1]
  omega

end Go.Proofs.Ytamjcfdjcagjmaa.P
