/- SpreadOf: both programs take the least of the same distances. Plain Lean. -/
import Derived.Test.YtamjcfdjcagjmaaPx12
import Derived.Test.YtamjcfdjcagjmaaPx8
import Derived.Test.YtamjcfdjcagjmaaPM
namespace Go.Proofs.Ytamjcfdjcagjmaa.P
open Go.RowKit Go.Proofs.YtamjcfdjcagjmaaW.PrintWords Go.Proofs.YtamjcfdjcagjmaaW.PrintLast Go.Proofs.YtamjcfdjcagjmaaW.PrintMore
set_option linter.unusedVariables false
set_option linter.unusedSimpArgs false

/-! ### places of a mask -/
def mk (l : List (List Int)) (i k : Nat) : Int := rd (rdR l i) (k : Nat)
theorem mk_at {l : List (List Int)} (hP : ∀ row ∈ l, row.length = l.length) {i k : Nat} (hi : i < l.length) (hk : k < l.length) : ∃ hk' : k < (l[i]).length, mk l i k = l[i][k] := by
  have hl := hP l[i] (List.getElem_mem hi)
  refine ⟨by omega, ?_⟩
  unfold mk
  rw [rdR_mem hi, rd_mem (by omega)]
theorem mk_inj {l : List (List Int)} (hP : IsMaskP l) {i k i' k' : Nat} (hi : i < l.length) (hk : k < l.length) (hi' : i' < l.length) (hk' : k' < l.length) (e : mk l i k = mk l i' k') : i = i' ∧ k = k' := by
  obtain ⟨hrow, hnd, _⟩ := hP
  obtain ⟨q1, e1⟩ := mk_at hrow hi hk
  obtain ⟨q2, e2⟩ := mk_at hrow hi' hk'
  rw [e1, e2] at e
  obtain ⟨h1, h2⟩ := List.pairwise_flatten.1 hnd
  have key : ∀ a b : Nat, ∀ (ha : a < l.length) (hb : b < l.length), a < b → ∀ x ∈ l[a], ∀ y ∈ l[b], x ≠ y := fun a b ha hb hab => List.pairwise_iff_getElem.1 h2 a b ha hb hab
  rcases Nat.lt_trichotomy i i' with h | h | h
  · exact absurd e (key i i' hi hi' h _ (List.getElem_mem _) _ (List.getElem_mem _))
  · subst h
    refine ⟨rfl, ?_⟩
    have h3 := List.pairwise_iff_getElem.1 (h1 l[i] (List.getElem_mem hi))
    rcases Nat.lt_trichotomy k k' with h | h | h
    · exact absurd e (h3 k k' q1 q2 h)
    · exact h
    · exact absurd e.symm (h3 k' k q2 q1 h)
  · exact absurd e.symm (key i' i hi' hi h _ (List.getElem_mem _) _ (List.getElem_mem _))
theorem sorted_len (s : List Int) : ∀ lo hi : Int, s.Pairwise (· < ·) → (∀ x ∈ s, lo ≤ x ∧ x < hi) → lo ≤ hi → (s.length : Int) ≤ hi - lo := by
  induction s with
  | nil => intro lo hi _ _ h; simp; omega
  | cons x xs ih =>
    intro lo hi hp hb hle
    have hx := hb x List.mem_cons_self
    rw [List.pairwise_cons] at hp
    have := ih (x + 1) hi hp.2 (fun y hy => ⟨by have := hp.1 y hy; omega, (hb y (List.mem_cons_of_mem _ hy)).2⟩) (by omega)
    rw [List.length_cons]
    omega
theorem sorted_full (s : List Int) : ∀ lo hi : Int, s.Pairwise (· < ·) → (∀ x ∈ s, lo ≤ x ∧ x < hi) → (s.length : Int) = hi - lo → ∀ m, lo ≤ m → m < hi → m ∈ s := by
  induction s with
  | nil => intro lo hi _ _ h m h1 h2; simp at h; omega
  | cons x xs ih =>
    intro lo hi hp hb hl m h1 h2
    have hx := hb x List.mem_cons_self
    rw [List.pairwise_cons] at hp
    have hxs : ∀ y ∈ xs, x + 1 ≤ y ∧ y < hi := fun y hy => ⟨by have := hp.1 y hy; omega, (hb y (List.mem_cons_of_mem _ hy)).2⟩
    have hlen := sorted_len xs (x + 1) hi hp.2 hxs (by omega)
    rw [List.length_cons] at hl
    have : x = lo := by omega
    subst this
    by_cases e : m = x
    · subst e
      exact List.mem_cons_self
    · exact List.mem_cons_of_mem _ (ih (x + 1) hi hp.2 hxs (by omega) m (by omega) h2)
theorem mk_surj {l : List (List Int)} (hP : IsMaskP l) (m : Int) (h0 : 0 ≤ m) (h1 : m < (l.length : Int) * (l.length : Int)) : ∃ i k : Nat, i < l.length ∧ k < l.length ∧ mk l i k = m := by
  obtain ⟨hrow, hnd, hb⟩ := hP
  have hs := (sorted_lt_iff l.flatten).2 hnd
  have hp : (l.flatten.mergeSort fun x y => decide (x ≤ y)).Perm l.flatten := List.mergeSort_perm _ _
  have hlen : (l.flatten.length : Int) = (l.length : Int) * (l.length : Int) := by rw [flat_len l l.length hrow]; simp
  have hm := hp.mem_iff.1 (sorted_full _ 0 ((l.length : Int) * (l.length : Int)) hs (fun x hx => by have := hb x (hp.mem_iff.1 hx); omega) (by rw [hp.length_eq, hlen]; omega) m h0 h1)
  obtain ⟨row, hr, hx⟩ := List.mem_flatten.1 hm
  obtain ⟨i, hi, rfl⟩ := List.getElem_of_mem hr
  obtain ⟨k, hk, rfl⟩ := List.getElem_of_mem hx
  have hl := hrow l[i] (List.getElem_mem hi)
  obtain ⟨_, e⟩ := mk_at hrow hi (by omega : k < l.length)
  exact ⟨i, k, hi, by omega, e⟩
theorem mk_bound {l : List (List Int)} (hP : IsMaskP l) {i k : Nat} (hi : i < l.length) (hk : k < l.length) : 0 ≤ mk l i k ∧ mk l i k < (l.length : Int) * (l.length : Int) := by
  obtain ⟨hrow, hnd, hb⟩ := hP
  obtain ⟨q1, e1⟩ := mk_at hrow hi hk
  have := hb (l[i][k]) (List.mem_flatten.2 ⟨_, List.getElem_mem hi, List.getElem_mem q1⟩)
  rw [e1]
  omega

/-! ### distances -/
theorem wayD_comm (a b : Int) : wayD a b = wayD b a := by
  unfold wayD
  split <;> split <;> omega
theorem wayI_comm (n a b : Int) : wayI n a b = wayI n b a := by
  unfold wayI
  rw [wayD_comm]
theorem spreadD_comm (n : Int) (p q : Int × Int) : spreadD n p q = spreadD n q p := by
  unfold spreadD
  rw [wayI_comm n p.1 q.1, wayI_comm n p.2 q.2]
theorem round_val (a b n : Int) : spec_l09Round.f a b n = some (wayI n a b) := by
  have e1 : spec_l00Max.f (wrap64 (a - b)) (wrap64 (b - a)) = some (wayD a b) := by
    unfold spec_l00Max.f wayD
    split <;> split <;> first | rfl | (congr 1; omega)
  have e2 : spec_l00Min.f (wayD a b) (wrap64 (n - wayD a b)) = some (wayI n a b) := by
    unfold spec_l00Min.f wayI
    split <;> split <;> first | rfl | (congr 1; omega)
  unfold spec_l09Round.f
  rw [e1]
  simp only [Option.bind_some]
  rw [e2]
  rfl

/-! ### least numbers -/
def IsMin (b : Int) (S : Int → Prop) (r : Int) : Prop := r ≤ b ∧ (∀ x, S x → r ≤ x) ∧ (r = b ∨ S r)
theorem IsMin.unique {b : Int} {S T : Int → Prop} {r s : Int} (h : IsMin b S r) (k : IsMin b T s) (e : ∀ x, S x ↔ T x) : r = s := by
  obtain ⟨h1, h2, h3⟩ := h
  obtain ⟨k1, k2, k3⟩ := k
  have a : r ≤ s := by
    rcases k3 with e' | e'
    · omega
    · exact h2 _ ((e _).2 e')
  have b : s ≤ r := by
    rcases h3 with e' | e'
    · omega
    · exact k2 _ ((e _).1 e')
  omega
theorem IsMin.step {b d : Int} {S T : Int → Prop} {r : Int} (h : IsMin (if b < d then b else d) S r) (e : ∀ x, T x ↔ x = d ∨ S x) : IsMin b T r := by
  obtain ⟨h1, h2, h3⟩ := h
  refine ⟨by split at h1 <;> omega, fun x hx => ?_, ?_⟩
  · rcases (e x).1 hx with rfl | hx
    · split at h1 <;> omega
    · exact h2 x hx
  · rcases h3 with h3 | h3
    · split at h3
      · exact .inl h3
      · exact .inr ((e r).2 (.inl h3))
    · exact .inr ((e r).2 (.inr h3))
theorem IsMin.last {b d : Int} {S T : Int → Prop} {r : Int} (h : IsMin b S r) (e : ∀ x, T x ↔ S x ∨ x = d) : IsMin b T (if d < r then d else r) := by
  obtain ⟨h1, h2, h3⟩ := h
  refine ⟨by split <;> omega, fun x hx => ?_, ?_⟩
  · rcases (e x).1 hx with hx | rfl
    · have := h2 x hx
      split <;> omega
    · split <;> omega
  · split
    · exact .inr ((e d).2 (.inr rfl))
    · rcases h3 with h3 | h3
      · exact .inl h3
      · exact .inr ((e r).2 (.inl h3))
/-- What the program takes the least of. -/
theorem spreadIn_min (n : Int) (ps : List (Int × Int)) (p : Int × Int) (b b0 : Int) (S : Int → Prop) (h : IsMin b0 S b) (m : Nat) : IsMin b0 (fun x => S x ∨ ∃ q, q < m ∧ x = spreadD n p (rdP ps q)) (spreadIn n ps p m b) := by
  induction m with
  | zero =>
    obtain ⟨h1, h2, h3⟩ := h
    refine ⟨h1, fun x hx => ?_, h3.imp id .inl⟩
    rcases hx with hx | ⟨q, hq, _⟩
    · exact h2 x hx
    · exact absurd hq (Nat.not_lt_zero _)
  | succ m ih =>
    rw [spreadIn_succ]
    refine IsMin.last ih (fun x => ?_)
    constructor
    · rintro (h | ⟨q, hq, rfl⟩)
      · exact .inl (.inl h)
      · by_cases e : q = m
        · subst e
          exact .inr rfl
        · exact .inl (.inr ⟨q, by omega, rfl⟩)
    · rintro ((h | ⟨q, hq, rfl⟩) | rfl)
      · exact .inl h
      · exact .inr ⟨q, by omega, rfl⟩
      · exact .inr ⟨m, by omega, rfl⟩
theorem spreadOut_min (n : Int) (ps : List (Int × Int)) (b : Int) (m : Nat) : IsMin b (fun x => ∃ j q, q < j ∧ j < m ∧ x = spreadD n (rdP ps j) (rdP ps q)) (spreadOut n ps m b) := by
  induction m with
  | zero => exact ⟨Int.le_refl _, fun x ⟨j, q, _, hj, _⟩ => absurd hj (Nat.not_lt_zero _), .inl rfl⟩
  | succ m ih =>
    rw [spreadOut_succ]
    obtain ⟨h1, h2, h3⟩ := spreadIn_min n ps (rdP ps m) _ b _ ih m
    have e : ∀ x, (∃ j q, q < j ∧ j < m + 1 ∧ x = spreadD n (rdP ps j) (rdP ps q)) ↔ ((∃ j q, q < j ∧ j < m ∧ x = spreadD n (rdP ps j) (rdP ps q)) ∨ ∃ q, q < m ∧ x = spreadD n (rdP ps m) (rdP ps q)) := by
      intro x
      constructor
      · rintro ⟨j, q, hq, hj, rfl⟩
        by_cases e : j = m
        · subst e
          exact .inr ⟨q, hq, rfl⟩
        · exact .inl ⟨j, q, hq, by omega, rfl⟩
      · rintro (⟨j, q, hq, hj, rfl⟩ | ⟨q, hq, rfl⟩)
        · exact ⟨j, q, hq, by omega, rfl⟩
        · exact ⟨m, q, hq, by omega, rfl⟩
    exact ⟨h1, fun x hx => h2 x ((e x).1 hx), h3.imp id (e _).2⟩

/-! ### the program's places -/
theorem mem_spreadPl (l : List (List Int)) (hrow : ∀ row ∈ l, row.length = l.length) (cnt : Int) (x : Int × Int) : x ∈ spreadPl l cnt l.length ↔ ∃ i k : Nat, i < l.length ∧ k < l.length ∧ x = ((i : Int), (k : Int)) ∧ mk l i k < cnt := by
  unfold spreadPl
  rw [List.mem_flatMap]
  constructor
  · rintro ⟨i, hi, hx⟩
    have hi := List.mem_range.1 hi
    unfold spreadRow at hx
    obtain ⟨k, hk, hx⟩ := List.mem_filterMap.1 hx
    have hk := List.mem_range.1 hk
    have hl : (rdR l i).length = l.length := by rw [rdR_mem hi]; exact hrow _ (List.getElem_mem hi)
    split at hx
    · next h => exact ⟨i, k, hi, by omega, (Option.some.inj hx).symm, h⟩
    · exact absurd hx (by simp)
  · rintro ⟨i, k, hi, hk, rfl, h⟩
    have hl : (rdR l i).length = l.length := by rw [rdR_mem hi]; exact hrow _ (List.getElem_mem hi)
    refine ⟨i, List.mem_range.2 hi, List.mem_filterMap.2 ⟨k, List.mem_range.2 (by omega), ?_⟩⟩
    exact if_pos h
theorem spreadPl_pair (l : List (List Int)) (cnt : Int) (m : Nat) : (spreadPl l cnt m).Pairwise (fun p q => p.1 < q.1 ∨ p.1 = q.1 ∧ p.2 < q.2) := by
  unfold spreadPl
  rw [List.pairwise_flatMap]
  constructor
  · intro i _
    unfold spreadRow
    rw [List.pairwise_filterMap]
    refine List.pairwise_lt_range.imp (fun {a b} hab => ?_)
    intro p hp q hq
    split at hp
    · split at hq
      · obtain rfl := Option.some.inj hp
        obtain rfl := Option.some.inj hq
        right
        exact ⟨rfl, by simp; omega⟩
      · cases hq
    · cases hp
  · refine List.pairwise_lt_range.imp (fun {a b} hab => ?_)
    intro p hp q hq
    unfold spreadRow at hp hq
    obtain ⟨k, _, hp⟩ := List.mem_filterMap.1 hp
    obtain ⟨k', _, hq⟩ := List.mem_filterMap.1 hq
    split at hp
    · split at hq
      · obtain rfl := Option.some.inj hp
        obtain rfl := Option.some.inj hq
        left
        simp
        omega
      · cases hq
    · cases hp
theorem rdP_at {ps : List (Int × Int)} {j : Nat} (h : j < ps.length) : rdP ps j = ps[j] := by simp [rdP, List.getD_eq_getElem?_getD, h]
end Go.Proofs.Ytamjcfdjcagjmaa.P
