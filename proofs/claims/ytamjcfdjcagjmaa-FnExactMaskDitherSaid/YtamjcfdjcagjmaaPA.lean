/- What the laws' own helpers compute (copies, sizes, comparisons), in plain Lean. -/
import Derived.Test.YtamjcfdjcagjmaaPx6
import Derived.Test.YtamjcfdjcagjmaaPx3
import Derived.Test.YtamjcfdjcagjmaaPx7
import Derived.Test.YtamjcfdjcagjmaaPE
namespace Go.Proofs.Ytamjcfdjcagjmaa.P
open Go.RowKit Go.Proofs.YtamjcfdjcagjmaaW.PrintWords Go.Proofs.YtamjcfdjcagjmaaW.PrintLast Go.Proofs.YtamjcfdjcagjmaaW.PrintMore
set_option linter.unusedVariables false
set_option linter.unusedSimpArgs false

/-! ### copies -/
theorem toInt64S_loop (l : List Int) (hl : l.length ≤ 9223372036854775807) (d : Nat) : ∀ (i : Nat) (x3 : List Int), l.length - i = d → i ≤ l.length → x3.length = l.length → x3.take i = l.take i → Ev (fun k => laws_toInt64S.l0 k l x3 (i : Int)) l := by
  induction d with
  | zero =>
    intro i x3 hd hi hx ht
    have : i = l.length := by omega
    subst this
    refine Ev.step (f := fun _ => some x3) (fun k => ?_) (Ev.const ?_)
    · simp only [laws_toInt64S.l0]
      rw [if_neg (by omega)]
    · rw [← hx, List.take_length, hx, List.take_length] at ht
      rw [ht]
  | succ d ih =>
    intro i x3 hd hi hx ht
    have hlt : i < l.length := by omega
    refine Ev.step (f := fun k => laws_toInt64S.l0 k l (x3.set i (rd l (i : Int))) ((i + 1 : Nat) : Int)) (fun k => ?_) (ih (i + 1) _ (by omega) (by omega) (by simpa using hx) ?_)
    · simp only [laws_toInt64S.l0]
      rw [if_pos (by omega), if_pos (by omega), if_pos (by omega), wrap_succ hlt hl]
      rfl
    · rw [take_set_succ _ _ _ (by omega), List.take_succ_eq_append_getElem hlt, ht, rd_mem hlt]
theorem toInt64S_ev (l : List Int) (hl : l.length ≤ 35184372088832) : Ev (fun k => laws_toInt64S.f k l) l := by
  unfold laws_toInt64S.f
  refine Ev.of_ite_pos (by omega) (Ev.of_ite_pos (by omega) ?_)
  exact toInt64S_loop l (by omega) l.length 0 _ (by omega) (by omega) (by simp) (by simp)
theorem toInt64SS_loop (l : List (List Int)) (hl : l.length ≤ 9223372036854775807) (hr : ∀ row ∈ l, row.length ≤ 35184372088832) (d : Nat) : ∀ (i : Nat) (x3 : List (List Int)), l.length - i = d → i ≤ l.length → x3.length = l.length → x3.take i = l.take i → Ev (fun k => laws_toInt64SS.l0 k l x3 (i : Int)) l := by
  induction d with
  | zero =>
    intro i x3 hd hi hx ht
    have : i = l.length := by omega
    subst this
    refine Ev.step (f := fun _ => some x3) (fun k => ?_) (Ev.const ?_)
    · simp only [laws_toInt64SS.l0]
      rw [if_neg (by omega)]
    · rw [← hx, List.take_length, hx, List.take_length] at ht
      rw [ht]
  | succ d ih =>
    intro i x3 hd hi hx ht
    have hlt : i < l.length := by omega
    have hrow : (rdR l i).length ≤ 35184372088832 := by rw [rdR_at hlt]; exact hr _ (List.getElem_mem hlt)
    refine Ev.step (f := fun k => (laws_toInt64S.f k (rdR l i)).bind fun t => laws_toInt64SS.l0 k l (x3.set i t) ((i + 1 : Nat) : Int)) (fun k => ?_) (Ev.bind (toInt64S_ev _ hrow) (ih (i + 1) _ (by omega) (by omega) (by simpa using hx) ?_))
    · simp only [laws_toInt64SS.l0]
      rw [if_pos (by omega), if_pos (by omega), rdL2, wrap_succ hlt hl]
      congr 1
      funext t
      rw [if_pos (by omega)]
      rfl
    · rw [take_set_succ _ _ _ (by omega), List.take_succ_eq_append_getElem hlt, ht, rdR_at hlt]
theorem toInt64SS_ev (l : List (List Int)) (hl : l.length ≤ 11728124029610) (hr : ∀ row ∈ l, row.length ≤ 35184372088832) : Ev (fun k => laws_toInt64SS.f k l) l := by
  unfold laws_toInt64SS.f
  refine Ev.of_ite_pos (by omega) (Ev.of_ite_pos (by omega) ?_)
  exact toInt64SS_loop l (by omega) hr l.length 0 _ (by omega) (by omega) (by simp) (by simp)

/-! ### sizes -/
theorem szInt64S_val (l : List Int) (left : Int) (h0 : 0 ≤ left) (h1 : left ≤ 1048576) (hl : l.length ≤ 9223372036854775807) : laws_szInt64S.f l left = some (if left - (l.length : Int) < 0 then -1 else left - (l.length : Int)) := by
  unfold laws_szInt64S.f
  rw [wrapI (by omega) (by omega)]
  split <;> rfl
theorem szInt64SS_loop (l : List (List Int)) (hl : l.length ≤ 9223372036854775807) (hr : ∀ row ∈ l, row.length ≤ 9223372036854775807) (d : Nat) : ∀ (i : Nat) (left : Int), l.length - i = d → i ≤ l.length → 0 ≤ left → left ≤ 1048576 →
    ∃ v, Ev (fun k => laws_szInt64SS.l0 k l left (i : Int)) v ∧ (v < 0 ∨ (0 ≤ v ∧ v ≤ left ∧ ∀ j, i ≤ j → j < l.length → (rdR l j).length ≤ 1048576)) := by
  induction d with
  | zero =>
    intro i left hd hi h0 h1
    refine ⟨left, Ev.step (f := fun _ => some left) (fun k => ?_) (Ev.const rfl), .inr ⟨h0, Int.le_refl _, fun j hj hj2 => absurd hj2 (by omega)⟩⟩
    simp only [laws_szInt64SS.l0]
    rw [if_neg (by omega)]
  | succ d ih =>
    intro i left hd hi h0 h1
    have hlt : i < l.length := by omega
    have hrow : (rdR l i).length ≤ 9223372036854775807 := by rw [rdR_at hlt]; exact hr _ (List.getElem_mem hlt)
    have hs := szInt64S_val (rdR l i) left h0 h1 hrow
    by_cases hc : left - ((rdR l i).length : Int) < 0
    · rw [if_pos hc] at hs
      refine ⟨-1, Ev.step (f := fun _ => some (-1)) (fun k => ?_) (Ev.const rfl), .inl (by omega)⟩
      simp only [laws_szInt64SS.l0]
      rw [if_pos (by omega), if_pos (by omega), rdL2, hs]
      rfl
    · rw [if_neg hc] at hs
      obtain ⟨v, hv, hv2⟩ := ih (i + 1) (left - ((rdR l i).length : Int)) (by omega) (by omega) (by omega) (by omega)
      refine ⟨v, Ev.step (fun k => ?_) hv, ?_⟩
      · simp only [laws_szInt64SS.l0]
        rw [if_pos (by omega), if_pos (by omega), rdL2, hs, wrap_succ hlt hl]
        simp only [Option.bind_some]
        rw [if_neg hc]
      · rcases hv2 with hv2 | ⟨a, b, c⟩
        · exact .inl hv2
        · refine .inr ⟨a, by omega, fun j hj hj2 => ?_⟩
          by_cases e : j = i
          · subst e; omega
          · exact c j (by omega) hj2
theorem szInt64SS_ev (l : List (List Int)) (left : Int) (h0 : 0 ≤ left) (h1 : left ≤ 1048576) (hl : l.length ≤ 9223372036854775807) (hr : ∀ row ∈ l, row.length ≤ 9223372036854775807) :
    ∃ v, Ev (fun k => laws_szInt64SS.f k l left) v ∧ (v < 0 ∨ (0 ≤ v ∧ v ≤ left ∧ l.length ≤ 1048576 ∧ ∀ row ∈ l, row.length ≤ 1048576)) := by
  unfold laws_szInt64SS.f
  have hw : wrap64 (left - (l.length : Int)) = left - (l.length : Int) := wrapI (by omega) (by omega)
  rw [hw]
  by_cases hc : left - (l.length : Int) < 0
  · exact ⟨-1, Ev.of_ite_pos hc (Ev.const rfl), .inl (by omega)⟩
  · obtain ⟨v, hv, hv2⟩ := szInt64SS_loop l hl hr l.length 0 (left - (l.length : Int)) (by omega) (by omega) (by omega) (by omega)
    refine ⟨v, Ev.of_ite_neg hc hv, ?_⟩
    rcases hv2 with hv2 | ⟨a, b, c⟩
    · exact .inl hv2
    · refine .inr ⟨a, by omega, by omega, fun row hrow => ?_⟩
      obtain ⟨j, hj, rfl⟩ := List.getElem_of_mem hrow
      have := c j (by omega) hj
      rwa [rdR_at hj] at this

/-! ### comparisons -/
theorem eqInt64S_loop (a b : List Int) (hab : a.length = b.length) (hl : a.length ≤ 9223372036854775807) (d : Nat) : ∀ (i : Nat), a.length - i = d → i ≤ a.length → Ev (fun k => laws_eqInt64S.l0 k a b (i : Int)) (decide (a.drop i = b.drop i)) := by
  induction d with
  | zero =>
    intro i hd hi
    refine Ev.step (f := fun _ => some true) (fun k => ?_) (Ev.const ?_)
    · simp only [laws_eqInt64S.l0]
      rw [if_neg (by omega)]
    · rw [List.drop_eq_nil_of_le (by omega), List.drop_eq_nil_of_le (by omega)]
      rfl
  | succ d ih =>
    intro i hd hi
    have hlt : i < a.length := by omega
    have hlb : i < b.length := by omega
    have ea : a.drop i = rd a (i : Int) :: a.drop (i + 1) := by rw [List.drop_eq_getElem_cons hlt, rd_mem hlt]
    have eb : b.drop i = rd b (i : Int) :: b.drop (i + 1) := by rw [List.drop_eq_getElem_cons hlb, rd_mem hlb]
    by_cases hc : rd a (i : Int) = rd b (i : Int)
    · refine Ev.step (fun k => ?_) (show Ev (fun k => laws_eqInt64S.l0 k a b ((i + 1 : Nat) : Int)) _ from ?_)
      · simp only [laws_eqInt64S.l0]
        rw [if_pos (by omega), if_pos (by omega), if_pos (by omega), if_pos hc, wrap_succ hlt hl]
      · have := ih (i + 1) (by omega) (by omega)
        rw [ea, eb, hc]
        simpa using this
    · refine Ev.step (f := fun _ => some false) (fun k => ?_) (Ev.const ?_)
      · simp only [laws_eqInt64S.l0]
        rw [if_pos (by omega), if_pos (by omega), if_pos (by omega), if_neg hc]
      · rw [ea, eb]
        simp [hc]
theorem eqInt64S_ev (a b : List Int) (hl : a.length ≤ 9223372036854775807) : Ev (fun k => laws_eqInt64S.f k a b) (decide (a = b)) := by
  unfold laws_eqInt64S.f
  by_cases h : a.length = b.length
  · refine Ev.of_ite_pos (by omega) ?_
    have := eqInt64S_loop a b h hl a.length 0 (by omega) (by omega)
    simpa using this
  · refine Ev.of_ite_neg (by omega) (Ev.const ?_)
    have : ¬ a = b := fun e => h (by rw [e])
    simp [this]
theorem eqInt64SS_loop (a b : List (List Int)) (hab : a.length = b.length) (hl : a.length ≤ 9223372036854775807) (hr : ∀ row ∈ a, row.length ≤ 9223372036854775807) (d : Nat) : ∀ (i : Nat), a.length - i = d → i ≤ a.length → Ev (fun k => laws_eqInt64SS.l0 k a b (i : Int)) (decide (a.drop i = b.drop i)) := by
  induction d with
  | zero =>
    intro i hd hi
    refine Ev.step (f := fun _ => some true) (fun k => ?_) (Ev.const ?_)
    · simp only [laws_eqInt64SS.l0]
      rw [if_neg (by omega)]
    · rw [List.drop_eq_nil_of_le (by omega), List.drop_eq_nil_of_le (by omega)]
      rfl
  | succ d ih =>
    intro i hd hi
    have hlt : i < a.length := by omega
    have hlb : i < b.length := by omega
    have ea : a.drop i = rdR a i :: a.drop (i + 1) := by rw [List.drop_eq_getElem_cons hlt, rdR_at hlt]
    have eb : b.drop i = rdR b i :: b.drop (i + 1) := by rw [List.drop_eq_getElem_cons hlb, rdR_at hlb]
    have hrow : (rdR a i).length ≤ 9223372036854775807 := by rw [rdR_at hlt]; exact hr _ (List.getElem_mem hlt)
    have hev := eqInt64S_ev (rdR a i) (rdR b i) hrow
    refine Ev.step (f := fun k => (laws_eqInt64S.f k (rdR a i) (rdR b i)).bind fun t => if t = true then laws_eqInt64SS.l0 k a b ((i + 1 : Nat) : Int) else some false) (fun k => ?_) (Ev.bind hev ?_)
    · simp only [laws_eqInt64SS.l0]
      rw [if_pos (by omega), if_pos (by omega), if_pos (by omega), rdL2, rdL2, wrap_succ hlt hl]
    · by_cases hc : rdR a i = rdR b i
      · refine Ev.of_ite_pos (by simp [hc]) ?_
        have := ih (i + 1) (by omega) (by omega)
        rw [ea, eb, hc]
        simpa using this
      · refine Ev.of_ite_neg (by simp [hc]) (Ev.const ?_)
        rw [ea, eb]
        simp [hc]
theorem eqInt64SS_ev (a b : List (List Int)) (hl : a.length ≤ 9223372036854775807) (hr : ∀ row ∈ a, row.length ≤ 9223372036854775807) : Ev (fun k => laws_eqInt64SS.f k a b) (decide (a = b)) := by
  unfold laws_eqInt64SS.f
  by_cases h : a.length = b.length
  · refine Ev.of_ite_pos (by omega) ?_
    have := eqInt64SS_loop a b h hl hr a.length 0 (by omega) (by omega)
    simpa using this
  · refine Ev.of_ite_neg (by omega) (Ev.const ?_)
    have : ¬ a = b := fun e => h (by rw [e])
    simp [this]
end Go.Proofs.Ytamjcfdjcagjmaa.P
