/- Masks: what the reference's test finds is what the sorted list shows. Plain Lean. -/
import Derived.Test.YtamjcfdjcagjmaaPA
import Derived.Test.YtamjcfdjcagjmaaPK
import Derived.Test.YtamjcfdjcagjmaaPx13
import Derived.Test.YtamjcfdjcagjmaaPx9
namespace Go.Proofs.Ytamjcfdjcagjmaa.P
open Go.RowKit Go.Proofs.YtamjcfdjcagjmaaW.PrintWords Go.Proofs.YtamjcfdjcagjmaaW.PrintLast Go.Proofs.YtamjcfdjcagjmaaW.PrintMore
set_option linter.unusedVariables false
set_option linter.unusedSimpArgs false

/-- n rows of n numbers, each from 0 to n n - 1 once. -/
theorem in_val (a b c : Int) : spec_l00In.f a b c = some (decide (b ≤ a) && decide (a ≤ c)) := by
  unfold spec_l00In.f
  by_cases h : b ≤ a
  · rw [if_pos h]; simp [h]
  · rw [if_neg h]; simp [h]

/-! ### the sorted list -/
/-! ### the reference's scan -/
/-- The flags tell which numbers have come. -/
def Seen (M : Nat) (s : List Bool) (V : List Int) : Prop := s.length = M ∧ ∀ v : Nat, v < M → (s[v]? = some true ↔ (v : Int) ∈ V) ∧ s[v]?.isSome
theorem seen_get {M : Nat} {s : List Bool} {V : List Int} (h : Seen M s V) (x : Int) (h0 : 0 ≤ x) (h1 : x ≤ (M : Int) - 1) : rdOf false s x = decide (x ∈ V) := by
  have hv := h.2 x.toNat (by omega)
  have e : ((x.toNat : Nat) : Int) = x := by omega
  rw [e] at hv
  unfold rdOf
  rw [List.getD_eq_getElem?_getD]
  cases hq : s[x.toNat]? with
  | none => rw [hq] at hv; simp at hv
  | some b =>
    rw [hq] at hv
    cases b with
    | true => simp [hv.1.1 rfl]
    | false =>
      have : ¬ x ∈ V := fun hm => by have := hv.1.2 hm; simp at this
      simp [this]
theorem seen_set {M : Nat} {s : List Bool} {V : List Int} (h : Seen M s V) (x : Int) (h0 : 0 ≤ x) (h1 : x ≤ (M : Int) - 1) : Seen M (s.set x.toNat true) (V ++ [x]) := by
  refine ⟨by simp [h.1], fun v hv => ?_⟩
  have hvv := h.2 v hv
  by_cases e : x.toNat = v
  · subst e
    rw [List.getElem?_set_self (by rw [h.1]; exact hv)]
    have : ((x.toNat : Nat) : Int) = x := by omega
    simp [this]
  · rw [List.getElem?_set_ne e]
    refine ⟨?_, hvv.2⟩
    rw [hvv.1]
    constructor
    · intro hm; exact List.mem_append_left _ hm
    · intro hm
      rcases List.mem_append.1 hm with hm | hm
      · exact hm
      · have := List.mem_singleton.1 hm
        omega
theorem mask_l1 (l : List (List Int)) (hl : l.length ≤ 8) (M : Nat) (hM : (M : Int) = (l.length : Int) * (l.length : Int)) (hM2 : M ≤ 64) (i : Nat) (hi : i < l.length) (hlen : (rdR l i).length = l.length)
    (next : ∀ (V : List Int) (s : List Bool), Seen M s V → V.Nodup → ∃ b, Ev (fun k => spec_l09Mask.l0 k l (l.length : Int) s ((i + 1 : Nat) : Int)) b ∧ (b = true ↔ (∀ row ∈ l.drop (i + 1), row.length = l.length) ∧ (V ++ (l.drop (i + 1)).flatten).Nodup ∧ ∀ x ∈ (l.drop (i + 1)).flatten, 0 ≤ x ∧ x ≤ (M : Int) - 1))
    (d : Nat) : ∀ (j : Nat) (V : List Int) (s : List Bool), (rdR l i).length - j = d → j ≤ (rdR l i).length → Seen M s V → V.Nodup →
    ∃ b, Ev (fun k => spec_l09Mask.l1 k l (l.length : Int) s (i : Int) (j : Int)) b ∧ (b = true ↔ (∀ row ∈ l.drop (i + 1), row.length = l.length) ∧ (V ++ ((rdR l i).drop j ++ (l.drop (i + 1)).flatten)).Nodup ∧ ∀ x ∈ (rdR l i).drop j ++ (l.drop (i + 1)).flatten, 0 ≤ x ∧ x ≤ (M : Int) - 1) := by
  have hw : wrap64 ((wrap64 ((l.length : Int) * (l.length : Int))) - 1) = (M : Int) - 1 := by
    have hw0 : wrap64 ((l.length : Int) * (l.length : Int)) = (M : Int) := by rw [← hM, wrapI (by omega) (by omega)]
    rw [hw0, wrapI (by omega) (by omega)]
  induction d with
  | zero =>
    intro j V s hd hj hs hV
    obtain ⟨b, hb, hb2⟩ := next V s hs hV
    refine ⟨b, Ev.step (fun k => ?_) hb, ?_⟩
    · simp only [spec_l09Mask.l1]
      rw [if_pos (by omega), if_pos (by omega), rdL2, if_neg (by omega), wrap_succ hi (by omega)]
    · rw [hb2, List.drop_eq_nil_of_le (by omega : (rdR l i).length ≤ j), List.nil_append]
  | succ d ih =>
    intro j V s hd hj hs hV
    have hlt : j < (rdR l i).length := by omega
    have ed : (rdR l i).drop j = rd (rdR l i) (j : Int) :: (rdR l i).drop (j + 1) := by rw [List.drop_eq_getElem_cons hlt, rd_mem hlt]
    generalize hx : rd (rdR l i) (j : Int) = x at ed
    by_cases hr : 0 ≤ x ∧ x ≤ (M : Int) - 1
    · have hin : spec_l00In.f x 0 ((M : Int) - 1) = some true := by rw [in_val]; simp [hr.1, hr.2]
      by_cases hm : x ∈ V
      · refine ⟨false, Ev.step (f := fun _ => some false) (fun k => ?_) (Ev.const rfl), ?_⟩
        · simp only [spec_l09Mask.l1]
          rw [if_pos (by omega), if_pos (by omega), rdL2, if_pos (by omega), if_pos (by omega), hx, hw, hin]
          simp only [Option.bind_some, if_true]
          rw [if_pos hr.1, if_pos (by rw [hs.1]; omega), seen_get hs x hr.1 hr.2]
          simp [hm]
        · rw [ed]
          constructor
          · intro h; cases h
          · intro ⟨_, h, _⟩
            have := (List.nodup_append.1 h).2.2 x hm x (by simp)
            exact absurd rfl this
      · obtain ⟨b, hb, hb2⟩ := ih (j + 1) (V ++ [x]) (s.set x.toNat true) (by omega) (by omega) (seen_set hs x hr.1 hr.2) (by
          rw [List.nodup_append]
          exact ⟨hV, by simp, fun a ha c hc => by rw [List.mem_singleton.1 hc]; exact fun e => hm (e ▸ ha)⟩)
        refine ⟨b, Ev.step (fun k => ?_) hb, ?_⟩
        · simp only [spec_l09Mask.l1]
          rw [if_pos (by omega), if_pos (by omega), rdL2, if_pos (by omega), if_pos (by omega), hx, hw, hin]
          simp only [Option.bind_some, if_true]
          rw [if_pos hr.1, if_pos (by rw [hs.1]; omega), seen_get hs x hr.1 hr.2, if_neg (by simp [hm]), wrap_succ hlt (by omega)]
        · rw [hb2, ed]
          simp only [List.cons_append, List.append_assoc, List.nil_append]
          constructor
          · intro ⟨h1, h2, h3⟩
            exact ⟨h1, h2, fun y hy => by
              rcases List.mem_cons.1 hy with rfl | hy
              · exact hr
              · exact h3 y hy⟩
          · intro ⟨h1, h2, h3⟩
            exact ⟨h1, h2, fun y hy => h3 y (List.mem_cons_of_mem _ hy)⟩
    · have hin : spec_l00In.f x 0 ((M : Int) - 1) = some false := by
        rw [in_val]
        by_cases c : 0 ≤ x
        · have : ¬ x ≤ (M : Int) - 1 := fun h => hr ⟨c, h⟩
          simp [c, this]
        · simp [c]
      refine ⟨false, Ev.step (f := fun _ => some false) (fun k => ?_) (Ev.const rfl), ?_⟩
      · simp only [spec_l09Mask.l1]
        rw [if_pos (by omega), if_pos (by omega), rdL2, if_pos (by omega), if_pos (by omega), hx, hw, hin]
        rfl
      · rw [ed]
        constructor
        · intro h; cases h
        · intro ⟨_, _, h⟩
          exact absurd (h x (by simp)) hr
theorem mask_l0 (l : List (List Int)) (hl : l.length ≤ 8) (M : Nat) (hM : (M : Int) = (l.length : Int) * (l.length : Int)) (hM2 : M ≤ 64) (d : Nat) : ∀ (i : Nat) (V : List Int) (s : List Bool), l.length - i = d → i ≤ l.length → Seen M s V → V.Nodup →
    ∃ b, Ev (fun k => spec_l09Mask.l0 k l (l.length : Int) s (i : Int)) b ∧ (b = true ↔ (∀ row ∈ l.drop i, row.length = l.length) ∧ (V ++ (l.drop i).flatten).Nodup ∧ ∀ x ∈ (l.drop i).flatten, 0 ≤ x ∧ x ≤ (M : Int) - 1) := by
  induction d with
  | zero =>
    intro i V s hd hi hs hV
    refine ⟨true, Ev.step (f := fun _ => some true) (fun k => ?_) (Ev.const rfl), ?_⟩
    · simp only [spec_l09Mask.l0]
      rw [if_neg (by omega)]
    · rw [List.drop_eq_nil_of_le (by omega)]
      simp [hV]
  | succ d ih =>
    intro i V s hd hi hs hV
    have hlt : i < l.length := by omega
    have ed : l.drop i = rdR l i :: l.drop (i + 1) := by rw [List.drop_eq_getElem_cons hlt, rdR_at hlt]
    by_cases hc : (rdR l i).length = l.length
    · obtain ⟨b, hb, hb2⟩ := mask_l1 l hl M hM hM2 i hlt hc (fun V s hs hV => ih (i + 1) V s (by omega) (by omega) hs hV) (rdR l i).length 0 V s (by omega) (by omega) hs hV
      refine ⟨b, Ev.step (fun k => ?_) hb, ?_⟩
      · simp only [spec_l09Mask.l0]
        rw [if_pos (by omega), if_pos (by omega), rdL2, if_pos (by omega)]
        rfl
      · rw [hb2, ed]
        simp only [List.drop_zero, List.flatten_cons, List.mem_cons, forall_eq_or_imp]
        constructor
        · intro ⟨h1, h2, h3⟩
          exact ⟨⟨hc, h1⟩, h2, h3⟩
        · intro ⟨⟨_, h1⟩, h2, h3⟩
          exact ⟨h1, h2, h3⟩
    · refine ⟨false, Ev.step (f := fun _ => some false) (fun k => ?_) (Ev.const rfl), ?_⟩
      · simp only [spec_l09Mask.l0]
        rw [if_pos (by omega), if_pos (by omega), rdL2, if_neg (by omega)]
      · rw [ed]
        constructor
        · intro h; cases h
        · intro ⟨h, _⟩
          exact absurd (h _ List.mem_cons_self) hc
theorem specMask_ev' (l : List (List Int)) (hl0 : l.length ≤ 9223372036854775807) : Ev (fun k => spec_l09Mask.f k l) (decide (1 ≤ l.length) && decide (l.length ≤ 8) && maskB l) := by
  unfold spec_l09Mask.f
  by_cases c1 : 1 ≤ l.length
  · by_cases c2 : l.length ≤ 8
    · refine Ev.of_ite_neg (by omega) ?_
      have hsq : l.length * l.length ≤ 64 := Nat.mul_le_mul c2 c2
      have hM : ((l.length * l.length : Nat) : Int) = (l.length : Int) * (l.length : Int) := by simp
      have hw : wrap64 ((l.length : Int) * (l.length : Int)) = ((l.length * l.length : Nat) : Int) := by rw [← hM, wrapI (by omega) (by omega)]
      obtain ⟨b, hb, hb2⟩ := mask_l0 l c2 (l.length * l.length) hM hsq l.length 0 [] (List.replicate (l.length * l.length) false) (by omega) (by omega)
        ⟨by simp, fun v hv => by simp [List.getElem?_replicate, hv]⟩ (by simp)
      have hbm : b = maskB l := by
        rw [Bool.eq_iff_iff, hb2, maskB_iff]
        unfold IsMaskP
        simp only [List.drop_zero, List.nil_append]
        rw [hM]
      rw [hbm] at hb
      simp only [c1, c2, decide_true, Bool.true_and]
      refine Ev.step (fun k => ?_) hb
      simp only [spec_l09Mask.j0]
      have hd : decide ((l.length : Int) > 8) = false := by simp; omega
      rw [hd, if_neg (by simp), hw, if_pos (by omega), if_pos (by omega), Int.toNat_natCast]
      rfl
    · refine Ev.of_ite_neg (by omega) ?_
      refine Ev.step (f := fun _ => some false) (fun k => ?_) (Ev.const (by simp [c2]))
      simp only [spec_l09Mask.j0]
      rw [if_pos (by simp; omega)]
  · refine Ev.of_ite_pos (by omega) ?_
    refine Ev.step (f := fun _ => some false) (fun k => ?_) (Ev.const (by simp [c1]))
    simp only [spec_l09Mask.j0]
    rfl
theorem specMask_ev (l : List (List Int)) (hl0 : l.length ≤ 9223372036854775807) : Ev (fun k => spec_IsMask.f k l) (decide (1 ≤ l.length) && decide (l.length ≤ 8) && maskB l) := Ev.bind (specMask_ev' l hl0) (Ev.now _)
end Go.Proofs.Ytamjcfdjcagjmaa.P
