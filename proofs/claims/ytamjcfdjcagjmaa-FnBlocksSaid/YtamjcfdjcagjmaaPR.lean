/- Draws out of a simple source: numbers, choices, pictures. Plain Lean. -/
import Derived.Test.YtamjcfdjcagjmaaPx1
import Derived.Test.YtamjcfdjcagjmaaPx2
import Derived.Test.YtamjcfdjcagjmaaPE
import Derived.Test.YtamjcfdjcagjmaaPB
import Derived.Test.YtamjcfdjcagjmaaPP
import Derived.Laws.BitsLemmas
namespace Go.Proofs.Ytamjcfdjcagjmaa.P
open Go.RowKit Go.Proofs.YtamjcfdjcagjmaaW.PrintWords Go.Proofs.YtamjcfdjcagjmaaW.PrintLast Go.Proofs.YtamjcfdjcagjmaaW.PrintMore
set_option linter.unusedVariables false
set_option linter.unusedSimpArgs false

theorem wrap_u64 (n : Int) : IntKind.u64.wrap n = n % 18446744073709551616 := by simp [IntKind.wrap, IntKind.bits, IntKind.signed]
theorem mask255 (x : Int) : 0 ≤ wrap64 (Go.bits .and .u64 (IntKind.u64.wrap x / 1099511627776) 255) ∧ wrap64 (Go.bits .and .u64 (IntKind.u64.wrap x / 1099511627776) 255) ≤ 255 := by
  rw [wrap_u64]
  have h0 : 0 ≤ x % 18446744073709551616 / 1099511627776 := by omega
  have h1 : x % 18446744073709551616 / 1099511627776 < 2 ^ 64 := by omega
  have e := Go.bits_mask .u64 64 (by decide) (fun n a b => by rw [wrap_u64]; omega) 8 (by decide) _ h0 h1
  have e2 : ((2 : Int) ^ 8 - 1) = 255 := by decide
  rw [e2] at e
  rw [e]
  have e3 : ((2 : Int) ^ 8) = 256 := by decide
  rw [e3]
  generalize x % 18446744073709551616 / 1099511627776 = y
  unfold wrap64
  omega
theorem next_val (l : List Int) (h : ∀ x ∈ l, (Lit.int .u8 x).wf = true) (a s N : Int) (ha : 0 ≤ a) (hN : a ≤ N) (hN2 : N ≤ 1000000000000) :
    ∃ v a' s', spec_l00Src_next.f l a s = some (v, a', s') ∧ 0 ≤ v ∧ v ≤ 255 ∧ 0 ≤ a' ∧ a' ≤ N + 1 := by
  have hw : wrap64 (a + 1) = a + 1 := wrapI (by omega) (by omega)
  unfold spec_l00Src_next.f
  rw [hw]
  obtain ⟨r0, r1⟩ := u8_rd h a
  have hr : wrap64 (rd l a) = rd l a := wrapI (by omega) (by omega)
  rw [hr]
  by_cases c : a < (l.length : Int)
  · rw [if_pos c, if_pos ha, if_pos (by omega)]
    exact ⟨_, _, _, rfl, r0, r1, by omega, by omega⟩
  · rw [if_neg c, if_neg (by omega)]
    exact ⟨_, _, _, rfl, (mask255 _).1, (mask255 _).2, by omega, by omega⟩
theorem pick_val (l : List Int) (h : ∀ x ∈ l, (Lit.int .u8 x).wf = true) (a s N n : Int) (ha : 0 ≤ a) (hN : a ≤ N) (hN2 : N ≤ 100000000000) (hn : n ≤ 65536) :
    ∃ v a' s', spec_l00Src_pick.f l a s n = some (v, a', s') ∧ 0 ≤ v ∧ (1 ≤ n → v < n) ∧ 0 ≤ a' ∧ a' ≤ N + 2 := by
  unfold spec_l00Src_pick.f
  by_cases c : n ≤ 1
  · rw [if_pos c]
    exact ⟨_, _, _, rfl, Int.le_refl _, fun _ => by omega, ha, by omega⟩
  · rw [if_neg c]
    obtain ⟨v, a', s', e, v0, v1, a0, a1⟩ := next_val l h a s N ha hN (by omega)
    rw [e]
    simp only [Option.bind_some]
    by_cases c2 : n > 200
    · obtain ⟨v2, a2', s2', e2, w0, w1, b0, b1⟩ := next_val l h a' s' (N + 1) a0 a1 (by omega)
      rw [if_pos c2, e2]
      simp only [Option.bind_some]
      have hw : wrap64 (v * 256) = v * 256 := wrapI (by omega) (by omega)
      have hw2 : wrap64 (v * 256 + v2) = v * 256 + v2 := wrapI (by omega) (by omega)
      rw [if_neg (by omega), hw, hw2]
      exact ⟨_, _, _, rfl, Int.tmod_nonneg _ (by omega), fun _ => Int.tmod_lt_of_pos _ (by omega), b0, by omega⟩
    · rw [if_neg c2, if_neg (by omega)]
      exact ⟨_, _, _, rfl, Int.tmod_nonneg _ (by omega), fun _ => Int.tmod_lt_of_pos _ (by omega), a0, by omega⟩
theorem one_val (l : List Int) (h : ∀ x ∈ l, (Lit.int .u8 x).wf = true) (a s N n : Int) (ha : 0 ≤ a) (hN : a ≤ N) (hN2 : N ≤ 100000000000) (hn : n ≤ 65536) :
    ∃ b a' s', spec_l00Src_one.f l a s n = some (b, a', s') ∧ 0 ≤ a' ∧ a' ≤ N + 2 := by
  obtain ⟨v, a', s', e, _, _, h3, h4⟩ := pick_val l h a s N n ha hN hN2 hn
  unfold spec_l00Src_one.f
  rw [e]
  exact ⟨_, _, _, rfl, h3, h4⟩

/-! ### pictures -/
def inTone (row : List Int) : Prop := ∀ x ∈ row, 0 ≤ x ∧ x ≤ 255
theorem sized_l1 (l : List Int) (h : ∀ x ∈ l, (Lit.int .u8 x).wf = true) (n m : Nat) (base : Int) (hb : 0 ≤ base ∧ base ≤ 255) (even : Bool) (i : Nat) (acc : List (List Int)) (hacc : acc.length ≤ 100)
    (N : Int) (hN2 : N ≤ 1000000) (hm : m ≤ 12)
    (cont : ∀ (row : List Int) (a s : Int), row.length = m → inTone row → 0 ≤ a → a ≤ N + 2 * m → ∃ r, Ev (fun k => spec_l09DrawSized.l0 k n m base even (wrap64 ((i : Int) + 1)) l a s (acc ++ [row])) r ∧ picB r.1 = true ∧ r.1.length = n ∧ (rdR r.1 0).length = m ∧ 0 ≤ r.2.1 ∧ r.2.1 ≤ 10000000) (d : Nat) :
    ∀ (j : Nat) (row : List Int) (a s : Int), m - j = d → j ≤ m → row.length = j → inTone row → 0 ≤ a → a ≤ N + 2 * j →
      ∃ r, Ev (fun k => spec_l09DrawSized.l1 k n m base even i row j l a s acc) r ∧ picB r.1 = true ∧ r.1.length = n ∧ (rdR r.1 0).length = m ∧ 0 ≤ r.2.1 ∧ r.2.1 ≤ 10000000 := by
  induction d with
  | zero =>
    intro j row a s hd hj hrow htone ha haN
    obtain ⟨r, hr, hr2⟩ := cont row a s (by omega) htone ha (by omega)
    refine ⟨r, Ev.step (fun k => ?_) hr, hr2⟩
    simp only [spec_l09DrawSized.l1]
    rw [if_neg (by omega), if_pos (by omega)]
  | succ d ih =>
    intro j row a s hd hj hrow htone ha haN
    have hlt : j < m := by omega
    cases even with
    | true =>
      obtain ⟨r, hr, hr2⟩ := ih (j + 1) (row ++ [base]) a s (by omega) (by omega) (by simp [hrow]) (fun x hx => by
        rcases List.mem_append.1 hx with hx | hx
        · exact htone x hx
        · simp at hx; subst hx; exact hb) ha (by omega)
      refine ⟨r, Ev.step (fun k => ?_) hr, hr2⟩
      simp only [spec_l09DrawSized.l1]
      rw [if_pos (by omega), if_pos trivial, if_pos (by omega), wrap_succ hlt (by omega)]
    | false =>
      obtain ⟨v, a', s', e, v0, v1, a0, a1⟩ := pick_val l h a s (N + 2 * j) 256 ha haN (by omega) (by omega)
      have v1 := v1 (by omega)
      obtain ⟨r, hr, hr2⟩ := ih (j + 1) (row ++ [v]) a' s' (by omega) (by omega) (by simp [hrow]) (fun x hx => by
        rcases List.mem_append.1 hx with hx | hx
        · exact htone x hx
        · simp at hx; subst hx; exact ⟨v0, by omega⟩) a0 (by omega)
      refine ⟨r, Ev.step (fun k => ?_) hr, hr2⟩
      simp only [spec_l09DrawSized.l1]
      rw [if_pos (by omega), e, wrap_succ hlt (by omega)]
      simp only [Option.bind_some, Bool.false_eq_true, if_false]
      rw [if_pos (by omega)]
theorem sized_l0 (l : List Int) (h : ∀ x ∈ l, (Lit.int .u8 x).wf = true) (n m : Nat) (base : Int) (hb : 0 ≤ base ∧ base ≤ 255) (even : Bool) (hn1 : 1 ≤ n) (hm1 : 1 ≤ m) (hn : n ≤ 12) (hm : m ≤ 12)
    (N : Int) (hN2 : N ≤ 100000) (d : Nat) :
    ∀ (i : Nat) (acc : List (List Int)) (a s : Int), n - i = d → i ≤ n → acc.length = i → (∀ row ∈ acc, row.length = m ∧ inTone row) → 0 ≤ a → a ≤ N + 24 * i →
      ∃ r, Ev (fun k => spec_l09DrawSized.l0 k n m base even i l a s acc) r ∧ picB r.1 = true ∧ r.1.length = n ∧ (rdR r.1 0).length = m ∧ 0 ≤ r.2.1 ∧ r.2.1 ≤ 10000000 := by
  induction d with
  | zero =>
    intro i acc a s hd hi hacc hrows ha haN
    obtain rfl : i = n := by omega
    have h0 : (rdR acc 0).length = m := by rw [rdR_mem (by omega)]; exact (hrows _ (List.getElem_mem _)).1
    refine ⟨(acc, a, s), Ev.step (f := fun _ => some (acc, a, s)) (fun k => ?_) (Ev.const rfl), ?_, hacc, h0, ha, by dsimp only; omega⟩
    · simp only [spec_l09DrawSized.l0]
      rw [if_neg (by omega)]
    · unfold picB areRowsB
      dsimp only
      rw [h0, hacc]
      simp only [Bool.and_eq_true, decide_eq_true_eq, List.all_eq_true]
      refine ⟨⟨⟨⟨hn1, hn⟩, hm1⟩, hm⟩, fun row hr => ⟨(hrows row hr).1, fun x hx => (hrows row hr).2 x hx⟩⟩
  | succ d ih =>
    intro i acc a s hd hi hacc hrows ha haN
    obtain ⟨r, hr, hr2⟩ := sized_l1 l h n m base hb even i acc (by omega) (N + 24 * i) (by omega) hm (fun row a' s' h1 h2 h3 h4 => by
      rw [wrap_succ (n := n) (by omega) (by omega)]
      refine ih (i + 1) (acc ++ [row]) a' s' (by omega) (by omega) (by simp [hacc]) (fun row' hr' => ?_) h3 (by omega)
      rcases List.mem_append.1 hr' with hr' | hr'
      · exact hrows _ hr'
      · simp at hr'; subst hr'; exact ⟨h1, h2⟩) m 0 [] a s (by omega) (by omega) rfl (fun x hx => by cases hx) ha (by omega)
    refine ⟨r, Ev.step (fun k => ?_) hr, hr2⟩
    simp only [spec_l09DrawSized.l0]
    rw [if_pos (by omega)]
    rfl
theorem sized_ev (l : List Int) (h : ∀ x ∈ l, (Lit.int .u8 x).wf = true) (a s N : Int) (ha : 0 ≤ a) (haN : a ≤ N) (hN : N ≤ 90000) (n m : Nat) (hn1 : 1 ≤ n) (hm1 : 1 ≤ m) (hn : n ≤ 12) (hm : m ≤ 12) :
    ∃ r, Ev (fun k => spec_l09DrawSized.f k l a s n m) r ∧ picB r.1 = true ∧ r.1.length = n ∧ (rdR r.1 0).length = m ∧ 0 ≤ r.2.1 ∧ r.2.1 ≤ 10000000 := by
  obtain ⟨v, a1, s1, e1, v0, v1, p0, p1⟩ := pick_val l h a s N 256 ha haN (by omega) (by omega)
  obtain ⟨b, a2, s2, e2, q0, q1⟩ := one_val l h a1 s1 (N + 2) 3 p0 p1 (by omega) (by omega)
  have v1 := v1 (by omega)
  obtain ⟨r, hr, hr2⟩ := sized_l0 l h n m v ⟨v0, by omega⟩ b hn1 hm1 hn hm (N + 4) (by omega) n 0 [] a2 s2 (by omega) (by omega) rfl (fun x hx => by cases hx) q0 (by omega)
  refine ⟨r, ?_, hr2⟩
  unfold spec_l09DrawSized.f
  exact Ev.bindc e1 (Ev.bindc e2 hr)
theorem drawOk_ev (l : List Int) (h : ∀ x ∈ l, (Lit.int .u8 x).wf = true) (a s N : Int) (ha : 0 ≤ a) (haN : a ≤ N) (hN : N ≤ 80000) :
    ∃ r, Ev (fun k => spec_l09DrawOk.f k l a s) r ∧ picB r.1 = true ∧ 0 ≤ r.2.1 ∧ r.2.1 ≤ 10000000 := by
  obtain ⟨v, a1, s1, e1, v0, v1, p0, p1⟩ := pick_val l h a s N 6 ha haN (by omega) (by omega)
  obtain ⟨u, a2, s2, e2, u0, u1, q0, q1⟩ := pick_val l h a1 s1 (N + 2) 6 p0 p1 (by omega) (by omega)
  obtain ⟨b, a3, s3, e3, t0, t1⟩ := one_val l h a2 s2 (N + 4) 20 q0 (by omega) (by omega) (by omega)
  have v1 := v1 (by omega)
  have u1 := u1 (by omega)
  unfold spec_l09DrawOk.f
  cases b with
  | true =>
    obtain ⟨r, hr, h1, _, _, h4, h5⟩ := sized_ev l h a3 s3 (N + 6) t0 (by omega) (by omega) 12 12 (by omega) (by omega) (by omega) (by omega)
    exact ⟨(r.1, r.2.1, r.2.2), Ev.bindc e1 (Ev.bindc e2 (Ev.bindc e3 (Ev.of_ite_pos rfl (Ev.bind hr (Ev.const rfl))))), h1, h4, h5⟩
  | false =>
    obtain ⟨r, hr, h1, _, _, h4, h5⟩ := sized_ev l h a3 s3 (N + 6) t0 (by omega) (by omega) (1 + v).toNat (1 + u).toNat (by omega) (by omega) (by omega) (by omega)
    have ev : (((1 + v).toNat : Nat) : Int) = wrap64 (1 + v) := by rw [wrapI (by omega) (by omega)]; omega
    have eu : (((1 + u).toNat : Nat) : Int) = wrap64 (1 + u) := by rw [wrapI (by omega) (by omega)]; omega
    rw [ev, eu] at hr
    exact ⟨(r.1, r.2.1, r.2.2), Ev.bindc e1 (Ev.bindc e2 (Ev.bindc e3 (Ev.of_ite_neg (by simp) (Ev.bind hr (Ev.const rfl))))), h1, h4, h5⟩
theorem picture_ev (l : List Int) (h : ∀ x ∈ l, (Lit.int .u8 x).wf = true) : ∃ P, Ev (fun k => spec_B10Picture.f k l) P ∧ picB P = true := by
  obtain ⟨r, hr, h1, _, _⟩ := drawOk_ev l h 0 0 0 (by omega) (by omega) (by omega)
  refine ⟨r.1, ?_, h1⟩
  unfold spec_B10Picture.f
  exact Ev.bindc rfl (Ev.bind hr (Ev.const rfl))
end Go.Proofs.Ytamjcfdjcagjmaa.P
