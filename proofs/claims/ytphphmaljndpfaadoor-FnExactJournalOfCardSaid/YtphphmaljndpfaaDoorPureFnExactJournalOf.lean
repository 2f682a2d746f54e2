/- JournalOf: the program's answer is the reference's, for every list of lines. Plain Lean. -/
import Derived.Test.YtphphmaljndpfaaDoorPx2
import Derived.Test.YtphphmaljndpfaaDoorPx3
import Derived.Test.YtphphmaljndpfaaDoorPJa
namespace Go.Proofs.YtphphmaljndpfaaDoor.P
open Go.RowKit Go.Proofs.YtphphmaljndpfaaDoorW.PrintWords Go.Proofs.YtphphmaljndpfaaDoorW.PrintLast Go.Proofs.YtphphmaljndpfaaDoorW.PrintMore
set_option linter.unusedVariables false
set_option linter.unusedSimpArgs false
theorem ev_to {α : Type} {f : Nat → Option α} {a b : α} (h : Ev f a) (e : a = b) : Ev f b := e ▸ h
/-- The journal of lines, behind what stands already. -/
def jtext : List ByteArray → Int → ByteArray → ByteArray
  | [], _, out => out
  | s :: r, n, out => jtext r (chk n s) (out ++ jline (dec (chk n s)) s)
def three (l : List ByteArray) : Nat := (l.map fun s => s.size + 3).sum
def room (l : List ByteArray) : Nat := (l.map fun s => s.size + 24).sum
theorem room_le (l : List ByteArray) : room l = sizesT l + 24 * l.length := by
  induction l with
  | nil => rfl
  | cons s r ih => simp only [room, sizesT, List.map_cons, List.sum_cons, List.length_cons] at ih ⊢; omega
theorem jline_size (d s : ByteArray) : (jline d s).size = d.size + 1 + s.size + 1 := by simp only [jline, ByteArray.size_append, bsz1_]
theorem jtext_size (l : List ByteArray) : ∀ (n : Int) (out : ByteArray), 0 ≤ n → n ≤ 65520 → out.size + three l ≤ (jtext l n out).size := by
  induction l with
  | nil => intro n out _ _; simp [jtext, three]
  | cons s r ih =>
    intro n out h0 h1
    have hc := chkL_range s.data.toList n h0 h1
    have h2 := ih (chk n s) (out ++ jline (dec (chk n s)) s) hc.1 hc.2
    have h3 := dec_size (chk n s) (by have : 0 ≤ chk n s := hc.1; omega) (by have : chk n s ≤ 65520 := hc.2; omega)
    rw [ByteArray.size_append, jline_size] at h2
    show out.size + three (s :: r) ≤ (jtext r (chk n s) (out ++ jline (dec (chk n s)) s)).size
    simp only [three, List.map_cons, List.sum_cons] at h2 ⊢
    omega
def badT (s : ByteArray) : Bool := decide (0 ≤ Lib.indexByte s.data.toList 10)
theorem specJ_text (l : List ByteArray) (hl : l.length ≤ 9223372036854775807) (hr : ∀ s ∈ l, s.size ≤ 9223372036854775807) (d : Nat) : ∀ (i : Nat) (n : Int) (out : ByteArray), l.length - i = d → i ≤ l.length → 0 ≤ n → n ≤ 65520 → out.size + room (l.drop i) ≤ 4611686018427387904 →
    Ev (fun k => spec_l11Journal.l0 k l out n (i : Int)) (jtext (l.drop i) n out) := by
  induction d with
  | zero =>
    intro i n out hd hi h0 h1 hb
    refine Ev.step (fun k => spec_l11Journal.l0.eq_2 l out n _ k) (Ev.of_ite_neg (by omega) (Ev.const ?_))
    rw [List.drop_of_length_le (by omega)]
    rfl
  | succ d ih =>
    intro i n out hd hi h0 h1 hb
    have hlt : i < l.length := by omega
    have hs : (rdT l i).size ≤ 9223372036854775807 := by rw [rdT_at hlt]; exact hr _ (List.getElem_mem hlt)
    rw [drop_rdT hlt] at hb ⊢
    have hb2 : out.size + ((rdT l i).size + 24 + room (l.drop (i + 1))) ≤ 4611686018427387904 := by simpa only [room, List.map_cons, List.sum_cons] using hb
    have hc := chkL_range (rdT l i).data.toList n h0 h1
    have hc1 : 0 ≤ chk n (rdT l i) := hc.1
    have hc2 : chk n (rdT l i) ≤ 65520 := hc.2
    have h3 := dec_size (chk n (rdT l i)) (by omega) (by omega)
    refine Ev.step (fun k => spec_l11Journal.l0.eq_2 l out n _ k) (Ev.of_ite_pos (by omega) (Ev.of_ite_pos (by omega) ?_))
    rw [rdT_eq]
    refine Ev.bind (specCheck_ev _ hs n h0 h1) (Ev.bind (specDec_ev _ (by omega) (by omega)) ?_)
    refine Ev.of_ite_pos (by omega) (Ev.of_ite_pos ?_ (Ev.of_ite_pos ?_ (Ev.of_ite_pos ?_ ?_)))
    · rw [ByteArray.size_append, bsz1_]; omega
    · rw [ByteArray.size_append, ByteArray.size_append, bsz1_]; omega
    · rw [ByteArray.size_append, ByteArray.size_append, ByteArray.size_append, bsz1_, bsz1_]; omega
    · rw [wrap_succ hlt hl]
      refine ih (i + 1) _ _ (by omega) (by omega) hc1 hc2 ?_
      rw [ByteArray.size_append, jline_size]
      omega
def jres (J : ByteArray) (c : Prop) [Decidable c] : ByteArray × Bool := if c then (J, true) else (⟨#[]⟩, false)
theorem bad_drop (s : ByteArray) : badT s = (s.data.toList.contains 10) := (Lib.contains_iff_indexByte _ _).symm
theorem specJ_l1 (l : List ByteArray) (hl : l.length ≤ 9223372036854775807) (i : Nat) (hi : i < l.length) (hs : (rdT l i).size ≤ 9223372036854775807) (t : Int) (R : ByteArray × Bool) (hR : Ev (fun k => spec_JournalOf.l0 k l t ((i + 1 : Nat) : Int)) R) (d : Nat) :
    ∀ j : Nat, (rdT l i).size - j = d → j ≤ (rdT l i).size → Ev (fun k => spec_JournalOf.l1 k l t (i : Int) (j : Int)) (if ((rdT l i).data.toList.drop j).contains 10 then (⟨#[]⟩, false) else R) := by
  induction d with
  | zero =>
    intro j hd hj
    refine Ev.step (fun k => spec_JournalOf.l1.eq_2 l t _ _ k) (Ev.of_ite_pos (by omega) (Ev.of_ite_pos (by omega) ?_))
    rw [rdT_eq, List.drop_of_length_le (by show (rdT l i).size ≤ j; omega), wrap_succ hi hl]
    exact Ev.of_ite_neg (by omega) hR
  | succ d ih =>
    intro j hd hj
    have hlt : j < (rdT l i).size := by omega
    obtain ⟨b, hb, hbt⟩ := bt_drop hlt
    refine Ev.step (fun k => spec_JournalOf.l1.eq_2 l t _ _ k) (Ev.of_ite_pos (by omega) (Ev.of_ite_pos (by omega) ?_))
    rw [rdT_eq]
    refine Ev.of_ite_pos (by omega) (Ev.of_ite_pos (by omega) ?_)
    rw [hb, hbt]
    by_cases c : b = 10
    · subst c
      refine Ev.of_ite_pos (by rfl) (Ev.const ?_)
      rw [if_pos (by simp)]
    · refine Ev.of_ite_neg (fun e => c ?_) ?_
      · have : b.toNat = (10 : UInt8).toNat := by have h2 : (10 : UInt8).toNat = 10 := rfl; omega
        exact UInt8.toNat_inj.mp this
      · rw [wrap_succ hlt hs]
        have hcn : (b :: (rdT l i).data.toList.drop (j + 1)).contains 10 = ((rdT l i).data.toList.drop (j + 1)).contains 10 := by
          rw [List.contains_cons]
          have : ((10 : UInt8) == b) = false := by simpa using fun e : (10 : UInt8) = b => c e.symm
          rw [this, Bool.false_or]
        rw [hcn]
        exact ih (j + 1) (by omega) (by omega)
theorem specJ_l0 (l : List ByteArray) (hl : l.length ≤ 1048576) (hr : ∀ s ∈ l, s.size ≤ 9223372036854775807) (hroom : room l ≤ 1000000000) (d : Nat) :
    ∀ (i : Nat) (t : Nat), l.length - i = d → i ≤ l.length → t ≤ 4000 →
      Ev (fun k => spec_JournalOf.l0 k l (t : Int) (i : Int)) (jres (jtext l 0 ⟨#[]⟩) (((l.drop i).all fun s => !badT s) = true ∧ t + three (l.drop i) ≤ 4000 ∧ (jtext l 0 ⟨#[]⟩).size ≤ 4000)) := by
  induction d with
  | zero =>
    intro i t hd hi ht
    refine Ev.step (fun k => spec_JournalOf.l0.eq_2 l t _ k) (Ev.of_ite_neg (by omega) (Ev.bind (specJ_text l (by omega) hr l.length 0 0 ⟨#[]⟩ (by omega) (by omega) (by omega) (by omega) ?_) ?_))
    · rw [List.drop_zero]
      show 0 + room l ≤ _
      omega
    · rw [List.drop_of_length_le (by omega : l.length ≤ i), List.drop_zero]
      unfold jres
      by_cases c : (jtext l 0 ⟨#[]⟩).size ≤ 4000
      · exact ev_to (Ev.of_ite_neg (by omega) (Ev.const rfl)) (if_pos ⟨rfl, by simpa [three] using ht, c⟩).symm
      · exact ev_to (Ev.of_ite_pos (by omega) (Ev.const rfl)) (if_neg (fun e => c e.2.2)).symm
  | succ d ih =>
    intro i t hd hi ht
    have hlt : i < l.length := by omega
    have hs : (rdT l i).size ≤ 9223372036854775807 := by rw [rdT_at hlt]; exact hr _ (List.getElem_mem hlt)
    have hsr : (rdT l i).size ≤ 1000000000 := by
      have h1 : room (l.drop i) ≤ room l := by
        have := List.take_append_drop i l
        have h2 : room l = room (l.take i) + room (l.drop i) := by
          conv => lhs; rw [← this]
          simp only [room, List.map_append, List.sum_append]
        omega
      rw [drop_rdT hlt] at h1
      simp only [room, List.map_cons, List.sum_cons] at h1 hroom
      omega
    refine Ev.step (fun k => spec_JournalOf.l0.eq_2 l t _ k) (Ev.of_ite_pos (by omega) (Ev.of_ite_pos (by omega) ?_))
    rw [rdT_eq, wrapI (x := ((rdT l i).size : Int) + 3) (by omega) (by omega), wrapI (by omega) (by omega)]
    rw [drop_rdT hlt]
    have hth : three (rdT l i :: l.drop (i + 1)) = (rdT l i).size + 3 + three (l.drop (i + 1)) := by simp only [three, List.map_cons, List.sum_cons]
    rw [hth]
    by_cases c : (t : Int) + (((rdT l i).size : Int) + 3) > 4000
    · refine Ev.of_ite_pos c (Ev.const ?_)
      unfold jres
      rw [if_neg (fun e => by have := e.2.1; omega)]
    · refine Ev.of_ite_neg c ?_
      have h1 := ih (i + 1) (t + ((rdT l i).size + 3)) (by omega) (by omega) (by omega)
      have h2 := specJ_l1 l (by omega) i hlt hs _ _ h1 (rdT l i).size 0 (by omega) (by omega)
      have e1 : ((t + ((rdT l i).size + 3) : Nat) : Int) = (t : Int) + (((rdT l i).size : Int) + 3) := by omega
      rw [e1] at h2
      refine ev_to h2 ?_
      rw [List.drop_zero, ← bad_drop]
      unfold jres
      cases hb : badT (rdT l i)
      · simp only [Bool.false_eq_true, if_false, List.all_cons, hb, Bool.not_false, Bool.true_and]
        have : (t + ((rdT l i).size + 3) + three (l.drop (i + 1)) ≤ 4000) = (t + ((rdT l i).size + 3 + three (l.drop (i + 1))) ≤ 4000) := by rw [Nat.add_assoc]
        simp only [this]
      · rw [if_pos rfl, if_neg (fun e => by simp [hb] at e)]
theorem implJ_l0 (l : List ByteArray) (hl : l.length ≤ 1048576) (hr : ∀ s ∈ l, s.size ≤ 9223372036854775807) (d : Nat) :
    ∀ (j : Nat) (n : Int) (out : ByteArray), l.length - j = d → j ≤ l.length → 0 ≤ n → n ≤ 65520 → out.size ≤ 4000 → out.size + room (l.drop j) ≤ 1000004000 →
      Ev (fun k => impl_JournalOf.l0 k l out n j) (jres (jtext (l.drop j) n out) (((l.drop j).all fun s => !badT s) = true ∧ (jtext (l.drop j) n out).size ≤ 4000)) := by
  induction d with
  | zero =>
    intro j n out hd hj h0 h1 ho hb
    refine Ev.step (fun k => impl_JournalOf.l0.eq_2 l out n j k) (Ev.of_ite_neg (by omega) (Ev.const ?_))
    rw [List.drop_of_length_le (by omega : l.length ≤ j)]
    unfold jres
    rw [if_pos ⟨rfl, ho⟩]
    rfl
  | succ d ih =>
    intro j n out hd hj h0 h1 ho hb
    have hlt : j < l.length := by omega
    have hs : (rdT l j).size ≤ 9223372036854775807 := by rw [rdT_at hlt]; exact hr _ (List.getElem_mem hlt)
    rw [drop_rdT hlt] at hb ⊢
    have hb2 : out.size + ((rdT l j).size + 24 + room (l.drop (j + 1))) ≤ 1000004000 := by simpa only [room, List.map_cons, List.sum_cons] using hb
    have hc := chkL_range (rdT l j).data.toList n h0 h1
    have hc1 : 0 ≤ chk n (rdT l j) := hc.1
    have hc2 : chk n (rdT l j) ≤ 65520 := hc.2
    have h3 := dec_size (chk n (rdT l j)) (by omega) (by omega)
    have hjs := jline_size (dec (chk n (rdT l j))) (rdT l j)
    refine Ev.step (fun k => impl_JournalOf.l0.eq_2 l out n j k) (Ev.of_ite_pos hlt ?_)
    rw [rdT_eq]
    refine Ev.bind (implCheck_ev _ hs n h0 h1) (Ev.bindc (implDec_val (by omega) (by omega)) (Ev.of_ite_pos (by omega) ?_))
    show Ev _ (jres (jtext (l.drop (j + 1)) (chk n (rdT l j)) (out ++ jline (dec (chk n (rdT l j))) (rdT l j))) ((((rdT l j) :: l.drop (j + 1)).all fun s => !badT s) = true ∧ (jtext (l.drop (j + 1)) (chk n (rdT l j)) (out ++ jline (dec (chk n (rdT l j))) (rdT l j))).size ≤ 4000))
    by_cases c : 0 ≤ Lib.indexByte (rdT l j).data.toList 10
    · refine Ev.of_ite_pos c (Ev.const ?_)
      have hbad : badT (rdT l j) = true := decide_eq_true c
      unfold jres
      rw [if_neg (fun e => by simp [hbad] at e)]
      rfl
    · refine Ev.of_ite_neg c ?_
      have hbad : badT (rdT l j) = false := decide_eq_false c
      by_cases c4 : 4000 < (out.size : Int) + ((jline (dec (chk n (rdT l j))) (rdT l j)).size : Int)
      · refine Ev.of_ite_pos c4 (Ev.const ?_)
        have hge := jtext_size (l.drop (j + 1)) (chk n (rdT l j)) (out ++ jline (dec (chk n (rdT l j))) (rdT l j)) hc1 hc2
        rw [ByteArray.size_append] at hge
        unfold jres
        rw [if_neg (fun e => by have := e.2; omega)]
        rfl
      · refine Ev.of_ite_neg c4 ?_
        have h1 := ih (j + 1) (chk n (rdT l j)) (out ++ jline (dec (chk n (rdT l j))) (rdT l j)) (by omega) (by omega) hc1 hc2 (by rw [ByteArray.size_append]; omega) (by rw [ByteArray.size_append]; omega)
        refine ev_to h1 ?_
        unfold jres
        simp only [List.all_cons, hbad, Bool.not_false, Bool.true_and]
/-- What both answer. -/
def jans (l : List ByteArray) : ByteArray × Bool := jres (jtext l 0 ⟨#[]⟩) ((l.all fun s => !badT s) = true ∧ (jtext l 0 ⟨#[]⟩).size ≤ 4000)
theorem specJ_ev (l : List ByteArray) (hl : l.length ≤ 1048576) (hr : ∀ s ∈ l, s.size ≤ 9223372036854775807) (hz : sizesT l ≤ 1048576) : Ev (fun k => spec_JournalOf.f k l) (jans l) := by
  have hroom := room_le l
  refine ev_to (specJ_l0 l hl hr (by omega) l.length 0 0 (by omega) (by omega) (by omega)) ?_
  rw [List.drop_zero]
  unfold jans jres
  have hge := jtext_size l 0 ⟨#[]⟩ (by omega) (by omega)
  by_cases c : (l.all fun s => !badT s) = true ∧ (jtext l 0 ⟨#[]⟩).size ≤ 4000
  · rw [if_pos c, if_pos ⟨c.1, by have := c.2; have h0 : (⟨#[]⟩ : ByteArray).size = 0 := rfl; omega, c.2⟩]
  · rw [if_neg c, if_neg (fun e => c ⟨e.1, e.2.2⟩)]
theorem implJ_ev (l : List ByteArray) (hl : l.length ≤ 1048576) (hr : ∀ s ∈ l, s.size ≤ 9223372036854775807) (hz : sizesT l ≤ 1048576) : Ev (fun k => impl_JournalOf.f k l) (jans l) := by
  have hroom := room_le l
  have := implJ_l0 l hl hr l.length 0 0 ByteArray.empty (by omega) (by omega) (by omega) (by omega) (by show 0 ≤ 4000; omega) (by rw [List.drop_zero]; show 0 + room l ≤ _; omega)
  rw [List.drop_zero] at this
  exact this
end Go.Proofs.YtphphmaljndpfaaDoor.P
namespace Go.Proofs.YtphphmaljndpfaaDoor.Pure
open Go.RowKit Go.Proofs.YtphphmaljndpfaaDoor.P Go.Proofs.YtphphmaljndpfaaDoorW.PrintWords Go.Proofs.YtphphmaljndpfaaDoorW.PrintLast
theorem FnExactJournalOf (l : List ByteArray) (hh : l.length ≤ maxLen ∧ ∀ y0 ∈ l, y0.size ≤ maxLen) : ∃ k, laws_FnExactJournalOf.f k l = some true := by
  have hl : l.length ≤ 9223372036854775807 := hh.1
  have hr : ∀ s ∈ l, s.size ≤ 9223372036854775807 := hh.2
  refine Ev.rounds (show Ev (fun k => laws_FnExactJournalOf.f k l) true from ?_)
  obtain ⟨v, hv, hv2⟩ := szStringS_ev l hl hr
  unfold laws_FnExactJournalOf.f
  refine Ev.bind hv ?_
  by_cases c : v < 0
  · exact Ev.of_ite_pos c (Ev.const rfl)
  · obtain ⟨hz, hn⟩ := hv2.resolve_left c
    have ht := toStringS_ev l (by omega)
    refine Ev.of_ite_neg c (Ev.bind ht (Ev.bind (specJ_ev l hn hr hz) (Ev.bind ht (Ev.bind (implJ_ev l hn hr hz) (Ev.of_ite_pos rfl ?_)))))
    have hb : ((jans l).2 != (jans l).2) = false := by simp
    rw [hb]
    exact Ev.step (fun k => laws_FnExactJournalOf.j0.eq_2 l l false k) (Ev.of_ite_neg (by simp) (Ev.bind ht (Ev.bind (eqStringS_self l hl) (Ev.of_ite_pos rfl (Ev.const rfl)))))
end Go.Proofs.YtphphmaljndpfaaDoor.Pure
