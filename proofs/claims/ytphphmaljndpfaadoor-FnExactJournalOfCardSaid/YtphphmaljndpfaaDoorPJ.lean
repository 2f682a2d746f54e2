/- Texts and rows of texts: what the laws' helpers compute; the decimal text of the reference is the numeral; the check number. Plain Lean. -/
import Derived.Test.YtphphmaljndpfaaDoorPx1
import Derived.Test.YtphphmaljndpfaaDoorPx2
import Derived.Test.YtphphmaljndpfaaDoorPE0
import Derived.Lib.ItoaLen
import Derived.Lib.IndexAny
namespace Go.Proofs.YtphphmaljndpfaaDoor.P
open Go.RowKit Go.Proofs.YtphphmaljndpfaaDoorW.PrintWords Go.Proofs.YtphphmaljndpfaaDoorW.PrintLast Go.Proofs.YtphphmaljndpfaaDoorW.PrintMore
set_option linter.unusedVariables false
set_option linter.unusedSimpArgs false
def rdT (l : List ByteArray) (i : Nat) : ByteArray := rdOf ByteArray.empty l (i : Nat)
theorem rdT_eq (l : List ByteArray) (i : Nat) : rdOf ByteArray.empty l (i : Int) = rdT l i := rfl
theorem rdT_at {l : List ByteArray} {i : Nat} (h : i < l.length) : rdT l i = l[i] := by
  unfold rdT rdOf
  rw [Int.toNat_natCast, List.getD_eq_getElem?_getD, List.getElem?_eq_getElem h]
  rfl
theorem drop_rdT {l : List ByteArray} {i : Nat} (h : i < l.length) : l.drop i = rdT l i :: l.drop (i + 1) := by
  rw [rdT_at h]
  exact List.drop_eq_getElem_cons h
/-! ### the laws' helpers -/
def sizesT (l : List ByteArray) : Nat := (l.map (·.size)).sum
theorem szStringS_loop (l : List ByteArray) (hl : l.length ≤ 9223372036854775807) (hr : ∀ s ∈ l, s.size ≤ 9223372036854775807) (d : Nat) : ∀ (i : Nat) (left : Int), l.length - i = d → i ≤ l.length → 0 ≤ left → left ≤ 1048576 →
    ∃ v, Ev (fun k => laws_szStringS.l0 k l left (i : Int)) v ∧ (v < 0 ∨ ((sizesT (l.drop i) : Int) ≤ left)) := by
  induction d with
  | zero =>
    intro i left hd hi h0 h1
    refine ⟨left, Ev.step (fun k => laws_szStringS.l0.eq_2 l left (i : Int) k) (Ev.of_ite_neg (by omega) (Ev.const rfl)), .inr ?_⟩
    rw [List.drop_of_length_le (by omega)]
    exact h0
  | succ d ih =>
    intro i left hd hi h0 h1
    have hlt : i < l.length := by omega
    have hs : (rdT l i).size ≤ 9223372036854775807 := by rw [rdT_at hlt]; exact hr _ (List.getElem_mem hlt)
    have hw : wrap64 (left - ((rdT l i).size : Int)) = left - ((rdT l i).size : Int) := wrapI (by omega) (by omega)
    by_cases hc : left - ((rdT l i).size : Int) < 0
    · refine ⟨-1, Ev.step (fun k => laws_szStringS.l0.eq_2 l left (i : Int) k) (Ev.of_ite_pos (by omega) (Ev.of_ite_pos (by omega) ?_)), .inl (by omega)⟩
      rw [rdT_eq, hw]
      exact Ev.of_ite_pos hc (Ev.const rfl)
    · obtain ⟨v, hv, hv2⟩ := ih (i + 1) (left - ((rdT l i).size : Int)) (by omega) (by omega) (by omega) (by omega)
      refine ⟨v, Ev.step (fun k => laws_szStringS.l0.eq_2 l left (i : Int) k) (Ev.of_ite_pos (by omega) (Ev.of_ite_pos (by omega) ?_)), ?_⟩
      · rw [rdT_eq, hw, wrap_succ hlt hl]
        exact Ev.of_ite_neg hc hv
      · rcases hv2 with hv2 | hv2
        · exact .inl hv2
        · refine .inr ?_
          rw [drop_rdT hlt]
          simp only [sizesT, List.map_cons, List.sum_cons] at hv2 ⊢
          omega
theorem szStringS_ev (l : List ByteArray) (hl : l.length ≤ 9223372036854775807) (hr : ∀ s ∈ l, s.size ≤ 9223372036854775807) :
    ∃ v, Ev (fun k => laws_szStringS.f k l 1048576) v ∧ (v < 0 ∨ (sizesT l ≤ 1048576 ∧ l.length ≤ 1048576)) := by
  unfold laws_szStringS.f
  have hw : wrap64 (1048576 - (l.length : Int)) = 1048576 - (l.length : Int) := wrapI (by omega) (by omega)
  rw [hw]
  by_cases hc : 1048576 - (l.length : Int) < 0
  · exact ⟨-1, Ev.of_ite_pos hc (Ev.const rfl), .inl (by omega)⟩
  · obtain ⟨v, hv, hv2⟩ := szStringS_loop l hl hr l.length 0 (1048576 - (l.length : Int)) (by omega) (by omega) (by omega) (by omega)
    refine ⟨v, Ev.of_ite_neg hc hv, ?_⟩
    rcases hv2 with hv2 | hv2
    · exact .inl hv2
    · rw [List.drop_zero] at hv2
      exact .inr ⟨by omega, by omega⟩
theorem toStringS_loop (l : List ByteArray) (hl : l.length ≤ 9223372036854775807) (d : Nat) : ∀ (i : Nat) (x3 : List ByteArray), l.length - i = d → i ≤ l.length → x3.length = l.length → x3.take i = l.take i → Ev (fun k => laws_toStringS.l0 k l x3 (i : Int)) l := by
  induction d with
  | zero =>
    intro i x3 hd hi hx ht
    have : i = l.length := by omega
    subst this
    refine Ev.step (fun k => laws_toStringS.l0.eq_2 l x3 _ k) (Ev.of_ite_neg (by omega) (Ev.const ?_))
    rw [← hx, List.take_length, hx, List.take_length] at ht
    rw [ht]
  | succ d ih =>
    intro i x3 hd hi hx ht
    have hlt : i < l.length := by omega
    refine Ev.step (fun k => laws_toStringS.l0.eq_2 l x3 _ k) (Ev.of_ite_pos (by omega) (Ev.of_ite_pos (by omega) (Ev.of_ite_pos (by omega) ?_)))
    rw [rdT_eq, wrap_succ hlt hl, Int.toNat_natCast]
    refine ih (i + 1) _ (by omega) (by omega) (by simpa using hx) ?_
    rw [take_set_succ _ _ _ (by omega), List.take_succ_eq_append_getElem hlt, ht, rdT_at hlt]
theorem toStringS_ev (l : List ByteArray) (hl : l.length ≤ 17592186044416) : Ev (fun k => laws_toStringS.f k l) l := by
  unfold laws_toStringS.f
  refine Ev.of_ite_pos (by omega) (Ev.of_ite_pos (by omega) ?_)
  exact toStringS_loop l (by omega) l.length 0 _ (by omega) (by omega) (by simp) (by simp)
theorem eqStringS_loop (l : List ByteArray) (hl : l.length ≤ 9223372036854775807) (d : Nat) : ∀ i : Nat, l.length - i = d → i ≤ l.length → Ev (fun k => laws_eqStringS.l0 k l l (i : Int)) true := by
  induction d with
  | zero =>
    intro i hd hi
    exact Ev.step (fun k => laws_eqStringS.l0.eq_2 l l _ k) (Ev.of_ite_neg (by omega) (Ev.const rfl))
  | succ d ih =>
    intro i hd hi
    have hlt : i < l.length := by omega
    refine Ev.step (fun k => laws_eqStringS.l0.eq_2 l l _ k) (Ev.of_ite_pos (by omega) (Ev.of_ite_pos (by omega) (Ev.of_ite_pos (by omega) (Ev.of_ite_pos rfl ?_))))
    rw [wrap_succ hlt hl]
    exact ih (i + 1) (by omega) (by omega)
theorem eqStringS_self (l : List ByteArray) (hl : l.length ≤ 9223372036854775807) : Ev (fun k => laws_eqStringS.f k l l) true :=
  Ev.of_ite_pos rfl (eqStringS_loop l hl l.length 0 (by omega) (by omega))
/-! ### the check number -/
def chk1 (n b : Int) : Int := Int.tmod (263 * n + b + 7) 65521
def chkL : Int → List UInt8 → Int
  | n, [] => n
  | n, b :: r => chkL (chk1 n b.toNat) r
def chk (n : Int) (s : ByteArray) : Int := chkL n s.data.toList
theorem chk1_range {n b : Int} (h0 : 0 ≤ n) (h1 : n ≤ 65520) (hb : 0 ≤ b) : 0 ≤ chk1 n b ∧ chk1 n b ≤ 65520 := by
  unfold chk1
  rw [Int.tmod_eq_emod_of_nonneg (by omega)]
  omega
theorem chkL_range (l : List UInt8) : ∀ n : Int, 0 ≤ n → n ≤ 65520 → 0 ≤ chkL n l ∧ chkL n l ≤ 65520 := by
  induction l with
  | nil => intro n h0 h1; exact ⟨h0, h1⟩
  | cons b r ih =>
    intro n h0 h1
    have := chk1_range h0 h1 (b := b.toNat) (by omega)
    exact ih _ this.1 this.2
theorem bt_drop {s : ByteArray} {i : Nat} (h : i < s.size) : ∃ b : UInt8, s.data.toList.drop i = b :: s.data.toList.drop (i + 1) ∧ bt s (i : Int) = b.toNat := by
  have h' : i < s.data.toList.length := by simpa using h
  refine ⟨s.data.toList[i], List.drop_eq_getElem_cons h', ?_⟩
  unfold bt
  rw [dif_pos (by simpa using h)]
  rfl
theorem chk_wrap {n b : Int} (h0 : 0 ≤ n) (h1 : n ≤ 65520) (hb : 0 ≤ b) (hb2 : b ≤ 255) : Int.tmod (wrap64 ((wrap64 ((wrap64 (263 * n)) + (wrap64 b))) + 7)) 65521 = chk1 n b := by
  rw [wrapI (x := b) (by omega) (by omega), wrapI (x := 263 * n) (by omega) (by omega), wrapI (x := 263 * n + b) (by omega) (by omega), wrapI (by omega) (by omega)]
  rfl
theorem specCheck_loop (s : ByteArray) (hs : s.size ≤ 9223372036854775807) (d : Nat) : ∀ (i : Nat) (n : Int), s.size - i = d → i ≤ s.size → 0 ≤ n → n ≤ 65520 → Ev (fun k => spec_l01Check.l0 k n s (i : Int)) (chkL n (s.data.toList.drop i)) := by
  induction d with
  | zero =>
    intro i n hd hi h0 h1
    refine Ev.step (fun k => spec_l01Check.l0.eq_2 n s _ k) (Ev.of_ite_neg (by omega) (Ev.const ?_))
    rw [List.drop_of_length_le (by show s.size ≤ i; omega)]
    rfl
  | succ d ih =>
    intro i n hd hi h0 h1
    have hlt : i < s.size := by omega
    obtain ⟨b, hb, hbt⟩ := bt_drop hlt
    have hr := bt_range s i
    refine Ev.step (fun k => spec_l01Check.l0.eq_2 n s _ k) (Ev.of_ite_pos (by omega) (Ev.of_ite_pos (by omega) ?_))
    have hc := chk1_range h0 h1 hr.1
    rw [chk_wrap h0 h1 hr.1 hr.2, wrap_succ hlt hs, hb]
    show Ev _ (chkL (chk1 n b.toNat) _)
    rw [← hbt]
    exact ih (i + 1) _ (by omega) (by omega) hc.1 hc.2
theorem specCheck_ev (s : ByteArray) (hs : s.size ≤ 9223372036854775807) (n : Int) (h0 : 0 ≤ n) (h1 : n ≤ 65520) : Ev (fun k => spec_l01Check.f k n s) (chk n s) :=
  specCheck_loop s hs s.size 0 n (by omega) (by omega) h0 h1
theorem implCheck_loop (s : ByteArray) (hs : s.size ≤ 9223372036854775807) (d : Nat) : ∀ (i : Nat) (n : Int), s.size - i = d → i ≤ s.size → 0 ≤ n → n ≤ 65520 → Ev (fun k => impl_checkOf.l0 k n s (s.size : Int) (i : Int)) (chkL n (s.data.toList.drop i)) := by
  induction d with
  | zero =>
    intro i n hd hi h0 h1
    refine Ev.step (fun k => impl_checkOf.l0.eq_2 n s _ _ k) (Ev.of_ite_neg (by omega) (Ev.const ?_))
    rw [List.drop_of_length_le (by show s.size ≤ i; omega)]
    rfl
  | succ d ih =>
    intro i n hd hi h0 h1
    have hlt : i < s.size := by omega
    obtain ⟨b, hb, hbt⟩ := bt_drop hlt
    have hr := bt_range s i
    refine Ev.step (fun k => impl_checkOf.l0.eq_2 n s _ _ k) (Ev.of_ite_pos (by omega) (Ev.of_ite_pos (by omega) (Ev.of_ite_pos (by omega) ?_)))
    have hc := chk1_range h0 h1 hr.1
    rw [chk_wrap h0 h1 hr.1 hr.2, wrap_succ hlt hs, hb]
    show Ev _ (chkL (chk1 n b.toNat) _)
    rw [← hbt]
    exact ih (i + 1) _ (by omega) (by omega) hc.1 hc.2
theorem implCheck_ev (s : ByteArray) (hs : s.size ≤ 9223372036854775807) (n : Int) (h0 : 0 ≤ n) (h1 : n ≤ 65520) : Ev (fun k => impl_checkOf.f k n s) (chk n s) :=
  implCheck_loop s hs s.size 0 n (by omega) (by omega) h0 h1
/-! ### the decimal text -/
def dec (n : Int) : ByteArray := ⟨(Lib.itoa n).toArray⟩
theorem implDec_val {n : Int} (h0 : -9223372036854775808 ≤ n) (h1 : n ≤ 9223372036854775807) : impl_Decimal.f n = some (dec n) := if_pos ⟨h0, h1⟩
end Go.Proofs.YtphphmaljndpfaaDoor.P
