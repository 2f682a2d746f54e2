/- Marks: each element of what was handed out gets a number of its own, and they are found again. Plain Lean. -/
import Derived.Test.YtamjcfdjcagjmaaPx8
import Derived.Test.YtamjcfdjcagjmaaPE
namespace Go.Proofs.Ytamjcfdjcagjmaa.P
open Go.RowKit Go.Proofs.YtamjcfdjcagjmaaW.PrintWords Go.Proofs.YtamjcfdjcagjmaaW.PrintLast Go.Proofs.YtamjcfdjcagjmaaW.PrintMore
set_option linter.unusedVariables false
set_option linter.unusedSimpArgs false

/-- Numbers from k on. -/
def runI (k : Int) (n : Nat) : List Int := (List.range n).map fun j : Nat => k + (j : Int)
theorem runI_len (k : Int) (n : Nat) : (runI k n).length = n := by simp [runI]
theorem runI_rd (k : Int) (n j : Nat) (h : j < n) : rd (runI k n) (j : Int) = k + (j : Int) := by
  rw [rd_mem (by rw [runI_len]; exact h)]
  simp [runI]
theorem mark_loop (l : List Int) (n : Nat) (a : Int) (hn : n ≤ 1000000000000) (ha : 0 ≤ a) (ha2 : a ≤ 1000000000000000) (d : Nat) : ∀ (i : Nat) (x : List Int), n - i = d → i ≤ n → x.length = n → x.take i = (runI a n).take i → Ev (fun k => laws_markInt64S.l0 k x (a + (i : Int)) (i : Int)) (a + (n : Int), runI a n) := by
  induction d with
  | zero =>
    intro i x hd hi hx ht
    obtain rfl : i = n := by omega
    have hri := runI_len a i
    refine Ev.step (fun q => laws_markInt64S.l0.eq_2 x _ i q) (Ev.of_ite_neg (by omega) (Ev.const ?_))
    rw [List.take_of_length_le (by omega), List.take_of_length_le (by omega)] at ht
    rw [ht]
  | succ d ih =>
    intro i x hd hi hx ht
    have hlt : i < n := by omega
    have hri := runI_len a n
    refine Ev.step (fun q => laws_markInt64S.l0.eq_2 x _ i q) (Ev.of_ite_pos (by omega) (Ev.of_ite_pos (by omega) ?_))
    have hw : wrap64 (a + (i : Int) + 1) = a + ((i + 1 : Nat) : Int) := by rw [wrapI (by omega) (by omega)]; omega
    rw [hw, wrap_succ hlt (by omega), Int.toNat_natCast]
    refine ih (i + 1) _ (by omega) (by omega) (by simpa using hx) ?_
    rw [take_set_succ _ _ _ (by omega), List.take_succ_eq_append_getElem (show i < (runI a n).length by omega), ht]
    congr 1
    simp [runI]
theorem mark_ev (l : List Int) (a : Int) (hn : l.length ≤ 1000000000000) (ha : 0 ≤ a) (ha2 : a ≤ 1000000000000000) : Ev (fun k => laws_markInt64S.f k l a) (a + (l.length : Int), runI a l.length) := by
  have := mark_loop l l.length a hn ha ha2 l.length 0 l (by omega) (by omega) rfl (by simp)
  have e : a + ((0 : Nat) : Int) = a := by simp
  rw [e] at this
  exact this
theorem held_loop (n : Nat) (a : Int) (hn : n ≤ 1000000000000) (ha : 0 ≤ a) (ha2 : a ≤ 1000000000000000) (d : Nat) : ∀ i : Nat, n - i = d → i ≤ n → Ev (fun k => laws_heldInt64S.l0 k (runI a n) (a + (i : Int)) (i : Int)) (a + (n : Int)) := by
  have hri := runI_len a n
  induction d with
  | zero =>
    intro i hd hi
    obtain rfl : i = n := by omega
    exact Ev.step (fun q => laws_heldInt64S.l0.eq_2 _ _ i q) (Ev.of_ite_neg (by omega) (Ev.now _))
  | succ d ih =>
    intro i hd hi
    have hlt : i < n := by omega
    refine Ev.step (fun q => laws_heldInt64S.l0.eq_2 _ _ i q) (Ev.of_ite_pos (by omega) (Ev.of_ite_pos (by omega) (Ev.of_ite_pos (runI_rd a n i hlt) ?_)))
    have hw : wrap64 (a + (i : Int) + 1) = a + ((i + 1 : Nat) : Int) := by rw [wrapI (by omega) (by omega)]; omega
    rw [hw, wrap_succ hlt (by omega)]
    exact ih (i + 1) (by omega) (by omega)
theorem held_ev (n : Nat) (a : Int) (hn : n ≤ 1000000000000) (ha : 0 ≤ a) (ha2 : a ≤ 1000000000000000) : Ev (fun k => laws_heldInt64S.f k (runI a n) a) (a + (n : Int)) := by
  have := held_loop n a hn ha ha2 n 0 (by omega) (by omega)
  have e : a + ((0 : Nat) : Int) = a := by simp
  rw [e] at this
  exact this
/-! ### rows -/
/-- Where row i's numbers begin. -/
def markAt (l : List (List Int)) (a : Int) (i : Nat) : Int := a + ((l.take i).flatten.length : Int)
def markR (l : List (List Int)) (a : Int) : List (List Int) := (List.range l.length).map fun i => runI (markAt l a i) (rdR l i).length
theorem markAt_succ (l : List (List Int)) (a : Int) (i : Nat) (h : i < l.length) : markAt l a (i + 1) = markAt l a i + ((rdR l i).length : Int) := by
  unfold markAt
  rw [List.take_succ_eq_append_getElem h, List.flatten_append, List.length_append, rdR_at h]
  simp
  omega
theorem markAt_le (l : List (List Int)) (a : Int) (m : Nat) (h : ∀ j, j < l.length → (rdR l j).length ≤ m) (i : Nat) (hi : i ≤ l.length) : a ≤ markAt l a i ∧ markAt l a i ≤ a + (i : Int) * (m : Int) := by
  induction i with
  | zero => simp [markAt]
  | succ i ih =>
    have h1 := ih (by omega)
    rw [markAt_succ _ _ _ (by omega)]
    have h2 := h i (by omega)
    have e : ((i + 1 : Nat) : Int) * (m : Int) = (i : Int) * (m : Int) + (m : Int) := by rw [Int.natCast_add, Int.add_mul]; simp
    rw [e]
    generalize (i : Int) * (m : Int) = z at *
    omega
theorem markR_len (l : List (List Int)) (a : Int) : (markR l a).length = l.length := by simp [markR]
theorem markR_row (l : List (List Int)) (a : Int) (i : Nat) (h : i < l.length) : rdR (markR l a) i = runI (markAt l a i) (rdR l i).length := by
  rw [rdR_at (by rw [markR_len]; exact h)]
  simp [markR]
theorem marks_loop (l : List (List Int)) (a : Int) (hl : l.length ≤ 1048576) (hr : ∀ j, j < l.length → (rdR l j).length ≤ 1048576) (ha : 0 ≤ a) (ha2 : a ≤ 2000000000000) (d : Nat) :
    ∀ (i : Nat) (x : List (List Int)), l.length - i = d → i ≤ l.length → x.length = l.length → x.take i = (markR l a).take i → x.drop i = l.drop i → Ev (fun k => laws_markInt64SS.l0 k x (markAt l a i) (i : Int)) (markAt l a l.length, markR l a) := by
  have hml := markR_len l a
  have hle := fun i hi => markAt_le l a 1048576 hr i hi
  induction d with
  | zero =>
    intro i x hd hi hx ht _
    obtain rfl : i = l.length := by omega
    refine Ev.step (fun q => laws_markInt64SS.l0.eq_2 x _ _ q) (Ev.of_ite_neg (by omega) (Ev.const ?_))
    rw [List.take_of_length_le (by omega), List.take_of_length_le (by omega)] at ht
    rw [ht]
  | succ d ih =>
    intro i x hd hi hx ht hdr
    have hlt : i < l.length := by omega
    have hrow : rdR x i = rdR l i := by
      rw [rdR_at (by omega), rdR_at hlt]
      have e1 : x[i]? = l[i]? := by
        have := congrArg (fun z => z[0]?) hdr
        simpa using this
      rw [List.getElem?_eq_getElem (by omega), List.getElem?_eq_getElem hlt] at e1
      exact Option.some.inj e1
    obtain ⟨b0, b1⟩ := hle i (by omega)
    have b2 : (i : Int) * ((1048576 : Nat) : Int) ≤ 1048576 * 1048576 := Int.mul_le_mul (by omega) (by omega) (by omega) (by omega)
    have hri := hr i hlt
    refine Ev.step (fun q => laws_markInt64SS.l0.eq_2 x _ _ q) (Ev.of_ite_pos (by omega) (Ev.of_ite_pos (by omega) ?_))
    rw [rdL2, hrow]
    refine Ev.bind (mark_ev (rdR l i) (markAt l a i) (by omega) (by omega) (by generalize (i : Int) * ((1048576 : Nat) : Int) = z at *; omega)) ?_
    dsimp only
    rw [← markAt_succ _ _ _ hlt, wrap_succ hlt (by omega), Int.toNat_natCast]
    refine ih (i + 1) _ (by omega) (by omega) (by simpa using hx) ?_ ?_
    · rw [take_set_succ _ _ _ (by omega), List.take_succ_eq_append_getElem (show i < (markR l a).length by omega), ht]
      congr 1
      rw [← markR_row l a i hlt, rdR_at (by omega)]
    · rw [List.drop_set_of_lt (by omega)]
      have := congrArg (List.drop 1) hdr
      simpa [List.drop_drop, Nat.add_comm] using this
theorem marks_ev (l : List (List Int)) (a : Int) (hl : l.length ≤ 1048576) (hr : ∀ j, j < l.length → (rdR l j).length ≤ 1048576) (ha : 0 ≤ a) (ha2 : a ≤ 2000000000000) : Ev (fun k => laws_markInt64SS.f k l a) (markAt l a l.length, markR l a) := by
  have := marks_loop l a hl hr ha ha2 l.length 0 l (by omega) (by omega) rfl (by simp) rfl
  have e : markAt l a 0 = a := by simp [markAt]
  rw [e] at this
  exact this
theorem helds_loop (l : List (List Int)) (a : Int) (hl : l.length ≤ 1048576) (hr : ∀ j, j < l.length → (rdR l j).length ≤ 1048576) (ha : 0 ≤ a) (ha2 : a ≤ 2000000000000) (d : Nat) :
    ∀ i : Nat, l.length - i = d → i ≤ l.length → Ev (fun k => laws_heldInt64SS.l0 k (markR l a) (markAt l a i) (i : Int)) (markAt l a l.length) := by
  have hml := markR_len l a
  have hle := fun i hi => markAt_le l a 1048576 hr i hi
  induction d with
  | zero =>
    intro i hd hi
    obtain rfl : i = l.length := by omega
    exact Ev.step (fun q => laws_heldInt64SS.l0.eq_2 _ _ _ q) (Ev.of_ite_neg (by omega) (Ev.now _))
  | succ d ih =>
    intro i hd hi
    have hlt : i < l.length := by omega
    obtain ⟨b0, b1⟩ := hle i (by omega)
    obtain ⟨b3, _⟩ := hle (i + 1) (by omega)
    have b2 : (i : Int) * ((1048576 : Nat) : Int) ≤ 1048576 * 1048576 := Int.mul_le_mul (by omega) (by omega) (by omega) (by omega)
    have hri := hr i hlt
    refine Ev.step (fun q => laws_heldInt64SS.l0.eq_2 _ _ _ q) (Ev.of_ite_pos (by omega) (Ev.of_ite_pos (by omega) ?_))
    rw [rdL2, markR_row l a i hlt]
    refine Ev.bind (held_ev (rdR l i).length (markAt l a i) (by omega) (by omega) (by generalize (i : Int) * ((1048576 : Nat) : Int) = z at *; omega)) ?_
    rw [← markAt_succ _ _ _ hlt, wrap_succ hlt (by omega)]
    exact Ev.of_ite_neg (by omega) (ih (i + 1) (by omega) (by omega))
theorem helds_ev (l : List (List Int)) (a : Int) (hl : l.length ≤ 1048576) (hr : ∀ j, j < l.length → (rdR l j).length ≤ 1048576) (ha : 0 ≤ a) (ha2 : a ≤ 2000000000000) : Ev (fun k => laws_heldInt64SS.f k (markR l a) a) (markAt l a l.length) := by
  have := helds_loop l a hl hr ha ha2 l.length 0 (by omega) (by omega)
  have e : markAt l a 0 = a := by simp [markAt]
  rw [e] at this
  exact this
end Go.Proofs.Ytamjcfdjcagjmaa.P
