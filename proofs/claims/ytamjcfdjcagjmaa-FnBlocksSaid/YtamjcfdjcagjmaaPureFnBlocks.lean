/- Blocks: the errors of all blocks add up to that of the picture, and blocks of one place have the errors of places, as FnBlocks says. Plain Lean; no condition. -/
import Derived.Test.YtamjcfdjcagjmaaPx16
import Derived.Test.YtamjcfdjcagjmaaPD
import Derived.Test.YtamjcfdjcagjmaaPR
namespace Go.Proofs.Ytamjcfdjcagjmaa.Pure
open Go.RowKit Go.Proofs.Ytamjcfdjcagjmaa.P Go.Proofs.YtamjcfdjcagjmaaW.PrintWords Go.Proofs.YtamjcfdjcagjmaaW.PrintLast
set_option linter.unusedVariables false
set_option linter.unusedSimpArgs false
/-! ### sums -/
def sumI : List Int → Int
  | [] => 0
  | x :: xs => x + sumI xs
def sum2 : List (List Int) → Int
  | [] => 0
  | x :: xs => sumI x + sum2 xs
theorem sumI_set (l : List Int) : ∀ (k : Nat) (v : Int), k < l.length → sumI (l.set k v) = sumI l - rd l (k : Nat) + v := by
  induction l with
  | nil => intro k v h; simp at h
  | cons x xs ih =>
    intro k v h
    cases k with
    | zero =>
      rw [List.set_cons_zero]
      simp only [sumI]
      have : rd (x :: xs) ((0 : Nat) : Int) = x := rfl
      rw [this]
      omega
    | succ k =>
      have h' : k < xs.length := by simpa using h
      rw [List.set_cons_succ]
      simp only [sumI]
      rw [ih k v h']
      have : rd (x :: xs) ((k + 1 : Nat) : Int) = rd xs (k : Nat) := by rw [rd_mem h, rd_mem h']; rfl
      rw [this]
      omega
theorem sum2_set (l : List (List Int)) : ∀ (k : Nat) (v : List Int), k < l.length → sum2 (l.set k v) = sum2 l - sumI (rdR l k) + sumI v := by
  induction l with
  | nil => intro k v h; simp at h
  | cons x xs ih =>
    intro k v h
    cases k with
    | zero =>
      rw [List.set_cons_zero]
      simp only [sum2]
      have : rdR (x :: xs) 0 = x := rfl
      rw [this]
      omega
    | succ k =>
      have h' : k < xs.length := by simpa using h
      rw [List.set_cons_succ]
      simp only [sum2]
      rw [ih k v h']
      have : rdR (x :: xs) (k + 1) = rdR xs k := by rw [rdR_mem h, rdR_mem h']; rfl
      rw [this]
      omega
theorem sumI_zero (n : Nat) : sumI (List.replicate n 0) = 0 := by
  induction n with
  | zero => rfl
  | succ n ih => rw [List.replicate_succ]; simp only [sumI, ih]; rfl
theorem sum2_zero (n m : Nat) : sum2 (List.replicate n (List.replicate m 0)) = 0 := by
  induction n with
  | zero => rfl
  | succ n ih => rw [List.replicate_succ]; simp only [sum2, ih, sumI_zero]; rfl
theorem wrap_wrap_add (a b : Int) : wrap64 (wrap64 a + b) = wrap64 (a + b) := by unfold wrap64; omega
theorem wrap_add_wrap (a b : Int) : wrap64 (a + wrap64 b) = wrap64 (a + b) := by unfold wrap64; omega
theorem wrap_zero : wrap64 0 = 0 := by unfold wrap64; omega
theorem wrapN {n : Nat} (h : n ≤ 9223372036854775807) : wrap64 (n : Int) = (n : Int) := wrapI (by omega) (by omega)
theorem wrap_idem (x : Int) : wrap64 (wrap64 x) = wrap64 x := by unfold wrap64; omega
theorem wrap_q (x : Int) : ∃ q, wrap64 x = x + 18446744073709551616 * q := ⟨-((x + 9223372036854775808) / 18446744073709551616), by unfold wrap64; omega⟩
theorem wrap_congr {a b q : Int} (h : a = b + 18446744073709551616 * q) : wrap64 a = wrap64 b := by unfold wrap64; omega
theorem sum_loop (l : List Int) (hl : l.length ≤ 9223372036854775807) (d : Nat) : ∀ (i : Nat) (acc : Int), l.length - i = d → i ≤ l.length → Ev (fun k => laws_b10Sum.l0 k l (wrap64 acc) (i : Int)) (wrap64 (acc + sumI (l.drop i))) := by
  induction d with
  | zero =>
    intro i acc hd hi
    refine Ev.step (f := fun _ => some (wrap64 acc)) (fun k => ?_) (Ev.const ?_)
    · simp only [laws_b10Sum.l0]
      rw [if_neg (by omega)]
    · rw [List.drop_eq_nil_of_le (by omega)]
      simp [sumI]
  | succ d ih =>
    intro i acc hd hi
    have hlt : i < l.length := by omega
    have e : l.drop i = rd l (i : Int) :: l.drop (i + 1) := by rw [List.drop_eq_getElem_cons hlt, rd_mem hlt]
    have := ih (i + 1) (acc + rd l (i : Int)) (by omega) (by omega)
    rw [e]
    simp only [sumI]
    rw [Int.add_assoc] at this
    refine Ev.step (fun k => ?_) this
    simp only [laws_b10Sum.l0]
    rw [if_pos (by omega), if_pos (by omega), wrap_wrap_add, wrap_succ hlt hl]
theorem sum_ev (l : List Int) (hl : l.length ≤ 9223372036854775807) : Ev (fun k => laws_b10Sum.f k l) (wrap64 (sumI l)) := by
  have := sum_loop l hl l.length 0 0 (by omega) (by omega)
  rw [wrap_zero, Int.zero_add, List.drop_zero] at this
  exact this
theorem all_loop (l : List (List Int)) (hl : l.length ≤ 9223372036854775807) (hr : ∀ j, j < l.length → (rdR l j).length ≤ 9223372036854775807) (d : Nat) : ∀ (i : Nat) (acc : Int), l.length - i = d → i ≤ l.length → Ev (fun k => laws_b10All.l0 k l (wrap64 acc) (i : Int)) (wrap64 (acc + sum2 (l.drop i))) := by
  induction d with
  | zero =>
    intro i acc hd hi
    refine Ev.step (f := fun _ => some (wrap64 acc)) (fun k => ?_) (Ev.const ?_)
    · simp only [laws_b10All.l0]
      rw [if_neg (by omega)]
    · rw [List.drop_eq_nil_of_le (by omega)]
      simp [sum2]
  | succ d ih =>
    intro i acc hd hi
    have hlt : i < l.length := by omega
    have e : l.drop i = rdR l i :: l.drop (i + 1) := by rw [List.drop_eq_getElem_cons hlt, rdR_at hlt]
    have := ih (i + 1) (acc + sumI (rdR l i)) (by omega) (by omega)
    rw [e]
    simp only [sum2]
    rw [Int.add_assoc] at this
    refine Ev.step (f := fun k => (laws_b10Sum.f k (rdR l i)).bind fun t => laws_b10All.l0 k l (wrap64 (wrap64 acc + t)) ((i + 1 : Nat) : Int)) (fun k => ?_) (Ev.bind (sum_ev _ (hr i hlt)) ?_)
    · simp only [laws_b10All.l0]
      rw [if_pos (by omega), if_pos (by omega), wrap_succ hlt hl]
      rfl
    · rw [wrap_add_wrap, wrap_wrap_add]
      exact this
theorem all_ev (l : List (List Int)) (hl : l.length ≤ 9223372036854775807) (hr : ∀ j, j < l.length → (rdR l j).length ≤ 9223372036854775807) : Ev (fun k => laws_b10All.f k l) (wrap64 (sum2 l)) := by
  have := all_loop l hl hr l.length 0 0 (by omega) (by omega)
  rw [wrap_zero, Int.zero_add, List.drop_zero] at this
  exact this
/-! ### blocks -/
def errV (P D : List (List Int)) (i k : Nat) : Int := wrap64 (rd (rdR P i) (k : Nat) - wrap64 (rd (rdR D i) (k : Nat) * 255))
def rowT (V : Nat → Nat → Int) (i : Nat) : Nat → Int
  | 0 => 0
  | k + 1 => rowT V i k + V i k
def allT (V : Nat → Nat → Int) (w : Nat) : Nat → Int
  | 0 => 0
  | i + 1 => allT V w i + rowT V i w
structure BInv (V : Nat → Nat → Int) (h w H W s : Nat) (out : List (List Int)) (i k : Nat) : Prop where
  len : out.length = H
  row : ∀ j, j < H → (rdR out j).length = W
  sum : ∃ q : Int, sum2 out = allT V w i + rowT V i k + 18446744073709551616 * q
  one : s = 1 → out = fillM h w V i k
theorem rdR_set (xs : List (List Int)) (a j : Nat) (row : List Int) (ha : a < xs.length) (hj : j < xs.length) : rdR (xs.set a row) j = if a = j then row else rdR xs j := by
  rw [rdR_mem (by simpa using hj), List.getElem_set, rdR_mem hj]
theorem binv_step {V : Nat → Nat → Int} {h w H W s : Nat} {out : List (List Int)} {i k : Nat} (hV : ∀ i k, wrap64 (V i k) = V i k) (I : BInv V h w H W s out i k) (hs : 1 ≤ s) (hi : i < h) (hk : k < w) (hH : i / s < H) (hW : k / s < W) :
    BInv V h w H W s (out.set (i / s) ((rdR out (i / s)).set (k / s) (wrap64 (rd (rdR out (i / s)) ((k / s : Nat)) + V i k)))) i (k + 1) := by
  have hr := I.row _ hH
  have hl := I.len
  constructor
  · rw [List.length_set]; exact hl
  · intro j hj
    rw [rdR_set _ _ _ _ (by omega) (by omega)]
    split
    · rw [List.length_set]; exact hr
    · exact I.row j hj
  · obtain ⟨q, hq⟩ := I.sum
    obtain ⟨q2, hq2⟩ := wrap_q (rd (rdR out (i / s)) ((k / s : Nat)) + V i k)
    refine ⟨q + q2, ?_⟩
    rw [sum2_set _ _ _ (by omega), sumI_set _ _ _ (by omega), hq, hq2]
    simp only [rowT]
    omega
  · intro e
    subst e
    have := I.one rfl
    rw [Nat.div_one, Nat.div_one, this, ← fillM_put _ _ _ _ _ hi hk]
    have e0 : rd (rdR (fillM h w V i k) i) ((k : Nat)) = 0 := by
      rw [fillM_row _ _ _ _ _ _ hi, rd_mem (by simpa using hk)]
      simp
    rw [e0, Int.zero_add, hV]
theorem binv_next {V : Nat → Nat → Int} {h w H W s : Nat} {out : List (List Int)} {i : Nat} (I : BInv V h w H W s out i w) : BInv V h w H W s out (i + 1) 0 := by
  refine ⟨I.len, I.row, ?_, fun e => by rw [← fillM_next]; exact I.one e⟩
  obtain ⟨q, hq⟩ := I.sum
  refine ⟨q, ?_⟩
  rw [hq]
  simp only [allT, rowT]
  omega
theorem binv_zero (V : Nat → Nat → Int) (h w H W s : Nat) (e : s = 1 → H = h ∧ W = w) : BInv V h w H W s (List.replicate H (List.replicate W 0)) 0 0 := by
  refine ⟨by simp, fun j hj => by rw [rdR_mem (by simpa using hj)]; simp, ⟨0, by rw [sum2_zero]; simp [allT, rowT]⟩, fun e1 => ?_⟩
  obtain ⟨rfl, rfl⟩ := e e1
  rw [fillM_zero]
theorem block_l1 (P D : List (List Int)) (h w s : Nat) (hPl : P.length = h) (hPr : ∀ j, j < h → (rdR P j).length = w) (hDl : D.length = h) (hDr : ∀ j, j < h → (rdR D j).length = w) (hs : 1 ≤ s) (hsh : s ∣ h) (hsw : s ∣ w) (hh : h ≤ 12) (hw : w ≤ 12)
    (i : Nat) (hi : i < h) (cont : ∀ out, BInv (errV P D) h w (h / s) (w / s) s out (i + 1) 0 → ∃ o, Ev (fun q => impl_BlockErrors.l0 q D s out P h ((i + 1 : Nat) : Int)) (o, true) ∧ BInv (errV P D) h w (h / s) (w / s) s o h 0) (d : Nat) :
    ∀ (k : Nat) (out : List (List Int)), w - k = d → k ≤ w → BInv (errV P D) h w (h / s) (w / s) s out i k → ∃ o, Ev (fun q => impl_BlockErrors.l1 q D s out i P h i (rdR P i) ((rdR P i).length : Int) (k : Int)) (o, true) ∧ BInv (errV P D) h w (h / s) (w / s) s o h 0 := by
  have hlen := hPr i hi
  have hVV : ∀ i k, wrap64 (errV P D i k) = errV P D i k := fun i k => wrap_idem _
  induction d with
  | zero =>
    intro k out hd hk I
    obtain rfl : k = w := by omega
    obtain ⟨o, ho, ho2⟩ := cont out (binv_next I)
    refine ⟨o, Ev.step (fun q => ?_) ho, ho2⟩
    simp only [impl_BlockErrors.l1]
    rw [if_neg (by omega), wrapI (by omega) (by omega)]
    rfl
  | succ d ih =>
    intro k out hd hk I
    have hlt : k < w := by omega
    have hH : i / s < h / s := Nat.div_lt_of_lt_mul (by rw [Nat.mul_div_cancel' hsh]; exact hi)
    have hW : k / s < w / s := Nat.div_lt_of_lt_mul (by rw [Nat.mul_div_cancel' hsw]; exact hlt)
    have hq1 : i / s ≤ i := Nat.div_le_self _ _
    have hq2 : k / s ≤ k := Nat.div_le_self _ _
    obtain ⟨o, ho, ho2⟩ := ih (k + 1) _ (by omega) (by omega) (binv_step hVV I hs hi hlt hH hW)
    refine ⟨o, Ev.step (fun q => ?_) ho, ho2⟩
    have ti : wrap64 (Int.tdiv (i : Int) (s : Int)) = ((i / s : Nat) : Int) := by rw [← Int.ofNat_tdiv]; exact wrapN (by omega)
    have tk : wrap64 (Int.tdiv (k : Int) (s : Int)) = ((k / s : Nat) : Int) := by rw [← Int.ofNat_tdiv]; exact wrapN (by omega)
    have hl := I.len
    have hr := I.row _ hH
    have hd2 := hDr i hi
    have c1 : ((k / s : Nat) : Int) < ((rd_L2 out ((i / s : Nat) : Int)).length : Int) := by rw [rdL2, hr]; exact Int.ofNat_lt.2 hW
    have c2 : (k : Int) < ((rd_L2 D (i : Int)).length : Int) := by rw [rdL2]; omega
    simp only [impl_BlockErrors.l1]
    rw [ti, tk]
    clear ti tk hVV
    generalize i / s = a at *
    generalize k / s = b at *
    rw [if_pos (by omega), if_pos (by omega), if_pos (by omega), if_neg (by omega), if_pos (by omega), if_pos (by omega), if_pos (by omega), if_pos c1, if_pos (by omega), if_pos (by omega), if_pos c2, wrapI (x := (k : Int) + 1) (by omega) (by omega)]
    rfl
theorem block_l0 (P D : List (List Int)) (h w s : Nat) (hPl : P.length = h) (hPr : ∀ j, j < h → (rdR P j).length = w) (hDl : D.length = h) (hDr : ∀ j, j < h → (rdR D j).length = w) (hs : 1 ≤ s) (hsh : s ∣ h) (hsw : s ∣ w) (hh : h ≤ 12) (hw : w ≤ 12) (d : Nat) :
    ∀ (i : Nat) (out : List (List Int)), h - i = d → i ≤ h → BInv (errV P D) h w (h / s) (w / s) s out i 0 → ∃ o, Ev (fun q => impl_BlockErrors.l0 q D s out P h (i : Int)) (o, true) ∧ BInv (errV P D) h w (h / s) (w / s) s o h 0 := by
  induction d with
  | zero =>
    intro i out hd hi I
    obtain rfl : i = h := by omega
    refine ⟨out, Ev.step (f := fun _ => some (out, true)) (fun q => ?_) (Ev.const rfl), I⟩
    simp only [impl_BlockErrors.l0]
    rw [if_neg (by omega)]
  | succ d ih =>
    intro i out hd hi I
    have hlt : i < h := by omega
    obtain ⟨o, ho, ho2⟩ := block_l1 P D h w s hPl hPr hDl hDr hs hsh hsw hh hw i hlt (fun out I => ih (i + 1) out (by omega) (by omega) I) w 0 out (by omega) (by omega) I
    refine ⟨o, Ev.step (fun q => ?_) ho, ho2⟩
    simp only [impl_BlockErrors.l0]
    rw [if_pos (by omega), if_pos (by omega), if_pos (by omega)]
    rfl
theorem block_ev (P D : List (List Int)) (h w s : Nat) (hP : picB P = true) (hPl : P.length = h) (hPw : (rdR P 0).length = w) (hD : impl_areRows.f D 1 = some true) (hDl : D.length = h) (hDr : ∀ j, j < h → (rdR D j).length = w) (hs : 1 ≤ s) (hsh : s ∣ h) (hsw : s ∣ w) :
    ∃ o, Ev (fun q => impl_BlockErrors.f q P D s) (o, true) ∧ BInv (errV P D) h w (h / s) (w / s) s o h 0 := by
  obtain ⟨⟨p1, p2, p3, p4⟩, p5⟩ := pic_rows hP
  have hPr : ∀ j, j < h → (rdR P j).length = w := fun j hj => by rw [(p5 j (by omega)).1, hPw]
  have hq1 : h / s ≤ h := Nat.div_le_self _ _
  have hq2 : w / s ≤ w := Nat.div_le_self _ _
  obtain ⟨o, ho, ho2⟩ := block_l0 P D h w s hPl hPr hDl hDr hs hsh hsw (by omega) (by omega) h 0 _ (by omega) (by omega) (binv_zero (errV P D) h w (h / s) (w / s) s (fun e => by subst e; simp))
  refine ⟨o, ?_, ho2⟩
  have hD0 := hDr 0 (by omega)
  have t1 : Int.tmod (h : Int) (s : Int) = 0 := by
    have : Int.tmod (h : Int) (s : Int) = ((h % s : Nat) : Int) := (Int.ofNat_tmod h s).symm
    rw [this, Nat.mod_eq_zero_of_dvd hsh]; rfl
  have t2 : Int.tmod (w : Int) (s : Int) = 0 := by
    have : Int.tmod (w : Int) (s : Int) = ((w % s : Nat) : Int) := (Int.ofNat_tmod w s).symm
    rw [this, Nat.mod_eq_zero_of_dvd hsw]; rfl
  have ti : wrap64 (Int.tdiv (h : Int) (s : Int)) = ((h / s : Nat) : Int) := by rw [← Int.ofNat_tdiv]; exact wrapN (by omega)
  have tk : wrap64 (Int.tdiv (w : Int) (s : Int)) = ((w / s : Nat) : Int) := by rw [← Int.ofNat_tdiv]; exact wrapN (by omega)
  generalize h / s = H at *
  generalize w / s = W at *
  have TI := Aside0.mk ti
  have TK := Aside0.mk tk
  have T1 := Aside0.mk t1
  have T2 := Aside0.mk t2
  clear ti tk t1 t2
  have hpv : impl_ValidPicture.f P = some true := (validPic_val P).trans (by rw [hP])
  unfold impl_BlockErrors.f
  refine Ev.bindc hpv (Ev.of_ite_pos rfl (Ev.bindc hD (Ev.of_ite_pos rfl (Ev.of_ite_pos (by omega) (Ev.of_ite_pos (by omega) (Ev.of_ite_pos (by omega) ?_))))))
  have r0 : ∀ X : List (List Int), rd_L2 X 0 = rdR X 0 := fun X => rfl
  have b0 : (((rd_L2 D 0).length : Int) != ((rd_L2 P 0).length : Int)) = false := by rw [r0, r0, hD0, hPw]; simp
  have s1 : impl_size_int64_51.f D = some (h : Int) := by unfold impl_size_int64_51.f; rw [hDl]
  have s2 : impl_size_int64_52.f (rd_L2 D 0) = some (w : Int) := by unfold impl_size_int64_52.f; rw [r0, hD0]
  rw [b0]
  refine Ev.step (fun q => impl_BlockErrors.j0.eq_2 D s false P q) (Ev.of_ite_neg (by simp) (Ev.of_ite_neg (by omega) (Ev.bindc s1 (Ev.of_ite_neg (by omega) (Ev.of_ite_pos T1.out (Ev.of_ite_pos (by omega) (Ev.bindc s2 ?_)))))))
  rw [T2.out]
  refine Ev.step (fun q => impl_BlockErrors.j1.eq_2 D s (0 != 0) P q) (Ev.of_ite_neg (by simp) (Ev.bindc s1 (Ev.of_ite_neg (by omega) (Ev.of_ite_pos (by omega) (Ev.bindc s2 ?_)))))
  rw [TI.out, TK.out]
  refine Ev.bind (noughts_ev H W (by omega) (by omega)) ?_
  rw [hPl]
  exact ho
theorem gcd_small : ∀ a ∈ List.range 13, ∀ b ∈ List.range 13, 1 ≤ a → 1 ≤ b → ∃ g ∈ List.range 13, laws_b10Gcd.f 20 a b = some (g : Int) ∧ 1 ≤ g ∧ a % g = 0 ∧ b % g = 0 := by decide +kernel
theorem gcd_ev (a b : Nat) (ha : 1 ≤ a) (hb : 1 ≤ b) (ha2 : a ≤ 12) (hb2 : b ≤ 12) : ∃ g : Nat, Ev (fun q => laws_b10Gcd.f q a b) (g : Int) ∧ 1 ≤ g ∧ g ∣ a ∧ g ∣ b := by
  obtain ⟨g, _, h1, h2, h3, h4⟩ := gcd_small a (List.mem_range.2 (by omega)) b (List.mem_range.2 (by omega)) ha hb
  exact ⟨g, Ev.of (fun k => laws_b10Gcd.mono _ _ k) h1, h2, Nat.dvd_of_mod_eq_zero h3, Nat.dvd_of_mod_eq_zero h4⟩
theorem dots_rows (P M : List (List Int)) (hP : picB P = true) : impl_areRows.f (fullM P.length (rdR P 0).length (ditV P M)) 1 = some true := by
  obtain ⟨⟨p1, p2, p3, p4⟩, p5⟩ := pic_rows hP
  unfold impl_areRows.f areRowsB
  have hl : (fullM P.length (rdR P 0).length (ditV P M)).length = P.length := by simp [fullM]
  have hr : ∀ j, j < P.length → (rdR (fullM P.length (rdR P 0).length (ditV P M)) j).length = (rdR P 0).length := fun j hj => by rw [fullM_row _ _ _ _ hj]; simp
  rw [hl, hr 0 (by omega)]
  congr 1
  simp only [Bool.and_eq_true, decide_eq_true_eq, List.all_eq_true]
  refine ⟨⟨⟨⟨p1, p2⟩, p3⟩, p4⟩, fun row hrow => ?_⟩
  unfold fullM at hrow
  obtain ⟨r, _, rfl⟩ := List.mem_map.1 hrow
  refine ⟨by simp, fun x hx => ?_⟩
  obtain ⟨c, _, rfl⟩ := List.mem_map.1 hx
  unfold ditV
  split <;> omega
theorem check_l1 (P D S G : List (List Int)) (h w : Nat) (hPl : P.length = h) (hPr : ∀ j, j < h → (rdR P j).length = w) (hDl : D.length = h) (hDr : ∀ j, j < h → (rdR D j).length = w) (hS : S = fullM h w (errV P D)) (hh : h ≤ 12) (hw : w ≤ 12)
    (i : Nat) (hi : i < h) (r : Bool) (cont : Ev (fun q => laws_FnBlocks.l0 q D S G ((i + 1 : Nat) : Int) P) r) (d : Nat) : ∀ k : Nat, w - k = d → k ≤ w → Ev (fun q => laws_FnBlocks.l1 q D S G (i : Int) (k : Int) P) r := by
  have hSl : S.length = h := by rw [hS]; simp [fullM]
  have hSr : rdR S i = (List.range w).map fun c => errV P D i c := by rw [hS, fullM_row _ _ _ _ hi]
  have hSrl : (rdR S i).length = w := by rw [hSr]; simp
  induction d with
  | zero =>
    intro k hd hk
    obtain rfl : k = w := by omega
    refine Ev.step (fun q => ?_) cont
    simp only [laws_FnBlocks.l1]
    rw [if_pos (by omega), if_pos (by omega), rdL2, if_neg (by omega), wrapI (by omega) (by omega)]
    rfl
  | succ d ih =>
    intro k hd hk
    have hlt : k < w := by omega
    have e : rd (rdR S i) (k : Int) = wrap64 (rd (rdR P i) (k : Int) - wrap64 (255 * rd (rdR D i) (k : Int))) := by
      have e1 : rd (rdR S i) (k : Int) = errV P D i k := by
        rw [rd_mem (by omega)]
        simp [hSr]
      rw [e1]
      unfold errV
      rw [Int.mul_comm 255]
    have hp := hPr i hi
    have hd2 := hDr i hi
    refine Ev.step (fun q => ?_) (ih (k + 1) (by omega) (by omega))
    simp only [laws_FnBlocks.l1]
    rw [if_pos (by omega), if_pos (by omega), rdL2, rdL2, rdL2, if_pos (by omega), if_pos (by omega), if_pos (by omega), if_pos (by omega), if_pos (by omega), if_pos (by omega), if_pos e, wrapI (by omega) (by omega)]
    rfl
theorem check_l0 (P D S G : List (List Int)) (h w : Nat) (hPl : P.length = h) (hPr : ∀ j, j < h → (rdR P j).length = w) (hDl : D.length = h) (hDr : ∀ j, j < h → (rdR D j).length = w) (hS : S = fullM h w (errV P D)) (hh : h ≤ 12) (hw : w ≤ 12)
    (hGl : G.length ≤ 12) (hGr : ∀ j, j < G.length → (rdR G j).length ≤ 12) (hsum : wrap64 (sum2 G) = wrap64 (sum2 S)) (d : Nat) : ∀ i : Nat, h - i = d → i ≤ h → Ev (fun q => laws_FnBlocks.l0 q D S G (i : Int) P) true := by
  have hSl : S.length = h := by rw [hS]; simp [fullM]
  have hSr : ∀ i, i < h → rdR S i = (List.range w).map fun c => errV P D i c := fun i hi => by rw [hS, fullM_row _ _ _ _ hi]
  have hSrl : ∀ i, i < h → (rdR S i).length = w := fun i hi => by rw [hSr i hi]; simp
  induction d with
  | zero =>
    intro i hd hi
    obtain rfl : i = h := by omega
    refine Ev.step (f := fun k => (laws_b10All.f k G).bind fun t563 => ((laws_b10All.f k S).bind fun t564 => (some (t563 == t564)))) (fun q => ?_) (Ev.bind (all_ev G (by omega) (fun j hj => by have := hGr j hj; omega)) (Ev.bind (all_ev S (by omega) (fun j hj => by have := hSrl j (by omega); omega)) (Ev.const ?_)))
    · simp only [laws_FnBlocks.l0]
      rw [if_neg (by omega)]
    · rw [hsum]; simp
  | succ d ih =>
    intro i hd hi
    have hlt : i < h := by omega
    have h1 := hSrl i hlt
    have h2 := hPr i hlt
    have h3 := hDr i hlt
    have b0 : (((rdR D i).length : Int) != ((rdR P i).length : Int)) = false := by rw [h3, h2]; simp
    refine Ev.step (f := fun q => laws_FnBlocks.j2 q D S G (i : Int) false P) (fun q => ?_) ?_
    · simp only [laws_FnBlocks.l0]
      rw [if_pos (by omega), if_pos (by omega), if_pos (by omega), rdL2, rdL2, rdL2, if_pos (by omega), if_pos (by omega), b0]
    · refine Ev.step (f := fun q => laws_FnBlocks.l1 q D S G (i : Int) ((0 : Nat) : Int) P) (fun q => ?_) (check_l1 P D S G h w hPl hPr hDl hDr hS hh hw i hlt true (ih (i + 1) (by omega) (by omega)) w 0 (by omega) (by omega))
      simp only [laws_FnBlocks.j2]
      rw [if_neg (by simp)]
      rfl
theorem blocks_case (P M : List (List Int)) (hP : picB P = true) (hM : mskB M = true) :
    Ev (fun k => (impl_MaskDither.f k P M).bind fun bt549 => ((impl_BlockErrors.f k P bt549.1 1).bind fun bt553 => (if 0 < (P.length : Int) then ((laws_b10Gcd.f k (P.length : Int) ((rd_L2 P 0).length : Int)).bind fun t558 => ((impl_BlockErrors.f k P bt549.1 t558).bind fun bt559 => (if true = true then (if bt549.2 = true then (if bt553.2 = true then (if bt559.2 = true then (if (bt553.1.length : Int) = (P.length : Int) then (laws_FnBlocks.j0 k bt549.1 bt553.1 bt559.1 ((wrap64 ((bt559.1.length : Int) * t558)) != (P.length : Int)) P) else (laws_FnBlocks.j0 k bt549.1 bt553.1 bt559.1 true P)) else (laws_FnBlocks.j0 k bt549.1 bt553.1 bt559.1 true P)) else (laws_FnBlocks.j0 k bt549.1 bt553.1 bt559.1 true P)) else (laws_FnBlocks.j0 k bt549.1 bt553.1 bt559.1 true P)) else (laws_FnBlocks.j0 k bt549.1 bt553.1 bt559.1 true P)))) else (none)))) true := by
  obtain ⟨⟨p1, p2, p3, p4⟩, p5⟩ := pic_rows hP
  have hd := dither_ev P M hP hM
  have hDl : (fullM P.length (rdR P 0).length (ditV P M)).length = P.length := by simp [fullM]
  have hDr : ∀ j, j < P.length → (rdR (fullM P.length (rdR P 0).length (ditV P M)) j).length = (rdR P 0).length := fun j hj => by rw [fullM_row _ _ _ _ hj]; simp
  have hDots := dots_rows P M hP
  generalize hDD : fullM P.length (rdR P 0).length (ditV P M) = D at *
  obtain ⟨S, hS, IS⟩ := block_ev P D P.length (rdR P 0).length 1 hP rfl rfl hDots hDl hDr (by omega) ⟨_, (Nat.one_mul _).symm⟩ ⟨_, (Nat.one_mul _).symm⟩
  obtain ⟨g, hg, g1, g2, g3⟩ := gcd_ev P.length (rdR P 0).length p1 p3 p2 p4
  obtain ⟨G, hG, IG⟩ := block_ev P D P.length (rdR P 0).length g hP rfl rfl hDots hDl hDr g1 g2 g3
  have hfull : S = fullM P.length (rdR P 0).length (errV P D) := by rw [IS.one rfl, fillM_full]
  have hSl : S.length = P.length := by rw [hfull]; simp [fullM]
  have hq1 : P.length / g ≤ P.length := Nat.div_le_self _ _
  have hq2 : (rdR P 0).length / g ≤ (rdR P 0).length := Nat.div_le_self _ _
  have hGl := IG.len
  have hmul : P.length / g * g = P.length := Nat.div_mul_cancel g2
  have hb : ((wrap64 ((G.length : Int) * (g : Int))) != (P.length : Int)) = false := by
    have e : (G.length : Int) * (g : Int) = (P.length : Int) := by rw [hGl, ← Int.natCast_mul, hmul]
    rw [e, wrapI (by omega) (by omega)]
    simp
  have hsum : wrap64 (sum2 G) = wrap64 (sum2 S) := by
    obtain ⟨q1, h1⟩ := IS.sum
    obtain ⟨q2, h2⟩ := IG.sum
    exact wrap_congr (q := q2 - q1) (by rw [h1, h2]; omega)
  have hfin := check_l0 P D S G P.length (rdR P 0).length rfl (fun j hj => (p5 j hj).1) hDl hDr hfull p2 p4 (by omega) (fun j hj => by have := IG.row j (by omega); omega) hsum P.length 0 (by omega) (by omega)
  refine Ev.bind hd (Ev.bind hS (Ev.of_ite_pos (by omega) (Ev.bind hg (Ev.bind hG (Ev.of_ite_pos rfl (Ev.of_ite_pos rfl (Ev.of_ite_pos rfl (Ev.of_ite_pos rfl (Ev.of_ite_pos (show (S.length : Int) = (P.length : Int) by omega) ?_)))))))))
  show Ev (fun n => laws_FnBlocks.j0 n D S G ((wrap64 ((G.length : Int) * (g : Int))) != (P.length : Int)) P) true
  rw [hb]
  refine Ev.step (fun q => ?_) hfin
  simp only [laws_FnBlocks.j0]
  rw [if_neg (by simp)]
  rfl
theorem FnBlocks : laws_FnBlocks.Pure := by
  intro l0 l1 h0 _ hu0 h1 _ hu1
  refine Ev.rounds (show Ev (fun k => laws_FnBlocks.f k l0 l1) true from ?_)
  unfold laws_FnBlocks.f
  obtain ⟨b, hb⟩ := b10Long_val l0 l1
  refine Ev.bindc hb ?_
  by_cases c : b = true
  · exact Ev.of_ite_pos c (Ev.now _)
  · refine Ev.of_ite_neg c ?_
    obtain ⟨P, hP, hPic⟩ := picture_ev l0 hu0
    refine Ev.bind hP ?_
    obtain ⟨v, hv, hv0, hv3⟩ := b10At_val l1 hu1 0 3 (by omega) (by omega) (by omega)
    refine Ev.bindc hv ?_
    have hdbl : ∀ m : Nat, m ≤ 2 → mskB (dbl m) = true := by
      intro m hm
      have : maskB (dbl m) = true := (maskB_iff (dbl m)).2 (by
        obtain rfl | rfl | rfl : m = 0 ∨ m = 1 ∨ m = 2 := by omega
        all_goals unfold IsMaskP; decide +kernel)
      unfold mskB
      rw [this]
      obtain rfl | rfl | rfl : m = 0 ∨ m = 1 ∨ m = 2 := by omega
      all_goals decide +kernel
    obtain rfl | rfl | rfl : v = 0 ∨ v = 1 ∨ v = 2 := by omega
    · exact Ev.bindc (show impl_DoublingMask.f 0 = some (dbl 0, true) from by decide +kernel) (blocks_case P (dbl 0) hPic (hdbl 0 (by omega)))
    · exact Ev.bindc (show impl_DoublingMask.f 1 = some (dbl 1, true) from by decide +kernel) (blocks_case P (dbl 1) hPic (hdbl 1 (by omega)))
    · exact Ev.bindc (show impl_DoublingMask.f 2 = some (dbl 2, true) from by decide +kernel) (blocks_case P (dbl 2) hPic (hdbl 2 (by omega)))
end Go.Proofs.Ytamjcfdjcagjmaa.Pure
