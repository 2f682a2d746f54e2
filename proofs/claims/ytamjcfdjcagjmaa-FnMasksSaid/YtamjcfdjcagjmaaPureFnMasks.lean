/- Masks: what FnMasks says of doubling masks and of dithered tiles of one tone holds. Plain Lean; no condition. -/
import Derived.Test.YtamjcfdjcagjmaaPx10
import Derived.Test.YtamjcfdjcagjmaaPD
import Derived.Test.YtamjcfdjcagjmaaPB
namespace Go.Proofs.Ytamjcfdjcagjmaa.Pure
open Go.RowKit Go.Proofs.Ytamjcfdjcagjmaa.P Go.Proofs.YtamjcfdjcagjmaaW.PrintWords Go.Proofs.YtamjcfdjcagjmaaW.PrintLast
/-! ### sums -/
def sumI : List Int → Int
  | [] => 0
  | x :: xs => x + sumI xs
theorem sumI_append (a b : List Int) : sumI (a ++ b) = sumI a + sumI b := by
  induction a with
  | nil => simp [sumI]
  | cons x xs ih =>
    simp only [List.cons_append, sumI, ih]
    omega
theorem sumI_perm {a b : List Int} (h : a.Perm b) : sumI a = sumI b := by
  induction h with
  | nil => rfl
  | cons x _ ih => simp only [sumI, ih]
  | swap x y l => simp only [sumI]; omega
  | trans _ _ ih1 ih2 => rw [ih1, ih2]
theorem sumI_bound (l : List Int) (h : ∀ x ∈ l, 0 ≤ x ∧ x ≤ 1) : 0 ≤ sumI l ∧ sumI l ≤ l.length := by
  induction l with
  | nil => simp [sumI]
  | cons x xs ih =>
    have := ih (fun y hy => h y (List.mem_cons_of_mem _ hy))
    have := h x List.mem_cons_self
    simp only [sumI, List.length_cons]
    omega
/-- A place's dot: n numbers, tone t, number m. -/
def dotG (N t m : Int) : Int := if wrap64 (wrap64 (2 * wrap64 (N * N)) * t) > wrap64 (255 * wrap64 (wrap64 (2 * m) + 1)) then 1 else 0
theorem dotG_val (N t m : Int) (h0 : 0 ≤ N * N) (h1 : N * N ≤ 64) (t0 : 0 ≤ t) (t1 : t ≤ 255) (m0 : 0 ≤ m) (m1 : m ≤ 64) : dotG N t m = if 2 * (N * N) * t > 255 * (2 * m + 1) then 1 else 0 := by
  unfold dotG
  generalize N * N = S at *
  have hp : 0 ≤ 2 * S * t := Int.mul_nonneg (by omega) t0
  have hp2 : 2 * S * t ≤ 128 * 255 := Int.mul_le_mul (by omega) t1 t0 (by omega)
  have w1 : wrap64 S = S := by clear hp hp2; unfold wrap64; omega
  have w2 : wrap64 (2 * S) = 2 * S := by clear hp hp2; unfold wrap64; omega
  rw [w1, w2]
  generalize 2 * S * t = X at *
  have w3 : wrap64 X = X := by unfold wrap64; omega
  have w4 : wrap64 (2 * m) = 2 * m := by unfold wrap64; omega
  have w5 : wrap64 (2 * m + 1) = 2 * m + 1 := by unfold wrap64; omega
  have w6 : wrap64 (255 * (2 * m + 1)) = 255 * (2 * m + 1) := by unfold wrap64; omega
  rw [w3, w4, w5, w6]
theorem dotG_01 (N t m : Int) : 0 ≤ dotG N t m ∧ dotG N t m ≤ 1 := by
  unfold dotG
  split <;> omega
theorem dotG_mono (N a b m : Int) (h0 : 0 ≤ N * N) (h1 : N * N ≤ 64) (a0 : 0 ≤ a) (b1 : b ≤ 255) (hab : a ≤ b) (m0 : 0 ≤ m) (m1 : m ≤ 64) : dotG N a m ≤ dotG N b m := by
  rw [dotG_val N a m h0 h1 a0 (by omega) m0 m1, dotG_val N b m h0 h1 (by omega) b1 m0 m1]
  generalize N * N = S at *
  have : 2 * S * a ≤ 2 * S * b := Int.mul_le_mul_of_nonneg_left hab (by omega)
  split <;> split <;> omega
/-! ### the loops -/
theorem masks_l4 (N : Nat) (h8 : N ≤ 8) (a x21 : Int) (_ha : 0 ≤ a ∧ a ≤ 255) (d : Nat) : ∀ (m : Nat), N * N - m = d → m ≤ N * N →
    Ev (fun k => laws_FnMasks.l4 k N a x21 (sumI ((List.range m).map fun j : Nat => dotG N a (j : Int))) (m : Int)) (x21 == sumI ((List.range (N * N)).map fun j : Nat => dotG N a (j : Int))) := by
  have hsq : N * N ≤ 8 * 8 := Nat.mul_le_mul h8 h8
  have hN : ((N * N : Nat) : Int) = (N : Int) * (N : Int) := by simp
  have hw : wrap64 ((N : Int) * (N : Int)) = ((N * N : Nat) : Int) := by rw [← hN, wrapI (by omega) (by omega)]
  induction d with
  | zero =>
    intro m hd hm
    obtain rfl : m = N * N := by omega
    refine Ev.step (f := fun _ => some (x21 == sumI ((List.range (N * N)).map fun j : Nat => dotG N a (j : Int)))) (fun k => ?_) (Ev.now _)
    simp only [laws_FnMasks.l4]
    rw [hw, if_neg (by omega)]
  | succ d ih =>
    intro m hd hm
    have hlt : m < N * N := by omega
    have hb := sumI_bound ((List.range m).map fun j : Nat => dotG N a (j : Int)) (fun x hx => by obtain ⟨j, _, rfl⟩ := List.mem_map.1 hx; exact dotG_01 _ _ _)
    simp only [List.length_map, List.length_range] at hb
    have hs : sumI ((List.range (m + 1)).map fun j : Nat => dotG N a (j : Int)) = sumI ((List.range m).map fun j : Nat => dotG N a (j : Int)) + dotG N a (m : Int) := by
      rw [List.range_succ, List.map_append, sumI_append]
      simp [sumI]
    have hih := ih (m + 1) (by omega) (by omega)
    rw [hs] at hih
    refine Ev.step (f := fun k => laws_FnMasks.l4 k N a x21 (sumI ((List.range m).map fun j : Nat => dotG N a (j : Int)) + dotG N a (m : Int)) ((m + 1 : Nat) : Int)) (fun k => ?_) hih
    simp only [laws_FnMasks.l4]
    have hww : wrap64 (wrap64 (2 * (N : Int)) * (N : Int)) = wrap64 (2 * wrap64 ((N : Int) * (N : Int))) := by
      rw [hw, wrapI (x := 2 * (N : Int)) (by omega) (by omega), Int.mul_assoc, ← hN]
    rw [hw, if_pos (by omega), hww, wrapI (x := (m : Int) + 1) (by omega) (by omega)]
    by_cases c : wrap64 (wrap64 (2 * wrap64 ((N : Int) * (N : Int))) * a) > wrap64 (255 * wrap64 (wrap64 (2 * (m : Int)) + 1))
    · have e : dotG N a (m : Int) = 1 := if_pos c
      rw [if_pos c, e, wrapI (x := sumI ((List.range m).map fun j : Nat => dotG N a (j : Int)) + 1) (by omega) (by omega)]
      rfl
    · have e : dotG N a (m : Int) = 0 := if_neg c
      rw [if_neg c, e, Int.add_zero]
      rfl
theorem mapI (f : Nat → Int) (n k : Nat) (hk : k < n) : rd ((List.range n).map f) (k : Nat) = f k := by
  rw [rd_mem (by simp; exact hk)]
  simp
theorem wrap_add (x y : Int) (h : 0 ≤ x ∧ x ≤ 64) (k : 0 ≤ y ∧ y ≤ 1) : wrap64 (x + y) = x + y := wrapI (by omega) (by omega)
/-- The count of dots over the first places. -/
def cnt (M : List (List Int)) (N a : Int) (i k : Nat) : Int := sumI (((M.take i).flatten ++ (rdR M i).take k).map fun m => dotG N a m)
theorem masks_l3 (M : List (List Int)) (N : Nat) (hP : IsMaskP M) (hN : M.length = N) (h8 : N ≤ 8) (a b : Int) (ha : 0 ≤ a) (hab : a ≤ b) (hb : b ≤ 255) (i : Nat) (hi : i < N) (R : Bool)
    (cont : Ev (fun k => laws_FnMasks.l2 k N a (fullM N N fun i k => dotG N a (mk M i k)) (fullM N N fun i k => dotG N b (mk M i k)) (cnt M N a (i + 1) 0) ((i + 1 : Nat) : Int)) R) (d : Nat) : ∀ (k : Nat), N - k = d → k ≤ N →
    Ev (fun q => laws_FnMasks.l3 q N a (fullM N N fun i k => dotG N a (mk M i k)) (fullM N N fun i k => dotG N b (mk M i k)) (cnt M N a i k) (i : Int) (k : Int)) R := by
  have hsq : N * N ≤ 8 * 8 := Nat.mul_le_mul h8 h8
  have hNN : ((N * N : Nat) : Int) = (N : Int) * (N : Int) := by simp
  have hrl : (rdR M i).length = N := (by rw [rdR_mem (by omega : i < M.length)]; exact (hP.1 _ (List.getElem_mem (by omega : i < M.length))).trans hN)
  have hnext : cnt M N a i N = cnt M N a (i + 1) 0 := by
    unfold cnt
    rw [← hrl, List.take_length, List.take_zero, List.append_nil, flat_succ M i (by omega)]
  have hpl : ∀ t : Int, (fullM N N fun i k => dotG N t (mk M i k)).length = N := fun t => by simp [fullM]
  have hprow : ∀ t : Int, rd_L2 (fullM N N fun i k => dotG N t (mk M i k)) (i : Int) = (List.range N).map fun k => dotG N t (mk M i k) := fun t => by rw [rdL2, fullM_row N N _ i hi]
  induction d with
  | zero =>
    intro k hd hk
    obtain rfl : k = N := by omega
    refine Ev.step (f := fun q => laws_FnMasks.l2 q k a (fullM k k fun i k' => dotG k a (mk M i k')) (fullM k k fun i k' => dotG k b (mk M i k')) (cnt M k a (i + 1) 0) ((i + 1 : Nat) : Int)) (fun q => ?_) cont
    simp only [laws_FnMasks.l3]
    rw [if_neg (by omega), wrapI (by omega) (by omega), hnext]
    rfl
  | succ d ih =>
    intro k hd hk
    have hlt : k < N := by omega
    have hbd := mk_bound hP (i := i) (k := k) (by omega) (by omega)
    rw [hN, ← hNN] at hbd
    have hmono := dotG_mono N a b (mk M i k) (by omega) (by omega) ha hb hab hbd.1 (by omega)
    have h01 := dotG_01 N a (mk M i k)
    have hsucc : cnt M N a i (k + 1) = cnt M N a i k + dotG N a (mk M i k) := by
      unfold cnt
      rw [List.take_succ_eq_append_getElem (by omega : k < (rdR M i).length), ← List.append_assoc, List.map_append, sumI_append]
      simp only [List.map_cons, List.map_nil, sumI, Int.add_zero]
      rw [← rd_mem (by omega : k < (rdR M i).length)]
      rfl
    have hcb : 0 ≤ cnt M N a i k ∧ cnt M N a i k ≤ 64 := by
      unfold cnt
      obtain ⟨b1, b2⟩ := sumI_bound (((M.take i).flatten ++ (rdR M i).take k).map fun m => dotG N a m) (fun x hx => by obtain ⟨j, _, rfl⟩ := List.mem_map.1 hx; exact dotG_01 _ _ _)
      have hl : ((M.take i).flatten ++ (rdR M i).take k).length ≤ N * N := by
        have e1 := sumLen_succ M i (by omega)
        have e2 := sumLen_le M (i + 1)
        have e3 := flat_len M N (fun row hr => by rw [← hN]; exact hP.1 row hr)
        unfold sumLen at e1 e2
        rw [hN] at e3
        rw [List.length_append, List.length_take]
        omega
      rw [List.length_map] at b2
      omega
    have hih := ih (k + 1) (by omega) (by omega)
    have w2 : wrap64 ((k : Int) + 1) = ((k + 1 : Nat) : Int) := wrap_succ hlt (by omega)
    have c1 : (k : Int) < (N : Int) := Int.ofNat_lt.2 hlt
    have c2 : 0 ≤ (i : Int) := Int.natCast_nonneg _
    have c3 : ∀ t : Int, (i : Int) < ((fullM N N fun i k => dotG N t (mk M i k)).length : Int) := fun t => by rw [hpl t]; exact Int.ofNat_lt.2 hi
    have c4 : 0 ≤ (k : Int) := Int.natCast_nonneg _
    have c5 : ∀ t : Int, (k : Int) < ((rd_L2 (fullM N N fun i k => dotG N t (mk M i k)) (i : Int)).length : Int) := fun t => by rw [hprow t]; simp only [List.length_map, List.length_range]; exact c1
    have c8 : ¬ rd (rd_L2 (fullM N N fun i k => dotG N a (mk M i k)) (i : Int)) (k : Int) > rd (rd_L2 (fullM N N fun i k => dotG N b (mk M i k)) (i : Int)) (k : Int) := by rw [hprow a, hprow b, mapI _ N k hlt, mapI _ N k hlt]; exact Int.not_lt.2 hmono
    have w1 : wrap64 (cnt M N a i k + dotG N a (mk M i k)) = cnt M N a i k + dotG N a (mk M i k) := wrap_add _ _ hcb h01
    refine Ev.step (f := fun q => laws_FnMasks.l3 q N a (fullM N N fun i k => dotG N a (mk M i k)) (fullM N N fun i k => dotG N b (mk M i k)) (cnt M N a i (k + 1)) (i : Int) ((k + 1 : Nat) : Int)) (fun q => ?_) hih
    simp only [laws_FnMasks.l3]
    rw [if_pos c1, if_pos c2, if_pos (c3 a), if_pos c4, if_pos (c5 a), if_pos (c3 b), if_pos (c5 b), if_neg c8]
    rw [hprow a, mapI _ N k hlt, w1, ← hsucc, w2]
theorem masks_l2 (M : List (List Int)) (N : Nat) (hP : IsMaskP M) (hN : M.length = N) (h1 : 1 ≤ N) (h8 : N ≤ 8) (a b : Int) (ha : 0 ≤ a) (hab : a ≤ b) (hb : b ≤ 255)
    (hperm : M.flatten.Perm ((List.range (N * N)).map fun j : Nat => (j : Int))) (d : Nat) : ∀ (i : Nat), N - i = d → i ≤ N →
    Ev (fun q => laws_FnMasks.l2 q N a (fullM N N fun i k => dotG N a (mk M i k)) (fullM N N fun i k => dotG N b (mk M i k)) (cnt M N a i 0) (i : Int)) true := by
  have hpl : ∀ t : Int, (fullM N N fun i k => dotG N t (mk M i k)).length = N := fun t => by simp [fullM]
  induction d with
  | zero =>
    intro i hd hi
    obtain rfl : i = N := by omega
    have hsum : cnt M i a i 0 = sumI ((List.range (i * i)).map fun j : Nat => dotG i a (j : Int)) := by
      unfold cnt
      rw [List.take_zero, List.append_nil, List.take_of_length_le (by omega), sumI_perm (hperm.map (fun m => dotG i a m)), List.map_map]
      rfl
    refine Ev.step (f := fun q => laws_FnMasks.l4 q i a (cnt M i a i 0) (sumI ((List.range 0).map fun j : Nat => dotG i a (j : Int))) ((0 : Nat) : Int)) (fun q => ?_) ?_
    · simp only [laws_FnMasks.l2]
      rw [if_neg (by omega)]
      rfl
    · have := masks_l4 i h8 a (cnt M i a i 0) ⟨ha, by omega⟩ (i * i) 0 (by omega) (by omega)
      rw [← hsum] at this
      simpa using this
  | succ d ih =>
    intro i hd hi
    have hlt : i < N := by omega
    have hih := ih (i + 1) (by omega) (by omega)
    have hprow : ∀ t : Int, rd_L2 (fullM N N fun i k => dotG N t (mk M i k)) (i : Int) = (List.range N).map fun k => dotG N t (mk M i k) := fun t => by rw [rdL2, fullM_row N N _ i hlt]
    refine Ev.step (f := fun q => laws_FnMasks.j6 q N a (fullM N N fun i k => dotG N a (mk M i k)) (fullM N N fun i k => dotG N b (mk M i k)) (cnt M N a i 0) (i : Int) false) (fun q => ?_) ?_
    · simp only [laws_FnMasks.l2]
      have c1 : (i : Int) < (N : Int) := Int.ofNat_lt.2 hlt
      have c3 : ∀ t : Int, (i : Int) < ((fullM N N fun i k => dotG N t (mk M i k)).length : Int) := fun t => by rw [hpl t]; exact c1
      have c5 : ∀ t : Int, ((rd_L2 (fullM N N fun i k => dotG N t (mk M i k)) (i : Int)).length : Int) = (N : Int) := fun t => by rw [hprow t]; simp
      have c6 : (((rd_L2 (fullM N N fun i k => dotG N b (mk M i k)) (i : Int)).length : Int) != (N : Int)) = false := by rw [c5 b]; simp
      rw [if_pos c1, if_pos (Int.natCast_nonneg _), if_pos (c3 a), if_pos (c5 a), if_pos (c3 b), c6]
    · refine Ev.step (f := fun q => laws_FnMasks.l3 q N a (fullM N N fun i k => dotG N a (mk M i k)) (fullM N N fun i k => dotG N b (mk M i k)) (cnt M N a i 0) (i : Int) ((0 : Nat) : Int)) (fun q => ?_) (masks_l3 M N hP hN h8 a b ha hab hb i hlt true hih N 0 (Nat.sub_zero _) (Nat.zero_le _))
      simp only [laws_FnMasks.j6]
      rw [if_neg (by simp)]
      rfl
/-! ### the tiles -/
def tile (N : Nat) (a : Int) : List (List Int) := List.replicate N (List.replicate N a)
theorem tile_row (N : Nat) (a : Int) (i : Nat) (hi : i < N) : rdR (tile N a) i = List.replicate N a := by
  unfold tile
  rw [rdR_mem (by simp; exact hi)]
  simp
theorem tile_len (N : Nat) (a : Int) : (tile N a).length = N := by simp [tile]
theorem tile_pic (N : Nat) (h1 : 1 ≤ N) (h8 : N ≤ 8) (a : Int) (ha : 0 ≤ a) (hb : a ≤ 255) : picB (tile N a) = true := by
  unfold picB areRowsB
  rw [tile_len, tile_row N a 0 (by omega)]
  simp only [Bool.and_eq_true, decide_eq_true_eq, List.length_replicate, List.all_eq_true]
  refine ⟨⟨⟨⟨h1, by omega⟩, h1⟩, by omega⟩, fun row hr => ?_⟩
  obtain rfl := (List.mem_replicate.1 hr).2
  refine ⟨by simp, fun x hx => ?_⟩
  obtain rfl := (List.mem_replicate.1 hx).2
  exact ⟨ha, hb⟩
theorem fullM_congr (h w : Nat) (V V' : Nat → Nat → Int) (e : ∀ i k, i < h → k < w → V i k = V' i k) : fullM h w V = fullM h w V' := by
  unfold fullM
  refine List.map_congr_left (fun i hi => List.map_congr_left (fun k hk => ?_))
  exact e i k (List.mem_range.1 hi) (List.mem_range.1 hk)
theorem tile_dither (M : List (List Int)) (N : Nat) (hN : M.length = N) (hM : mskB M = true) (h1 : 1 ≤ N) (h8 : N ≤ 8) (a : Int) (ha : 0 ≤ a) (hb : a ≤ 255) :
    Ev (fun q => impl_MaskDither.f q (tile N a) M) (fullM N N (fun i k => dotG N a (mk M i k)), true) := by
  have := dither_ev (tile N a) M (tile_pic N h1 h8 a ha hb) hM
  rw [tile_len, tile_row N a 0 (by omega), List.length_replicate] at this
  rw [fullM_congr N N (fun i k => dotG N a (mk M i k)) (ditV (tile N a) M) (fun i k hi hk => ?_)]
  · exact this
  · unfold ditV dotG mk
    have e : rd (List.replicate N a) (k : Nat) = a := by
      have hl : k < (List.replicate N a).length := by rw [List.length_replicate]; exact hk
      rw [rd_mem hl]
      simp
    rw [tile_row N a i hi, hN, Nat.mod_eq_of_lt hi, Nat.mod_eq_of_lt hk, e]
theorem masks_l0 (M : List (List Int)) (N : Nat) (hN : M.length = N) (hM : mskB M = true) (hP : IsMaskP M) (h1 : 1 ≤ N) (h8 : N ≤ 8) (a b : Int) (ha : 0 ≤ a) (hab : a ≤ b) (hb : b ≤ 255)
    (hperm : M.flatten.Perm ((List.range (N * N)).map fun j : Nat => (j : Int))) : Ev (fun q => laws_FnMasks.l0 q M N a b N (tile N a) (tile N b)) true := by
  have h2 := masks_l2 M N hP hN h1 h8 a b ha hab hb hperm N 0 (by omega) (by omega)
  have hz : cnt M N a 0 0 = 0 := by simp [cnt, sumI]
  rw [hz] at h2
  have d1 := tile_dither M N hN hM h1 h8 a ha (by omega)
  have d2 := tile_dither M N hN hM h1 h8 b (by omega) hb
  have hl : ∀ t : Int, ((fullM N N fun i k => dotG N t (mk M i k)).length : Int) = (N : Int) := fun t => by simp [fullM]
  refine Ev.step (f := fun q => ((impl_MaskDither.f q (tile N a) M).bind fun bt433 => ((impl_MaskDither.f q (tile N b) M).bind fun bt437 => (if bt433.2 = true then (if bt437.2 = true then (if (bt433.1.length : Int) = (N : Int) then (laws_FnMasks.j4 q N a bt433.1 bt437.1 ((bt437.1.length : Int) != (N : Int))) else (laws_FnMasks.j4 q N a bt433.1 bt437.1 true)) else (laws_FnMasks.j4 q N a bt433.1 bt437.1 true)) else (laws_FnMasks.j4 q N a bt433.1 bt437.1 true))))) (fun q => ?_) ?_
  · simp only [laws_FnMasks.l0]
    rw [if_neg (Int.lt_irrefl _)]
  · refine Ev.bind d1 (Ev.bind d2 (Ev.of_ite_pos rfl (Ev.of_ite_pos rfl (Ev.of_ite_pos (hl a) ?_))))
    refine Ev.step (f := fun q => laws_FnMasks.l2 q N a (fullM N N fun i k => dotG N a (mk M i k)) (fullM N N fun i k => dotG N b (mk M i k)) 0 ((0 : Nat) : Int)) (fun q => ?_) h2
    simp only [laws_FnMasks.j4]
    rw [hl b, if_neg (by simp)]
    rfl
theorem build_l1 (M : List (List Int)) (N : Nat) (h8 : N ≤ 8) (a b : Int) (i : Nat) (xs ys : List (List Int)) (hx : xs.length ≤ 8) (hy : ys.length ≤ 8) (R : Bool)
    (cont : Ev (fun q => laws_FnMasks.l0 q M N a b ((i + 1 : Nat) : Int) (xs ++ [List.replicate N a]) (ys ++ [List.replicate N b])) R) (hi : i < N) (d : Nat) : ∀ k : Nat, N - k = d → k ≤ N →
    Ev (fun q => laws_FnMasks.l1 q M N a b (i : Int) (List.replicate k a) (List.replicate k b) (k : Int) xs ys) R := by
  induction d with
  | zero =>
    intro k hd hk
    obtain rfl : k = N := by omega
    refine Ev.step (f := fun q => laws_FnMasks.l0 q M k a b ((i + 1 : Nat) : Int) (xs ++ [List.replicate k a]) (ys ++ [List.replicate k b])) (fun q => ?_) cont
    simp only [laws_FnMasks.l1]
    rw [if_neg (Int.lt_irrefl _), if_pos (by omega), if_pos (by omega), wrap_succ hi (by omega)]
  | succ d ih =>
    intro k hd hk
    have hih := ih (k + 1) (by omega) (by omega)
    have hlt : k < N := by omega
    rw [List.replicate_succ' , List.replicate_succ'] at hih
    refine Ev.step (f := fun q => laws_FnMasks.l1 q M N a b (i : Int) (List.replicate k a ++ [a]) (List.replicate k b ++ [b]) ((k + 1 : Nat) : Int) xs ys) (fun q => ?_) hih
    simp only [laws_FnMasks.l1, List.length_replicate]
    rw [if_pos (by omega), if_pos (by omega), if_pos (by omega), wrap_succ hlt (by omega)]
theorem build_l0 (M : List (List Int)) (N : Nat) (h8 : N ≤ 8) (a b : Int) (R : Bool) (cont : Ev (fun q => laws_FnMasks.l0 q M N a b N (tile N a) (tile N b)) R) (d : Nat) : ∀ i : Nat, N - i = d → i ≤ N →
    Ev (fun q => laws_FnMasks.l0 q M N a b (i : Int) (List.replicate i (List.replicate N a)) (List.replicate i (List.replicate N b))) R := by
  induction d with
  | zero =>
    intro i hd hi
    obtain rfl : i = N := by omega
    exact cont
  | succ d ih =>
    intro i hd hi
    have hih := ih (i + 1) (by omega) (by omega)
    have hlt : i < N := by omega
    rw [List.replicate_succ' , List.replicate_succ'] at hih
    refine Ev.step (f := fun q => laws_FnMasks.l1 q M N a b (i : Int) (List.replicate 0 a) (List.replicate 0 b) ((0 : Nat) : Int) (List.replicate i (List.replicate N a)) (List.replicate i (List.replicate N b))) (fun q => ?_) (build_l1 M N h8 a b i _ _ (by simp; omega) (by simp; omega) R hih hlt N 0 (by omega) (by omega))
    simp only [laws_FnMasks.l0]
    rw [if_pos (by omega)]
    rfl
theorem masks_case (M : List (List Int)) (N : Nat) (hN : M.length = N) (hM : mskB M = true) (h1 : 1 ≤ N) (h8 : N ≤ 8) (hperm : M.flatten.Perm ((List.range (N * N)).map fun j : Nat => (j : Int))) (l1 : List Int) (hu1 : ∀ x ∈ l1, (Lit.int .u8 x).wf = true) :
    Ev (fun q => laws_FnMasks.j0 q l1 M N false) true := by
  have hP : IsMaskP M := (maskB_iff M).1 (by unfold mskB at hM; simp only [Bool.and_eq_true] at hM; exact hM.2)
  obtain ⟨a, ea, a0, a1⟩ := b10At_val l1 hu1 0 256 (by omega) (by omega) (by omega)
  obtain ⟨b, eb, b0, b1⟩ := b10At_val l1 hu1 1 256 (by omega) (by omega) (by omega)
  have key : ∀ x y : Int, 0 ≤ x → x ≤ y → y ≤ 255 → Ev (fun q => laws_FnMasks.j1 q M N x y) true := fun x y hx hxy hy => by
    refine Ev.step (f := fun q => laws_FnMasks.l0 q M N x y ((0 : Nat) : Int) (List.replicate 0 (List.replicate N x)) (List.replicate 0 (List.replicate N y))) (fun q => ?_) (build_l0 M N h8 x y true (masks_l0 M N hN hM hP h1 h8 x y hx hxy hy hperm) N 0 (by omega) (by omega))
    simp only [laws_FnMasks.j1]
    rfl
  refine Ev.step (f := fun q => (if a > b then (laws_FnMasks.j1 q M N b a) else (laws_FnMasks.j1 q M N a b))) (fun q => ?_) ?_
  · simp only [laws_FnMasks.j0]
    rw [if_neg (by simp), ea, eb]
    rfl
  · by_cases c : a > b
    · exact Ev.of_ite_pos c (key b a b0 (by omega) (by omega))
    · exact Ev.of_ite_neg c (key a b a0 (by omega) (by omega))
theorem FnMasks : laws_FnMasks.Pure := by
  intro l0 l1 h0 _ hu0 h1 _ hu1
  refine Ev.rounds (show Ev (fun k => laws_FnMasks.f k l0 l1) true from ?_)
  unfold laws_FnMasks.f
  obtain ⟨b, hb⟩ := b10Long_val l0 l1
  refine Ev.bindc hb ?_
  by_cases c : b = true
  · exact Ev.of_ite_pos c (Ev.now _)
  · refine Ev.of_ite_neg c ?_
    obtain ⟨v, hv, hv0, hv3⟩ := b10At_val l0 hu0 0 4 (by omega) (by omega) (by omega)
    refine Ev.bindc hv ?_
    obtain rfl | rfl | rfl | rfl : v = 0 ∨ v = 1 ∨ v = 2 ∨ v = 3 := by omega
    · have hm : mskB (dbl 0) = true := by
        have := (maskB_iff (dbl 0)).2 (by unfold IsMaskP; decide +kernel)
        unfold mskB
        rw [this]
        decide +kernel
      refine Ev.bindc (show impl_DoublingMask.f 0 = some (dbl 0, true) from by decide +kernel) (Ev.of_ite_pos rfl (Ev.bindc (show impl_IsMask.f (dbl 0) = some true from (show impl_IsMask.f (dbl 0) = some (mskB (dbl 0)) from rfl).trans (by rw [hm])) (Ev.of_ite_pos rfl (Ev.of_ite_pos (by decide +kernel) ?_))))
      have e : (((dbl 0).length : Int) != (shl .i64 1 (IntKind.u64.wrap 0))) = false := by decide +kernel
      have hl : (dbl 0).length = 1 := by decide +kernel
      show Ev (fun q => laws_FnMasks.j0 q l1 (dbl 0) ((dbl 0).length : Int) (((dbl 0).length : Int) != (shl .i64 1 (IntKind.u64.wrap 0)))) true
      rw [e, hl]
      exact masks_case (dbl 0) 1 hl hm (by omega) (by omega) (by decide +kernel) l1 hu1
    · have hm : mskB (dbl 1) = true := by
        have := (maskB_iff (dbl 1)).2 (by unfold IsMaskP; decide +kernel)
        unfold mskB
        rw [this]
        decide +kernel
      refine Ev.bindc (show impl_DoublingMask.f 1 = some (dbl 1, true) from by decide +kernel) (Ev.of_ite_pos rfl (Ev.bindc (show impl_IsMask.f (dbl 1) = some true from (show impl_IsMask.f (dbl 1) = some (mskB (dbl 1)) from rfl).trans (by rw [hm])) (Ev.of_ite_pos rfl (Ev.of_ite_pos (by decide +kernel) ?_))))
      have e : (((dbl 1).length : Int) != (shl .i64 1 (IntKind.u64.wrap 1))) = false := by decide +kernel
      have hl : (dbl 1).length = 2 := by decide +kernel
      show Ev (fun q => laws_FnMasks.j0 q l1 (dbl 1) ((dbl 1).length : Int) (((dbl 1).length : Int) != (shl .i64 1 (IntKind.u64.wrap 1)))) true
      rw [e, hl]
      exact masks_case (dbl 1) 2 hl hm (by omega) (by omega) (by decide +kernel) l1 hu1
    · have hm : mskB (dbl 2) = true := by
        have := (maskB_iff (dbl 2)).2 (by unfold IsMaskP; decide +kernel)
        unfold mskB
        rw [this]
        decide +kernel
      refine Ev.bindc (show impl_DoublingMask.f 2 = some (dbl 2, true) from by decide +kernel) (Ev.of_ite_pos rfl (Ev.bindc (show impl_IsMask.f (dbl 2) = some true from (show impl_IsMask.f (dbl 2) = some (mskB (dbl 2)) from rfl).trans (by rw [hm])) (Ev.of_ite_pos rfl (Ev.of_ite_pos (by decide +kernel) ?_))))
      have e : (((dbl 2).length : Int) != (shl .i64 1 (IntKind.u64.wrap 2))) = false := by decide +kernel
      have hl : (dbl 2).length = 4 := by decide +kernel
      show Ev (fun q => laws_FnMasks.j0 q l1 (dbl 2) ((dbl 2).length : Int) (((dbl 2).length : Int) != (shl .i64 1 (IntKind.u64.wrap 2)))) true
      rw [e, hl]
      exact masks_case (dbl 2) 4 hl hm (by omega) (by omega) (by decide +kernel) l1 hu1
    · have hm : mskB (dbl 3) = true := by
        have := (maskB_iff (dbl 3)).2 (by unfold IsMaskP; decide +kernel)
        unfold mskB
        rw [this]
        decide +kernel
      refine Ev.bindc (show impl_DoublingMask.f 3 = some (dbl 3, true) from by decide +kernel) (Ev.of_ite_pos rfl (Ev.bindc (show impl_IsMask.f (dbl 3) = some true from (show impl_IsMask.f (dbl 3) = some (mskB (dbl 3)) from rfl).trans (by rw [hm])) (Ev.of_ite_pos rfl (Ev.of_ite_pos (by decide +kernel) ?_))))
      have e : (((dbl 3).length : Int) != (shl .i64 1 (IntKind.u64.wrap 3))) = false := by decide +kernel
      have hl : (dbl 3).length = 8 := by decide +kernel
      show Ev (fun q => laws_FnMasks.j0 q l1 (dbl 3) ((dbl 3).length : Int) (((dbl 3).length : Int) != (shl .i64 1 (IntKind.u64.wrap 3)))) true
      rw [e, hl]
      exact masks_case (dbl 3) 8 hl hm (by omega) (by omega) (by decide +kernel) l1 hu1
end Go.Proofs.Ytamjcfdjcagjmaa.Pure
