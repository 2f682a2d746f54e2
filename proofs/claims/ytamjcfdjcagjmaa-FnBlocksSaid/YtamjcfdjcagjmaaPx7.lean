-- written by a program of this session (gprint.py), which calls the kit's print
import Derived.Test.YtamjcfdjcagjmaaPx0
import Derived.Test.YtamjcfdjcagjmaaPx1
namespace Go.Proofs.Ytamjcfdjcagjmaa.P
open Go.RowKit Go.Proofs.YtamjcfdjcagjmaaW.PrintWords Go.Proofs.YtamjcfdjcagjmaaW.PrintLast Go.Proofs.YtamjcfdjcagjmaaW.PrintMore
attribute [local go_sem] max2_int min2_int max_two min_two max_three min_three max_four min_four   -- for this text's walks alone
set_option linter.unusedVariables false
set_option linter.unusedSimpArgs false

/-! ### laws_heldInt64S: function 74 -/
def laws_heldInt64S.l0 : Nat → List Int → Int → Int → Option (Int)
  | 0, _, _, _ => none
  | k + 1, x0, x1, x5 => if x5 < (x0.length : Int) then (if 0 ≤ x5 then (if (rd x0 x5) = x1 then (laws_heldInt64S.l0 k x0 (wrap64 (x1 + 1)) (wrap64 (x5 + 1))) else (some (-1))) else (none)) else (some x1)
def laws_heldInt64S.f (k : Nat) (l0 : List Int) (a1 : Int) : Option (Int) := laws_heldInt64S.l0 k l0 a1 0
theorem laws_heldInt64S.mono_l : ∀ k, (∀ y0 y1 y2, LeO (laws_heldInt64S.l0 k y0 y1 y2) (laws_heldInt64S.l0 (k + 1) y0 y1 y2))
  | 0 => fun _ _ _ r h => by simp [laws_heldInt64S.l0] at h
  | k + 1 => by
    have ih0 := laws_heldInt64S.mono_l k
    · intro y0 y1 y2
      unfold laws_heldInt64S.l0
      repeat' first
      | (with_reducible exact ih0 _ _ _)
      | (with_reducible exact LeO.refl _)
      | (with_reducible exact LeO.none _)
      | (with_reducible refine LeO.ite ?_ ?_)
      | (with_reducible refine LeO.bind ?_ (fun _ => ?_))
      | exact ih0 _ _ _
      | exact LeO.none _
      | refine LeO.ite ?_ ?_
      | refine LeO.bind ?_ (fun _ => ?_)
theorem laws_heldInt64S.mono : ∀ a0 a1 k, LeO (laws_heldInt64S.f k a0 a1) (laws_heldInt64S.f (k + 1) a0 a1) := by
  intro a0 a1 k
  have ih0 := laws_heldInt64S.mono_l k
  unfold laws_heldInt64S.f
  repeat' first
      | (with_reducible exact ih0 _ _ _)
      | (with_reducible exact LeO.refl _)
      | (with_reducible exact LeO.none _)
      | (with_reducible refine LeO.ite ?_ ?_)
      | (with_reducible refine LeO.bind ?_ (fun _ => ?_))
      | exact ih0 _ _ _
      | exact LeO.none _
      | refine LeO.ite ?_ ?_
      | refine LeO.bind ?_ (fun _ => ?_)
set_option maxHeartbeats 8000000 in
set_option maxRecDepth 100000 in
theorem laws_heldInt64S.calls (k : Nat) (A0 : Option Addr) (c0 : Nat) (l0 : List Int) (a1 : Int) (r : Int) (w : World) (hr0 : Kd.C (Kd.int .i64) w A0 l0.length l0) (hc0 : l0.length ≤ c0) (h : laws_heldInt64S.f k l0 a1 = some r) :
    Calls Try.prog 74 #[.slice A0 l0.length c0, .int .i64 a1] w fun e w' => e = .returned (.int .i64 r) ∧ Drawn0 w w' := by
  have HR0 := Aside0.mk hr0
  have HC0 := Aside0.mk hc0
  clear hr0 hc0
  have H : (laws_heldInt64S.l0 k l0 a1 0) = some r := h
  clear h
  have H' := Aside0.mk H
  clear H
  go_enter Try.func74, Try.ntmps74
  go_wp2
  go_loopg [1, 5] k (fun kq v1 v5 w' => ∃ (x1_1 : Int) (x5_1 : Int), v1 = .int .i64 x1_1 ∧ v5 = .int .i64 x5_1 ∧ Aside0 (laws_heldInt64S.l0 kq l0 x1_1 x5_1 = some r) ∧ Aside0 (kq ≤ k) ∧ Drawn0 w w')
  case atStart => exact ⟨(a1), (0), (by first | rfl | (simp; done) | (simp [*]; done)), (by first | rfl | (simp; done) | (simp [*]; done)), H', ⟨Nat.le_refl _⟩, by repeat (first | exact Drawn0.refl _ | apply Drawn0.step)⟩
  case round =>
    clear H'
    try clear p2
    obtain ⟨x1_1, x5_1, rfl, rfl, HA, HK1, ⟨m1, rfl⟩⟩ := hrel
    cases gk with
    | zero => exact absurd HA.out (by simp [laws_heldInt64S.l0])
    | succ k1 =>
      have H := HA.out
      clear HA
      simp only [laws_heldInt64S.l0] at H
      by_cases c3 : x5_1 < (l0.length : Int)
      · rw [if_pos c3] at H
        have c3b0 : decide (x5_1 < (l0.length : Int)) = true := decide_eq_true c3
        clear c3
        by_cases c4 : 0 ≤ x5_1
        · rw [if_pos c4] at H
          have c4b0 : decide (0 ≤ x5_1) = true := decide_eq_true c4
          clear c4
          by_cases c5 : (rd l0 x5_1) = x1_1
          · rw [if_pos c5] at H
            have c5b0 : ((rd l0 x5_1) == x1_1) = true := beq_iff_eq.mpr c5
            have c5b1 : ((rd l0 x5_1) != x1_1) = false := bne_eq_false_iff_eq.mpr c5
            clear c5
            have H' := Aside0.mk H
            clear H
            have p357 : 0 ≤ (x5_1 : Int) := of_decide_eq_true (by first | (with_reducible assumption) | assumption)
            have q357 : x5_1 < (l0.length : Int) := of_decide_eq_true (by first | (with_reducible assumption) | assumption)
            obtain ⟨ad357, e357, hx357_0⟩ := Kd.at_int HR0.out x5_1 p357 q357
            cases e357
            replace p357 := eq_true p357
            replace q357 := eq_true q357
            go_wp2
            go_roundg k1
            case measure => have := HK1.out; omega
            case rel => exact ⟨(wrap64 (x1_1 + 1)), (wrap64 (x5_1 + 1)), (by first | rfl | (simp; done) | (simp [*]; done)), (by first | rfl | (simp; done) | (simp [*]; done)), H', ⟨by have := HK1.out; omega⟩, by repeat (first | exact Drawn0.refl _ | apply Drawn0.step)⟩
          · rw [if_neg c5] at H
            have c5b0 : ((rd l0 x5_1) == x1_1) = false := beq_eq_false_iff_ne.mpr c5
            have c5b1 : ((rd l0 x5_1) != x1_1) = true := bne_iff_ne.mpr c5
            obtain rfl := Option.some.inj H
            have p357 : 0 ≤ (x5_1 : Int) := of_decide_eq_true (by first | (with_reducible assumption) | assumption)
            have q357 : x5_1 < (l0.length : Int) := of_decide_eq_true (by first | (with_reducible assumption) | assumption)
            obtain ⟨ad357, e357, hx357_0⟩ := Kd.at_int HR0.out x5_1 p357 q357
            cases e357
            replace p357 := eq_true p357
            replace q357 := eq_true q357
            go_wp2
            go_ret
            exact ⟨by first | rfl | (simp; done) | (simp [*]; done), by repeat (first | exact Drawn0.refl _ | apply Drawn0.step)⟩
        · rw [if_neg c4] at H
          exact absurd H (by simp)
      · rw [if_neg c3] at H
        have c3b0 : decide (x5_1 < (l0.length : Int)) = false := decide_eq_false c3
        clear c3
        obtain rfl := Option.some.inj H
        go_wp2
        go_ret
        exact ⟨by first | rfl | (simp; done) | (simp [*]; done), by repeat (first | exact Drawn0.refl _ | apply Drawn0.step)⟩

/-! ### laws_heldInt64SS: function 33 -/
def laws_heldInt64SS.l0 : Nat → List (List Int) → Int → Int → Option (Int)
  | 0, _, _, _ => none
  | k + 1, x0, x1, x5 => if x5 < (x0.length : Int) then (if 0 ≤ x5 then ((laws_heldInt64S.f k (rd_L2 x0 x5) x1).bind fun t359 => (if t359 < 0 then (some (-1)) else (laws_heldInt64SS.l0 k x0 t359 (wrap64 (x5 + 1))))) else (none)) else (some x1)
def laws_heldInt64SS.f (k : Nat) (l0 : List (List Int)) (a1 : Int) : Option (Int) := laws_heldInt64SS.l0 k l0 a1 0
theorem laws_heldInt64SS.mono_l : ∀ k, (∀ y0 y1 y2, LeO (laws_heldInt64SS.l0 k y0 y1 y2) (laws_heldInt64SS.l0 (k + 1) y0 y1 y2))
  | 0 => fun _ _ _ r h => by simp [laws_heldInt64SS.l0] at h
  | k + 1 => by
    have ih0 := laws_heldInt64SS.mono_l k
    · intro y0 y1 y2
      unfold laws_heldInt64SS.l0
      repeat' first
      | (with_reducible exact ih0 _ _ _)
      | (with_reducible exact laws_heldInt64S.mono _ _ _)
      | (with_reducible exact LeO.refl _)
      | (with_reducible exact LeO.none _)
      | (with_reducible refine LeO.ite ?_ ?_)
      | (with_reducible refine LeO.bind ?_ (fun _ => ?_))
      | exact ih0 _ _ _
      | exact laws_heldInt64S.mono _ _ _
      | exact LeO.none _
      | refine LeO.ite ?_ ?_
      | refine LeO.bind ?_ (fun _ => ?_)
theorem laws_heldInt64SS.mono : ∀ a0 a1 k, LeO (laws_heldInt64SS.f k a0 a1) (laws_heldInt64SS.f (k + 1) a0 a1) := by
  intro a0 a1 k
  have ih0 := laws_heldInt64SS.mono_l k
  unfold laws_heldInt64SS.f
  repeat' first
      | (with_reducible exact ih0 _ _ _)
      | (with_reducible exact laws_heldInt64S.mono _ _ _)
      | (with_reducible exact LeO.refl _)
      | (with_reducible exact LeO.none _)
      | (with_reducible refine LeO.ite ?_ ?_)
      | (with_reducible refine LeO.bind ?_ (fun _ => ?_))
      | exact ih0 _ _ _
      | exact laws_heldInt64S.mono _ _ _
      | exact LeO.none _
      | refine LeO.ite ?_ ?_
      | refine LeO.bind ?_ (fun _ => ?_)
set_option maxHeartbeats 8000000 in
set_option maxRecDepth 100000 in
theorem laws_heldInt64SS.calls (k : Nat) (A0 : Option Addr) (c0 : Nat) (l0 : List (List Int)) (a1 : Int) (r : Int) (w : World) (hr0 : Kd.C (Kd.slice 2 (Kd.int .i64)) w A0 l0.length l0) (hc0 : l0.length ≤ c0) (h : laws_heldInt64SS.f k l0 a1 = some r) :
    Calls Try.prog 33 #[.slice A0 l0.length c0, .int .i64 a1] w fun e w' => e = .returned (.int .i64 r) ∧ Drawn0 w w' := by
  have HR0 := Aside0.mk hr0
  have HC0 := Aside0.mk hc0
  clear hr0 hc0
  have H : (laws_heldInt64SS.l0 k l0 a1 0) = some r := h
  clear h
  have H' := Aside0.mk H
  clear H
  go_enter Try.func33, Try.ntmps33
  go_wp2
  go_loopg [1, 5] k (fun kq v1 v5 w' => ∃ (x1_1 : Int) (x5_1 : Int), v1 = .int .i64 x1_1 ∧ v5 = .int .i64 x5_1 ∧ Aside0 (laws_heldInt64SS.l0 kq l0 x1_1 x5_1 = some r) ∧ Aside0 (kq ≤ k) ∧ Drawn0 w w')
  case atStart => exact ⟨(a1), (0), (by first | rfl | (simp; done) | (simp [*]; done)), (by first | rfl | (simp; done) | (simp [*]; done)), H', ⟨Nat.le_refl _⟩, by repeat (first | exact Drawn0.refl _ | apply Drawn0.step)⟩
  case round =>
    clear H'
    try clear p2
    obtain ⟨x1_1, x5_1, rfl, rfl, HA, HK1, ⟨m1, rfl⟩⟩ := hrel
    cases gk with
    | zero => exact absurd HA.out (by simp [laws_heldInt64SS.l0])
    | succ k1 =>
      have H := HA.out
      clear HA
      simp only [laws_heldInt64SS.l0] at H
      by_cases c3 : x5_1 < (l0.length : Int)
      · rw [if_pos c3] at H
        have c3b0 : decide (x5_1 < (l0.length : Int)) = true := decide_eq_true c3
        clear c3
        by_cases c4 : 0 ≤ x5_1
        · rw [if_pos c4] at H
          have c4b0 : decide (0 ≤ x5_1) = true := decide_eq_true c4
          clear c4
          replace H := Option.bind_eq_some_iff.mp H
          obtain ⟨t359, A50, H⟩ := H
          replace H : (if t359 < 0 then (some (-1)) else (laws_heldInt64SS.l0 k1 l0 t359 (wrap64 (x5_1 + 1)))) = some r := H
          have A5 := Aside0.mk A50
          clear A50
          by_cases c6 : t359 < 0
          · rw [if_pos c6] at H
            have c6b0 : decide (t359 < 0) = true := decide_eq_true c6
            clear c6
            obtain rfl := Option.some.inj H
            have p358 : 0 ≤ (x5_1 : Int) := of_decide_eq_true (by first | (with_reducible assumption) | assumption)
            have q358 : x5_1 < (l0.length : Int) := of_decide_eq_true (by first | (with_reducible assumption) | assumption)
            obtain ⟨ad358, A358_0, c358_0, e358, hx358_0, hl358_0, hi358_0⟩ := at_L2 HR0.out x5_1 p358 q358
            cases e358
            have HR358_0 := Aside0.mk hi358_0
            have HC358_0 := Aside0.mk hl358_0
            clear hi358_0 hl358_0
            replace p358 := eq_true p358
            replace q358 := eq_true q358
            go_wp2_with (first | ((with_reducible refine gate_callee (f := 74) rfl ?_); refine goesL_ (some 17) rfl rfl Try.func74 (by kernel_rfl) rfl #[.slice A358_0 (rd_L2 l0 x5_1).length c358_0, .int .i64 x1_1] rfl (by (try simp only [List.map_toArray, List.map_cons, List.map_nil]); first | done | rfl | (simp only [List.length_drop, List.length_take]; rfl)) ?_; (with_reducible refine (laws_heldInt64S.calls k1 _ _ (rd_L2 l0 x5_1) x1_1 t359 _ ?side1 ?side2 A5.out).mono ?_); (case side1 => repeat (first | exact HR358_0.out | (with_reducible refine Kd.C_alloc ?_ _) | (with_reducible refine Kd.C_drewN ?_ _) | (with_reducible refine Kd.C_drew ?_))); (case side2 => exact HC358_0.out); rintro e w' ⟨rfl, ⟨nd, rfl⟩⟩; refine ⟨_, rfl, ?_⟩))
            go_ret
            exact ⟨by first | rfl | (simp; done) | (simp [*]; done), by repeat (first | exact Drawn0.refl _ | apply Drawn0.step)⟩
          · rw [if_neg c6] at H
            have c6b0 : decide (t359 < 0) = false := decide_eq_false c6
            clear c6
            have H' := Aside0.mk H
            clear H
            have p358 : 0 ≤ (x5_1 : Int) := of_decide_eq_true (by first | (with_reducible assumption) | assumption)
            have q358 : x5_1 < (l0.length : Int) := of_decide_eq_true (by first | (with_reducible assumption) | assumption)
            obtain ⟨ad358, A358_0, c358_0, e358, hx358_0, hl358_0, hi358_0⟩ := at_L2 HR0.out x5_1 p358 q358
            cases e358
            have HR358_0 := Aside0.mk hi358_0
            have HC358_0 := Aside0.mk hl358_0
            clear hi358_0 hl358_0
            replace p358 := eq_true p358
            replace q358 := eq_true q358
            go_wp2_with (first | ((with_reducible refine gate_callee (f := 74) rfl ?_); refine goesL_ (some 17) rfl rfl Try.func74 (by kernel_rfl) rfl #[.slice A358_0 (rd_L2 l0 x5_1).length c358_0, .int .i64 x1_1] rfl (by (try simp only [List.map_toArray, List.map_cons, List.map_nil]); first | done | rfl | (simp only [List.length_drop, List.length_take]; rfl)) ?_; (with_reducible refine (laws_heldInt64S.calls k1 _ _ (rd_L2 l0 x5_1) x1_1 t359 _ ?side1 ?side2 A5.out).mono ?_); (case side1 => repeat (first | exact HR358_0.out | (with_reducible refine Kd.C_alloc ?_ _) | (with_reducible refine Kd.C_drewN ?_ _) | (with_reducible refine Kd.C_drew ?_))); (case side2 => exact HC358_0.out); rintro e w' ⟨rfl, ⟨nd, rfl⟩⟩; refine ⟨_, rfl, ?_⟩))
            go_roundg k1
            case measure => have := HK1.out; omega
            case rel => exact ⟨(t359), (wrap64 (x5_1 + 1)), (by first | rfl | (simp; done) | (simp [*]; done)), (by first | rfl | (simp; done) | (simp [*]; done)), H', ⟨by have := HK1.out; omega⟩, by repeat (first | exact Drawn0.refl _ | apply Drawn0.step)⟩
        · rw [if_neg c4] at H
          exact absurd H (by simp)
      · rw [if_neg c3] at H
        have c3b0 : decide (x5_1 < (l0.length : Int)) = false := decide_eq_false c3
        clear c3
        obtain rfl := Option.some.inj H
        go_wp2
        go_ret
        exact ⟨by first | rfl | (simp; done) | (simp [*]; done), by repeat (first | exact Drawn0.refl _ | apply Drawn0.step)⟩

-- NOT PRINTED: function 4 (laws_FnExactDiffuseDither)

/-! ### impl_DoublingMask: function 34 -/
theorem wrap_dbl {x : Int} (h0 : -9223372036854775808 ≤ x) (h1 : x ≤ 9223372036854775807) : wrap64 x = x := by
  unfold wrap64
  omega
/-- Rows of a matrix, two numbers of a row set. -/
def put2 (nx : List (List Int)) (i k k2 : Nat) (a b : Int) : List (List Int) := nx.set i (((rdR nx i).set k a).set k2 b)
def dblPut (h i k : Nat) (m : Int) (nx : List (List Int)) : List (List Int) := put2 (put2 nx i k (k + h) (wrap64 (4 * m)) (wrap64 (wrap64 (4 * m) + 2))) (i + h) k (k + h) (wrap64 (wrap64 (4 * m) + 3)) (wrap64 (wrap64 (4 * m) + 1))
def dblRow (h i : Nat) (row : List Int) (nx : List (List Int)) (n : Nat) : List (List Int) := (List.range n).foldl (fun nx k => dblPut h i k (rd row (k : Nat)) nx) nx
def dblAll (out nx : List (List Int)) (n : Nat) : List (List Int) := (List.range n).foldl (fun nx i => dblRow out.length i (rdR out i) nx out.length) nx
def dblNext (out : List (List Int)) : List (List Int) := dblAll out (List.replicate (2 * out.length) (List.replicate (2 * out.length) 0)) out.length
def dbl : Nat → List (List Int)
  | 0 => [[0]]
  | n + 1 => dblNext (dbl n)
def SqL (n : Nat) (xs : List (List Int)) : Prop := xs.length = n ∧ ∀ j, j < n → (rdR xs j).length = n
theorem SqL.put2 {n : Nat} {xs : List (List Int)} (h : SqL n xs) (i k k2 : Nat) (a b : Int) (hi : i < n) : SqL n (put2 xs i k k2 a b) := by
  obtain ⟨h1, h2⟩ := h
  refine ⟨by unfold P.put2; rw [List.length_set, h1], fun j hj => ?_⟩
  unfold P.put2 rdR
  rw [List.getD_eq_getElem?_getD]
  by_cases e : j = i
  · subst e
    rw [List.getElem?_set_self (by omega)]
    simp
    exact h2 j hj
  · rw [List.getElem?_set_ne (Ne.symm e), ← List.getD_eq_getElem?_getD]
    exact h2 j hj
theorem SqL.dblPut {n : Nat} {xs : List (List Int)} (h : SqL n xs) (hh i k : Nat) (m : Int) (hi : i + hh < n) : SqL n (dblPut hh i k m xs) := by
  unfold P.dblPut
  exact (h.put2 _ _ _ _ _ (by omega)).put2 _ _ _ _ _ hi
theorem dblRow_succ (h i : Nat) (row : List Int) (nx : List (List Int)) (n : Nat) : dblRow h i row nx (n + 1) = dblPut h i n (rd row (n : Nat)) (dblRow h i row nx n) := by
  unfold dblRow
  rw [List.range_succ, List.foldl_append]
  rfl
theorem dblAll_succ (out nx : List (List Int)) (n : Nat) : dblAll out nx (n + 1) = dblRow out.length n (rdR out n) (dblAll out nx n) out.length := by
  unfold dblAll
  rw [List.range_succ, List.foldl_append]
  rfl
theorem SqL.dblRow {N : Nat} {xs : List (List Int)} (h : SqL N xs) (hh i : Nat) (row : List Int) (hi : i + hh < N) (n : Nat) : SqL N (dblRow hh i row xs n) := by
  induction n with
  | zero => exact h
  | succ n ih =>
    rw [dblRow_succ]
    exact ih.dblPut _ _ _ _ hi
theorem SqL.dblAll {N : Nat} {xs out : List (List Int)} (h : SqL N xs) (hN : N = 2 * out.length) (n : Nat) (hn : n ≤ out.length) : SqL N (dblAll out xs n) := by
  induction n with
  | zero => exact h
  | succ n ih =>
    rw [dblAll_succ]
    exact (ih (by omega)).dblRow _ _ _ (by omega) _
theorem SqL.zeros (n : Nat) : SqL n (List.replicate n (List.replicate n (0 : Int))) := ⟨by simp, fun j hj => by simp [rdR, List.getD_eq_getElem?_getD, hj]⟩
theorem dbl_sq (m : Nat) : SqL (2 ^ m) (dbl m) := by
  induction m with
  | zero => exact ⟨rfl, fun j hj => by have : j = 0 := by omega
                                       subst this
                                       rfl⟩
  | succ m ih =>
    have hl := ih.1
    unfold dbl dblNext
    have := (SqL.zeros (2 * (dbl m).length)).dblAll (out := dbl m) rfl (dbl m).length (Nat.le_refl _)
    rw [Nat.pow_succ, Nat.mul_comm, ← hl]
    exact this
theorem noughts_row (n : Nat) (z : List Int) (hz : z.length ≤ 35184372088832) (d : Nat) : ∀ (i : Nat) (x5 : List (List Int)), n - i = d → i ≤ n → n ≤ 9223372036854775807 → x5.length = n → x5.take i = List.replicate i (List.replicate z.length 0) → ∃ k, impl_noughts.l0 k z.length x5 n i = some (List.replicate n (List.replicate z.length 0)) := by
  induction d with
  | zero =>
    intro i x5 hd hi hn hx ht
    obtain rfl : i = n := by omega
    refine ⟨1, ?_⟩
    simp only [impl_noughts.l0]
    rw [if_neg (by omega), ← ht, ← hx, List.take_length]
  | succ d ih =>
    intro i x5 hd hi hn hx ht
    obtain ⟨k, hk⟩ := ih (i + 1) (x5.set i (List.replicate z.length 0)) (by omega) (by omega) hn (by simpa using hx) (by
      apply List.ext_getElem?
      intro j
      rw [List.getElem?_take, List.getElem?_replicate]
      by_cases e : j < i
      · have := congrArg (fun l => l[j]?) ht
        simp only [List.getElem?_take, List.getElem?_replicate, if_pos e] at this
        rw [if_pos (by omega), if_pos (by omega), List.getElem?_set_ne (by omega)]
        exact this
      · by_cases e2 : j = i
        · subst e2
          rw [if_pos (by omega), if_pos (by omega), List.getElem?_set_self (by omega)]
        · rw [if_neg (by omega), if_neg (by omega)])
    refine ⟨k + 1, ?_⟩
    simp only [impl_noughts.l0]
    have hw : wrap64 ((i : Int) + 1) = ((i + 1 : Nat) : Int) := by rw [wrap_dbl (by omega) (by omega)]; omega
    rw [if_pos (by omega), if_pos (by omega), if_pos (by omega), if_pos (by omega), if_pos (by omega), hw]
    exact hk
theorem noughts_val (n m : Nat) (hn : n ≤ 11728124029610) (hm : m ≤ 35184372088832) : ∃ k, impl_noughts.f k n m = some (List.replicate n (List.replicate m 0)) := by
  obtain ⟨k, hk⟩ := noughts_row n (List.replicate m 0) (by simpa using hm) n 0 (List.replicate n []) (by omega) (by omega) (by omega) (by simp) (by simp)
  refine ⟨k, ?_⟩
  unfold impl_noughts.f
  rw [if_pos (by omega), if_pos (by omega)]
  simp only [Int.toNat_natCast, Option.bind_some, List.length_replicate] at hk ⊢
  exact hk
def impl_DoublingMask.f (a0 : Int) : Option (List (List Int) × Bool) := some (if decide (0 ≤ a0) && decide (a0 ≤ 3) then (dbl a0.toNat, true) else ([], false))
theorem dbl_two (m : Nat) : (dbl (m + 1)) = dblAll (dbl m) (List.replicate (2 * (dbl m).length) (List.replicate (2 * (dbl m).length) 0)) (dbl m).length := rfl
/-- Two numbers of one of our rows are set. -/
theorem put2_S {W : World} {base : Nat} {g6 : Nat} {n c : Nat} {xs : List (List Int)} (h : Kd.S (Kd.slice 2 (Kd.int .i64)) 31 W base (fun _ => True) (.slice (some ⟨g6, 0, none⟩) n c) xs) (i k k2 : Nat) (hi : i < n) (hk : k < (rdR xs i).length) (hk2 : k2 < (rdR xs i).length) :
    ∃ g cap, W.cell? (Addr.add ⟨g6, 0, none⟩ i) = some (.slice (some ⟨g, 0, none⟩) (rdR xs i).length cap) ∧ base ≤ g ∧ g ≠ g6 ∧
      (∀ j : Nat, j < (rdR xs i).length → W.cell? ⟨g, j, none⟩ = some (.int .i64 (rd (rdR xs i) (j : Nat))) ∧ W.frozen? ⟨g, j, none⟩ = false) ∧
      (∀ a : Int, (W.setCell ⟨g, k, none⟩ (.int .i64 a)).cell? ⟨g, k2, none⟩ = some (.int .i64 (rd ((rdR xs i).set k a) (k2 : Nat))) ∧ (W.setCell ⟨g, k, none⟩ (.int .i64 a)).frozen? ⟨g, k2, none⟩ = false) ∧
      ∀ a b : Int, Kd.S (Kd.slice 2 (Kd.int .i64)) 31 ((W.setCell ⟨g, k, none⟩ (.int .i64 a)).setCell ⟨g, k2, none⟩ (.int .i64 b)) base (fun _ => True) (.slice (some ⟨g6, 0, none⟩) n c) (put2 xs i k k2 a b) := by
  obtain ⟨oki, ce, hcl, hM, hcc, hok, hbk⟩ := Kd.S_borrow h ([] : List Int) (i : Int) (by omega) (by omega)
  obtain ⟨ve, rfl, ge⟩ := hM
  have hv := hcc 0 _ rfl
  have ge' : Kd.R (Kd.int .i64) 2 W base oki ve (rdR xs i) := ge
  clear ge
  obtain ⟨g, cap, rfl, hb, hlt, HG⟩ := Kd.R_form ge' (by omega)
  have hlen1 : ∀ a : Int, ((rdR xs i).set k a).length = (rdR xs i).length := fun a => by simp
  have p1 : ∀ a : Int, _ := fun a => Kd.R_putg ge' (k : Int) a
  simp only [Int.toNat_natCast] at p1
  refine ⟨g, cap, ?_, hb, ?_, fun j hj => ?_, fun a => ?_, fun a b => ?_⟩
  · rw [Int.toNat_natCast, show ((Kd.slice 2 (Kd.int .i64))).sz = 1 from rfl] at hv
    simpa using hv
  · have := (hok g (ge'.1 _ rfl)).2
    intro e
    subst e
    exact this rfl
  · have q1 := Kd.R_celln (0 : Int) ge' (j : Int) (by omega) (by omega)
    rw [Int.toNat_natCast] at q1
    exact q1
  · have q2 := Kd.R_celln (0 : Int) (p1 a).1 (k2 : Int) (by omega) (by omega)
    rw [Int.toNat_natCast] at q2
    exact q2
  · have p2 := Kd.R_putg (p1 a).1 (k2 : Int) b
    rw [Int.toNat_natCast] at p2
    have hS := hbk (World.grownBy.trans (p1 a).2 p2.2) (fun q e => by injection e with e; subst e; exact ge'.1 _ rfl) (x' := ((rdR xs i).set k a).set k2 b) (Kd.M_row p2.1)
    rw [Int.toNat_natCast] at hS
    exact hS
theorem add_head (g i : Nat) : Addr.add ⟨g, 0, none⟩ i = ⟨g, i, none⟩ := by
  unfold Addr.add
  split
  · next h => rw [h]
  · simp
theorem within_dbl (a b c : Int) : impl_within.f a b c = some (decide (b ≤ a) && decide (a ≤ c)) := by
  unfold impl_within.f
  by_cases h : b ≤ a <;> by_cases h2 : a ≤ c <;> simp [h, h2]
theorem impl_DoublingMask.bad (a0 : Int) (w : World) (hw : impl_within.f a0 0 3 = some false) :
    Calls Try.prog 34 #[.int .i64 a0] w fun e w' => ∃ v0_ : Value, e = .returned (.tuple #[v0_, .bool false]) ∧ Kd.S (Kd.slice 2 (Kd.int .i64)) 31 w' w.heap.size (fun _ => True) v0_ ([] : List (List Int)) ∧ Below w.heap.size w w' := by
  have HW := Aside0.mk hw
  clear hw
  go_enter Try.func34, Try.ntmps34
  go_wp2_with (first | (go_at_call 47; refine (impl_within.calls _ _ _ false _ HW.out).mono ?_; rintro e w2 ⟨rfl, ⟨nd, rfl⟩⟩) | go_in)
  go_ret2
  exact ⟨_, rfl, Kd.S_nil _ _ _ _ _, by first | exact Below.refl _ _ | exact pw_below_drewN (Below.refl _ _) _⟩
theorem dbl_small (m : Nat) (h : m ≤ 3) : (dbl m).length ≤ 8 ∧ 0 < (dbl m).length := by
  have hl := (dbl_sq m).1
  rw [hl]
  have : 2 ^ m ≤ 2 ^ 3 := Nat.pow_le_pow_right (by omega) h
  exact ⟨this, Nat.pow_pos (by omega)⟩
set_option maxRecDepth 100000 in
set_option maxHeartbeats 4000000 in
theorem impl_DoublingMask.good (m : Nat) (w : World) (h3 : m ≤ 3) (hw : impl_within.f (m : Int) 0 3 = some true) :
    Calls Try.prog 34 #[.int .i64 (m : Int)] w fun e w' => ∃ v0_ : Value, e = .returned (.tuple #[v0_, .bool true]) ∧ Kd.S (Kd.slice 2 (Kd.int .i64)) 31 w' w.heap.size (fun _ => True) v0_ (dbl m) ∧ Below w.heap.size w w' := by
  have HW := Aside0.mk hw
  obtain ⟨k1, hk1⟩ := noughts_val 1 1 (by omega) (by omega)
  have HK1 := Aside0.mk hk1
  clear hw hk1
  go_enter Try.func34, Try.ntmps34
  go_wp2_with (first | (go_at_call 47; refine (impl_within.calls _ _ _ true _ HW.out).mono ?_; rintro e w2 ⟨rfl, ⟨nd, rfl⟩⟩) | (go_at_call 50; refine (impl_noughts.calls k1 1 1 (List.replicate 1 (List.replicate 1 0)) _ HK1.out).mono ?_; rintro e w3 ⟨v3, rfl, hS3, hb3⟩; have HS3 := Aside0.mk (Kd.S_lower hS3 (pw_below_drewN (Below.refl w.heap.size w) _).size); have HB3 := Aside0.mk (below_then (pw_below_drewN (Below.refl w.heap.size w) _) (pw_below_drewN (Below.refl w.heap.size w) _).size hb3); clear hS3 hb3) | go_in)
  go_loopg [4, 5, 6, 7, 8, 9, 10, 16] m (fun gg v4 _ _ _ _ _ _ v16 w' => ∃ mm : Nat, mm ≤ m ∧ m - mm ≤ gg ∧ v16 = .int .i64 mm ∧ Aside0 (Kd.S (Kd.slice 2 (Kd.int .i64)) 31 w' w.heap.size (fun _ => True) v4 (dbl mm)) ∧ Aside0 (Below w.heap.size w w'))
  case atStart => exact ⟨0, Nat.zero_le _, by omega, rfl, HS3, HB3⟩
  case round =>
    clear HS3 HB3
    obtain ⟨mm, hmm, hg, rfl, HS, HB⟩ := hrel
    by_cases hlt : mm < m
    · have hltz : (mm : Int) < (m : Int) := by omega
      obtain ⟨wa, hwa⟩ : ∃ x, x = wr := ⟨_, rfl⟩
      subst hwa
      obtain ⟨A4, c4, rfl, hl4, hC4⟩ := Kd.S_reads HS.out
      have HC4 := Aside0.mk hC4
      have HL4 := Aside0.mk hl4
      have hsm := dbl_small mm (by omega)
      have hsq := dbl_sq mm
      have hrows : ∀ j, j < (dbl mm).length → (rdR (dbl mm) j).length = (dbl mm).length := fun j hj => by rw [hsq.1] at hj ⊢; exact hsq.2 j hj
      have hnext : dbl (mm + 1) = dblNext (dbl mm) := rfl
      generalize dbl mm = out at *
      obtain ⟨k2, hk2⟩ := noughts_val (2 * out.length) (2 * out.length) (by omega) (by omega)
      have HK2 := Aside0.mk (show impl_noughts.f k2 (2 * (out.length : Int)) (2 * (out.length : Int)) = some (List.replicate (2 * out.length) (List.replicate (2 * out.length) 0)) from by simpa using hk2)
      have HROW := Aside0.mk hrows
      have HNEXT := Aside0.mk hnext
      have hs1 := hsm.1
      have hs2 := hsm.2
      clear hC4 hl4 hsm hsq hk2 hrows hnext
      go_wp2_with (first | (go_at_call 50; refine (impl_noughts.calls k2 _ _ _ _ HK2.out).mono ?_; rintro e w6 ⟨v6, rfl, hS6, hb6⟩; have HS6 := Aside0.mk hS6; have HB6 := Aside0.mk hb6; clear hS6 hb6) | go_in)
      obtain ⟨A6, c6, rfl, hl6, _⟩ := Kd.S_reads HS6.out
      rw [List.length_replicate] at hl6
      obtain ⟨g6, _, e6, _⟩ := Kd.R_form (Kd.S_R HS6.out) (by rw [List.length_replicate]; omega)
      rw [List.length_replicate] at e6
      injection e6 with e6 _ e7
      subst e6 e7
      simp only [List.length_replicate]
      have HNX := Aside0.mk (show dbl (mm + 1) = dblAll out (List.replicate (2 * out.length) (List.replicate (2 * out.length) 0)) out.length from HNEXT.out)
      have HZ := Aside0.mk (SqL.zeros (2 * out.length))
      have hS6 := HS6.out
      have hNX := HNX.out
      clear HNX HNEXT HS6 HK2 hl6
      generalize List.replicate (2 * out.length) (List.replicate (2 * out.length) (0 : Int)) = zs at *
      rw [HZ.out.1] at hS6
      have HNX := Aside0.mk hNX
      have HS6 := Aside0.mk hS6
      clear hNX hS6
      go_loopg [7, 8, 9, 10, 27] out.length (fun gg _ _ _ _ v27 w' => ∃ ii : Nat, ii ≤ out.length ∧ out.length - ii ≤ gg ∧ v27 = .int .i64 ii ∧ Aside0 (Kd.S (Kd.slice 2 (Kd.int .i64)) 31 w' wa.heap.size (fun _ => True) (.slice (some ⟨g6, 0, none⟩) (2 * out.length) c6) (dblAll out zs ii)) ∧ Aside0 (Below wa.heap.size wa w'))
      case atStart => exact ⟨0, Nat.zero_le _, by omega, rfl, HS6, HB6⟩
      case round =>
        clear HS6 HB6
        obtain ⟨ii, hii, hg2, rfl, HS6, HB6⟩ := hrel
        by_cases hlt2 : ii < out.length
        · have hltz2 : (ii : Int) < (out.length : Int) := by omega
          obtain ⟨ad, e0, hat⟩ := at_rows HC4.out (by omega)
          obtain ⟨A1, d1, hx0, hdx, hC1⟩ := hat ii hlt2
          subst e0
          have hx := pw_cell_below HB6.out hx0
          rw [HROW.out ii hlt2] at hx hC1
          have HC1 := Aside0.mk hC1
          clear hx0 hdx hat hC1
          go_wp2
          go_loopg [9, 10, 34] out.length (fun gg _ _ v34 w' => ∃ jj : Nat, jj ≤ out.length ∧ out.length - jj ≤ gg ∧ v34 = .int .i64 jj ∧ Aside0 (Kd.S (Kd.slice 2 (Kd.int .i64)) 31 w' wa.heap.size (fun _ => True) (.slice (some ⟨g6, 0, none⟩) (2 * out.length) c6) (dblRow out.length ii (rdR out ii) (dblAll out zs ii) jj)) ∧ Aside0 (Below wa.heap.size wa w'))
          case atStart => exact ⟨0, Nat.zero_le _, by omega, rfl, HS6, HB6⟩
          case round =>
            clear HS6 HB6 hx
            obtain ⟨jj, hjj, hg3, rfl, HS6, HB6⟩ := hrel
            by_cases hlt3 : jj < out.length
            · have hltz3 : (jj : Int) < (out.length : Int) := by omega
              obtain ⟨ad2, e2, hcell⟩ := cells_of_C (Kd.C_below HC1.out HB6.out) (by omega)
              subst e2
              have hy := hcell jj hlt3
              clear hcell
              have HSUC := Aside0.mk (dblRow_succ out.length ii (rdR out ii) (dblAll out zs ii) jj)
              have HSQ := Aside0.mk ((HZ.out.dblAll (out := out) rfl ii hii).dblRow out.length ii (rdR out ii) (by omega) jj)
              have hsuc := HSUC.out
              have hS := HS6.out
              have hsq := HSQ.out
              clear HSUC HS6 HSQ
              generalize hnx : dblRow out.length ii (rdR out ii) (dblAll out zs ii) jj = nx at hsuc hS hsq
              generalize hxv : rd (rdR out ii) (jj : Nat) = xv at hsuc hy
              clear hnx hxv
              have HSUC := Aside0.mk hsuc
              have HSQ := Aside0.mk hsq
              obtain ⟨ga, capa, hca, hba, hne, hcells, hsec, hS2⟩ := put2_S hS ii jj (jj + out.length) (by omega) (by rw [hsq.2 _ (by omega)]; omega) (by rw [hsq.2 _ (by omega)]; omega)
              rw [hsq.2 _ (by omega)] at hca hcells
              rw [add_head] at hca
              have hc1 := (hcells jj (by omega)).1
              have hf1 := (hcells jj (by omega)).2
              have hc3 := fun a => (hsec a).1
              have hf3 := fun a => (hsec a).2
              have hk1 : ∀ v : Value, (wr.setCell ⟨ga, jj, none⟩ v).cell? ⟨g6, ii, none⟩ = some (.slice (some ⟨ga, 0, none⟩) (2 * out.length) capa) := fun v => by
                rw [World.cell?_setCell_far _ _ _ _ hne]
                exact hca
              have HS2 := Aside0.mk hS2
              clear hcells hsec hS2 hS hsuc hsq
              go_wp2
              have i1 : (0 : Int) ≤ (ii : Int) := by omega
              have i2 : (ii : Int) < 2 * (out.length : Int) := by omega
              have i3 : (0 : Int) ≤ (jj : Int) := by omega
              have i4 : (jj : Int) < 2 * (out.length : Int) := by omega
              have i5 : (0 : Int) ≤ (jj : Int) + (out.length : Int) := by omega
              have i6 : (jj : Int) + (out.length : Int) < 2 * (out.length : Int) := by omega
              have i7 : IntKind.i64.wrap ((jj : Int) + (out.length : Int)) = (jj : Int) + (out.length : Int) := (i64_w _).trans (wrap_dbl (by omega) (by omega))
              have i8 : ((jj : Int) + (out.length : Int)).toNat = jj + out.length := by omega
              go_region_held3 (fun w' => w'.cell? ⟨g6, ii, none⟩ = some (.slice (some ⟨ga, 0, none⟩) (2 * out.length) capa)) (go_keep) (fail)
              have hS3 := Kd.S_drew (HS2.out (IntKind.i64.wrap (4 * xv)) (IntKind.i64.wrap (IntKind.i64.wrap (4 * xv) + 2)))
              have hB7 : Below wa.heap.size wa ((wr.setCell ⟨ga, jj, none⟩ (.int .i64 (IntKind.i64.wrap (4 * xv)))).setCell ⟨ga, jj + out.length, none⟩ (.int .i64 (IntKind.i64.wrap (IntKind.i64.wrap (4 * xv) + 2)))).drew := by
                refine below_drew1 ?_
                exact below_set (below_set HB6.out hba) hba
              clear HS2 HB6 hca hne hc1 hf1 hc3 hf3 hk1 hba hy
              generalize ((wr.setCell ⟨ga, jj, none⟩ (.int .i64 (IntKind.i64.wrap (4 * xv)))).setCell ⟨ga, jj + out.length, none⟩ (.int .i64 (IntKind.i64.wrap (IntKind.i64.wrap (4 * xv) + 2)))).drew = wb at hS3 hB7 ⊢
              simp only [i64_w] at hS3
              have HB7 := Aside0.mk hB7
              have hsq := HSQ.out.put2 ii jj (jj + out.length) (wrap64 (4 * xv)) (wrap64 (wrap64 (4 * xv) + 2)) (by omega)
              have HSUC2 := Aside0.mk (show dblRow out.length ii (rdR out ii) (dblAll out zs ii) (jj + 1) = put2 (put2 nx ii jj (jj + out.length) (wrap64 (4 * xv)) (wrap64 (wrap64 (4 * xv) + 2))) (ii + out.length) jj (jj + out.length) (wrap64 (wrap64 (4 * xv) + 3)) (wrap64 (wrap64 (4 * xv) + 1)) from HSUC.out)
              have hsuc := HSUC2.out
              clear hB7 HSUC HSUC2
              generalize put2 nx ii jj (jj + out.length) (wrap64 (4 * xv)) (wrap64 (wrap64 (4 * xv) + 2)) = ny at hS3 hsq hsuc
              have HSUC := Aside0.mk hsuc
              obtain ⟨gb, capb, hca, hba, hne, hcells, hsec, hS2⟩ := put2_S hS3 (ii + out.length) jj (jj + out.length) (by omega) (by rw [hsq.2 _ (by omega)]; omega) (by rw [hsq.2 _ (by omega)]; omega)
              rw [hsq.2 _ (by omega)] at hca hcells
              rw [add_head] at hca
              have hc1 := (hcells jj (by omega)).1
              have hf1 := (hcells jj (by omega)).2
              have hc3 := fun a => (hsec a).1
              have hf3 := fun a => (hsec a).2
              have hk1 : ∀ v : Value, (wb.setCell ⟨gb, jj, none⟩ v).cell? ⟨g6, ii + out.length, none⟩ = some (.slice (some ⟨gb, 0, none⟩) (2 * out.length) capb) := fun v => by
                rw [World.cell?_setCell_far _ _ _ _ hne]
                exact hca
              have HS2 := Aside0.mk hS2
              clear hcells hsec hS2 hS3 hsuc hsq
              go_wp2
              have j1 : (0 : Int) ≤ (ii : Int) + (out.length : Int) := by omega
              have j2 : (ii : Int) + (out.length : Int) < 2 * (out.length : Int) := by omega
              have j7 : IntKind.i64.wrap ((ii : Int) + (out.length : Int)) = (ii : Int) + (out.length : Int) := (i64_w _).trans (wrap_dbl (by omega) (by omega))
              have j8 : ((ii : Int) + (out.length : Int)).toNat = ii + out.length := by omega
              go_region_held3 (fun w' => w'.cell? ⟨g6, ii + out.length, none⟩ = some (.slice (some ⟨gb, 0, none⟩) (2 * out.length) capb)) (go_keep) (fail)
              have hS4 := Kd.S_drew (HS2.out (IntKind.i64.wrap (IntKind.i64.wrap (4 * xv) + 3)) (IntKind.i64.wrap (IntKind.i64.wrap (4 * xv) + 1)))
              have hB8 : Below wa.heap.size wa ((wb.setCell ⟨gb, jj, none⟩ (.int .i64 (IntKind.i64.wrap (IntKind.i64.wrap (4 * xv) + 3)))).setCell ⟨gb, jj + out.length, none⟩ (.int .i64 (IntKind.i64.wrap (IntKind.i64.wrap (4 * xv) + 1)))).drew := by
                refine below_drew1 ?_
                exact below_set (below_set HB7.out hba) hba
              clear HS2 HB7 hca hne hc1 hf1 hc3 hf3 hk1 hba
              generalize ((wb.setCell ⟨gb, jj, none⟩ (.int .i64 (IntKind.i64.wrap (IntKind.i64.wrap (4 * xv) + 3)))).setCell ⟨gb, jj + out.length, none⟩ (.int .i64 (IntKind.i64.wrap (IntKind.i64.wrap (4 * xv) + 1)))).drew = wc at hS4 hB8 ⊢
              simp only [i64_w] at hS4
              rw [← HSUC.out] at hS4
              have HS4 := Aside0.mk hS4
              have HB8 := Aside0.mk hB8
              clear hS4 hB8
              go_wp2
              go_roundg (out.length - (jj + 1))
              case measure => omega
              case rel => exact ⟨jj + 1, by omega, by omega, by go_num, HS4, HB8⟩
            · have hltz3 : ¬ (jj : Int) < (out.length : Int) := by omega
              obtain rfl : jj = out.length := by omega
              have HSUC := Aside0.mk (dblAll_succ out zs ii)
              go_wp2
              go_roundg (out.length - (ii + 1))
              case measure => omega
              case rel => exact ⟨ii + 1, by omega, by omega, by go_num, ⟨by rw [HSUC.out]; exact HS6.out⟩, HB6⟩
        · have hltz2 : ¬ (ii : Int) < (out.length : Int) := by omega
          obtain rfl : ii = out.length := by omega
          have hS7 := Aside0.mk (show Kd.S (Kd.slice 2 (Kd.int .i64)) 31 wr w.heap.size (fun _ => True) (.slice (some ⟨g6, 0, none⟩) (2 * out.length) c6) (dbl (mm + 1)) from by rw [HNX.out]; exact Kd.S_lower HS6.out HB.out.size)
          have hB9 := Aside0.mk (below_then HB.out HB.out.size HB6.out)
          go_wp2
          go_roundg (m - (mm + 1))
          case measure => omega
          case rel => exact ⟨mm + 1, by omega, by omega, by go_num, hS7, hB9⟩
    · have hltz : ¬ (mm : Int) < (m : Int) := by omega
      obtain rfl : mm = m := by omega
      go_wp2
      go_ret2
      exact ⟨_, rfl, HS.out, HB.out⟩
theorem impl_DoublingMask.calls (a0 : Int) (r1 : List (List Int)) (r2 : Bool) (w : World) (h : impl_DoublingMask.f a0 = some (r1, r2)) :
    Calls Try.prog 34 #[.int .i64 a0] w fun e w' => ∃ v0_ : Value, e = .returned (.tuple #[v0_, .bool r2]) ∧ Kd.S (Kd.slice 2 (Kd.int .i64)) 31 w' w.heap.size (fun _ => True) v0_ r1 ∧ Below w.heap.size w w' := by
  have h' := Option.some.inj h
  clear h
  have hW := within_dbl a0 0 3
  by_cases c : (decide (0 ≤ a0) && decide (a0 ≤ 3)) = true
  · rw [c] at h' hW
    have e1 : dbl a0.toNat = r1 := congrArg Prod.fst h'
    have e2 : true = r2 := congrArg Prod.snd h'
    subst e1 e2
    simp only [Bool.and_eq_true, decide_eq_true_eq] at c
    obtain ⟨m, rfl⟩ : ∃ m : Nat, a0 = (m : Int) := ⟨a0.toNat, by omega⟩
    exact impl_DoublingMask.good m w (by omega) hW
  · rw [Bool.not_eq_true] at c
    rw [c] at h' hW
    have e1 : ([] : List (List Int)) = r1 := congrArg Prod.fst h'
    have e2 : false = r2 := congrArg Prod.snd h'
    subst e1 e2
    exact impl_DoublingMask.bad a0 w hW

/-! ### slices_Concat_int64_int64_78: function 78 -/
theorem infoInt : (Try.prog.info? 2).map (fun i => (i.zero, i.size, i.bytes)) = some (some (.int .i64 0), 1, 8) := by kernel_rfl
/-- slices.Grow(nil, n). -/
theorem slices_Grow_int.nil (S : Nat) (hS : S < 17592186044416) (w : World) :
    Calls Try.prog 102 #[.slice none 0 0, .int .i64 S] w fun e w' => ∃ v0_ : Value, e = .returned v0_ ∧ Kd.R (Kd.int .i64) 2 w' w.heap.size (fun _ => True) v0_ ([] : List Int) ∧ Below w.heap.size w w' := by
  rcases Nat.eq_zero_or_pos S with h0 | h0
  · subst h0
    go_enter Try.func102, Try.ntmps102
    go_wp2
    go_ret
    exact ⟨_, rfl, Kd.R_nil _ _ _ _ _, Below.refl _ _⟩
  · have hp : 0 < (S : Int) := by omega
    have hp0 : ¬ (S : Int) < 0 := by omega
    go_enter Try.func102, Try.ntmps102
    go_wp2_with (first | ((with_reducible refine gate_dst (N := 22) rfl ?_); at_builtin; refine Kd.R_append_zeros (Kd.int .i64) (w0 := w) w.heap.size rfl (.tmp 20) (.tmp 21) 31 3 2 (.int .i64 0) 8 rfl Try.underlying31 Try.underlying3 infoInt rfl (by decide) (by omega) (.slice none 0 0) ([] : List Int) (0 : Int) (S : Int) (fun _ => True) rfl rfl rfl (fun _ _ => trivial) (Kd.R_nil _ _ _ _ _) (by omega) (Below.refl _ _) (Nat.le_refl _) (by simp; omega) ?_; intro v1 w1 h1 hb1 _ _; obtain ⟨A1, c1, rfl, hl1, hC1⟩ := Kd.R_reads h1; have HR1 := Aside0.mk h1; have HB1 := Aside0.mk hb1; clear h1 hb1))
    go_ret
    exact ⟨_, rfl, Kd.R_take HR1.out (m := 0) (Nat.zero_le _), HB1.out⟩
def sumLen (l0 : List (List Int)) (k : Nat) : Nat := (l0.take k).flatten.length
theorem sumLen_succ (l0 : List (List Int)) (k : Nat) (h : k < l0.length) : sumLen l0 (k + 1) = sumLen l0 k + (rdR l0 k).length := by
  unfold sumLen
  rw [List.take_succ_eq_append_getElem h, List.flatten_append, List.length_append, rdR_mem h]
  simp
theorem flat_succ (l0 : List (List Int)) (k : Nat) (h : k < l0.length) : (l0.take (k + 1)).flatten = (l0.take k).flatten ++ rdR l0 k := by
  rw [List.take_succ_eq_append_getElem h, List.flatten_append, rdR_mem h]
  simp
theorem sumLen_le (l0 : List (List Int)) (k : Nat) : sumLen l0 k ≤ l0.flatten.length := by
  unfold sumLen
  conv => rhs; rw [← List.take_append_drop k l0, List.flatten_append, List.length_append]
  omega
theorem sumLen_all (l0 : List (List Int)) : sumLen l0 l0.length = l0.flatten.length := by
  unfold sumLen
  rw [List.take_length]
def slices_Concat_int64.f (l0 : List (List Int)) : Option (List Int) := if l0.flatten.length < 17592186044416 then some l0.flatten else none
set_option maxHeartbeats 2000000 in
theorem slices_Concat_int64.calls (A0 : Option Addr) (c0 : Nat) (l0 : List (List Int)) (r : List Int) (w : World) (hr0 : Kd.C (Kd.slice 2 (Kd.int .i64)) w A0 l0.length l0) (hc0 : l0.length ≤ c0) (h : slices_Concat_int64.f l0 = some r) :
    Calls Try.prog 78 #[.slice A0 l0.length c0] w fun e w' => ∃ v0_ : Value, e = .returned (v0_) ∧ Kd.R (Kd.int .i64) 2 w' w.heap.size (fun _ => True) v0_ r ∧ Below w.heap.size w w' := by
  have hlim : l0.flatten.length < 17592186044416 := by
    unfold slices_Concat_int64.f at h
    split at h
    · assumption
    · cases h
  have hr : l0.flatten = r := by
    unfold slices_Concat_int64.f at h
    rw [if_pos hlim] at h
    exact Option.some.inj h
  subst hr
  clear h
  have hmax := Kd.C_max hr0
  have HR0 := Aside0.mk hr0
  have HLIM := Aside0.mk hlim
  clear hr0 hlim
  go_enter Try.func78, Try.ntmps78
  go_wp2
  go_loopg [3, 5, 11] l0.length (fun gg v3 _ v11 w' => ∃ kk : Nat, kk ≤ l0.length ∧ l0.length - kk ≤ gg ∧ v11 = .int .i64 kk ∧ v3 = .int .i64 (sumLen l0 kk) ∧ w = w')
  case atStart => exact ⟨0, Nat.zero_le _, by omega, rfl, by simp [sumLen], rfl⟩
  case round =>
    obtain ⟨kk, hkk, hg, rfl, rfl, rfl⟩ := hrel
    by_cases hlt : kk < l0.length
    · have hltz : (kk : Int) < (l0.length : Int) := by omega
      obtain ⟨ad, rfl, hat⟩ := at_rows HR0.out (by omega)
      obtain ⟨A1, d1, hx, hdx, hC1⟩ := hat kk hlt
      clear hat hC1
      have hS := sumLen_succ l0 kk hlt
      have hS2 := sumLen_le l0 (kk + 1)
      have hS3 := HLIM.out
      have hS6 : sumLen l0 kk + (rdR l0 kk).length ≤ 9223372036854775807 := by omega
      have HS := Aside0.mk hS
      clear hS hS2 hS3
      go_wp2
      go_roundg (l0.length - (kk + 1))
      case measure => omega
      case rel => exact ⟨kk + 1, by omega, by omega, by go_num, by rw [HS.out]; go_num, rfl⟩
    · have hltz : ¬ (kk : Int) < (l0.length : Int) := by omega
      obtain rfl : kk = l0.length := by omega
      rw [sumLen_all]
      have hL := HLIM.out
      generalize hT : l0.flatten.length = T at hL
      have HT := Aside0.mk hT
      have HL := Aside0.mk hL
      clear hT hL
      go_wp2_with (go_at_call 102; refine (slices_Grow_int.nil T HL.out _).mono ?_; rintro e w1 ⟨v1, rfl, hR1, hB1⟩; have HR1 := Aside0.mk hR1; have HB1 := Aside0.mk hB1; clear hR1 hB1)
      go_loopg [6, 8, 27] l0.length (fun gg v6 _ v27 w' => ∃ kk : Nat, kk ≤ l0.length ∧ l0.length - kk ≤ gg ∧ v27 = .int .i64 kk ∧ Aside0 (Kd.R (Kd.int .i64) 2 w' w.heap.size (fun _ => True) v6 (l0.take kk).flatten) ∧ Aside0 (Below w.heap.size w w'))
      case atStart => exact ⟨0, Nat.zero_le _, by omega, rfl, ⟨HR1.out⟩, HB1⟩
      case round =>
        clear HR1 HB1
        obtain ⟨kk, hkk, hg, rfl, HO, HB⟩ := hrel
        by_cases hlt : kk < l0.length
        · have hltz2 : (kk : Int) < (l0.length : Int) := by omega
          obtain ⟨ad, rfl, hat⟩ := at_rows (Kd.C_below HR0.out HB.out) (by omega)
          obtain ⟨A1, d1, hx, hdx, hC1⟩ := hat kk hlt
          clear hat
          have HC := Aside0.mk hC1
          have HF := Aside0.mk (flat_succ l0 kk hlt)
          have hLL : (l0.take kk).flatten.length + (rdR l0 kk).length < 17592186044416 := by
            have e1 := sumLen_succ l0 kk hlt
            have e2 := sumLen_le l0 (kk + 1)
            have e3 := HL.out
            have e4 := HT.out
            unfold sumLen at e1 e2
            omega
          have HLL := Aside0.mk hLL
          clear hC1 hLL
          go_wp2_with (first | ((with_reducible refine gate_builtin (b := .append) (xs := #[.tmp 31, .tmp 32]) rfl ?_); at_builtin; refine Kd.R_append_rows (Kd.int .i64) (w0 := w) w.heap.size rfl (.tmp 31) (.tmp 32) 31 2 (.int .i64 0) 8 rfl Try.underlying31 infoInt rfl (by decide) (by omega) _ (l0.take kk).flatten (rdR l0 kk) A1 (rdR l0 kk).length d1 (fun _ => True) (fun _ => False) rfl rfl HO.out HC.out (fun _ _ h => h) (fun _ h => h.elim) (fun _ _ => trivial) HB.out HB.out.size (by have := HLL.out; omega) ?_; intro v2 w2 h2 hb2 _ _; have HR2 := Aside0.mk h2; have HB2 := Aside0.mk hb2; clear h2 hb2))
          go_roundg (l0.length - (kk + 1))
          case measure => omega
          case rel => exact ⟨kk + 1, by omega, by omega, by go_num, ⟨by rw [HF.out]; exact HR2.out⟩, HB2⟩
        · have hltz2 : ¬ (kk : Int) < (l0.length : Int) := by omega
          obtain rfl : kk = l0.length := by omega
          have HO2 := Aside0.mk (show Kd.R (Kd.int .i64) 2 _ w.heap.size (fun _ => True) _ l0.flatten from by have := HO.out; rw [List.take_length] at this; exact this)
          clear HO
          go_wp2
          go_ret
          exact ⟨_, rfl, HO2.out, HB.out⟩

/-! ### slices_Sort_int64_int64: function 79 -/
theorem slices_Sort_int64.own (base : Nat) (v : Value) (xs : List Int) (ok : Nat → Prop) (w0 w : World) (h : Kd.R (Kd.int .i64) 2 w base ok v xs) (hB : Below base w0 w) (hbase : base ≤ w.heap.size) (hlen : xs.length < 4611686018427387904) :
    Calls Try.prog 79 #[v] w fun e w' => e = .returned (.tuple #[]) ∧ Kd.R (Kd.int .i64) 2 w' base ok v (xs.mergeSort fun x y => decide (x ≤ y)) ∧ w.grownBy w' v.ownBlock ∧ Below base w0 w' := by
  have hown := Kd.own_of_R h
  have hok := h.1
  have hlm : (xs.mergeSort fun x y => decide (x ≤ y)).length = xs.length := List.length_mergeSort _
  rcases hown.2 with ⟨rfl, hx⟩ | ⟨g, cap, cur, rfl, hg, hh, h1, h2, h3, h4⟩
  · have hx' : xs = [] := by simpa [encs] using hx
    subst hx'
    refine (AnyM.slices_Sort_int_none lSort none 0 w).mono fun e w' hh => ?_
    obtain ⟨rfl, rfl⟩ := hh
    exact ⟨rfl, by simpa using h, grown_of_below (Below.refl _ _) _, hB⟩
  · have hblk : g < w.heap.size := (Array.getElem?_eq_some_iff.1 hh).1
    have ht : cur.toList.take xs.length = xs.map (Value.int .i64) := by simpa [encs] using h4
    have hH := Go.holds_of_blockI hh ht
    refine (AnyM.slices_Sort_int lSort g 0 cap xs w hH hblk hlen).mono fun e w' hh' => ?_
    obtain ⟨rfl, n, os, rfl⟩ := hh'
    have ho := Go.ownsRow_sortedI (n := n) (os := os) (ts := xs.mergeSort fun x y => decide (x ≤ y)) hlm hg hh h1 h2 h3
    have hgr := Go.grownBy_sortedI (w := w) (g := g) (n := n) (os := os) (xs.mergeSort fun x y => decide (x ≤ y)).toArray
    refine ⟨rfl, Kd.R_of_own (by rw [hlm]; simpa [encs] using ho) hok, hgr, hB.grown hgr hbase (fun k hk => by cases hk; exact hg)⟩

/-! ### impl_isSet: function 80 -/
def impl_isSet.l0 : Nat → List Int → Int → List Int → Int → Int → Option (Bool)
  | 0, _, _, _, _, _ => none
  | k + 1, x0, x1, x7, x8, x9 => if x9 < x8 then (if 0 ≤ x9 then (if x9 < (x7.length : Int) then ((impl_within.f (rd x7 x9) 0 (wrap64 (x1 - 1))).bind fun t372 => (if t372 = true then (if x9 > 0 then (if 0 ≤ (wrap64 (x9 - 1)) then (if (wrap64 (x9 - 1)) < (x0.length : Int) then (if (rd x7 x9) ≤ (rd x0 (wrap64 (x9 - 1))) then (some false) else (impl_isSet.l0 k x0 x1 x7 x8 (wrap64 (x9 + 1)))) else (none)) else (none)) else (impl_isSet.l0 k x0 x1 x7 x8 (wrap64 (x9 + 1)))) else (some false))) else (none)) else (none)) else (some true)
def impl_isSet.f (k : Nat) (l0 : List Int) (a1 : Int) : Option (Bool) := impl_isSet.l0 k l0 a1 l0 (l0.length : Int) 0
theorem impl_isSet.mono_l : ∀ k, (∀ y0 y1 y2 y3 y4, LeO (impl_isSet.l0 k y0 y1 y2 y3 y4) (impl_isSet.l0 (k + 1) y0 y1 y2 y3 y4))
  | 0 => fun _ _ _ _ _ r h => by simp [impl_isSet.l0] at h
  | k + 1 => by
    have ih0 := impl_isSet.mono_l k
    · intro y0 y1 y2 y3 y4
      unfold impl_isSet.l0
      repeat' first
      | (with_reducible exact ih0 _ _ _ _ _)
      | (with_reducible exact LeO.refl _)
      | (with_reducible exact LeO.none _)
      | (with_reducible refine LeO.ite ?_ ?_)
      | (with_reducible refine LeO.bind ?_ (fun _ => ?_))
      | exact ih0 _ _ _ _ _
      | exact LeO.none _
      | refine LeO.ite ?_ ?_
      | refine LeO.bind ?_ (fun _ => ?_)
theorem impl_isSet.mono : ∀ a0 a1 k, LeO (impl_isSet.f k a0 a1) (impl_isSet.f (k + 1) a0 a1) := by
  intro a0 a1 k
  have ih0 := impl_isSet.mono_l k
  unfold impl_isSet.f
  repeat' first
      | (with_reducible exact ih0 _ _ _ _ _)
      | (with_reducible exact LeO.refl _)
      | (with_reducible exact LeO.none _)
      | (with_reducible refine LeO.ite ?_ ?_)
      | (with_reducible refine LeO.bind ?_ (fun _ => ?_))
      | exact ih0 _ _ _ _ _
      | exact LeO.none _
      | refine LeO.ite ?_ ?_
      | refine LeO.bind ?_ (fun _ => ?_)
set_option maxHeartbeats 8000000 in
set_option maxRecDepth 100000 in
theorem impl_isSet.calls (k : Nat) (A0 : Option Addr) (c0 : Nat) (l0 : List Int) (a1 : Int) (r : Bool) (w : World) (hr0 : Kd.C (Kd.int .i64) w A0 l0.length l0) (hc0 : l0.length ≤ c0) (h : impl_isSet.f k l0 a1 = some r) :
    Calls Try.prog 80 #[.slice A0 l0.length c0, .int .i64 a1] w fun e w' => e = .returned (.bool r) ∧ Drawn0 w w' := by
  have HR0 := Aside0.mk hr0
  have HC0 := Aside0.mk hc0
  clear hr0 hc0
  have H : (impl_isSet.l0 k l0 a1 l0 (l0.length : Int) 0) = some r := h
  clear h
  have H' := Aside0.mk H
  clear H
  go_enter Try.func80, Try.ntmps80
  go_wp2
  go_loopg [9] k (fun kq v9 w' => ∃ (x9_1 : Int), v9 = .int .i64 x9_1 ∧ Aside0 (impl_isSet.l0 kq l0 a1 l0 (l0.length : Int) x9_1 = some r) ∧ Aside0 (kq ≤ k) ∧ Drawn0 w w')
  case atStart => exact ⟨(0), (by first | rfl | (simp; done) | (simp [*]; done)), H', ⟨Nat.le_refl _⟩, by repeat (first | exact Drawn0.refl _ | apply Drawn0.step)⟩
  case round =>
    clear H'
    try clear p2
    obtain ⟨x9_1, rfl, HA, HK1, ⟨m1, rfl⟩⟩ := hrel
    cases gk with
    | zero => exact absurd HA.out (by simp [impl_isSet.l0])
    | succ k1 =>
      have H := HA.out
      clear HA
      simp only [impl_isSet.l0] at H
      by_cases c3 : x9_1 < (l0.length : Int)
      · rw [if_pos c3] at H
        have c3b0 : decide (x9_1 < (l0.length : Int)) = true := decide_eq_true c3
        clear c3
        by_cases c4 : 0 ≤ x9_1
        · rw [if_pos c4] at H
          have c4b0 : decide (0 ≤ x9_1) = true := decide_eq_true c4
          clear c4
          by_cases c5 : x9_1 < (l0.length : Int)
          · rw [if_pos c5] at H
            have c5b0 : decide (x9_1 < (l0.length : Int)) = true := decide_eq_true c5
            clear c5
            replace H := Option.bind_eq_some_iff.mp H
            obtain ⟨t372, A60, H⟩ := H
            replace H : (if t372 = true then (if x9_1 > 0 then (if 0 ≤ (wrap64 (x9_1 - 1)) then (if (wrap64 (x9_1 - 1)) < (l0.length : Int) then (if (rd l0 x9_1) ≤ (rd l0 (wrap64 (x9_1 - 1))) then (some false) else (impl_isSet.l0 k1 l0 a1 l0 (l0.length : Int) (wrap64 (x9_1 + 1)))) else (none)) else (none)) else (impl_isSet.l0 k1 l0 a1 l0 (l0.length : Int) (wrap64 (x9_1 + 1)))) else (some false)) = some r := H
            have A6 := Aside0.mk A60
            clear A60
            by_cases c7 : t372 = true
            · subst c7
              have H1 : (if x9_1 > 0 then (if 0 ≤ (wrap64 (x9_1 - 1)) then (if (wrap64 (x9_1 - 1)) < (l0.length : Int) then (if (rd l0 x9_1) ≤ (rd l0 (wrap64 (x9_1 - 1))) then (some false) else (impl_isSet.l0 k1 l0 a1 l0 (l0.length : Int) (wrap64 (x9_1 + 1)))) else (none)) else (none)) else (impl_isSet.l0 k1 l0 a1 l0 (l0.length : Int) (wrap64 (x9_1 + 1)))) = some r := by rw [if_pos rfl] at H; exact H
              clear H
              have H := H1
              clear H1
              by_cases c8 : x9_1 > 0
              · rw [if_pos c8] at H
                have c8b0 : decide (0 < x9_1) = true := decide_eq_true c8
                clear c8
                obtain ⟨ji9, hji9⟩ : ∃ j_ : Int, (wrap64 (x9_1 - 1)) = j_ := ⟨_, rfl⟩
                replace H : (if 0 ≤ (ji9) then (if (ji9) < (l0.length : Int) then (if (rd l0 x9_1) ≤ (rd l0 (ji9)) then (some false) else (impl_isSet.l0 k1 l0 a1 l0 (l0.length : Int) (wrap64 (x9_1 + 1)))) else (none)) else (none)) = some r := by first | (rw [hji9] at H; exact H) | (simp only [hji9] at H ⊢; exact H)
                (try rw [hji9] at A6)
                have hji9w : (IntKind.i64.wrap (x9_1 - 1)) = ji9 := (i64_w _).trans hji9
                by_cases c10 : 0 ≤ (ji9)
                · rw [if_pos c10] at H
                  have c10b0 : decide (0 ≤ (ji9)) = true := decide_eq_true c10
                  clear c10
                  by_cases c11 : (ji9) < (l0.length : Int)
                  · rw [if_pos c11] at H
                    have c11b0 : decide ((ji9) < (l0.length : Int)) = true := decide_eq_true c11
                    clear c11
                    by_cases c12 : (rd l0 x9_1) ≤ (rd l0 (ji9))
                    · rw [if_pos c12] at H
                      have c12b0 : decide ((rd l0 x9_1) ≤ (rd l0 (ji9))) = true := decide_eq_true c12
                      clear c12
                      obtain rfl := Option.some.inj H
                      have p371 : 0 ≤ (x9_1 : Int) := of_decide_eq_true (by first | (with_reducible assumption) | assumption)
                      have q371 : x9_1 < (l0.length : Int) := of_decide_eq_true (by first | (with_reducible assumption) | assumption)
                      obtain ⟨ad371, e371, hx371_0⟩ := Kd.at_int HR0.out x9_1 p371 q371
                      cases e371
                      replace p371 := eq_true p371
                      replace q371 := eq_true q371
                      go_wp2_with (first | ((with_reducible refine gate_callee (f := 47) rfl ?_); refine goesL_ (some 17) rfl rfl Try.func47 (by kernel_rfl) rfl #[.int .i64 (rd l0 x9_1), .int .i64 0, .int .i64 (wrap64 (a1 - 1))] rfl (by (try simp only [List.map_toArray, List.map_cons, List.map_nil]); first | done | rfl | (simp only [List.length_drop, List.length_take]; rfl)) ?_; (with_reducible refine (impl_within.calls (rd l0 x9_1) 0 (wrap64 (a1 - 1)) true _ A6.out).mono ?_); rintro e w' ⟨rfl, ⟨nd, rfl⟩⟩; refine ⟨_, rfl, ?_⟩; have p373 : 0 ≤ ((ji9) : Int) := of_decide_eq_true (by first | (with_reducible assumption) | assumption); have q373 : (ji9) < (l0.length : Int) := of_decide_eq_true (by first | (with_reducible assumption) | assumption); obtain ⟨ad373, e373, hx373_0⟩ := Kd.at_int HR0.out (ji9) p373 q373; obtain rfl : ad371 = ad373 := (by injection e373); replace p373 := eq_true p373; replace q373 := eq_true q373))
                      go_ret
                      exact ⟨by first | rfl | (simp; done) | (simp only [← hji9] <;> (first | rfl | simp)) | (simp [*]; done), by repeat (first | exact Drawn0.refl _ | apply Drawn0.step)⟩
                    · rw [if_neg c12] at H
                      have c12b0 : decide ((rd l0 x9_1) ≤ (rd l0 (ji9))) = false := decide_eq_false c12
                      clear c12
                      have H' := Aside0.mk H
                      clear H
                      have p371 : 0 ≤ (x9_1 : Int) := of_decide_eq_true (by first | (with_reducible assumption) | assumption)
                      have q371 : x9_1 < (l0.length : Int) := of_decide_eq_true (by first | (with_reducible assumption) | assumption)
                      obtain ⟨ad371, e371, hx371_0⟩ := Kd.at_int HR0.out x9_1 p371 q371
                      cases e371
                      replace p371 := eq_true p371
                      replace q371 := eq_true q371
                      go_wp2_with (first | ((with_reducible refine gate_callee (f := 47) rfl ?_); refine goesL_ (some 17) rfl rfl Try.func47 (by kernel_rfl) rfl #[.int .i64 (rd l0 x9_1), .int .i64 0, .int .i64 (wrap64 (a1 - 1))] rfl (by (try simp only [List.map_toArray, List.map_cons, List.map_nil]); first | done | rfl | (simp only [List.length_drop, List.length_take]; rfl)) ?_; (with_reducible refine (impl_within.calls (rd l0 x9_1) 0 (wrap64 (a1 - 1)) true _ A6.out).mono ?_); rintro e w' ⟨rfl, ⟨nd, rfl⟩⟩; refine ⟨_, rfl, ?_⟩; have p373 : 0 ≤ ((ji9) : Int) := of_decide_eq_true (by first | (with_reducible assumption) | assumption); have q373 : (ji9) < (l0.length : Int) := of_decide_eq_true (by first | (with_reducible assumption) | assumption); obtain ⟨ad373, e373, hx373_0⟩ := Kd.at_int HR0.out (ji9) p373 q373; obtain rfl : ad371 = ad373 := (by injection e373); replace p373 := eq_true p373; replace q373 := eq_true q373))
                      go_roundg k1
                      case measure => have := HK1.out; omega
                      case rel => exact ⟨(wrap64 (x9_1 + 1)), (by first | rfl | (simp; done) | (simp [*]; done)), H', ⟨by have := HK1.out; omega⟩, by repeat (first | exact Drawn0.refl _ | apply Drawn0.step)⟩
                  · rw [if_neg c11] at H
                    exact absurd H (by simp)
                · rw [if_neg c10] at H
                  exact absurd H (by simp)
              · rw [if_neg c8] at H
                have c8b0 : decide (0 < x9_1) = false := decide_eq_false c8
                clear c8
                have H' := Aside0.mk H
                clear H
                have p371 : 0 ≤ (x9_1 : Int) := of_decide_eq_true (by first | (with_reducible assumption) | assumption)
                have q371 : x9_1 < (l0.length : Int) := of_decide_eq_true (by first | (with_reducible assumption) | assumption)
                obtain ⟨ad371, e371, hx371_0⟩ := Kd.at_int HR0.out x9_1 p371 q371
                cases e371
                replace p371 := eq_true p371
                replace q371 := eq_true q371
                go_wp2_with (first | ((with_reducible refine gate_callee (f := 47) rfl ?_); refine goesL_ (some 17) rfl rfl Try.func47 (by kernel_rfl) rfl #[.int .i64 (rd l0 x9_1), .int .i64 0, .int .i64 (wrap64 (a1 - 1))] rfl (by (try simp only [List.map_toArray, List.map_cons, List.map_nil]); first | done | rfl | (simp only [List.length_drop, List.length_take]; rfl)) ?_; (with_reducible refine (impl_within.calls (rd l0 x9_1) 0 (wrap64 (a1 - 1)) true _ A6.out).mono ?_); rintro e w' ⟨rfl, ⟨nd, rfl⟩⟩; refine ⟨_, rfl, ?_⟩))
                go_roundg k1
                case measure => have := HK1.out; omega
                case rel => exact ⟨(wrap64 (x9_1 + 1)), (by first | rfl | (simp; done) | (simp [*]; done)), H', ⟨by have := HK1.out; omega⟩, by repeat (first | exact Drawn0.refl _ | apply Drawn0.step)⟩
            · replace c7 := Bool.eq_false_iff.mpr c7
              subst c7
              have H1 : (some false) = some r := by rw [if_neg (show ¬ (false = true) by decide)] at H; exact H
              clear H
              have H := H1
              clear H1
              obtain rfl := Option.some.inj H
              have p371 : 0 ≤ (x9_1 : Int) := of_decide_eq_true (by first | (with_reducible assumption) | assumption)
              have q371 : x9_1 < (l0.length : Int) := of_decide_eq_true (by first | (with_reducible assumption) | assumption)
              obtain ⟨ad371, e371, hx371_0⟩ := Kd.at_int HR0.out x9_1 p371 q371
              cases e371
              replace p371 := eq_true p371
              replace q371 := eq_true q371
              go_wp2_with (first | ((with_reducible refine gate_callee (f := 47) rfl ?_); refine goesL_ (some 17) rfl rfl Try.func47 (by kernel_rfl) rfl #[.int .i64 (rd l0 x9_1), .int .i64 0, .int .i64 (wrap64 (a1 - 1))] rfl (by (try simp only [List.map_toArray, List.map_cons, List.map_nil]); first | done | rfl | (simp only [List.length_drop, List.length_take]; rfl)) ?_; (with_reducible refine (impl_within.calls (rd l0 x9_1) 0 (wrap64 (a1 - 1)) false _ A6.out).mono ?_); rintro e w' ⟨rfl, ⟨nd, rfl⟩⟩; refine ⟨_, rfl, ?_⟩))
              go_ret
              exact ⟨by first | rfl | (simp; done) | (simp [*]; done), by repeat (first | exact Drawn0.refl _ | apply Drawn0.step)⟩
          · rw [if_neg c5] at H
            exact absurd H (by simp)
        · rw [if_neg c4] at H
          exact absurd H (by simp)
      · rw [if_neg c3] at H
        have c3b0 : decide (x9_1 < (l0.length : Int)) = false := decide_eq_false c3
        clear c3
        obtain rfl := Option.some.inj H
        go_wp2
        go_ret
        exact ⟨by first | rfl | (simp; done) | (simp [*]; done), by repeat (first | exact Drawn0.refl _ | apply Drawn0.step)⟩

end Go.Proofs.Ytamjcfdjcagjmaa.P
