-- written by a program of this session (gprint.py), which calls the kit's print
import Derived.Test.YtamjcfdjcagjmaaPx0
import Derived.Test.YtamjcfdjcagjmaaPx3
import Derived.Test.YtamjcfdjcagjmaaPx6
import Derived.Test.YtamjcfdjcagjmaaPx7
import Derived.Test.YtamjcfdjcagjmaaPx9
namespace Go.Proofs.Ytamjcfdjcagjmaa.P
open Go.RowKit Go.Proofs.YtamjcfdjcagjmaaW.PrintWords Go.Proofs.YtamjcfdjcagjmaaW.PrintLast Go.Proofs.YtamjcfdjcagjmaaW.PrintMore
attribute [local go_sem] max2_int min2_int max_two min_two max_three min_three max_four min_four   -- for this text's walks alone
set_option linter.unusedVariables false
set_option linter.unusedSimpArgs false
mutual
def spec_l09Mask.j0 : Nat → List (List Int) → Int → Bool → Option (Bool)
  | 0, _, _, _ => none
  | k + 1, x0, x3, x14 => if x14 = true then (some false) else (if 0 ≤ (wrap64 (x3 * x3)) then (if (wrap64 (x3 * x3) : Int).toNat ≤ 281474976710656 then (spec_l09Mask.l0 k x0 x3 (List.replicate (wrap64 (x3 * x3) : Int).toNat false) 0) else (none)) else (none))
def spec_l09Mask.l0 : Nat → List (List Int) → Int → List Bool → Int → Option (Bool)
  | 0, _, _, _, _ => none
  | k + 1, x0, x3, x4, x5 => if x5 < (x0.length : Int) then (if 0 ≤ x5 then (if ((rd_L2 x0 x5).length : Int) = x3 then (spec_l09Mask.l1 k x0 x3 x4 x5 0) else (some false)) else (none)) else (some true)
def spec_l09Mask.l1 : Nat → List (List Int) → Int → List Bool → Int → Int → Option (Bool)
  | 0, _, _, _, _, _ => none
  | k + 1, x0, x3, x4, x5, x6 => if 0 ≤ x5 then (if x5 < (x0.length : Int) then (if x6 < ((rd_L2 x0 x5).length : Int) then (if 0 ≤ x6 then ((spec_l00In.f (rd (rd_L2 x0 x5) x6) 0 (wrap64 ((wrap64 (x3 * x3)) - 1))).bind fun t485 => (if t485 = true then (if 0 ≤ (rd (rd_L2 x0 x5) x6) then (if (rd (rd_L2 x0 x5) x6) < (x4.length : Int) then (if rdOf false x4 (rd (rd_L2 x0 x5) x6) = true then (some false) else (spec_l09Mask.l1 k x0 x3 (x4.set ((rd (rd_L2 x0 x5) x6) : Int).toNat true) x5 (wrap64 (x6 + 1)))) else (none)) else (none)) else (some false))) else (none)) else (spec_l09Mask.l0 k x0 x3 x4 (wrap64 (x5 + 1)))) else (none)) else (none)
end
def spec_l09Mask.f (k : Nat) (l0 : List (List Int)) : Option (Bool) := if (l0.length : Int) < 1 then (spec_l09Mask.j0 k l0 (l0.length : Int) true) else (spec_l09Mask.j0 k l0 (l0.length : Int) (decide ((l0.length : Int) > 8)))
theorem spec_l09Mask.mono_l : ∀ k, (∀ y0 y1 y2, LeO (spec_l09Mask.j0 k y0 y1 y2) (spec_l09Mask.j0 (k + 1) y0 y1 y2)) ∧ (∀ y0 y1 y2 y3, LeO (spec_l09Mask.l0 k y0 y1 y2 y3) (spec_l09Mask.l0 (k + 1) y0 y1 y2 y3)) ∧ (∀ y0 y1 y2 y3 y4, LeO (spec_l09Mask.l1 k y0 y1 y2 y3 y4) (spec_l09Mask.l1 (k + 1) y0 y1 y2 y3 y4))
  | 0 => ⟨fun _ _ _ r h => by simp [spec_l09Mask.j0] at h, fun _ _ _ _ r h => by simp [spec_l09Mask.l0] at h, fun _ _ _ _ _ r h => by simp [spec_l09Mask.l1] at h⟩
  | k + 1 => by
    obtain ⟨ih0, ih1, ih2⟩ := spec_l09Mask.mono_l k
    refine ⟨?_, ?_, ?_⟩
    · intro y0 y1 y2
      unfold spec_l09Mask.j0
      repeat' first
      | (with_reducible exact ih0 _ _ _)
      | (with_reducible exact ih1 _ _ _ _)
      | (with_reducible exact ih2 _ _ _ _ _)
      | (with_reducible exact LeO.refl _)
      | (with_reducible exact LeO.none _)
      | (with_reducible refine LeO.ite ?_ ?_)
      | (with_reducible refine LeO.bind ?_ (fun _ => ?_))
      | exact ih0 _ _ _
      | exact ih1 _ _ _ _
      | exact ih2 _ _ _ _ _
      | exact LeO.none _
      | refine LeO.ite ?_ ?_
      | refine LeO.bind ?_ (fun _ => ?_)
    · intro y0 y1 y2 y3
      unfold spec_l09Mask.l0
      repeat' first
      | (with_reducible exact ih0 _ _ _)
      | (with_reducible exact ih1 _ _ _ _)
      | (with_reducible exact ih2 _ _ _ _ _)
      | (with_reducible exact LeO.refl _)
      | (with_reducible exact LeO.none _)
      | (with_reducible refine LeO.ite ?_ ?_)
      | (with_reducible refine LeO.bind ?_ (fun _ => ?_))
      | exact ih0 _ _ _
      | exact ih1 _ _ _ _
      | exact ih2 _ _ _ _ _
      | exact LeO.none _
      | refine LeO.ite ?_ ?_
      | refine LeO.bind ?_ (fun _ => ?_)
    · intro y0 y1 y2 y3 y4
      unfold spec_l09Mask.l1
      repeat' first
      | (with_reducible exact ih0 _ _ _)
      | (with_reducible exact ih1 _ _ _ _)
      | (with_reducible exact ih2 _ _ _ _ _)
      | (with_reducible exact LeO.refl _)
      | (with_reducible exact LeO.none _)
      | (with_reducible refine LeO.ite ?_ ?_)
      | (with_reducible refine LeO.bind ?_ (fun _ => ?_))
      | exact ih0 _ _ _
      | exact ih1 _ _ _ _
      | exact ih2 _ _ _ _ _
      | exact LeO.none _
      | refine LeO.ite ?_ ?_
      | refine LeO.bind ?_ (fun _ => ?_)
theorem spec_l09Mask.mono : ∀ a0 k, LeO (spec_l09Mask.f k a0) (spec_l09Mask.f (k + 1) a0) := by
  intro a0 k
  obtain ⟨ih0, ih1, ih2⟩ := spec_l09Mask.mono_l k
  unfold spec_l09Mask.f
  repeat' first
      | (with_reducible exact ih0 _ _ _)
      | (with_reducible exact ih1 _ _ _ _)
      | (with_reducible exact ih2 _ _ _ _ _)
      | (with_reducible exact LeO.refl _)
      | (with_reducible exact LeO.none _)
      | (with_reducible refine LeO.ite ?_ ?_)
      | (with_reducible refine LeO.bind ?_ (fun _ => ?_))
      | exact ih0 _ _ _
      | exact ih1 _ _ _ _
      | exact ih2 _ _ _ _ _
      | exact LeO.none _
      | refine LeO.ite ?_ ?_
      | refine LeO.bind ?_ (fun _ => ?_)
set_option maxHeartbeats 8000000 in
set_option maxRecDepth 100000 in
theorem spec_l09Mask.calls (k : Nat) (A0 : Option Addr) (c0 : Nat) (l0 : List (List Int)) (r : Bool) (w : World) (hr0 : Kd.C (Kd.slice 2 (Kd.int .i64)) w A0 l0.length l0) (hc0 : l0.length ≤ c0) (h : spec_l09Mask.f k l0 = some r) :
    Calls Try.prog 83 #[.slice A0 l0.length c0] w fun e w' => e = .returned (.bool r) ∧ Below w.heap.size w w' := by
  have HR0 := Aside0.mk hr0
  have HC0 := Aside0.mk hc0
  clear hr0 hc0
  have HB := Aside0.mk (Below.refl w.heap.size w)
  have H : (if (l0.length : Int) < 1 then (spec_l09Mask.j0 k l0 (l0.length : Int) true) else (spec_l09Mask.j0 k l0 (l0.length : Int) (decide ((l0.length : Int) > 8)))) = some r := h
  clear h
  have HC2 := Aside0.mk H
  clear H
  go_enter Try.func83, Try.ntmps83
  go_upto_region 2 with (fail)
  go_cut [14] (fun v14 wc => ∃ (kq : Nat) (x14_1 : Bool), v14 = .bool x14_1 ∧ Aside0 (spec_l09Mask.j0 kq l0 (l0.length : Int) x14_1 = some r) ∧ Aside0 (kq ≤ k) ∧ Aside0 (Below w.heap.size w wc))
  case first =>
    have H := HC2.out
    clear HC2
    by_cases c3 : (l0.length : Int) < 1
    · rw [if_pos c3] at H
      have c3b0 : decide ((l0.length : Int) < 1) = true := decide_eq_true c3
      have c3b1 : decide (l0.length < 1) = true := decide_eq_true (by omega)
      clear c3
      (first | rw [c3b0] | (simp only [i64_w, i32_w]; rw [c3b0]) | skip)
      have H' := Aside0.mk H
      clear H
      go_wp2
      go_meet
      case rel => exact ⟨_, (true), (by first | rfl | (simp; done) | (simp [*]; done)), H', ⟨by first | omega | exact Nat.le_refl _⟩, ⟨by repeat (first | (with_reducible first | exact HB.out | apply below_alloc | apply pw_below_drewN | apply below_drew1) | exact HB.out)⟩⟩
    · rw [if_neg c3] at H
      have c3b0 : decide ((l0.length : Int) < 1) = false := decide_eq_false c3
      have c3b1 : decide (l0.length < 1) = false := decide_eq_false (by omega)
      clear c3
      (first | rw [c3b0] | (simp only [i64_w, i32_w]; rw [c3b0]) | skip)
      have H' := Aside0.mk H
      clear H
      go_wp2
      go_meet
      case rel => exact ⟨_, (decide ((l0.length : Int) > 8)), (by first | rfl | (simp; done) | (simp [*]; done)), H', ⟨by first | omega | exact Nat.le_refl _⟩, ⟨by repeat (first | (with_reducible first | exact HB.out | apply below_alloc | apply pw_below_drewN | apply below_drew1) | exact HB.out)⟩⟩
  case rest =>
    clear HC2
    try clear p2
    try clear c3
    try clear c3b0
    try clear c3b1
    obtain ⟨kq, x14_1, rfl, HA, HJ1, HB⟩ := hcut
    cases kq with
    | zero => exact absurd HA.out (by simp [spec_l09Mask.j0])
    | succ kj1 =>
      have H := HA.out
      clear HA
      simp only [spec_l09Mask.j0] at H
      by_cases c4 : x14_1 = true
      · subst c4
        have H1 : (some false) = some r := by rw [if_pos rfl] at H; exact H
        clear H
        have H := H1
        clear H1
        obtain rfl := Option.some.inj H
        go_wp2
        go_ret
        exact ⟨by first | rfl | (simp [errW_none, errW_some] <;> rfl) | (simp [*, errW_none, errW_some] <;> rfl), by repeat (first | (with_reducible first | exact HB.out | apply below_alloc | apply pw_below_drewN | apply below_drew1) | exact HB.out)⟩
      · replace c4 := Bool.eq_false_iff.mpr c4
        subst c4
        have H1 : (if 0 ≤ (wrap64 ((l0.length : Int) * (l0.length : Int))) then (if (wrap64 ((l0.length : Int) * (l0.length : Int)) : Int).toNat ≤ 281474976710656 then (spec_l09Mask.l0 kj1 l0 (l0.length : Int) (List.replicate (wrap64 ((l0.length : Int) * (l0.length : Int)) : Int).toNat false) 0) else (none)) else (none)) = some r := by rw [if_neg (show ¬ (false = true) by decide)] at H; exact H
        clear H
        have H := H1
        clear H1
        obtain ⟨ji5, hji5⟩ : ∃ j_ : Int, (wrap64 ((l0.length : Int) * (l0.length : Int))) = j_ := ⟨_, rfl⟩
        replace H : (if 0 ≤ (ji5) then (if (ji5 : Int).toNat ≤ 281474976710656 then (spec_l09Mask.l0 kj1 l0 (l0.length : Int) (List.replicate (ji5 : Int).toNat false) 0) else (none)) else (none)) = some r := by first | (rw [hji5] at H; exact H) | (simp only [hji5] at H ⊢; exact H)
        have hji5w : (IntKind.i64.wrap ((l0.length : Int) * (l0.length : Int))) = ji5 := (i64_w _).trans hji5
        by_cases c6 : 0 ≤ (ji5)
        · rw [if_pos c6] at H
          have c6b0 := eq_true c6
          have c6b1 : decide (0 ≤ (ji5)) = true := decide_eq_true c6
          clear c6
          by_cases c7 : (ji5 : Int).toNat ≤ 281474976710656
          · rw [if_pos c7] at H
            have c7b0 := eq_true c7
            have c7b1 : decide ((ji5 : Int).toNat ≤ 281474976710656) = true := decide_eq_true c7
            clear c7
            obtain ⟨y478, hy478⟩ : ∃ y_ : List Bool, y_ = (List.replicate (ji5 : Int).toNat false) := ⟨_, rfl⟩
            replace H : (spec_l09Mask.l0 kj1 l0 (l0.length : Int) y478 0) = some r := by first | (rw [hy478]; with_reducible exact H) | (have H2_ := (Option.bind_some _ _).symm.trans H; rw [hy478]; with_reducible exact H2_) | (have H2_ := (Option.bind_some _ _).symm.trans H; with_reducible exact H2_) | with_reducible exact H | (rw [hy478]; exact H) | exact H
            have Ny478 := Aside0.mk hy478
            clear hy478
            have H' := Aside0.mk H
            clear H
            go_wp2_with (first | ((with_reducible refine gate_dst (N := 18) rfl ?_); refine Kd.R_make Kd.bool _ 4 rfl (N := 18) rfl 125 _ _ rfl ji5 rfl rfl Try.underlying125 (.bool false) 1 info4 rfl (by decide) (by omega) false (ok := fun _ => True) (okp := fun _ => True) rfl (fun _ hk => hk) trivial (of_decide_eq_true (by first | (with_reducible assumption) | assumption)) (Nat.le_trans (Nat.mul_le_mul_right _ (of_decide_eq_true (by first | (with_reducible assumption) | assumption) : ji5.toNat ≤ 281474976710656)) (by omega)) (Below.refl _ _) (Nat.le_refl _) ?_; intro v479 w8 ho9 hb hg_ hnew_; clear hg_ hnew_; (first | rw [← Ny478.out] at ho9 | (simp only [Int.reduceToNat] at ho9; rw [← Ny478.out] at ho9)); have n0_ := Aside0.mk (Kd.R_lower ho9 (below_size (by repeat (first | (with_reducible first | exact HB.out | apply below_alloc | apply pw_below_drewN | apply below_drew1) | exact HB.out)))); have n1_ := Aside0.mk (below_step (by repeat (first | (with_reducible first | exact HB.out | apply below_alloc | apply pw_below_drewN | apply below_drew1) | exact HB.out)) hb); clear HB; have HO480 := n0_; have HB := n1_; clear n0_ n1_; clear hb ho9))
            go_loopg [5] kj1 (fun kq v5 w' => ∃ (x4_2 : List Bool) (x5_2 : Int), v5 = .int .i64 x5_2 ∧ Aside0 (spec_l09Mask.l0 kq l0 (l0.length : Int) x4_2 x5_2 = some r) ∧ Aside0 (kq ≤ kj1) ∧ Aside0 (Kd.R Kd.bool 4 w' w.heap.size (fun _ => True) v479 x4_2) ∧ Aside0 (Below w.heap.size w w'))
            case atStart => exact ⟨(y478), (0), (by first | rfl | (simp; done) | (simp [*]; done)), H', ⟨Nat.le_refl _⟩, ⟨by (with_reducible repeat (first | apply Kd.R_alloc | apply Kd.R_drewN | apply Kd.R_drew)); exact HO480.out⟩, ⟨by repeat (first | (with_reducible first | exact HB.out | apply below_alloc | apply pw_below_drewN | apply below_drew1) | exact HB.out)⟩⟩
            case round =>
              clear H'
              try clear p2
              try clear c3
              try clear c3b0
              try clear c3b1
              try clear c4
              try clear c6
              try clear c6b0
              try clear c6b1
              try clear p6
              try clear c7
              try clear c7b0
              try clear c7b1
              try clear c8
              try clear p2
              obtain ⟨x4_2, x5_2, rfl, HA, HK2, HO_4, HB⟩ := hrel
              cases gk with
              | zero => exact absurd HA.out (by simp [spec_l09Mask.l0])
              | succ k2 =>
                have H := HA.out
                clear HA
                simp only [spec_l09Mask.l0] at H
                by_cases c10 : x5_2 < (l0.length : Int)
                · rw [if_pos c10] at H
                  have c10b0 : decide (x5_2 < (l0.length : Int)) = true := decide_eq_true c10
                  clear c10
                  by_cases c11 : 0 ≤ x5_2
                  · rw [if_pos c11] at H
                    have c11b0 : decide (0 ≤ x5_2) = true := decide_eq_true c11
                    clear c11
                    by_cases c12 : ((rd_L2 l0 x5_2).length : Int) = (l0.length : Int)
                    · rw [if_pos c12] at H
                      have c12b0 : (((rd_L2 l0 x5_2).length : Int) == (l0.length : Int)) = true := beq_iff_eq.mpr c12
                      have c12b1 : (((rd_L2 l0 x5_2).length : Int) != (l0.length : Int)) = false := bne_eq_false_iff_eq.mpr c12
                      have c12b2 : ((rd_L2 l0 x5_2).length == l0.length) = true := by first | simpa using c12 | (simp at c12 ⊢; omega)
                      clear c12
                      have H' := Aside0.mk H
                      clear H
                      have p481 : 0 ≤ (x5_2 : Int) := of_decide_eq_true (by first | (with_reducible assumption) | assumption)
                      have q481 : x5_2 < (l0.length : Int) := of_decide_eq_true (by first | (with_reducible assumption) | assumption)
                      obtain ⟨ad481, A481_0, c481_0, e481, hx481_0, hl481_0, hi481_0⟩ := at_L2 HR0.out x5_2 p481 q481
                      cases e481
                      have hy481_0 := Aside0.mk hx481_0
                      replace hx481_0 := (HB.out.cell (World.block_lt_of_cell? w _ hx481_0)).trans hx481_0
                      have HR481_0 := Aside0.mk hi481_0
                      have HC481_0 := Aside0.mk hl481_0
                      clear hi481_0 hl481_0
                      replace p481 := eq_true p481
                      replace q481 := eq_true q481
                      go_wp2
                      go_loopg [6] k2 (fun kq v6 w' => ∃ (x4_3 : List Bool) (x6_3 : Int), v6 = .int .i64 x6_3 ∧ Aside0 (spec_l09Mask.l1 kq l0 (l0.length : Int) x4_3 x5_2 x6_3 = some r) ∧ Aside0 (kq ≤ k2) ∧ Aside0 (Kd.R Kd.bool 4 w' w.heap.size (fun _ => True) v479 x4_3) ∧ Aside0 (Below w.heap.size w w'))
                      case atStart => exact ⟨(x4_2), (0), (by first | rfl | (simp; done) | (simp [*]; done)), H', ⟨Nat.le_refl _⟩, ⟨by (with_reducible repeat (first | apply Kd.R_alloc | apply Kd.R_drewN | apply Kd.R_drew)); exact HO_4.out⟩, ⟨by repeat (first | (with_reducible first | exact HB.out | apply below_alloc | apply pw_below_drewN | apply below_drew1) | exact HB.out)⟩⟩
                      case round =>
                        clear H'
                        try clear c1
                        try clear p2
                        try clear c3
                        try clear c3b0
                        try clear c3b1
                        try clear c4
                        try clear p4
                        try clear q4
                        try clear hx4
                        try clear c6
                        try clear c6b0
                        try clear c6b1
                        try clear p6
                        try clear c7
                        try clear c7b0
                        try clear c7b1
                        try clear c8
                        try clear c10
                        try clear c10b0
                        try clear c11
                        try clear c11b0
                        try clear c12
                        try clear c12b0
                        try clear c12b1
                        try clear c12b2
                        try clear hx481_0
                        try clear p2
                        try clear p481
                        try clear p6
                        try clear q481
                        obtain ⟨x4_3, x6_3, rfl, HA, HK3, HO_4, HB⟩ := hrel
                        cases gk with
                        | zero => exact absurd HA.out (by simp [spec_l09Mask.l1])
                        | succ k3 =>
                          have H := HA.out
                          clear HA
                          simp only [spec_l09Mask.l1] at H
                          by_cases c13 : 0 ≤ x5_2
                          · rw [if_pos c13] at H
                            have c13b0 : decide (0 ≤ x5_2) = true := decide_eq_true c13
                            clear c13
                            by_cases c14 : x5_2 < (l0.length : Int)
                            · rw [if_pos c14] at H
                              have c14b0 : decide (x5_2 < (l0.length : Int)) = true := decide_eq_true c14
                              clear c14
                              by_cases c15 : x6_3 < ((rd_L2 l0 x5_2).length : Int)
                              · rw [if_pos c15] at H
                                have c15b0 : decide (x6_3 < ((rd_L2 l0 x5_2).length : Int)) = true := decide_eq_true c15
                                clear c15
                                by_cases c16 : 0 ≤ x6_3
                                · rw [if_pos c16] at H
                                  have c16b0 : decide (0 ≤ x6_3) = true := decide_eq_true c16
                                  clear c16
                                  replace H := Option.bind_eq_some_iff.mp H
                                  obtain ⟨t485, A170, H⟩ := H
                                  replace H : (if t485 = true then (if 0 ≤ (rd (rd_L2 l0 x5_2) x6_3) then (if (rd (rd_L2 l0 x5_2) x6_3) < (x4_3.length : Int) then (if rdOf false x4_3 (rd (rd_L2 l0 x5_2) x6_3) = true then (some false) else (spec_l09Mask.l1 k3 l0 (l0.length : Int) (x4_3.set ((rd (rd_L2 l0 x5_2) x6_3) : Int).toNat true) x5_2 (wrap64 (x6_3 + 1)))) else (none)) else (none)) else (some false)) = some r := H
                                  have A17 := Aside0.mk A170
                                  clear A170
                                  by_cases c18 : t485 = true
                                  · subst c18
                                    have H1 : (if 0 ≤ (rd (rd_L2 l0 x5_2) x6_3) then (if (rd (rd_L2 l0 x5_2) x6_3) < (x4_3.length : Int) then (if rdOf false x4_3 (rd (rd_L2 l0 x5_2) x6_3) = true then (some false) else (spec_l09Mask.l1 k3 l0 (l0.length : Int) (x4_3.set ((rd (rd_L2 l0 x5_2) x6_3) : Int).toNat true) x5_2 (wrap64 (x6_3 + 1)))) else (none)) else (none)) = some r := by rw [if_pos rfl] at H; exact H
                                    clear H
                                    have H := H1
                                    clear H1
                                    by_cases c19 : 0 ≤ (rd (rd_L2 l0 x5_2) x6_3)
                                    · rw [if_pos c19] at H
                                      have c19b0 : decide (0 ≤ (rd (rd_L2 l0 x5_2) x6_3)) = true := decide_eq_true c19
                                      clear c19
                                      by_cases c20 : (rd (rd_L2 l0 x5_2) x6_3) < (x4_3.length : Int)
                                      · rw [if_pos c20] at H
                                        have c20b0 : decide ((rd (rd_L2 l0 x5_2) x6_3) < (x4_3.length : Int)) = true := decide_eq_true c20
                                        clear c20
                                        obtain ⟨bq21, hbq21⟩ : ∃ b_ : Bool, b_ = (rdOf false x4_3 (rd (rd_L2 l0 x5_2) x6_3)) := ⟨_, rfl⟩
                                        replace H : (if bq21 = true then (some false) else (spec_l09Mask.l1 k3 l0 (l0.length : Int) (x4_3.set ((rd (rd_L2 l0 x5_2) x6_3) : Int).toNat true) x5_2 (wrap64 (x6_3 + 1)))) = some r := by rw [← hbq21] at H; exact H
                                        have Nbq21 := Aside0.mk hbq21
                                        clear hbq21
                                        by_cases c22 : bq21 = true
                                        · subst c22
                                          have H1 : (some false) = some r := by rw [if_pos rfl] at H; exact H
                                          clear H
                                          have H := H1
                                          clear H1
                                          obtain rfl := Option.some.inj H
                                          have p482 : 0 ≤ (x5_2 : Int) := of_decide_eq_true (by first | (with_reducible assumption) | assumption)
                                          have q482 : x5_2 < (l0.length : Int) := of_decide_eq_true (by first | (with_reducible assumption) | assumption)
                                          obtain ⟨ad482, A482_0, c482_0, e482, hx482_0, hl482_0, hi482_0⟩ := at_L2 HR0.out x5_2 p482 q482
                                          obtain rfl : ad481 = ad482 := (by injection e482)
                                          have hy482_0 := Aside0.mk hx482_0
                                          replace hx482_0 := (HB.out.cell (World.block_lt_of_cell? w _ hx482_0)).trans hx482_0
                                          have HR482_0 := Aside0.mk hi482_0
                                          have HC482_0 := Aside0.mk hl482_0
                                          clear hi482_0 hl482_0
                                          replace p482 := eq_true p482
                                          replace q482 := eq_true q482
                                          have p483 : 0 ≤ (x5_2 : Int) := of_decide_eq_true (by first | (with_reducible assumption) | assumption)
                                          have q483 : x5_2 < (l0.length : Int) := of_decide_eq_true (by first | (with_reducible assumption) | assumption)
                                          obtain ⟨ad483, A483_0, c483_0, e483, hx483_0, hl483_0, hi483_0⟩ := at_L2 HR0.out x5_2 p483 q483
                                          obtain rfl : ad481 = ad483 := (by injection e483)
                                          have hy483_0 := Aside0.mk hx483_0
                                          replace hx483_0 := (HB.out.cell (World.block_lt_of_cell? w _ hx483_0)).trans hx483_0
                                          have HR483_0 := Aside0.mk hi483_0
                                          have HC483_0 := Aside0.mk hl483_0
                                          clear hi483_0 hl483_0
                                          replace p483 := eq_true p483
                                          replace q483 := eq_true q483
                                          have ea_ := Option.some.inj (hy482_0.out.symm.trans hy483_0.out)
                                          injection ea_ with ea_ en_ ec_
                                          subst ea_
                                          subst ec_
                                          clear en_
                                          have p484 : 0 ≤ (x6_3 : Int) := of_decide_eq_true (by first | (with_reducible assumption) | assumption)
                                          have q484 : x6_3 < ((rd_L2 l0 x5_2).length : Int) := of_decide_eq_true (by first | (with_reducible assumption) | assumption)
                                          obtain ⟨ad484, e484, hx484_0⟩ := Kd.at_int HR483_0.out x6_3 p484 q484
                                          cases e484
                                          have hy484_0 := Aside0.mk hx484_0
                                          replace hx484_0 := (HB.out.cell (World.block_lt_of_cell? w _ hx484_0)).trans hx484_0
                                          replace p484 := eq_true p484
                                          replace q484 := eq_true q484
                                          go_wp2_with (first | ((with_reducible refine gate_callee (f := 64) rfl ?_); refine goesL_ (some 52) rfl rfl Try.func64 (by kernel_rfl) rfl #[.int .i64 (rd (rd_L2 l0 x5_2) x6_3), .int .i64 0, .int .i64 (wrap64 (ji5 - 1))] rfl (by (try simp only [List.map_toArray, List.map_cons, List.map_nil]); first | done | rfl | (simp only [List.length_drop, List.length_take]; rfl)) ?_; (with_reducible refine (spec_l00In.calls (rd (rd_L2 l0 x5_2) x6_3) 0 (wrap64 (ji5 - 1)) true _ (by first | exact A17.out | (rw [← hji5]; exact A17.out))).mono ?_); rintro e w' ⟨rfl, ⟨nd, rfl⟩⟩; refine ⟨_, rfl, ?_⟩; have p486 : 0 ≤ (x5_2 : Int) := of_decide_eq_true (by first | (with_reducible assumption) | assumption); have q486 : x5_2 < (l0.length : Int) := of_decide_eq_true (by first | (with_reducible assumption) | assumption); obtain ⟨ad486, A486_0, c486_0, e486, hx486_0, hl486_0, hi486_0⟩ := at_L2 HR0.out x5_2 p486 q486; obtain rfl : ad481 = ad486 := (by injection e486); have hy486_0 := Aside0.mk hx486_0; replace hx486_0 := (HB.out.cell (World.block_lt_of_cell? w _ hx486_0)).trans hx486_0; have HR486_0 := Aside0.mk hi486_0; have HC486_0 := Aside0.mk hl486_0; clear hi486_0 hl486_0; replace p486 := eq_true p486; replace q486 := eq_true q486; have ea_ := Option.some.inj (hy482_0.out.symm.trans hy486_0.out); injection ea_ with ea_ en_ ec_; subst ea_; subst ec_; clear en_; have p487 : 0 ≤ (x6_3 : Int) := of_decide_eq_true (by first | (with_reducible assumption) | assumption); have q487 : x6_3 < ((rd_L2 l0 x5_2).length : Int) := of_decide_eq_true (by first | (with_reducible assumption) | assumption); obtain ⟨ad487, e487, hx487_0⟩ := Kd.at_int HR486_0.out x6_3 p487 q487; cases e487; have hy487_0 := Aside0.mk hx487_0; replace hx487_0 := (HB.out.cell (World.block_lt_of_cell? w _ hx487_0)).trans hx487_0; replace p487 := eq_true p487; replace q487 := eq_true q487; obtain ⟨Ao23, co23, eo23⟩ := Kd.R_slice HO_4.out; subst eo23; have p488 : 0 ≤ ((rd (rd_L2 l0 x5_2) x6_3) : Int) := of_decide_eq_true (by first | (with_reducible assumption) | assumption); have q488 : (rd (rd_L2 l0 x5_2) x6_3) < (x4_3.length : Int) := of_decide_eq_true (by first | (with_reducible assumption) | assumption); obtain ⟨ad488, e488, hx488_0⟩ := Kd.at_bool (Kd.R_reads' HO_4.out).2.2 (rd (rd_L2 l0 x5_2) x6_3) p488 q488; (try rw [← Nbq21.out] at hx488_0); cases e488; replace p488 := eq_true p488; replace q488 := eq_true q488))
                                          go_ret
                                          exact ⟨by first | rfl | (simp [errW_none, errW_some] <;> rfl) | (simp only [← hji5]; first | rfl | (simp [errW_none, errW_some] <;> rfl)) | (simp [*, errW_none, errW_some] <;> rfl), by repeat (first | (with_reducible first | exact HB.out | apply below_alloc | apply pw_below_drewN | apply below_drew1) | exact HB.out)⟩
                                        · replace c22 := Bool.eq_false_iff.mpr c22
                                          subst c22
                                          have H1 : (spec_l09Mask.l1 k3 l0 (l0.length : Int) (x4_3.set ((rd (rd_L2 l0 x5_2) x6_3) : Int).toNat true) x5_2 (wrap64 (x6_3 + 1))) = some r := by rw [if_neg (show ¬ (false = true) by decide)] at H; exact H
                                          clear H
                                          have H := H1
                                          clear H1
                                          obtain ⟨y491, hy491⟩ : ∃ y_ : List Bool, y_ = (x4_3.set ((rd (rd_L2 l0 x5_2) x6_3) : Int).toNat true) := ⟨_, rfl⟩
                                          replace H : (spec_l09Mask.l1 k3 l0 (l0.length : Int) y491 x5_2 (wrap64 (x6_3 + 1))) = some r := by first | (rw [hy491]; with_reducible exact H) | (have H2_ := (Option.bind_some _ _).symm.trans H; rw [hy491]; with_reducible exact H2_) | (have H2_ := (Option.bind_some _ _).symm.trans H; with_reducible exact H2_) | with_reducible exact H | (rw [hy491]; exact H) | exact H
                                          have Ny491 := Aside0.mk hy491
                                          clear hy491
                                          have H' := Aside0.mk H
                                          clear H
                                          have p482 : 0 ≤ (x5_2 : Int) := of_decide_eq_true (by first | (with_reducible assumption) | assumption)
                                          have q482 : x5_2 < (l0.length : Int) := of_decide_eq_true (by first | (with_reducible assumption) | assumption)
                                          obtain ⟨ad482, A482_0, c482_0, e482, hx482_0, hl482_0, hi482_0⟩ := at_L2 HR0.out x5_2 p482 q482
                                          obtain rfl : ad481 = ad482 := (by injection e482)
                                          have hy482_0 := Aside0.mk hx482_0
                                          replace hx482_0 := (HB.out.cell (World.block_lt_of_cell? w _ hx482_0)).trans hx482_0
                                          have HR482_0 := Aside0.mk hi482_0
                                          have HC482_0 := Aside0.mk hl482_0
                                          clear hi482_0 hl482_0
                                          replace p482 := eq_true p482
                                          replace q482 := eq_true q482
                                          have p483 : 0 ≤ (x5_2 : Int) := of_decide_eq_true (by first | (with_reducible assumption) | assumption)
                                          have q483 : x5_2 < (l0.length : Int) := of_decide_eq_true (by first | (with_reducible assumption) | assumption)
                                          obtain ⟨ad483, A483_0, c483_0, e483, hx483_0, hl483_0, hi483_0⟩ := at_L2 HR0.out x5_2 p483 q483
                                          obtain rfl : ad481 = ad483 := (by injection e483)
                                          have hy483_0 := Aside0.mk hx483_0
                                          replace hx483_0 := (HB.out.cell (World.block_lt_of_cell? w _ hx483_0)).trans hx483_0
                                          have HR483_0 := Aside0.mk hi483_0
                                          have HC483_0 := Aside0.mk hl483_0
                                          clear hi483_0 hl483_0
                                          replace p483 := eq_true p483
                                          replace q483 := eq_true q483
                                          have ea_ := Option.some.inj (hy482_0.out.symm.trans hy483_0.out)
                                          injection ea_ with ea_ en_ ec_
                                          subst ea_
                                          subst ec_
                                          clear en_
                                          have p484 : 0 ≤ (x6_3 : Int) := of_decide_eq_true (by first | (with_reducible assumption) | assumption)
                                          have q484 : x6_3 < ((rd_L2 l0 x5_2).length : Int) := of_decide_eq_true (by first | (with_reducible assumption) | assumption)
                                          obtain ⟨ad484, e484, hx484_0⟩ := Kd.at_int HR483_0.out x6_3 p484 q484
                                          cases e484
                                          have hy484_0 := Aside0.mk hx484_0
                                          replace hx484_0 := (HB.out.cell (World.block_lt_of_cell? w _ hx484_0)).trans hx484_0
                                          replace p484 := eq_true p484
                                          replace q484 := eq_true q484
                                          go_wp2_with (first | ((with_reducible refine gate_callee (f := 64) rfl ?_); refine goesL_ (some 52) rfl rfl Try.func64 (by kernel_rfl) rfl #[.int .i64 (rd (rd_L2 l0 x5_2) x6_3), .int .i64 0, .int .i64 (wrap64 (ji5 - 1))] rfl (by (try simp only [List.map_toArray, List.map_cons, List.map_nil]); first | done | rfl | (simp only [List.length_drop, List.length_take]; rfl)) ?_; (with_reducible refine (spec_l00In.calls (rd (rd_L2 l0 x5_2) x6_3) 0 (wrap64 (ji5 - 1)) true _ (by first | exact A17.out | (rw [← hji5]; exact A17.out))).mono ?_); rintro e w' ⟨rfl, ⟨nd, rfl⟩⟩; refine ⟨_, rfl, ?_⟩; (try (rw [drewN_self wr]; generalize hq_ : World.drewN wr _ = wr; have n0_ : Aside0 (Kd.R Kd.bool 4 wr w.heap.size (fun _ => True) v479 x4_3) := ⟨by rw [← hq_]; exact (by (with_reducible repeat (first | apply Kd.R_alloc | apply Kd.R_drewN | apply Kd.R_drew)); exact HO_4.out)⟩; have n1_ : Aside0 (Below w.heap.size w wr) := ⟨by rw [← hq_]; exact (by repeat (first | (with_reducible first | exact HB.out | apply below_alloc | apply pw_below_drewN | apply below_drew1) | exact HB.out))⟩; clear HO_4 HB hq_; have HO_4 := n0_; have HB := n1_; clear n0_ n1_)); have p486 : 0 ≤ (x5_2 : Int) := of_decide_eq_true (by first | (with_reducible assumption) | assumption); have q486 : x5_2 < (l0.length : Int) := of_decide_eq_true (by first | (with_reducible assumption) | assumption); obtain ⟨ad486, A486_0, c486_0, e486, hx486_0, hl486_0, hi486_0⟩ := at_L2 HR0.out x5_2 p486 q486; obtain rfl : ad481 = ad486 := (by injection e486); have hy486_0 := Aside0.mk hx486_0; replace hx486_0 := (HB.out.cell (World.block_lt_of_cell? w _ hx486_0)).trans hx486_0; have HR486_0 := Aside0.mk hi486_0; have HC486_0 := Aside0.mk hl486_0; clear hi486_0 hl486_0; replace p486 := eq_true p486; replace q486 := eq_true q486; have ea_ := Option.some.inj (hy482_0.out.symm.trans hy486_0.out); injection ea_ with ea_ en_ ec_; subst ea_; subst ec_; clear en_; have p487 : 0 ≤ (x6_3 : Int) := of_decide_eq_true (by first | (with_reducible assumption) | assumption); have q487 : x6_3 < ((rd_L2 l0 x5_2).length : Int) := of_decide_eq_true (by first | (with_reducible assumption) | assumption); obtain ⟨ad487, e487, hx487_0⟩ := Kd.at_int HR486_0.out x6_3 p487 q487; cases e487; have hy487_0 := Aside0.mk hx487_0; replace hx487_0 := (HB.out.cell (World.block_lt_of_cell? w _ hx487_0)).trans hx487_0; replace p487 := eq_true p487; replace q487 := eq_true q487; obtain ⟨Ao25, co25, eo25⟩ := Kd.R_slice HO_4.out; subst eo25; have p488 : 0 ≤ ((rd (rd_L2 l0 x5_2) x6_3) : Int) := of_decide_eq_true (by first | (with_reducible assumption) | assumption); have q488 : (rd (rd_L2 l0 x5_2) x6_3) < (x4_3.length : Int) := of_decide_eq_true (by first | (with_reducible assumption) | assumption); obtain ⟨ad488, e488, hx488_0⟩ := Kd.at_bool (Kd.R_reads' HO_4.out).2.2 (rd (rd_L2 l0 x5_2) x6_3) p488 q488; (try rw [← Nbq21.out] at hx488_0); cases e488; replace p488 := eq_true p488; replace q488 := eq_true q488; have p489 : 0 ≤ (x5_2 : Int) := of_decide_eq_true (by first | (with_reducible assumption) | assumption); have q489 : x5_2 < (l0.length : Int) := of_decide_eq_true (by first | (with_reducible assumption) | assumption); obtain ⟨ad489, A489_0, c489_0, e489, hx489_0, hl489_0, hi489_0⟩ := at_L2 HR0.out x5_2 p489 q489; obtain rfl : ad481 = ad489 := (by injection e489); have hy489_0 := Aside0.mk hx489_0; replace hx489_0 := (HB.out.cell (World.block_lt_of_cell? w _ hx489_0)).trans hx489_0; have HR489_0 := Aside0.mk hi489_0; have HC489_0 := Aside0.mk hl489_0; clear hi489_0 hl489_0; replace p489 := eq_true p489; replace q489 := eq_true q489; have ea_ := Option.some.inj (hy482_0.out.symm.trans hy489_0.out); injection ea_ with ea_ en_ ec_; subst ea_; subst ec_; clear en_; have p490 : 0 ≤ (x6_3 : Int) := of_decide_eq_true (by first | (with_reducible assumption) | assumption); have q490 : x6_3 < ((rd_L2 l0 x5_2).length : Int) := of_decide_eq_true (by first | (with_reducible assumption) | assumption); obtain ⟨ad490, e490, hx490_0⟩ := Kd.at_int HR489_0.out x6_3 p490 q490; cases e490; have hy490_0 := Aside0.mk hx490_0; replace hx490_0 := (HB.out.cell (World.block_lt_of_cell? w _ hx490_0)).trans hx490_0; replace p490 := eq_true p490; replace q490 := eq_true q490; have p24 : 0 ≤ ((rd (rd_L2 l0 x5_2) x6_3) : Int) := of_decide_eq_true (by first | (with_reducible assumption) | assumption); have q24 : ((rd (rd_L2 l0 x5_2) x6_3) : Int) < ((x4_3.length : Int) : Int) := of_decide_eq_true (by first | (with_reducible assumption) | assumption); obtain ⟨go24, co24, eo24, gb24, gl24, cl24, HG24⟩ := Kd.R_form HO_4.out (by omega); (first | cases eo24 | (injection eo24 with ea_ en_ ec_; (first | subst ea_ | (injection ea_ with ea_; subst ea_)); subst ec_; clear en_)); have GB24 := Aside0.mk gb24; have GG24 := Aside0.mk HG24; clear gb24 gl24 HG24; (first | simp only [add_plain] at hx488_0 | skip); obtain ⟨hx24_0, hf24_0⟩ := Kd.R_celln false HO_4.out ((rd (rd_L2 l0 x5_2) x6_3) : Int) p24 q24; replace p24 := eq_true p24; replace q24 := eq_true q24; obtain ⟨hy26_, hz26_⟩ := Kd.R_celln false HO_4.out ((rd (rd_L2 l0 x5_2) x6_3) : Int) (of_decide_eq_true (by first | (with_reducible assumption) | assumption)) (of_decide_eq_true (by first | (with_reducible assumption) | assumption)); have HP26 := Kd.R_putg HO_4.out ((rd (rd_L2 l0 x5_2) x6_3) : Int) true) | ((with_reducible refine gate_store (t := 4) (p := 74) rfl ?_); refine store_event (t := 4) (p := 74) (v := ?vo_w27) (w1 := (wr.setCell ⟨go24, ((rd (rd_L2 l0 x5_2) x6_3) : Int).toNat, none⟩ (.bool true))) ?hg ?ho ?hn ?hr ?_; (case ho => rfl); (case hg => rfl); (case hn => rfl); (case hr => first | (go_simp; done) | (go_simp; rfl)); intro w27 hw; have hg : wr.grownBy w27 (some go24) := (by rw [hw]; exact HP26.2); have hp_ : Kd.R Kd.bool 4 w27 w.heap.size (fun _ => True) (.slice (some ⟨go24, 0, none⟩) x4_3.length co25) y491 := (by rw [hw, Ny491.out]; exact HP26.1); clear HP26; have n0_ := Aside0.mk (hp_); have n1_ := Aside0.mk ((by rw [hw]; exact below_set (HB.out) GB24.out : Below w.heap.size w w27)); clear HO_4; clear HB; have HO_4 := n0_; have HB := n1_; clear n0_ n1_; clear hg hw hp_))
                                          go_roundg k3
                                          case measure => have := HJ1.out; have := HK2.out; have := HK3.out; omega
                                          case rel => exact ⟨(y491), (wrap64 (x6_3 + 1)), (by first | rfl | (simp; done) | (simp [*]; done)), H', ⟨by have := HJ1.out; have := HK2.out; have := HK3.out; omega⟩, ⟨by (with_reducible repeat (first | apply Kd.R_alloc | apply Kd.R_drewN | apply Kd.R_drew)); exact HO_4.out⟩, ⟨by repeat (first | (with_reducible first | exact HB.out | apply below_alloc | apply pw_below_drewN | apply below_drew1) | exact HB.out)⟩⟩
                                      · rw [if_neg c20] at H
                                        exact absurd H (by simp)
                                    · rw [if_neg c19] at H
                                      exact absurd H (by simp)
                                  · replace c18 := Bool.eq_false_iff.mpr c18
                                    subst c18
                                    have H1 : (some false) = some r := by rw [if_neg (show ¬ (false = true) by decide)] at H; exact H
                                    clear H
                                    have H := H1
                                    clear H1
                                    obtain rfl := Option.some.inj H
                                    have p482 : 0 ≤ (x5_2 : Int) := of_decide_eq_true (by first | (with_reducible assumption) | assumption)
                                    have q482 : x5_2 < (l0.length : Int) := of_decide_eq_true (by first | (with_reducible assumption) | assumption)
                                    obtain ⟨ad482, A482_0, c482_0, e482, hx482_0, hl482_0, hi482_0⟩ := at_L2 HR0.out x5_2 p482 q482
                                    obtain rfl : ad481 = ad482 := (by injection e482)
                                    have hy482_0 := Aside0.mk hx482_0
                                    replace hx482_0 := (HB.out.cell (World.block_lt_of_cell? w _ hx482_0)).trans hx482_0
                                    have HR482_0 := Aside0.mk hi482_0
                                    have HC482_0 := Aside0.mk hl482_0
                                    clear hi482_0 hl482_0
                                    replace p482 := eq_true p482
                                    replace q482 := eq_true q482
                                    have p483 : 0 ≤ (x5_2 : Int) := of_decide_eq_true (by first | (with_reducible assumption) | assumption)
                                    have q483 : x5_2 < (l0.length : Int) := of_decide_eq_true (by first | (with_reducible assumption) | assumption)
                                    obtain ⟨ad483, A483_0, c483_0, e483, hx483_0, hl483_0, hi483_0⟩ := at_L2 HR0.out x5_2 p483 q483
                                    obtain rfl : ad481 = ad483 := (by injection e483)
                                    have hy483_0 := Aside0.mk hx483_0
                                    replace hx483_0 := (HB.out.cell (World.block_lt_of_cell? w _ hx483_0)).trans hx483_0
                                    have HR483_0 := Aside0.mk hi483_0
                                    have HC483_0 := Aside0.mk hl483_0
                                    clear hi483_0 hl483_0
                                    replace p483 := eq_true p483
                                    replace q483 := eq_true q483
                                    have ea_ := Option.some.inj (hy482_0.out.symm.trans hy483_0.out)
                                    injection ea_ with ea_ en_ ec_
                                    subst ea_
                                    subst ec_
                                    clear en_
                                    have p484 : 0 ≤ (x6_3 : Int) := of_decide_eq_true (by first | (with_reducible assumption) | assumption)
                                    have q484 : x6_3 < ((rd_L2 l0 x5_2).length : Int) := of_decide_eq_true (by first | (with_reducible assumption) | assumption)
                                    obtain ⟨ad484, e484, hx484_0⟩ := Kd.at_int HR483_0.out x6_3 p484 q484
                                    cases e484
                                    have hy484_0 := Aside0.mk hx484_0
                                    replace hx484_0 := (HB.out.cell (World.block_lt_of_cell? w _ hx484_0)).trans hx484_0
                                    replace p484 := eq_true p484
                                    replace q484 := eq_true q484
                                    go_wp2_with (first | ((with_reducible refine gate_callee (f := 64) rfl ?_); refine goesL_ (some 52) rfl rfl Try.func64 (by kernel_rfl) rfl #[.int .i64 (rd (rd_L2 l0 x5_2) x6_3), .int .i64 0, .int .i64 (wrap64 (ji5 - 1))] rfl (by (try simp only [List.map_toArray, List.map_cons, List.map_nil]); first | done | rfl | (simp only [List.length_drop, List.length_take]; rfl)) ?_; (with_reducible refine (spec_l00In.calls (rd (rd_L2 l0 x5_2) x6_3) 0 (wrap64 (ji5 - 1)) false _ (by first | exact A17.out | (rw [← hji5]; exact A17.out))).mono ?_); rintro e w' ⟨rfl, ⟨nd, rfl⟩⟩; refine ⟨_, rfl, ?_⟩))
                                    go_ret
                                    exact ⟨by first | rfl | (simp [errW_none, errW_some] <;> rfl) | (simp only [← hji5]; first | rfl | (simp [errW_none, errW_some] <;> rfl)) | (simp [*, errW_none, errW_some] <;> rfl), by repeat (first | (with_reducible first | exact HB.out | apply below_alloc | apply pw_below_drewN | apply below_drew1) | exact HB.out)⟩
                                · rw [if_neg c16] at H
                                  exact absurd H (by simp)
                              · rw [if_neg c15] at H
                                have c15b0 : decide (x6_3 < ((rd_L2 l0 x5_2).length : Int)) = false := decide_eq_false c15
                                clear c15
                                have H' := Aside0.mk H
                                clear H
                                have p482 : 0 ≤ (x5_2 : Int) := of_decide_eq_true (by first | (with_reducible assumption) | assumption)
                                have q482 : x5_2 < (l0.length : Int) := of_decide_eq_true (by first | (with_reducible assumption) | assumption)
                                obtain ⟨ad482, A482_0, c482_0, e482, hx482_0, hl482_0, hi482_0⟩ := at_L2 HR0.out x5_2 p482 q482
                                obtain rfl : ad481 = ad482 := (by injection e482)
                                have hy482_0 := Aside0.mk hx482_0
                                replace hx482_0 := (HB.out.cell (World.block_lt_of_cell? w _ hx482_0)).trans hx482_0
                                have HR482_0 := Aside0.mk hi482_0
                                have HC482_0 := Aside0.mk hl482_0
                                clear hi482_0 hl482_0
                                replace p482 := eq_true p482
                                replace q482 := eq_true q482
                                go_wp2
                                go_roundg k3
                                case measure => have := HJ1.out; have := HK2.out; have := HK3.out; omega
                                case rel => exact ⟨(x4_3), (wrap64 (x5_2 + 1)), (by first | rfl | (simp; done) | (simp [*]; done)), H', ⟨by have := HJ1.out; have := HK2.out; have := HK3.out; omega⟩, ⟨by (with_reducible repeat (first | apply Kd.R_alloc | apply Kd.R_drewN | apply Kd.R_drew)); exact HO_4.out⟩, ⟨by repeat (first | (with_reducible first | exact HB.out | apply below_alloc | apply pw_below_drewN | apply below_drew1) | exact HB.out)⟩⟩
                            · rw [if_neg c14] at H
                              exact absurd H (by simp)
                          · rw [if_neg c13] at H
                            exact absurd H (by simp)
                    · rw [if_neg c12] at H
                      have c12b0 : (((rd_L2 l0 x5_2).length : Int) == (l0.length : Int)) = false := beq_eq_false_iff_ne.mpr c12
                      have c12b1 : (((rd_L2 l0 x5_2).length : Int) != (l0.length : Int)) = true := bne_iff_ne.mpr c12
                      have c12b2 : ((rd_L2 l0 x5_2).length == l0.length) = false := by first | simpa using c12 | (simp at c12 ⊢; omega)
                      obtain rfl := Option.some.inj H
                      have p481 : 0 ≤ (x5_2 : Int) := of_decide_eq_true (by first | (with_reducible assumption) | assumption)
                      have q481 : x5_2 < (l0.length : Int) := of_decide_eq_true (by first | (with_reducible assumption) | assumption)
                      obtain ⟨ad481, A481_0, c481_0, e481, hx481_0, hl481_0, hi481_0⟩ := at_L2 HR0.out x5_2 p481 q481
                      cases e481
                      have hy481_0 := Aside0.mk hx481_0
                      replace hx481_0 := (HB.out.cell (World.block_lt_of_cell? w _ hx481_0)).trans hx481_0
                      have HR481_0 := Aside0.mk hi481_0
                      have HC481_0 := Aside0.mk hl481_0
                      clear hi481_0 hl481_0
                      replace p481 := eq_true p481
                      replace q481 := eq_true q481
                      go_wp2
                      go_ret
                      exact ⟨by first | rfl | (simp [errW_none, errW_some] <;> rfl) | (simp only [← hji5]; first | rfl | (simp [errW_none, errW_some] <;> rfl)) | (simp [*, errW_none, errW_some] <;> rfl), by repeat (first | (with_reducible first | exact HB.out | apply below_alloc | apply pw_below_drewN | apply below_drew1) | exact HB.out)⟩
                  · rw [if_neg c11] at H
                    exact absurd H (by simp)
                · rw [if_neg c10] at H
                  have c10b0 : decide (x5_2 < (l0.length : Int)) = false := decide_eq_false c10
                  clear c10
                  obtain rfl := Option.some.inj H
                  go_wp2
                  go_ret
                  exact ⟨by first | rfl | (simp [errW_none, errW_some] <;> rfl) | (simp only [← hji5]; first | rfl | (simp [errW_none, errW_some] <;> rfl)) | (simp [*, errW_none, errW_some] <;> rfl), by repeat (first | (with_reducible first | exact HB.out | apply below_alloc | apply pw_below_drewN | apply below_drew1) | exact HB.out)⟩
          · rw [if_neg c7] at H
            exact absurd H (by simp)
        · rw [if_neg c6] at H
          exact absurd H (by simp)

def spec_IsMask.f (k : Nat) (l0 : List (List Int)) : Option (Bool) := (spec_l09Mask.f k l0).bind fun t492 => (some t492)
theorem spec_IsMask.mono : ∀ a0 k, LeO (spec_IsMask.f k a0) (spec_IsMask.f (k + 1) a0) := by
  intro a0 k
  unfold spec_IsMask.f
  repeat' first
      | (with_reducible exact spec_l09Mask.mono _ _)
      | (with_reducible exact LeO.refl _)
      | (with_reducible exact LeO.none _)
      | (with_reducible refine LeO.ite ?_ ?_)
      | (with_reducible refine LeO.bind ?_ (fun _ => ?_))
      | exact spec_l09Mask.mono _ _
      | exact LeO.none _
      | refine LeO.ite ?_ ?_
      | refine LeO.bind ?_ (fun _ => ?_)
set_option maxHeartbeats 8000000 in
set_option maxRecDepth 100000 in
theorem spec_IsMask.calls (k : Nat) (A0 : Option Addr) (c0 : Nat) (l0 : List (List Int)) (r : Bool) (w : World) (hr0 : Kd.C (Kd.slice 2 (Kd.int .i64)) w A0 l0.length l0) (hc0 : l0.length ≤ c0) (h : spec_IsMask.f k l0 = some r) :
    Calls Try.prog 39 #[.slice A0 l0.length c0] w fun e w' => e = .returned (.bool r) ∧ Below w.heap.size w w' := by
  have HR0 := Aside0.mk hr0
  have HC0 := Aside0.mk hc0
  clear hr0 hc0
  have HB := Aside0.mk (Below.refl w.heap.size w)
  have H : ((spec_l09Mask.f k l0).bind fun t492 => (some t492)) = some r := h
  clear h
  replace H := Option.bind_eq_some_iff.mp H
  obtain ⟨t492, A20, H⟩ := H
  replace H : (some t492) = some r := H
  have A2 := Aside0.mk A20
  clear A20
  obtain rfl := Option.some.inj H
  go_enter Try.func39, Try.ntmps39
  go_wp2_with (first | ((with_reducible refine gate_callee (f := 83) rfl ?_); refine goesL_ (some 4) rfl rfl Try.func83 (by kernel_rfl) rfl #[.slice A0 l0.length c0] rfl (by (try simp only [List.map_toArray, List.map_cons, List.map_nil]); first | done | rfl | (simp only [List.length_drop, List.length_take]; rfl)) ?_; (with_reducible refine (spec_l09Mask.calls k _ _ l0 t492 _ ?side1 ?side2 A2.out).mono ?_); (case side1 => repeat (first | exact HR0.out | (with_reducible refine Kd.C_alloc ?_ _) | (with_reducible refine Kd.C_drewN ?_ _) | (with_reducible refine Kd.C_drew ?_))); (case side2 => exact HC0.out); rintro e w3 ⟨rfl, hb⟩; refine ⟨_, rfl, ?_⟩; have n0_ := Aside0.mk (below_step (by repeat (first | (with_reducible first | exact HB.out | apply below_alloc | apply pw_below_drewN | apply below_drew1) | exact HB.out)) hb); clear HB; have HB := n0_; clear n0_; (try clear hb); (try clear hb2); (try clear hk); (try clear hi)))
  go_ret
  exact ⟨by first | rfl | (simp [errW_none, errW_some] <;> rfl) | (simp [*, errW_none, errW_some] <;> rfl), by repeat (first | (with_reducible first | exact HB.out | apply below_alloc | apply pw_below_drewN | apply below_drew1) | exact HB.out)⟩

end Go.Proofs.Ytamjcfdjcagjmaa.P
