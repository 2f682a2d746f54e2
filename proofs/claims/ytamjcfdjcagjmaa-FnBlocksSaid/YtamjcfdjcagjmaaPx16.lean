-- written by a program of this session (gprint.py), which calls the kit's print
import Derived.Test.YtamjcfdjcagjmaaPx0
import Derived.Test.YtamjcfdjcagjmaaPx1
import Derived.Test.YtamjcfdjcagjmaaPx2
import Derived.Test.YtamjcfdjcagjmaaPx3
import Derived.Test.YtamjcfdjcagjmaaPx7
import Derived.Test.YtamjcfdjcagjmaaPx9
import Derived.Test.YtamjcfdjcagjmaaPx14
import Derived.Test.YtamjcfdjcagjmaaPx15
namespace Go.Proofs.Ytamjcfdjcagjmaa.P
open Go.RowKit Go.Proofs.YtamjcfdjcagjmaaW.PrintWords Go.Proofs.YtamjcfdjcagjmaaW.PrintLast Go.Proofs.YtamjcfdjcagjmaaW.PrintMore
attribute [local go_sem] max2_int min2_int max_two min_two max_three min_three max_four min_four   -- for this text's walks alone
set_option linter.unusedVariables false
set_option linter.unusedSimpArgs false

/-! ### laws_FnBlocks: function 9 -/
mutual
def laws_FnBlocks.j0 : Nat → List (List Int) → List (List Int) → List (List Int) → Bool → List (List Int) → Option (Bool)
  | 0, _, _, _, _, _ => none
  | k + 1, x8, x10, x13, x87, x544000 => if x87 = true then (some false) else (laws_FnBlocks.l0 k x8 x10 x13 0 x544000)
def laws_FnBlocks.l0 : Nat → List (List Int) → List (List Int) → List (List Int) → Int → List (List Int) → Option (Bool)
  | 0, _, _, _, _, _ => none
  | k + 1, x8, x10, x13, x15, x544000 => if x15 < (x10.length : Int) then (if 0 ≤ x15 then (if x15 < (x544000.length : Int) then (if ((rd_L2 x10 x15).length : Int) = ((rd_L2 x544000 x15).length : Int) then (if x15 < (x8.length : Int) then (laws_FnBlocks.j2 k x8 x10 x13 x15 (((rd_L2 x8 x15).length : Int) != ((rd_L2 x544000 x15).length : Int)) x544000) else (none)) else (laws_FnBlocks.j2 k x8 x10 x13 x15 true x544000)) else (none)) else (none)) else ((laws_b10All.f k x13).bind fun t563 => ((laws_b10All.f k x10).bind fun t564 => (some (t563 == t564))))
def laws_FnBlocks.j2 : Nat → List (List Int) → List (List Int) → List (List Int) → Int → Bool → List (List Int) → Option (Bool)
  | 0, _, _, _, _, _, _ => none
  | k + 1, x8, x10, x13, x15, x119, x544000 => if x119 = true then (some false) else (laws_FnBlocks.l1 k x8 x10 x13 x15 0 x544000)
def laws_FnBlocks.l1 : Nat → List (List Int) → List (List Int) → List (List Int) → Int → Int → List (List Int) → Option (Bool)
  | 0, _, _, _, _, _, _ => none
  | k + 1, x8, x10, x13, x15, x16, x544000 => if 0 ≤ x15 then (if x15 < (x10.length : Int) then (if x16 < ((rd_L2 x10 x15).length : Int) then (if 0 ≤ x16 then (if x15 < (x544000.length : Int) then (if x16 < ((rd_L2 x544000 x15).length : Int) then (if x15 < (x8.length : Int) then (if x16 < ((rd_L2 x8 x15).length : Int) then (if (rd (rd_L2 x10 x15) x16) = (wrap64 ((rd (rd_L2 x544000 x15) x16) - (wrap64 (255 * (rd (rd_L2 x8 x15) x16))))) then (laws_FnBlocks.l1 k x8 x10 x13 x15 (wrap64 (x16 + 1)) x544000) else (some false)) else (none)) else (none)) else (none)) else (none)) else (none)) else (laws_FnBlocks.l0 k x8 x10 x13 (wrap64 (x15 + 1)) x544000)) else (none)) else (none)
end
def laws_FnBlocks.f (k : Nat) (l0 : List Int) (l1 : List Int) : Option (Bool) := (laws_b10Long.f l0 l1).bind fun t539 => (if t539 = true then (some true) else ((spec_B10Picture.f k l0).bind fun t540 => ((laws_b10At.f l1 0 3).bind fun t544 => ((impl_DoublingMask.f t544).bind fun bt545 => ((impl_MaskDither.f k t540 bt545.1).bind fun bt549 => ((impl_BlockErrors.f k t540 bt549.1 1).bind fun bt553 => (if 0 < (t540.length : Int) then ((laws_b10Gcd.f k (t540.length : Int) ((rd_L2 t540 0).length : Int)).bind fun t558 => ((impl_BlockErrors.f k t540 bt549.1 t558).bind fun bt559 => (if bt545.2 = true then (if bt549.2 = true then (if bt553.2 = true then (if bt559.2 = true then (if (bt553.1.length : Int) = (t540.length : Int) then (laws_FnBlocks.j0 k bt549.1 bt553.1 bt559.1 ((wrap64 ((bt559.1.length : Int) * t558)) != (t540.length : Int)) t540) else (laws_FnBlocks.j0 k bt549.1 bt553.1 bt559.1 true t540)) else (laws_FnBlocks.j0 k bt549.1 bt553.1 bt559.1 true t540)) else (laws_FnBlocks.j0 k bt549.1 bt553.1 bt559.1 true t540)) else (laws_FnBlocks.j0 k bt549.1 bt553.1 bt559.1 true t540)) else (laws_FnBlocks.j0 k bt549.1 bt553.1 bt559.1 true t540)))) else (none))))))))
theorem laws_FnBlocks.mono_l : ∀ k, (∀ y0 y1 y2 y3 y4, LeO (laws_FnBlocks.j0 k y0 y1 y2 y3 y4) (laws_FnBlocks.j0 (k + 1) y0 y1 y2 y3 y4)) ∧ (∀ y0 y1 y2 y3 y4, LeO (laws_FnBlocks.l0 k y0 y1 y2 y3 y4) (laws_FnBlocks.l0 (k + 1) y0 y1 y2 y3 y4)) ∧ (∀ y0 y1 y2 y3 y4 y5, LeO (laws_FnBlocks.j2 k y0 y1 y2 y3 y4 y5) (laws_FnBlocks.j2 (k + 1) y0 y1 y2 y3 y4 y5)) ∧ (∀ y0 y1 y2 y3 y4 y5, LeO (laws_FnBlocks.l1 k y0 y1 y2 y3 y4 y5) (laws_FnBlocks.l1 (k + 1) y0 y1 y2 y3 y4 y5))
  | 0 => ⟨fun _ _ _ _ _ r h => by simp [laws_FnBlocks.j0] at h, fun _ _ _ _ _ r h => by simp [laws_FnBlocks.l0] at h, fun _ _ _ _ _ _ r h => by simp [laws_FnBlocks.j2] at h, fun _ _ _ _ _ _ r h => by simp [laws_FnBlocks.l1] at h⟩
  | k + 1 => by
    obtain ⟨ih0, ih1, ih2, ih3⟩ := laws_FnBlocks.mono_l k
    refine ⟨?_, ?_, ?_, ?_⟩
    · intro y0 y1 y2 y3 y4
      unfold laws_FnBlocks.j0
      repeat' first
      | (with_reducible exact ih0 _ _ _ _ _)
      | (with_reducible exact ih1 _ _ _ _ _)
      | (with_reducible exact ih2 _ _ _ _ _ _)
      | (with_reducible exact ih3 _ _ _ _ _ _)
      | (with_reducible exact impl_BlockErrors.mono _ _ _ _)
      | (with_reducible exact impl_MaskDither.mono _ _ _)
      | (with_reducible exact laws_b10All.mono _ _)
      | (with_reducible exact laws_b10Gcd.mono _ _ _)
      | (with_reducible exact spec_B10Picture.mono _ _)
      | (with_reducible exact LeO.refl _)
      | (with_reducible exact LeO.none _)
      | (with_reducible refine LeO.ite ?_ ?_)
      | (with_reducible refine LeO.bind ?_ (fun _ => ?_))
      | exact ih0 _ _ _ _ _
      | exact ih1 _ _ _ _ _
      | exact ih2 _ _ _ _ _ _
      | exact ih3 _ _ _ _ _ _
      | exact impl_BlockErrors.mono _ _ _ _
      | exact impl_MaskDither.mono _ _ _
      | exact laws_b10All.mono _ _
      | exact laws_b10Gcd.mono _ _ _
      | exact spec_B10Picture.mono _ _
      | exact LeO.none _
      | refine LeO.ite ?_ ?_
      | refine LeO.bind ?_ (fun _ => ?_)
    · intro y0 y1 y2 y3 y4
      unfold laws_FnBlocks.l0
      repeat' first
      | (with_reducible exact ih0 _ _ _ _ _)
      | (with_reducible exact ih1 _ _ _ _ _)
      | (with_reducible exact ih2 _ _ _ _ _ _)
      | (with_reducible exact ih3 _ _ _ _ _ _)
      | (with_reducible exact impl_BlockErrors.mono _ _ _ _)
      | (with_reducible exact impl_MaskDither.mono _ _ _)
      | (with_reducible exact laws_b10All.mono _ _)
      | (with_reducible exact laws_b10Gcd.mono _ _ _)
      | (with_reducible exact spec_B10Picture.mono _ _)
      | (with_reducible exact LeO.refl _)
      | (with_reducible exact LeO.none _)
      | (with_reducible refine LeO.ite ?_ ?_)
      | (with_reducible refine LeO.bind ?_ (fun _ => ?_))
      | exact ih0 _ _ _ _ _
      | exact ih1 _ _ _ _ _
      | exact ih2 _ _ _ _ _ _
      | exact ih3 _ _ _ _ _ _
      | exact impl_BlockErrors.mono _ _ _ _
      | exact impl_MaskDither.mono _ _ _
      | exact laws_b10All.mono _ _
      | exact laws_b10Gcd.mono _ _ _
      | exact spec_B10Picture.mono _ _
      | exact LeO.none _
      | refine LeO.ite ?_ ?_
      | refine LeO.bind ?_ (fun _ => ?_)
    · intro y0 y1 y2 y3 y4 y5
      unfold laws_FnBlocks.j2
      repeat' first
      | (with_reducible exact ih0 _ _ _ _ _)
      | (with_reducible exact ih1 _ _ _ _ _)
      | (with_reducible exact ih2 _ _ _ _ _ _)
      | (with_reducible exact ih3 _ _ _ _ _ _)
      | (with_reducible exact impl_BlockErrors.mono _ _ _ _)
      | (with_reducible exact impl_MaskDither.mono _ _ _)
      | (with_reducible exact laws_b10All.mono _ _)
      | (with_reducible exact laws_b10Gcd.mono _ _ _)
      | (with_reducible exact spec_B10Picture.mono _ _)
      | (with_reducible exact LeO.refl _)
      | (with_reducible exact LeO.none _)
      | (with_reducible refine LeO.ite ?_ ?_)
      | (with_reducible refine LeO.bind ?_ (fun _ => ?_))
      | exact ih0 _ _ _ _ _
      | exact ih1 _ _ _ _ _
      | exact ih2 _ _ _ _ _ _
      | exact ih3 _ _ _ _ _ _
      | exact impl_BlockErrors.mono _ _ _ _
      | exact impl_MaskDither.mono _ _ _
      | exact laws_b10All.mono _ _
      | exact laws_b10Gcd.mono _ _ _
      | exact spec_B10Picture.mono _ _
      | exact LeO.none _
      | refine LeO.ite ?_ ?_
      | refine LeO.bind ?_ (fun _ => ?_)
    · intro y0 y1 y2 y3 y4 y5
      unfold laws_FnBlocks.l1
      repeat' first
      | (with_reducible exact ih0 _ _ _ _ _)
      | (with_reducible exact ih1 _ _ _ _ _)
      | (with_reducible exact ih2 _ _ _ _ _ _)
      | (with_reducible exact ih3 _ _ _ _ _ _)
      | (with_reducible exact impl_BlockErrors.mono _ _ _ _)
      | (with_reducible exact impl_MaskDither.mono _ _ _)
      | (with_reducible exact laws_b10All.mono _ _)
      | (with_reducible exact laws_b10Gcd.mono _ _ _)
      | (with_reducible exact spec_B10Picture.mono _ _)
      | (with_reducible exact LeO.refl _)
      | (with_reducible exact LeO.none _)
      | (with_reducible refine LeO.ite ?_ ?_)
      | (with_reducible refine LeO.bind ?_ (fun _ => ?_))
      | exact ih0 _ _ _ _ _
      | exact ih1 _ _ _ _ _
      | exact ih2 _ _ _ _ _ _
      | exact ih3 _ _ _ _ _ _
      | exact impl_BlockErrors.mono _ _ _ _
      | exact impl_MaskDither.mono _ _ _
      | exact laws_b10All.mono _ _
      | exact laws_b10Gcd.mono _ _ _
      | exact spec_B10Picture.mono _ _
      | exact LeO.none _
      | refine LeO.ite ?_ ?_
      | refine LeO.bind ?_ (fun _ => ?_)
theorem laws_FnBlocks.mono : ∀ a0 a1 k, LeO (laws_FnBlocks.f k a0 a1) (laws_FnBlocks.f (k + 1) a0 a1) := by
  intro a0 a1 k
  obtain ⟨ih0, ih1, ih2, ih3⟩ := laws_FnBlocks.mono_l k
  unfold laws_FnBlocks.f
  repeat' first
      | (with_reducible exact ih0 _ _ _ _ _)
      | (with_reducible exact ih1 _ _ _ _ _)
      | (with_reducible exact ih2 _ _ _ _ _ _)
      | (with_reducible exact ih3 _ _ _ _ _ _)
      | (with_reducible exact impl_BlockErrors.mono _ _ _ _)
      | (with_reducible exact impl_MaskDither.mono _ _ _)
      | (with_reducible exact laws_b10All.mono _ _)
      | (with_reducible exact laws_b10Gcd.mono _ _ _)
      | (with_reducible exact spec_B10Picture.mono _ _)
      | (with_reducible exact LeO.refl _)
      | (with_reducible exact LeO.none _)
      | (with_reducible refine LeO.ite ?_ ?_)
      | (with_reducible refine LeO.bind ?_ (fun _ => ?_))
      | exact ih0 _ _ _ _ _
      | exact ih1 _ _ _ _ _
      | exact ih2 _ _ _ _ _ _
      | exact ih3 _ _ _ _ _ _
      | exact impl_BlockErrors.mono _ _ _ _
      | exact impl_MaskDither.mono _ _ _
      | exact laws_b10All.mono _ _
      | exact laws_b10Gcd.mono _ _ _
      | exact spec_B10Picture.mono _ _
      | exact LeO.none _
      | refine LeO.ite ?_ ?_
      | refine LeO.bind ?_ (fun _ => ?_)
set_option maxHeartbeats 8000000 in
set_option maxRecDepth 100000 in
theorem laws_FnBlocks.calls (k : Nat) (A0 : Option Addr) (c0 : Nat) (l0 : List Int) (A1 : Option Addr) (c1 : Nat) (l1 : List Int) (r : Bool) (w : World) (hr0 : Kd.C (Kd.int .u8) w A0 l0.length l0) (hc0 : l0.length ≤ c0) (hr1 : Kd.C (Kd.int .u8) w A1 l1.length l1) (hc1 : l1.length ≤ c1) (h : laws_FnBlocks.f k l0 l1 = some r) :
    Calls Try.prog 9 #[.slice A0 l0.length c0, .slice A1 l1.length c1] w fun e w' => e = .returned (.bool r) ∧ Below w.heap.size w w' := by
  have hu30 := Try.underlying30
  have HR0 := Aside0.mk hr0
  have HC0 := Aside0.mk hc0
  clear hr0 hc0
  have HR1 := Aside0.mk hr1
  have HC1 := Aside0.mk hc1
  clear hr1 hc1
  have HB := Aside0.mk (Below.refl w.heap.size w)
  have H : ((laws_b10Long.f l0 l1).bind fun t539 => (if t539 = true then (some true) else ((spec_B10Picture.f k l0).bind fun t540 => ((laws_b10At.f l1 0 3).bind fun t544 => ((impl_DoublingMask.f t544).bind fun bt545 => ((impl_MaskDither.f k t540 bt545.1).bind fun bt549 => ((impl_BlockErrors.f k t540 bt549.1 1).bind fun bt553 => (if 0 < (t540.length : Int) then ((laws_b10Gcd.f k (t540.length : Int) ((rd_L2 t540 0).length : Int)).bind fun t558 => ((impl_BlockErrors.f k t540 bt549.1 t558).bind fun bt559 => (if bt545.2 = true then (if bt549.2 = true then (if bt553.2 = true then (if bt559.2 = true then (if (bt553.1.length : Int) = (t540.length : Int) then (laws_FnBlocks.j0 k bt549.1 bt553.1 bt559.1 ((wrap64 ((bt559.1.length : Int) * t558)) != (t540.length : Int)) t540) else (laws_FnBlocks.j0 k bt549.1 bt553.1 bt559.1 true t540)) else (laws_FnBlocks.j0 k bt549.1 bt553.1 bt559.1 true t540)) else (laws_FnBlocks.j0 k bt549.1 bt553.1 bt559.1 true t540)) else (laws_FnBlocks.j0 k bt549.1 bt553.1 bt559.1 true t540)) else (laws_FnBlocks.j0 k bt549.1 bt553.1 bt559.1 true t540)))) else (none))))))))) = some r := h
  clear h
  replace H := Option.bind_eq_some_iff.mp H
  obtain ⟨t539, A30, H⟩ := H
  replace H : (if t539 = true then (some true) else ((spec_B10Picture.f k l0).bind fun t540 => ((laws_b10At.f l1 0 3).bind fun t544 => ((impl_DoublingMask.f t544).bind fun bt545 => ((impl_MaskDither.f k t540 bt545.1).bind fun bt549 => ((impl_BlockErrors.f k t540 bt549.1 1).bind fun bt553 => (if 0 < (t540.length : Int) then ((laws_b10Gcd.f k (t540.length : Int) ((rd_L2 t540 0).length : Int)).bind fun t558 => ((impl_BlockErrors.f k t540 bt549.1 t558).bind fun bt559 => (if bt545.2 = true then (if bt549.2 = true then (if bt553.2 = true then (if bt559.2 = true then (if (bt553.1.length : Int) = (t540.length : Int) then (laws_FnBlocks.j0 k bt549.1 bt553.1 bt559.1 ((wrap64 ((bt559.1.length : Int) * t558)) != (t540.length : Int)) t540) else (laws_FnBlocks.j0 k bt549.1 bt553.1 bt559.1 true t540)) else (laws_FnBlocks.j0 k bt549.1 bt553.1 bt559.1 true t540)) else (laws_FnBlocks.j0 k bt549.1 bt553.1 bt559.1 true t540)) else (laws_FnBlocks.j0 k bt549.1 bt553.1 bt559.1 true t540)) else (laws_FnBlocks.j0 k bt549.1 bt553.1 bt559.1 true t540)))) else (none)))))))) = some r := H
  have A3 := Aside0.mk A30
  clear A30
  by_cases c4 : t539 = true
  · subst c4
    have H1 : (some true) = some r := by rw [if_pos rfl] at H; exact H
    clear H
    have H := H1
    clear H1
    obtain rfl := Option.some.inj H
    go_enter Try.func9, Try.ntmps9
    go_wp2_with (first | (go_at_call 12; (with_reducible refine (laws_b10Long.calls _ _ l0 _ _ l1 true _ ?side1 ?side2 ?side3 ?side4 A3.out).mono ?_); (case side1 => repeat (first | exact HR0.out | (with_reducible refine Kd.C_alloc ?_ _) | (with_reducible refine Kd.C_drewN ?_ _) | (with_reducible refine Kd.C_drew ?_))); (case side2 => exact HC0.out); (case side3 => repeat (first | exact HR1.out | (with_reducible refine Kd.C_alloc ?_ _) | (with_reducible refine Kd.C_drewN ?_ _) | (with_reducible refine Kd.C_drew ?_))); (case side4 => exact HC1.out); rintro e w' ⟨rfl, ⟨nd, rfl⟩⟩; (try first | exact ⟨rfl, _, World.drewN_drewN _ _ _⟩ | exact ⟨rfl, _, Eq.trans (World.drewN_drewN _ _ _) (congrArg (World.drewN _) (Nat.add_assoc _ _ _))⟩)))
    repeat (go_quiet (first | (go_at_call 12; (with_reducible refine (laws_b10Long.calls _ _ l0 _ _ l1 true _ ?side1 ?side2 ?side3 ?side4 A3.out).mono ?_); (case side1 => repeat (first | exact HR0.out | (with_reducible refine Kd.C_alloc ?_ _) | (with_reducible refine Kd.C_drewN ?_ _) | (with_reducible refine Kd.C_drew ?_))); (case side2 => exact HC0.out); (case side3 => repeat (first | exact HR1.out | (with_reducible refine Kd.C_alloc ?_ _) | (with_reducible refine Kd.C_drewN ?_ _) | (with_reducible refine Kd.C_drew ?_))); (case side4 => exact HC1.out); rintro e w' ⟨rfl, ⟨nd, rfl⟩⟩; (try first | exact ⟨rfl, _, World.drewN_drewN _ _ _⟩ | exact ⟨rfl, _, Eq.trans (World.drewN_drewN _ _ _) (congrArg (World.drewN _) (Nat.add_assoc _ _ _))⟩))); try go_wp2_with (first | (go_at_call 12; (with_reducible refine (laws_b10Long.calls _ _ l0 _ _ l1 true _ ?side1 ?side2 ?side3 ?side4 A3.out).mono ?_); (case side1 => repeat (first | exact HR0.out | (with_reducible refine Kd.C_alloc ?_ _) | (with_reducible refine Kd.C_drewN ?_ _) | (with_reducible refine Kd.C_drew ?_))); (case side2 => exact HC0.out); (case side3 => repeat (first | exact HR1.out | (with_reducible refine Kd.C_alloc ?_ _) | (with_reducible refine Kd.C_drewN ?_ _) | (with_reducible refine Kd.C_drew ?_))); (case side4 => exact HC1.out); rintro e w' ⟨rfl, ⟨nd, rfl⟩⟩; (try first | exact ⟨rfl, _, World.drewN_drewN _ _ _⟩ | exact ⟨rfl, _, Eq.trans (World.drewN_drewN _ _ _) (congrArg (World.drewN _) (Nat.add_assoc _ _ _))⟩))))
    go_ret
    exact ⟨by first | rfl | (simp [errW_none, errW_some] <;> rfl) | (simp [*, errW_none, errW_some] <;> rfl), by repeat (first | (with_reducible first | exact HB.out | apply below_alloc | apply pw_below_drewN | apply below_drew1) | exact HB.out)⟩
  · replace c4 := Bool.eq_false_iff.mpr c4
    subst c4
    have H1 : ((spec_B10Picture.f k l0).bind fun t540 => ((laws_b10At.f l1 0 3).bind fun t544 => ((impl_DoublingMask.f t544).bind fun bt545 => ((impl_MaskDither.f k t540 bt545.1).bind fun bt549 => ((impl_BlockErrors.f k t540 bt549.1 1).bind fun bt553 => (if 0 < (t540.length : Int) then ((laws_b10Gcd.f k (t540.length : Int) ((rd_L2 t540 0).length : Int)).bind fun t558 => ((impl_BlockErrors.f k t540 bt549.1 t558).bind fun bt559 => (if bt545.2 = true then (if bt549.2 = true then (if bt553.2 = true then (if bt559.2 = true then (if (bt553.1.length : Int) = (t540.length : Int) then (laws_FnBlocks.j0 k bt549.1 bt553.1 bt559.1 ((wrap64 ((bt559.1.length : Int) * t558)) != (t540.length : Int)) t540) else (laws_FnBlocks.j0 k bt549.1 bt553.1 bt559.1 true t540)) else (laws_FnBlocks.j0 k bt549.1 bt553.1 bt559.1 true t540)) else (laws_FnBlocks.j0 k bt549.1 bt553.1 bt559.1 true t540)) else (laws_FnBlocks.j0 k bt549.1 bt553.1 bt559.1 true t540)) else (laws_FnBlocks.j0 k bt549.1 bt553.1 bt559.1 true t540)))) else (none))))))) = some r := by rw [if_neg (show ¬ (false = true) by decide)] at H; exact H
    clear H
    have H := H1
    clear H1
    replace H := Option.bind_eq_some_iff.mp H
    obtain ⟨t540, A50, H⟩ := H
    replace H : ((laws_b10At.f l1 0 3).bind fun t544 => ((impl_DoublingMask.f t544).bind fun bt545 => ((impl_MaskDither.f k t540 bt545.1).bind fun bt549 => ((impl_BlockErrors.f k t540 bt549.1 1).bind fun bt553 => (if 0 < (t540.length : Int) then ((laws_b10Gcd.f k (t540.length : Int) ((rd_L2 t540 0).length : Int)).bind fun t558 => ((impl_BlockErrors.f k t540 bt549.1 t558).bind fun bt559 => (if bt545.2 = true then (if bt549.2 = true then (if bt553.2 = true then (if bt559.2 = true then (if (bt553.1.length : Int) = (t540.length : Int) then (laws_FnBlocks.j0 k bt549.1 bt553.1 bt559.1 ((wrap64 ((bt559.1.length : Int) * t558)) != (t540.length : Int)) t540) else (laws_FnBlocks.j0 k bt549.1 bt553.1 bt559.1 true t540)) else (laws_FnBlocks.j0 k bt549.1 bt553.1 bt559.1 true t540)) else (laws_FnBlocks.j0 k bt549.1 bt553.1 bt559.1 true t540)) else (laws_FnBlocks.j0 k bt549.1 bt553.1 bt559.1 true t540)) else (laws_FnBlocks.j0 k bt549.1 bt553.1 bt559.1 true t540)))) else (none)))))) = some r := H
    have A5 := Aside0.mk A50
    clear A50
    replace H := Option.bind_eq_some_iff.mp H
    obtain ⟨t544, A60, H⟩ := H
    replace H : ((impl_DoublingMask.f t544).bind fun bt545 => ((impl_MaskDither.f k t540 bt545.1).bind fun bt549 => ((impl_BlockErrors.f k t540 bt549.1 1).bind fun bt553 => (if 0 < (t540.length : Int) then ((laws_b10Gcd.f k (t540.length : Int) ((rd_L2 t540 0).length : Int)).bind fun t558 => ((impl_BlockErrors.f k t540 bt549.1 t558).bind fun bt559 => (if bt545.2 = true then (if bt549.2 = true then (if bt553.2 = true then (if bt559.2 = true then (if (bt553.1.length : Int) = (t540.length : Int) then (laws_FnBlocks.j0 k bt549.1 bt553.1 bt559.1 ((wrap64 ((bt559.1.length : Int) * t558)) != (t540.length : Int)) t540) else (laws_FnBlocks.j0 k bt549.1 bt553.1 bt559.1 true t540)) else (laws_FnBlocks.j0 k bt549.1 bt553.1 bt559.1 true t540)) else (laws_FnBlocks.j0 k bt549.1 bt553.1 bt559.1 true t540)) else (laws_FnBlocks.j0 k bt549.1 bt553.1 bt559.1 true t540)) else (laws_FnBlocks.j0 k bt549.1 bt553.1 bt559.1 true t540)))) else (none))))) = some r := H
    have A6 := Aside0.mk A60
    clear A60
    replace H := Option.bind_eq_some_iff.mp H
    obtain ⟨⟨t545, t546⟩, A70, H⟩ := H
    replace H : ((impl_MaskDither.f k t540 t545).bind fun bt549 => ((impl_BlockErrors.f k t540 bt549.1 1).bind fun bt553 => (if 0 < (t540.length : Int) then ((laws_b10Gcd.f k (t540.length : Int) ((rd_L2 t540 0).length : Int)).bind fun t558 => ((impl_BlockErrors.f k t540 bt549.1 t558).bind fun bt559 => (if t546 = true then (if bt549.2 = true then (if bt553.2 = true then (if bt559.2 = true then (if (bt553.1.length : Int) = (t540.length : Int) then (laws_FnBlocks.j0 k bt549.1 bt553.1 bt559.1 ((wrap64 ((bt559.1.length : Int) * t558)) != (t540.length : Int)) t540) else (laws_FnBlocks.j0 k bt549.1 bt553.1 bt559.1 true t540)) else (laws_FnBlocks.j0 k bt549.1 bt553.1 bt559.1 true t540)) else (laws_FnBlocks.j0 k bt549.1 bt553.1 bt559.1 true t540)) else (laws_FnBlocks.j0 k bt549.1 bt553.1 bt559.1 true t540)) else (laws_FnBlocks.j0 k bt549.1 bt553.1 bt559.1 true t540)))) else (none)))) = some r := H
    have A7 := Aside0.mk A70
    clear A70
    replace H := Option.bind_eq_some_iff.mp H
    obtain ⟨⟨t549, t552⟩, A80, H⟩ := H
    replace H : ((impl_BlockErrors.f k t540 t549 1).bind fun bt553 => (if 0 < (t540.length : Int) then ((laws_b10Gcd.f k (t540.length : Int) ((rd_L2 t540 0).length : Int)).bind fun t558 => ((impl_BlockErrors.f k t540 t549 t558).bind fun bt559 => (if t546 = true then (if t552 = true then (if bt553.2 = true then (if bt559.2 = true then (if (bt553.1.length : Int) = (t540.length : Int) then (laws_FnBlocks.j0 k t549 bt553.1 bt559.1 ((wrap64 ((bt559.1.length : Int) * t558)) != (t540.length : Int)) t540) else (laws_FnBlocks.j0 k t549 bt553.1 bt559.1 true t540)) else (laws_FnBlocks.j0 k t549 bt553.1 bt559.1 true t540)) else (laws_FnBlocks.j0 k t549 bt553.1 bt559.1 true t540)) else (laws_FnBlocks.j0 k t549 bt553.1 bt559.1 true t540)) else (laws_FnBlocks.j0 k t549 bt553.1 bt559.1 true t540)))) else (none))) = some r := H
    have A8 := Aside0.mk A80
    clear A80
    replace H := Option.bind_eq_some_iff.mp H
    obtain ⟨⟨t553, t556⟩, A90, H⟩ := H
    replace H : (if 0 < (t540.length : Int) then ((laws_b10Gcd.f k (t540.length : Int) ((rd_L2 t540 0).length : Int)).bind fun t558 => ((impl_BlockErrors.f k t540 t549 t558).bind fun bt559 => (if t546 = true then (if t552 = true then (if t556 = true then (if bt559.2 = true then (if (t553.length : Int) = (t540.length : Int) then (laws_FnBlocks.j0 k t549 t553 bt559.1 ((wrap64 ((bt559.1.length : Int) * t558)) != (t540.length : Int)) t540) else (laws_FnBlocks.j0 k t549 t553 bt559.1 true t540)) else (laws_FnBlocks.j0 k t549 t553 bt559.1 true t540)) else (laws_FnBlocks.j0 k t549 t553 bt559.1 true t540)) else (laws_FnBlocks.j0 k t549 t553 bt559.1 true t540)) else (laws_FnBlocks.j0 k t549 t553 bt559.1 true t540)))) else (none)) = some r := H
    have A9 := Aside0.mk A90
    clear A90
    by_cases c10 : 0 < (t540.length : Int)
    · rw [if_pos c10] at H
      have c10b0 : decide (0 < (t540.length : Int)) = true := decide_eq_true c10
      have c10b1 : decide (0 < t540.length) = true := decide_eq_true (by omega)
      clear c10
      replace H := Option.bind_eq_some_iff.mp H
      obtain ⟨t558, A110, H⟩ := H
      replace H : ((impl_BlockErrors.f k t540 t549 t558).bind fun bt559 => (if t546 = true then (if t552 = true then (if t556 = true then (if bt559.2 = true then (if (t553.length : Int) = (t540.length : Int) then (laws_FnBlocks.j0 k t549 t553 bt559.1 ((wrap64 ((bt559.1.length : Int) * t558)) != (t540.length : Int)) t540) else (laws_FnBlocks.j0 k t549 t553 bt559.1 true t540)) else (laws_FnBlocks.j0 k t549 t553 bt559.1 true t540)) else (laws_FnBlocks.j0 k t549 t553 bt559.1 true t540)) else (laws_FnBlocks.j0 k t549 t553 bt559.1 true t540)) else (laws_FnBlocks.j0 k t549 t553 bt559.1 true t540))) = some r := H
      have A11 := Aside0.mk A110
      clear A110
      replace H := Option.bind_eq_some_iff.mp H
      obtain ⟨⟨t559, t562⟩, A120, H⟩ := H
      replace H : (if t546 = true then (if t552 = true then (if t556 = true then (if t562 = true then (if (t553.length : Int) = (t540.length : Int) then (laws_FnBlocks.j0 k t549 t553 t559 ((wrap64 ((t559.length : Int) * t558)) != (t540.length : Int)) t540) else (laws_FnBlocks.j0 k t549 t553 t559 true t540)) else (laws_FnBlocks.j0 k t549 t553 t559 true t540)) else (laws_FnBlocks.j0 k t549 t553 t559 true t540)) else (laws_FnBlocks.j0 k t549 t553 t559 true t540)) else (laws_FnBlocks.j0 k t549 t553 t559 true t540)) = some r := H
      have A12 := Aside0.mk A120
      clear A120
      have HC13 := Aside0.mk H
      clear H
      go_enter Try.func9, Try.ntmps9
      go_upto_region 9 with (first | (go_at_call 12; (with_reducible refine (laws_b10Long.calls _ _ l0 _ _ l1 false _ ?side1 ?side2 ?side3 ?side4 A3.out).mono ?_); (case side1 => repeat (first | exact HR0.out | (with_reducible refine Kd.C_alloc ?_ _) | (with_reducible refine Kd.C_drewN ?_ _) | (with_reducible refine Kd.C_drew ?_))); (case side2 => exact HC0.out); (case side3 => repeat (first | exact HR1.out | (with_reducible refine Kd.C_alloc ?_ _) | (with_reducible refine Kd.C_drewN ?_ _) | (with_reducible refine Kd.C_drew ?_))); (case side4 => exact HC1.out); rintro e w' ⟨rfl, ⟨nd, rfl⟩⟩; (try first | exact ⟨rfl, _, World.drewN_drewN _ _ _⟩ | exact ⟨rfl, _, Eq.trans (World.drewN_drewN _ _ _) (congrArg (World.drewN _) (Nat.add_assoc _ _ _))⟩)) | (go_at_call 17; (with_reducible refine (spec_B10Picture.calls k _ _ l0 t540 _ ?side1 ?side2 A5.out).mono ?_); (case side1 => repeat (first | exact HR0.out | (with_reducible refine Kd.C_alloc ?_ _) | (with_reducible refine Kd.C_drewN ?_ _) | (with_reducible refine Kd.C_drew ?_))); (case side2 => exact HC0.out); rintro e w14 ⟨v541, rfl, ho0, hb⟩; have n0_ := Aside0.mk (Kd.S_lower ho0 (below_size (by repeat (first | (with_reducible first | exact HB.out | apply below_alloc | apply pw_below_drewN | apply below_drew1) | exact HB.out)))); have n1_ := Aside0.mk (below_step (by repeat (first | (with_reducible first | exact HB.out | apply below_alloc | apply pw_below_drewN | apply below_drew1) | exact HB.out)) hb); clear HB; have HO542 := n0_; have HB := n1_; clear n0_ n1_; (try clear hb); (try clear hb2); (try clear hk); (try clear hi); (try clear ho0)) | ((with_reducible refine gate_dst (N := 5) rfl ?_); (try (refine gate_guard (by rfl) ?_; dsimp only)); refine box_event ?hg (N := 5) ?hd (cs := #[.slice none 0 0]) (t := 30) ?hr ?_; (case hd => rfl); (case hg => rfl); (case hr => first | (go_simp; done) | (go_simp; rfl)); intro gb543 hg w15 hbox hb; have n0_ := Aside0.mk (Kd.S_below (by (with_reducible repeat (first | apply Kd.S_alloc | apply Kd.S_drewN | apply Kd.S_drew)); exact HO542.out) hb); have n1_ := Aside0.mk (below_step (by repeat (first | (with_reducible first | exact HB.out | apply below_alloc | apply pw_below_drewN | apply below_drew1) | exact HB.out)) hb); have n2_ := Aside0.mk (hbox); have n3_ := Aside0.mk ((by rw [hg]; exact (below_size (by repeat (first | (with_reducible first | exact HB.out | apply below_alloc | apply pw_below_drewN | apply below_drew1) | exact HB.out))) : w.heap.size ≤ gb543)); have n4_ := Aside0.mk ((by rw [hg]; exact (below_size (by repeat (first | (with_reducible first | exact HB.out | apply below_alloc | apply pw_below_drewN | apply below_drew1) | exact HB.out))) : w.heap.size ≤ gb543)); clear HO542; clear HB; have HO542 := n0_; have HB := n1_; have BK543 := n2_; have GW543 := n3_; have GE543 := n4_; clear n0_ n1_ n2_ n3_ n4_; clear hb hbox hg; obtain ⟨Ao16, co16, eo16⟩ := Kd.S_slice HO542.out; subst eo16; have hcz17_0 : w15.cell? ⟨gb543, 0, none⟩ = some (.slice none 0 0) := (blk_cell BK543.out 0).trans rfl; have hfz17_0 := blk_frozen BK543.out 0) | (go_at_call 13; (with_reducible refine (laws_b10At.calls _ _ l1 0 3 t544 _ ?side1 ?side2 A6.out).mono ?_); (case side1 => exact Kd.C_below HR1.out (by repeat (first | (with_reducible first | exact HB.out | apply below_alloc | apply pw_below_drewN | apply below_drew1 | refine below_set ?_ GE543.out) | exact HB.out))); (case side2 => exact HC1.out); rintro e w' ⟨rfl, ⟨nd, rfl⟩⟩; (try first | exact ⟨rfl, _, World.drewN_drewN _ _ _⟩ | exact ⟨rfl, _, Eq.trans (World.drewN_drewN _ _ _) (congrArg (World.drewN _) (Nat.add_assoc _ _ _))⟩)) | (go_at_call 34; (with_reducible refine (impl_DoublingMask.calls t544 t545 t546 _ A7.out).mono ?_); rintro e w18 ⟨v547, rfl, ho0, hb⟩; have n0_ := Aside0.mk (Kd.S_elder' (by (with_reducible repeat (first | apply Kd.S_alloc | apply Kd.S_drewN | apply Kd.S_drew)); exact (Kd.S_mono (Kd.S_far (p := ⟨gb543, 0, none⟩) (Kd.S_types HO542.out BK543.out (by decide)) (fun _ hk => hk.2) (.slice Ao16 t540.length co16)) (fun _ h_ => h_.1))) (Kd.S_base ho0) hb); have n1_ := Aside0.mk (Kd.S_lower (Kd.S_new' ho0 (Kd.S_lt (by (with_reducible repeat (first | apply Kd.S_alloc | apply Kd.S_drewN | apply Kd.S_drew)); exact (Kd.S_mono (Kd.S_far (p := ⟨gb543, 0, none⟩) (Kd.S_types HO542.out BK543.out (by decide)) (fun _ hk => hk.2) (.slice Ao16 t540.length co16)) (fun _ h_ => h_.1))))) (below_size (by repeat (first | (with_reducible first | exact HB.out | apply below_alloc | apply pw_below_drewN | apply below_drew1 | refine below_set ?_ GE543.out) | exact HB.out)))); have n2_ := Aside0.mk (blk_below (g := gb543) (o := .cells #[.slice Ao16 t540.length co16] 30 (0, 0)) (by (with_reducible repeat (first | refine blk_drewN ?_ _ | refine blk_drew ?_ | refine blk_alloc ?_ _)); refine blk_put (cs := #[.slice none 0 0]) ?_ 0 _ rfl; (with_reducible repeat (first | refine blk_drewN ?_ _ | refine blk_drew ?_ | refine blk_alloc ?_ _)); exact BK543.out) hb); have n3_ := Aside0.mk (below_step (by repeat (first | (with_reducible first | exact HB.out | apply below_alloc | apply pw_below_drewN | apply below_drew1 | refine below_set ?_ GE543.out) | exact HB.out)) hb); clear HO542; clear BK543; clear HB; have HO542 := n0_; have HO548 := n1_; have BK543 := n2_; have HB := n3_; clear n0_ n1_ n2_ n3_; (try clear hb); (try clear hb2); (try clear hk); (try clear hi); (try clear ho0); have hcz19_0 : w18.cell? ⟨gb543, 0, none⟩ = some (.slice Ao16 t540.length co16) := (blk_cell BK543.out 0).trans rfl; have hfz19_0 := blk_frozen BK543.out 0; obtain ⟨Ao20, co20, eo20⟩ := Kd.S_slice HO548.out; subst eo20) | (go_at_call 37; (with_reducible refine (impl_MaskDither.calls k _ _ t540 _ _ t545 t549 t552 _ ?side1 ?side2 ?side3 ?side4 A8.out).mono ?_); (case side1 => repeat (first | exact (Kd.S_reads' HO542.out).2.2 | (with_reducible refine Kd.C_alloc ?_ _) | (with_reducible refine Kd.C_drewN ?_ _) | (with_reducible refine Kd.C_drew ?_))); (case side2 => exact (Kd.S_reads' HO542.out).2.1); (case side3 => repeat (first | exact (Kd.S_reads' HO548.out).2.2 | (with_reducible refine Kd.C_alloc ?_ _) | (with_reducible refine Kd.C_drewN ?_ _) | (with_reducible refine Kd.C_drew ?_))); (case side4 => exact (Kd.S_reads' HO548.out).2.1); rintro e w21 ⟨v550, rfl, ho0, hb⟩; have n0_ := Aside0.mk (Kd.S_elder' (by (with_reducible repeat (first | apply Kd.S_alloc | apply Kd.S_drewN | apply Kd.S_drew)); exact HO542.out) (Kd.S_base ho0) hb); have n1_ := Aside0.mk (Kd.S_elder' (by (with_reducible repeat (first | apply Kd.S_alloc | apply Kd.S_drewN | apply Kd.S_drew)); exact HO548.out) (Kd.S_base ho0) hb); have n2_ := Aside0.mk (Kd.S_lower (Kd.S_new' (Kd.S_new' ho0 (Kd.S_lt (by (with_reducible repeat (first | apply Kd.S_alloc | apply Kd.S_drewN | apply Kd.S_drew)); exact HO542.out))) (Kd.S_lt (by (with_reducible repeat (first | apply Kd.S_alloc | apply Kd.S_drewN | apply Kd.S_drew)); exact HO548.out))) (below_size (by repeat (first | (with_reducible first | exact HB.out | apply below_alloc | apply pw_below_drewN | apply below_drew1 | refine below_set ?_ GE543.out) | exact HB.out)))); have n3_ := Aside0.mk (blk_below (g := gb543) (o := .cells #[.slice Ao16 t540.length co16] 30 (0, 0)) (by (with_reducible repeat (first | refine blk_drewN ?_ _ | refine blk_drew ?_ | refine blk_alloc ?_ _)); exact BK543.out) hb); have n4_ := Aside0.mk (below_step (by repeat (first | (with_reducible first | exact HB.out | apply below_alloc | apply pw_below_drewN | apply below_drew1 | refine below_set ?_ GE543.out) | exact HB.out)) hb); clear HO542; clear HO548; clear BK543; clear HB; have HO542 := n0_; have HO548 := n1_; have HO551 := n2_; have BK543 := n3_; have HB := n4_; clear n0_ n1_ n2_ n3_ n4_; (try clear hb); (try clear hb2); (try clear hk); (try clear hi); (try clear ho0); have hcz22_0 : w21.cell? ⟨gb543, 0, none⟩ = some (.slice Ao16 t540.length co16) := (blk_cell BK543.out 0).trans rfl; have hfz22_0 := blk_frozen BK543.out 0; obtain ⟨Ao23, co23, eo23⟩ := Kd.S_slice HO551.out; subst eo23) | (go_at_call 42; (with_reducible refine (impl_BlockErrors.calls k _ _ t540 _ _ t549 1 t553 t556 _ ?side1 ?side2 ?side3 ?side4 A9.out).mono ?_); (case side1 => repeat (first | exact (Kd.S_reads' HO542.out).2.2 | (with_reducible refine Kd.C_alloc ?_ _) | (with_reducible refine Kd.C_drewN ?_ _) | (with_reducible refine Kd.C_drew ?_))); (case side2 => exact (Kd.S_reads' HO542.out).2.1); (case side3 => repeat (first | exact (Kd.S_reads' HO551.out).2.2 | (with_reducible refine Kd.C_alloc ?_ _) | (with_reducible refine Kd.C_drewN ?_ _) | (with_reducible refine Kd.C_drew ?_))); (case side4 => exact (Kd.S_reads' HO551.out).2.1); rintro e w24 ⟨v554, rfl, ho0, hb⟩; have n0_ := Aside0.mk (Kd.S_elder' (by (with_reducible repeat (first | apply Kd.S_alloc | apply Kd.S_drewN | apply Kd.S_drew)); exact HO542.out) (Kd.S_base ho0) hb); have n1_ := Aside0.mk (Kd.S_elder' (by (with_reducible repeat (first | apply Kd.S_alloc | apply Kd.S_drewN | apply Kd.S_drew)); exact HO548.out) (Kd.S_base ho0) hb); have n2_ := Aside0.mk (Kd.S_elder' (by (with_reducible repeat (first | apply Kd.S_alloc | apply Kd.S_drewN | apply Kd.S_drew)); exact HO551.out) (Kd.S_base ho0) hb); have n3_ := Aside0.mk (Kd.S_lower (Kd.S_new' (Kd.S_new' (Kd.S_new' ho0 (Kd.S_lt (by (with_reducible repeat (first | apply Kd.S_alloc | apply Kd.S_drewN | apply Kd.S_drew)); exact HO542.out))) (Kd.S_lt (by (with_reducible repeat (first | apply Kd.S_alloc | apply Kd.S_drewN | apply Kd.S_drew)); exact HO548.out))) (Kd.S_lt (by (with_reducible repeat (first | apply Kd.S_alloc | apply Kd.S_drewN | apply Kd.S_drew)); exact HO551.out))) (below_size (by repeat (first | (with_reducible first | exact HB.out | apply below_alloc | apply pw_below_drewN | apply below_drew1 | refine below_set ?_ GE543.out) | exact HB.out)))); have n4_ := Aside0.mk (blk_below (g := gb543) (o := .cells #[.slice Ao16 t540.length co16] 30 (0, 0)) (by (with_reducible repeat (first | refine blk_drewN ?_ _ | refine blk_drew ?_ | refine blk_alloc ?_ _)); exact BK543.out) hb); have n5_ := Aside0.mk (below_step (by repeat (first | (with_reducible first | exact HB.out | apply below_alloc | apply pw_below_drewN | apply below_drew1 | refine below_set ?_ GE543.out) | exact HB.out)) hb); clear HO542; clear HO548; clear HO551; clear BK543; clear HB; have HO542 := n0_; have HO548 := n1_; have HO551 := n2_; have HO555 := n3_; have BK543 := n4_; have HB := n5_; clear n0_ n1_ n2_ n3_ n4_ n5_; (try clear hb); (try clear hb2); (try clear hk); (try clear hi); (try clear ho0); have hcz25_0 : w24.cell? ⟨gb543, 0, none⟩ = some (.slice Ao16 t540.length co16) := (blk_cell BK543.out 0).trans rfl; have hfz25_0 := blk_frozen BK543.out 0; have p557 : 0 ≤ (0 : Int) := (by omega); have q557 : 0 < (t540.length : Int) := of_decide_eq_true (by first | (with_reducible assumption) | assumption); obtain ⟨ad557, A557_0, c557_0, e557, hx557_0, hl557_0, hi557_0⟩ := at_L2 (Kd.S_reads' HO542.out).2.2 0 p557 q557; cases e557; obtain ⟨ce557, hce557, hMe557, hcc557⟩ := Kd.S_get HO542.out [] 0 p557 (by first | exact q557 | exact of_decide_eq_true (by first | (with_reducible assumption) | assumption) | (have e_ := (Kd.S_reads' HO542.out).1; omega)); obtain ⟨ve557_0, rfl, ge557_0⟩ := hMe557; have hv557_0 := hcc557 0 _ rfl; rw [Nat.add_zero, show ((Kd.slice 2 (Kd.int .i64))).sz = 1 from rfl, Nat.mul_one] at hv557_0; replace hv557_0 := Option.some.inj (hv557_0.symm.trans hx557_0); rw [hv557_0] at ge557_0; have HL557_0 := Aside0.mk (show Kd.R (Kd.int .i64) 2 _ _ _ _ (rd_L2 t540 0) from ge557_0); clear hv557_0 ge557_0; clear hcc557 hce557; have qi557 : (0 < t540.length) = True := eq_true (by omega); (try rw [show ((0 : Int)).toNat = 0 from rfl] at hx557_0); (try rw [Addr.add_zero'] at hx557_0); have HR557_0 := Aside0.mk hi557_0; have HC557_0 := Aside0.mk hl557_0; clear hi557_0 hl557_0; replace p557 := eq_true p557; replace q557 := eq_true q557) | (go_at_call 43; (with_reducible refine (laws_b10Gcd.calls k (t540.length : Int) ((rd_L2 t540 0).length : Int) t558 _ A11.out).mono ?_); rintro e w' ⟨rfl, ⟨nd, rfl⟩⟩; (try first | exact ⟨rfl, _, World.drewN_drewN _ _ _⟩ | exact ⟨rfl, _, Eq.trans (World.drewN_drewN _ _ _) (congrArg (World.drewN _) (Nat.add_assoc _ _ _))⟩)) | (go_at_call 42; (with_reducible refine (impl_BlockErrors.calls k _ _ t540 _ _ t549 t558 t559 t562 _ ?side1 ?side2 ?side3 ?side4 A12.out).mono ?_); (case side1 => repeat (first | exact (Kd.S_reads' HO542.out).2.2 | (with_reducible refine Kd.C_alloc ?_ _) | (with_reducible refine Kd.C_drewN ?_ _) | (with_reducible refine Kd.C_drew ?_))); (case side2 => exact (Kd.S_reads' HO542.out).2.1); (case side3 => repeat (first | exact (Kd.S_reads' HO551.out).2.2 | (with_reducible refine Kd.C_alloc ?_ _) | (with_reducible refine Kd.C_drewN ?_ _) | (with_reducible refine Kd.C_drew ?_))); (case side4 => exact (Kd.S_reads' HO551.out).2.1); rintro e w26 ⟨v560, rfl, ho0, hb⟩; have n0_ := Aside0.mk (Kd.S_elder' (by (with_reducible repeat (first | apply Kd.S_alloc | apply Kd.S_drewN | apply Kd.S_drew)); exact HO542.out) (Kd.S_base ho0) hb); have n1_ := Aside0.mk (Kd.S_elder' (by (with_reducible repeat (first | apply Kd.S_alloc | apply Kd.S_drewN | apply Kd.S_drew)); exact HO548.out) (Kd.S_base ho0) hb); have n2_ := Aside0.mk (Kd.S_elder' (by (with_reducible repeat (first | apply Kd.S_alloc | apply Kd.S_drewN | apply Kd.S_drew)); exact HO551.out) (Kd.S_base ho0) hb); have n3_ := Aside0.mk (Kd.S_elder' (by (with_reducible repeat (first | apply Kd.S_alloc | apply Kd.S_drewN | apply Kd.S_drew)); exact HO555.out) (Kd.S_base ho0) hb); have n4_ := Aside0.mk (Kd.R_below (by (with_reducible repeat (first | apply Kd.R_alloc | apply Kd.R_drewN | apply Kd.R_drew)); exact HL557_0.out) hb); have n5_ := Aside0.mk (Kd.S_lower (Kd.S_new' (Kd.S_new' (Kd.S_new' (Kd.S_new' (Kd.S_new' ho0 (Kd.S_lt (by (with_reducible repeat (first | apply Kd.S_alloc | apply Kd.S_drewN | apply Kd.S_drew)); exact HO542.out))) (Kd.S_lt (by (with_reducible repeat (first | apply Kd.S_alloc | apply Kd.S_drewN | apply Kd.S_drew)); exact HO548.out))) (Kd.S_lt (by (with_reducible repeat (first | apply Kd.S_alloc | apply Kd.S_drewN | apply Kd.S_drew)); exact HO551.out))) (Kd.S_lt (by (with_reducible repeat (first | apply Kd.S_alloc | apply Kd.S_drewN | apply Kd.S_drew)); exact HO555.out))) (Kd.R_lt (by (with_reducible repeat (first | apply Kd.R_alloc | apply Kd.R_drewN | apply Kd.R_drew)); exact HL557_0.out))) (below_size (by repeat (first | (with_reducible first | exact HB.out | apply below_alloc | apply pw_below_drewN | apply below_drew1 | refine below_set ?_ GE543.out) | exact HB.out)))); have n6_ := Aside0.mk (blk_below (g := gb543) (o := .cells #[.slice (some ad557) t540.length co16] 30 (0, 0)) (by (with_reducible repeat (first | refine blk_drewN ?_ _ | refine blk_drew ?_ | refine blk_alloc ?_ _)); exact BK543.out) hb); have n7_ := Aside0.mk (Kd.C_below (by repeat (first | (with_reducible exact HR557_0.out) | (with_reducible refine Kd.C_alloc ?_ _) | (with_reducible refine Kd.C_drewN ?_ _) | (with_reducible refine Kd.C_drew ?_) | exact HR557_0.out)) hb); have n8_ := Aside0.mk (below_step (by repeat (first | (with_reducible first | exact HB.out | apply below_alloc | apply pw_below_drewN | apply below_drew1 | refine below_set ?_ GE543.out) | exact HB.out)) hb); clear HO542; clear HO548; clear HO551; clear HO555; clear HL557_0; clear BK543; clear HR557_0; clear HB; have HO542 := n0_; have HO548 := n1_; have HO551 := n2_; have HO555 := n3_; have HL557_0 := n4_; have HO561 := n5_; have BK543 := n6_; have HR557_0 := n7_; have HB := n8_; clear n0_ n1_ n2_ n3_ n4_ n5_ n6_ n7_ n8_; (try clear hb); (try clear hb2); (try clear hk); (try clear hi); (try clear ho0)))
      repeat (go_quiet (first | (go_at_call 12; (with_reducible refine (laws_b10Long.calls _ _ l0 _ _ l1 false _ ?side1 ?side2 ?side3 ?side4 A3.out).mono ?_); (case side1 => repeat (first | exact HR0.out | (with_reducible refine Kd.C_alloc ?_ _) | (with_reducible refine Kd.C_drewN ?_ _) | (with_reducible refine Kd.C_drew ?_))); (case side2 => exact HC0.out); (case side3 => repeat (first | exact HR1.out | (with_reducible refine Kd.C_alloc ?_ _) | (with_reducible refine Kd.C_drewN ?_ _) | (with_reducible refine Kd.C_drew ?_))); (case side4 => exact HC1.out); rintro e w' ⟨rfl, ⟨nd, rfl⟩⟩; (try first | exact ⟨rfl, _, World.drewN_drewN _ _ _⟩ | exact ⟨rfl, _, Eq.trans (World.drewN_drewN _ _ _) (congrArg (World.drewN _) (Nat.add_assoc _ _ _))⟩)) | (go_at_call 17; (with_reducible refine (spec_B10Picture.calls k _ _ l0 t540 _ ?side1 ?side2 A5.out).mono ?_); (case side1 => repeat (first | exact HR0.out | (with_reducible refine Kd.C_alloc ?_ _) | (with_reducible refine Kd.C_drewN ?_ _) | (with_reducible refine Kd.C_drew ?_))); (case side2 => exact HC0.out); rintro e w14 ⟨v541, rfl, ho0, hb⟩; have n0_ := Aside0.mk (Kd.S_lower ho0 (below_size (by repeat (first | (with_reducible first | exact HB.out | apply below_alloc | apply pw_below_drewN | apply below_drew1) | exact HB.out)))); have n1_ := Aside0.mk (below_step (by repeat (first | (with_reducible first | exact HB.out | apply below_alloc | apply pw_below_drewN | apply below_drew1) | exact HB.out)) hb); clear HB; have HO542 := n0_; have HB := n1_; clear n0_ n1_; (try clear hb); (try clear hb2); (try clear hk); (try clear hi); (try clear ho0)) | ((with_reducible refine gate_dst (N := 5) rfl ?_); (try (refine gate_guard (by rfl) ?_; dsimp only)); refine box_event ?hg (N := 5) ?hd (cs := #[.slice none 0 0]) (t := 30) ?hr ?_; (case hd => rfl); (case hg => rfl); (case hr => first | (go_simp; done) | (go_simp; rfl)); intro gb543 hg w15 hbox hb; have n0_ := Aside0.mk (Kd.S_below (by (with_reducible repeat (first | apply Kd.S_alloc | apply Kd.S_drewN | apply Kd.S_drew)); exact HO542.out) hb); have n1_ := Aside0.mk (below_step (by repeat (first | (with_reducible first | exact HB.out | apply below_alloc | apply pw_below_drewN | apply below_drew1) | exact HB.out)) hb); have n2_ := Aside0.mk (hbox); have n3_ := Aside0.mk ((by rw [hg]; exact (below_size (by repeat (first | (with_reducible first | exact HB.out | apply below_alloc | apply pw_below_drewN | apply below_drew1) | exact HB.out))) : w.heap.size ≤ gb543)); have n4_ := Aside0.mk ((by rw [hg]; exact (below_size (by repeat (first | (with_reducible first | exact HB.out | apply below_alloc | apply pw_below_drewN | apply below_drew1) | exact HB.out))) : w.heap.size ≤ gb543)); clear HO542; clear HB; have HO542 := n0_; have HB := n1_; have BK543 := n2_; have GW543 := n3_; have GE543 := n4_; clear n0_ n1_ n2_ n3_ n4_; clear hb hbox hg; obtain ⟨Ao16, co16, eo16⟩ := Kd.S_slice HO542.out; subst eo16; have hcz17_0 : w15.cell? ⟨gb543, 0, none⟩ = some (.slice none 0 0) := (blk_cell BK543.out 0).trans rfl; have hfz17_0 := blk_frozen BK543.out 0) | (go_at_call 13; (with_reducible refine (laws_b10At.calls _ _ l1 0 3 t544 _ ?side1 ?side2 A6.out).mono ?_); (case side1 => exact Kd.C_below HR1.out (by repeat (first | (with_reducible first | exact HB.out | apply below_alloc | apply pw_below_drewN | apply below_drew1 | refine below_set ?_ GE543.out) | exact HB.out))); (case side2 => exact HC1.out); rintro e w' ⟨rfl, ⟨nd, rfl⟩⟩; (try first | exact ⟨rfl, _, World.drewN_drewN _ _ _⟩ | exact ⟨rfl, _, Eq.trans (World.drewN_drewN _ _ _) (congrArg (World.drewN _) (Nat.add_assoc _ _ _))⟩)) | (go_at_call 34; (with_reducible refine (impl_DoublingMask.calls t544 t545 t546 _ A7.out).mono ?_); rintro e w18 ⟨v547, rfl, ho0, hb⟩; have n0_ := Aside0.mk (Kd.S_elder' (by (with_reducible repeat (first | apply Kd.S_alloc | apply Kd.S_drewN | apply Kd.S_drew)); exact (Kd.S_mono (Kd.S_far (p := ⟨gb543, 0, none⟩) (Kd.S_types HO542.out BK543.out (by decide)) (fun _ hk => hk.2) (.slice Ao16 t540.length co16)) (fun _ h_ => h_.1))) (Kd.S_base ho0) hb); have n1_ := Aside0.mk (Kd.S_lower (Kd.S_new' ho0 (Kd.S_lt (by (with_reducible repeat (first | apply Kd.S_alloc | apply Kd.S_drewN | apply Kd.S_drew)); exact (Kd.S_mono (Kd.S_far (p := ⟨gb543, 0, none⟩) (Kd.S_types HO542.out BK543.out (by decide)) (fun _ hk => hk.2) (.slice Ao16 t540.length co16)) (fun _ h_ => h_.1))))) (below_size (by repeat (first | (with_reducible first | exact HB.out | apply below_alloc | apply pw_below_drewN | apply below_drew1 | refine below_set ?_ GE543.out) | exact HB.out)))); have n2_ := Aside0.mk (blk_below (g := gb543) (o := .cells #[.slice Ao16 t540.length co16] 30 (0, 0)) (by (with_reducible repeat (first | refine blk_drewN ?_ _ | refine blk_drew ?_ | refine blk_alloc ?_ _)); refine blk_put (cs := #[.slice none 0 0]) ?_ 0 _ rfl; (with_reducible repeat (first | refine blk_drewN ?_ _ | refine blk_drew ?_ | refine blk_alloc ?_ _)); exact BK543.out) hb); have n3_ := Aside0.mk (below_step (by repeat (first | (with_reducible first | exact HB.out | apply below_alloc | apply pw_below_drewN | apply below_drew1 | refine below_set ?_ GE543.out) | exact HB.out)) hb); clear HO542; clear BK543; clear HB; have HO542 := n0_; have HO548 := n1_; have BK543 := n2_; have HB := n3_; clear n0_ n1_ n2_ n3_; (try clear hb); (try clear hb2); (try clear hk); (try clear hi); (try clear ho0); have hcz19_0 : w18.cell? ⟨gb543, 0, none⟩ = some (.slice Ao16 t540.length co16) := (blk_cell BK543.out 0).trans rfl; have hfz19_0 := blk_frozen BK543.out 0; obtain ⟨Ao20, co20, eo20⟩ := Kd.S_slice HO548.out; subst eo20) | (go_at_call 37; (with_reducible refine (impl_MaskDither.calls k _ _ t540 _ _ t545 t549 t552 _ ?side1 ?side2 ?side3 ?side4 A8.out).mono ?_); (case side1 => repeat (first | exact (Kd.S_reads' HO542.out).2.2 | (with_reducible refine Kd.C_alloc ?_ _) | (with_reducible refine Kd.C_drewN ?_ _) | (with_reducible refine Kd.C_drew ?_))); (case side2 => exact (Kd.S_reads' HO542.out).2.1); (case side3 => repeat (first | exact (Kd.S_reads' HO548.out).2.2 | (with_reducible refine Kd.C_alloc ?_ _) | (with_reducible refine Kd.C_drewN ?_ _) | (with_reducible refine Kd.C_drew ?_))); (case side4 => exact (Kd.S_reads' HO548.out).2.1); rintro e w21 ⟨v550, rfl, ho0, hb⟩; have n0_ := Aside0.mk (Kd.S_elder' (by (with_reducible repeat (first | apply Kd.S_alloc | apply Kd.S_drewN | apply Kd.S_drew)); exact HO542.out) (Kd.S_base ho0) hb); have n1_ := Aside0.mk (Kd.S_elder' (by (with_reducible repeat (first | apply Kd.S_alloc | apply Kd.S_drewN | apply Kd.S_drew)); exact HO548.out) (Kd.S_base ho0) hb); have n2_ := Aside0.mk (Kd.S_lower (Kd.S_new' (Kd.S_new' ho0 (Kd.S_lt (by (with_reducible repeat (first | apply Kd.S_alloc | apply Kd.S_drewN | apply Kd.S_drew)); exact HO542.out))) (Kd.S_lt (by (with_reducible repeat (first | apply Kd.S_alloc | apply Kd.S_drewN | apply Kd.S_drew)); exact HO548.out))) (below_size (by repeat (first | (with_reducible first | exact HB.out | apply below_alloc | apply pw_below_drewN | apply below_drew1 | refine below_set ?_ GE543.out) | exact HB.out)))); have n3_ := Aside0.mk (blk_below (g := gb543) (o := .cells #[.slice Ao16 t540.length co16] 30 (0, 0)) (by (with_reducible repeat (first | refine blk_drewN ?_ _ | refine blk_drew ?_ | refine blk_alloc ?_ _)); exact BK543.out) hb); have n4_ := Aside0.mk (below_step (by repeat (first | (with_reducible first | exact HB.out | apply below_alloc | apply pw_below_drewN | apply below_drew1 | refine below_set ?_ GE543.out) | exact HB.out)) hb); clear HO542; clear HO548; clear BK543; clear HB; have HO542 := n0_; have HO548 := n1_; have HO551 := n2_; have BK543 := n3_; have HB := n4_; clear n0_ n1_ n2_ n3_ n4_; (try clear hb); (try clear hb2); (try clear hk); (try clear hi); (try clear ho0); have hcz22_0 : w21.cell? ⟨gb543, 0, none⟩ = some (.slice Ao16 t540.length co16) := (blk_cell BK543.out 0).trans rfl; have hfz22_0 := blk_frozen BK543.out 0; obtain ⟨Ao23, co23, eo23⟩ := Kd.S_slice HO551.out; subst eo23) | (go_at_call 42; (with_reducible refine (impl_BlockErrors.calls k _ _ t540 _ _ t549 1 t553 t556 _ ?side1 ?side2 ?side3 ?side4 A9.out).mono ?_); (case side1 => repeat (first | exact (Kd.S_reads' HO542.out).2.2 | (with_reducible refine Kd.C_alloc ?_ _) | (with_reducible refine Kd.C_drewN ?_ _) | (with_reducible refine Kd.C_drew ?_))); (case side2 => exact (Kd.S_reads' HO542.out).2.1); (case side3 => repeat (first | exact (Kd.S_reads' HO551.out).2.2 | (with_reducible refine Kd.C_alloc ?_ _) | (with_reducible refine Kd.C_drewN ?_ _) | (with_reducible refine Kd.C_drew ?_))); (case side4 => exact (Kd.S_reads' HO551.out).2.1); rintro e w24 ⟨v554, rfl, ho0, hb⟩; have n0_ := Aside0.mk (Kd.S_elder' (by (with_reducible repeat (first | apply Kd.S_alloc | apply Kd.S_drewN | apply Kd.S_drew)); exact HO542.out) (Kd.S_base ho0) hb); have n1_ := Aside0.mk (Kd.S_elder' (by (with_reducible repeat (first | apply Kd.S_alloc | apply Kd.S_drewN | apply Kd.S_drew)); exact HO548.out) (Kd.S_base ho0) hb); have n2_ := Aside0.mk (Kd.S_elder' (by (with_reducible repeat (first | apply Kd.S_alloc | apply Kd.S_drewN | apply Kd.S_drew)); exact HO551.out) (Kd.S_base ho0) hb); have n3_ := Aside0.mk (Kd.S_lower (Kd.S_new' (Kd.S_new' (Kd.S_new' ho0 (Kd.S_lt (by (with_reducible repeat (first | apply Kd.S_alloc | apply Kd.S_drewN | apply Kd.S_drew)); exact HO542.out))) (Kd.S_lt (by (with_reducible repeat (first | apply Kd.S_alloc | apply Kd.S_drewN | apply Kd.S_drew)); exact HO548.out))) (Kd.S_lt (by (with_reducible repeat (first | apply Kd.S_alloc | apply Kd.S_drewN | apply Kd.S_drew)); exact HO551.out))) (below_size (by repeat (first | (with_reducible first | exact HB.out | apply below_alloc | apply pw_below_drewN | apply below_drew1 | refine below_set ?_ GE543.out) | exact HB.out)))); have n4_ := Aside0.mk (blk_below (g := gb543) (o := .cells #[.slice Ao16 t540.length co16] 30 (0, 0)) (by (with_reducible repeat (first | refine blk_drewN ?_ _ | refine blk_drew ?_ | refine blk_alloc ?_ _)); exact BK543.out) hb); have n5_ := Aside0.mk (below_step (by repeat (first | (with_reducible first | exact HB.out | apply below_alloc | apply pw_below_drewN | apply below_drew1 | refine below_set ?_ GE543.out) | exact HB.out)) hb); clear HO542; clear HO548; clear HO551; clear BK543; clear HB; have HO542 := n0_; have HO548 := n1_; have HO551 := n2_; have HO555 := n3_; have BK543 := n4_; have HB := n5_; clear n0_ n1_ n2_ n3_ n4_ n5_; (try clear hb); (try clear hb2); (try clear hk); (try clear hi); (try clear ho0); have hcz25_0 : w24.cell? ⟨gb543, 0, none⟩ = some (.slice Ao16 t540.length co16) := (blk_cell BK543.out 0).trans rfl; have hfz25_0 := blk_frozen BK543.out 0; have p557 : 0 ≤ (0 : Int) := (by omega); have q557 : 0 < (t540.length : Int) := of_decide_eq_true (by first | (with_reducible assumption) | assumption); obtain ⟨ad557, A557_0, c557_0, e557, hx557_0, hl557_0, hi557_0⟩ := at_L2 (Kd.S_reads' HO542.out).2.2 0 p557 q557; cases e557; obtain ⟨ce557, hce557, hMe557, hcc557⟩ := Kd.S_get HO542.out [] 0 p557 (by first | exact q557 | exact of_decide_eq_true (by first | (with_reducible assumption) | assumption) | (have e_ := (Kd.S_reads' HO542.out).1; omega)); obtain ⟨ve557_0, rfl, ge557_0⟩ := hMe557; have hv557_0 := hcc557 0 _ rfl; rw [Nat.add_zero, show ((Kd.slice 2 (Kd.int .i64))).sz = 1 from rfl, Nat.mul_one] at hv557_0; replace hv557_0 := Option.some.inj (hv557_0.symm.trans hx557_0); rw [hv557_0] at ge557_0; have HL557_0 := Aside0.mk (show Kd.R (Kd.int .i64) 2 _ _ _ _ (rd_L2 t540 0) from ge557_0); clear hv557_0 ge557_0; clear hcc557 hce557; have qi557 : (0 < t540.length) = True := eq_true (by omega); (try rw [show ((0 : Int)).toNat = 0 from rfl] at hx557_0); (try rw [Addr.add_zero'] at hx557_0); have HR557_0 := Aside0.mk hi557_0; have HC557_0 := Aside0.mk hl557_0; clear hi557_0 hl557_0; replace p557 := eq_true p557; replace q557 := eq_true q557) | (go_at_call 43; (with_reducible refine (laws_b10Gcd.calls k (t540.length : Int) ((rd_L2 t540 0).length : Int) t558 _ A11.out).mono ?_); rintro e w' ⟨rfl, ⟨nd, rfl⟩⟩; (try first | exact ⟨rfl, _, World.drewN_drewN _ _ _⟩ | exact ⟨rfl, _, Eq.trans (World.drewN_drewN _ _ _) (congrArg (World.drewN _) (Nat.add_assoc _ _ _))⟩)) | (go_at_call 42; (with_reducible refine (impl_BlockErrors.calls k _ _ t540 _ _ t549 t558 t559 t562 _ ?side1 ?side2 ?side3 ?side4 A12.out).mono ?_); (case side1 => repeat (first | exact (Kd.S_reads' HO542.out).2.2 | (with_reducible refine Kd.C_alloc ?_ _) | (with_reducible refine Kd.C_drewN ?_ _) | (with_reducible refine Kd.C_drew ?_))); (case side2 => exact (Kd.S_reads' HO542.out).2.1); (case side3 => repeat (first | exact (Kd.S_reads' HO551.out).2.2 | (with_reducible refine Kd.C_alloc ?_ _) | (with_reducible refine Kd.C_drewN ?_ _) | (with_reducible refine Kd.C_drew ?_))); (case side4 => exact (Kd.S_reads' HO551.out).2.1); rintro e w26 ⟨v560, rfl, ho0, hb⟩; have n0_ := Aside0.mk (Kd.S_elder' (by (with_reducible repeat (first | apply Kd.S_alloc | apply Kd.S_drewN | apply Kd.S_drew)); exact HO542.out) (Kd.S_base ho0) hb); have n1_ := Aside0.mk (Kd.S_elder' (by (with_reducible repeat (first | apply Kd.S_alloc | apply Kd.S_drewN | apply Kd.S_drew)); exact HO548.out) (Kd.S_base ho0) hb); have n2_ := Aside0.mk (Kd.S_elder' (by (with_reducible repeat (first | apply Kd.S_alloc | apply Kd.S_drewN | apply Kd.S_drew)); exact HO551.out) (Kd.S_base ho0) hb); have n3_ := Aside0.mk (Kd.S_elder' (by (with_reducible repeat (first | apply Kd.S_alloc | apply Kd.S_drewN | apply Kd.S_drew)); exact HO555.out) (Kd.S_base ho0) hb); have n4_ := Aside0.mk (Kd.R_below (by (with_reducible repeat (first | apply Kd.R_alloc | apply Kd.R_drewN | apply Kd.R_drew)); exact HL557_0.out) hb); have n5_ := Aside0.mk (Kd.S_lower (Kd.S_new' (Kd.S_new' (Kd.S_new' (Kd.S_new' (Kd.S_new' ho0 (Kd.S_lt (by (with_reducible repeat (first | apply Kd.S_alloc | apply Kd.S_drewN | apply Kd.S_drew)); exact HO542.out))) (Kd.S_lt (by (with_reducible repeat (first | apply Kd.S_alloc | apply Kd.S_drewN | apply Kd.S_drew)); exact HO548.out))) (Kd.S_lt (by (with_reducible repeat (first | apply Kd.S_alloc | apply Kd.S_drewN | apply Kd.S_drew)); exact HO551.out))) (Kd.S_lt (by (with_reducible repeat (first | apply Kd.S_alloc | apply Kd.S_drewN | apply Kd.S_drew)); exact HO555.out))) (Kd.R_lt (by (with_reducible repeat (first | apply Kd.R_alloc | apply Kd.R_drewN | apply Kd.R_drew)); exact HL557_0.out))) (below_size (by repeat (first | (with_reducible first | exact HB.out | apply below_alloc | apply pw_below_drewN | apply below_drew1 | refine below_set ?_ GE543.out) | exact HB.out)))); have n6_ := Aside0.mk (blk_below (g := gb543) (o := .cells #[.slice (some ad557) t540.length co16] 30 (0, 0)) (by (with_reducible repeat (first | refine blk_drewN ?_ _ | refine blk_drew ?_ | refine blk_alloc ?_ _)); exact BK543.out) hb); have n7_ := Aside0.mk (Kd.C_below (by repeat (first | (with_reducible exact HR557_0.out) | (with_reducible refine Kd.C_alloc ?_ _) | (with_reducible refine Kd.C_drewN ?_ _) | (with_reducible refine Kd.C_drew ?_) | exact HR557_0.out)) hb); have n8_ := Aside0.mk (below_step (by repeat (first | (with_reducible first | exact HB.out | apply below_alloc | apply pw_below_drewN | apply below_drew1 | refine below_set ?_ GE543.out) | exact HB.out)) hb); clear HO542; clear HO548; clear HO551; clear HO555; clear HL557_0; clear BK543; clear HR557_0; clear HB; have HO542 := n0_; have HO548 := n1_; have HO551 := n2_; have HO555 := n3_; have HL557_0 := n4_; have HO561 := n5_; have BK543 := n6_; have HR557_0 := n7_; have HB := n8_; clear n0_ n1_ n2_ n3_ n4_ n5_ n6_ n7_ n8_; (try clear hb); (try clear hb2); (try clear hk); (try clear hi); (try clear ho0))); go_upto_region 9 with (first | (go_at_call 12; (with_reducible refine (laws_b10Long.calls _ _ l0 _ _ l1 false _ ?side1 ?side2 ?side3 ?side4 A3.out).mono ?_); (case side1 => repeat (first | exact HR0.out | (with_reducible refine Kd.C_alloc ?_ _) | (with_reducible refine Kd.C_drewN ?_ _) | (with_reducible refine Kd.C_drew ?_))); (case side2 => exact HC0.out); (case side3 => repeat (first | exact HR1.out | (with_reducible refine Kd.C_alloc ?_ _) | (with_reducible refine Kd.C_drewN ?_ _) | (with_reducible refine Kd.C_drew ?_))); (case side4 => exact HC1.out); rintro e w' ⟨rfl, ⟨nd, rfl⟩⟩; (try first | exact ⟨rfl, _, World.drewN_drewN _ _ _⟩ | exact ⟨rfl, _, Eq.trans (World.drewN_drewN _ _ _) (congrArg (World.drewN _) (Nat.add_assoc _ _ _))⟩)) | (go_at_call 17; (with_reducible refine (spec_B10Picture.calls k _ _ l0 t540 _ ?side1 ?side2 A5.out).mono ?_); (case side1 => repeat (first | exact HR0.out | (with_reducible refine Kd.C_alloc ?_ _) | (with_reducible refine Kd.C_drewN ?_ _) | (with_reducible refine Kd.C_drew ?_))); (case side2 => exact HC0.out); rintro e w14 ⟨v541, rfl, ho0, hb⟩; have n0_ := Aside0.mk (Kd.S_lower ho0 (below_size (by repeat (first | (with_reducible first | exact HB.out | apply below_alloc | apply pw_below_drewN | apply below_drew1) | exact HB.out)))); have n1_ := Aside0.mk (below_step (by repeat (first | (with_reducible first | exact HB.out | apply below_alloc | apply pw_below_drewN | apply below_drew1) | exact HB.out)) hb); clear HB; have HO542 := n0_; have HB := n1_; clear n0_ n1_; (try clear hb); (try clear hb2); (try clear hk); (try clear hi); (try clear ho0)) | ((with_reducible refine gate_dst (N := 5) rfl ?_); (try (refine gate_guard (by rfl) ?_; dsimp only)); refine box_event ?hg (N := 5) ?hd (cs := #[.slice none 0 0]) (t := 30) ?hr ?_; (case hd => rfl); (case hg => rfl); (case hr => first | (go_simp; done) | (go_simp; rfl)); intro gb543 hg w15 hbox hb; have n0_ := Aside0.mk (Kd.S_below (by (with_reducible repeat (first | apply Kd.S_alloc | apply Kd.S_drewN | apply Kd.S_drew)); exact HO542.out) hb); have n1_ := Aside0.mk (below_step (by repeat (first | (with_reducible first | exact HB.out | apply below_alloc | apply pw_below_drewN | apply below_drew1) | exact HB.out)) hb); have n2_ := Aside0.mk (hbox); have n3_ := Aside0.mk ((by rw [hg]; exact (below_size (by repeat (first | (with_reducible first | exact HB.out | apply below_alloc | apply pw_below_drewN | apply below_drew1) | exact HB.out))) : w.heap.size ≤ gb543)); have n4_ := Aside0.mk ((by rw [hg]; exact (below_size (by repeat (first | (with_reducible first | exact HB.out | apply below_alloc | apply pw_below_drewN | apply below_drew1) | exact HB.out))) : w.heap.size ≤ gb543)); clear HO542; clear HB; have HO542 := n0_; have HB := n1_; have BK543 := n2_; have GW543 := n3_; have GE543 := n4_; clear n0_ n1_ n2_ n3_ n4_; clear hb hbox hg; obtain ⟨Ao16, co16, eo16⟩ := Kd.S_slice HO542.out; subst eo16; have hcz17_0 : w15.cell? ⟨gb543, 0, none⟩ = some (.slice none 0 0) := (blk_cell BK543.out 0).trans rfl; have hfz17_0 := blk_frozen BK543.out 0) | (go_at_call 13; (with_reducible refine (laws_b10At.calls _ _ l1 0 3 t544 _ ?side1 ?side2 A6.out).mono ?_); (case side1 => exact Kd.C_below HR1.out (by repeat (first | (with_reducible first | exact HB.out | apply below_alloc | apply pw_below_drewN | apply below_drew1 | refine below_set ?_ GE543.out) | exact HB.out))); (case side2 => exact HC1.out); rintro e w' ⟨rfl, ⟨nd, rfl⟩⟩; (try first | exact ⟨rfl, _, World.drewN_drewN _ _ _⟩ | exact ⟨rfl, _, Eq.trans (World.drewN_drewN _ _ _) (congrArg (World.drewN _) (Nat.add_assoc _ _ _))⟩)) | (go_at_call 34; (with_reducible refine (impl_DoublingMask.calls t544 t545 t546 _ A7.out).mono ?_); rintro e w18 ⟨v547, rfl, ho0, hb⟩; have n0_ := Aside0.mk (Kd.S_elder' (by (with_reducible repeat (first | apply Kd.S_alloc | apply Kd.S_drewN | apply Kd.S_drew)); exact (Kd.S_mono (Kd.S_far (p := ⟨gb543, 0, none⟩) (Kd.S_types HO542.out BK543.out (by decide)) (fun _ hk => hk.2) (.slice Ao16 t540.length co16)) (fun _ h_ => h_.1))) (Kd.S_base ho0) hb); have n1_ := Aside0.mk (Kd.S_lower (Kd.S_new' ho0 (Kd.S_lt (by (with_reducible repeat (first | apply Kd.S_alloc | apply Kd.S_drewN | apply Kd.S_drew)); exact (Kd.S_mono (Kd.S_far (p := ⟨gb543, 0, none⟩) (Kd.S_types HO542.out BK543.out (by decide)) (fun _ hk => hk.2) (.slice Ao16 t540.length co16)) (fun _ h_ => h_.1))))) (below_size (by repeat (first | (with_reducible first | exact HB.out | apply below_alloc | apply pw_below_drewN | apply below_drew1 | refine below_set ?_ GE543.out) | exact HB.out)))); have n2_ := Aside0.mk (blk_below (g := gb543) (o := .cells #[.slice Ao16 t540.length co16] 30 (0, 0)) (by (with_reducible repeat (first | refine blk_drewN ?_ _ | refine blk_drew ?_ | refine blk_alloc ?_ _)); refine blk_put (cs := #[.slice none 0 0]) ?_ 0 _ rfl; (with_reducible repeat (first | refine blk_drewN ?_ _ | refine blk_drew ?_ | refine blk_alloc ?_ _)); exact BK543.out) hb); have n3_ := Aside0.mk (below_step (by repeat (first | (with_reducible first | exact HB.out | apply below_alloc | apply pw_below_drewN | apply below_drew1 | refine below_set ?_ GE543.out) | exact HB.out)) hb); clear HO542; clear BK543; clear HB; have HO542 := n0_; have HO548 := n1_; have BK543 := n2_; have HB := n3_; clear n0_ n1_ n2_ n3_; (try clear hb); (try clear hb2); (try clear hk); (try clear hi); (try clear ho0); have hcz19_0 : w18.cell? ⟨gb543, 0, none⟩ = some (.slice Ao16 t540.length co16) := (blk_cell BK543.out 0).trans rfl; have hfz19_0 := blk_frozen BK543.out 0; obtain ⟨Ao20, co20, eo20⟩ := Kd.S_slice HO548.out; subst eo20) | (go_at_call 37; (with_reducible refine (impl_MaskDither.calls k _ _ t540 _ _ t545 t549 t552 _ ?side1 ?side2 ?side3 ?side4 A8.out).mono ?_); (case side1 => repeat (first | exact (Kd.S_reads' HO542.out).2.2 | (with_reducible refine Kd.C_alloc ?_ _) | (with_reducible refine Kd.C_drewN ?_ _) | (with_reducible refine Kd.C_drew ?_))); (case side2 => exact (Kd.S_reads' HO542.out).2.1); (case side3 => repeat (first | exact (Kd.S_reads' HO548.out).2.2 | (with_reducible refine Kd.C_alloc ?_ _) | (with_reducible refine Kd.C_drewN ?_ _) | (with_reducible refine Kd.C_drew ?_))); (case side4 => exact (Kd.S_reads' HO548.out).2.1); rintro e w21 ⟨v550, rfl, ho0, hb⟩; have n0_ := Aside0.mk (Kd.S_elder' (by (with_reducible repeat (first | apply Kd.S_alloc | apply Kd.S_drewN | apply Kd.S_drew)); exact HO542.out) (Kd.S_base ho0) hb); have n1_ := Aside0.mk (Kd.S_elder' (by (with_reducible repeat (first | apply Kd.S_alloc | apply Kd.S_drewN | apply Kd.S_drew)); exact HO548.out) (Kd.S_base ho0) hb); have n2_ := Aside0.mk (Kd.S_lower (Kd.S_new' (Kd.S_new' ho0 (Kd.S_lt (by (with_reducible repeat (first | apply Kd.S_alloc | apply Kd.S_drewN | apply Kd.S_drew)); exact HO542.out))) (Kd.S_lt (by (with_reducible repeat (first | apply Kd.S_alloc | apply Kd.S_drewN | apply Kd.S_drew)); exact HO548.out))) (below_size (by repeat (first | (with_reducible first | exact HB.out | apply below_alloc | apply pw_below_drewN | apply below_drew1 | refine below_set ?_ GE543.out) | exact HB.out)))); have n3_ := Aside0.mk (blk_below (g := gb543) (o := .cells #[.slice Ao16 t540.length co16] 30 (0, 0)) (by (with_reducible repeat (first | refine blk_drewN ?_ _ | refine blk_drew ?_ | refine blk_alloc ?_ _)); exact BK543.out) hb); have n4_ := Aside0.mk (below_step (by repeat (first | (with_reducible first | exact HB.out | apply below_alloc | apply pw_below_drewN | apply below_drew1 | refine below_set ?_ GE543.out) | exact HB.out)) hb); clear HO542; clear HO548; clear BK543; clear HB; have HO542 := n0_; have HO548 := n1_; have HO551 := n2_; have BK543 := n3_; have HB := n4_; clear n0_ n1_ n2_ n3_ n4_; (try clear hb); (try clear hb2); (try clear hk); (try clear hi); (try clear ho0); have hcz22_0 : w21.cell? ⟨gb543, 0, none⟩ = some (.slice Ao16 t540.length co16) := (blk_cell BK543.out 0).trans rfl; have hfz22_0 := blk_frozen BK543.out 0; obtain ⟨Ao23, co23, eo23⟩ := Kd.S_slice HO551.out; subst eo23) | (go_at_call 42; (with_reducible refine (impl_BlockErrors.calls k _ _ t540 _ _ t549 1 t553 t556 _ ?side1 ?side2 ?side3 ?side4 A9.out).mono ?_); (case side1 => repeat (first | exact (Kd.S_reads' HO542.out).2.2 | (with_reducible refine Kd.C_alloc ?_ _) | (with_reducible refine Kd.C_drewN ?_ _) | (with_reducible refine Kd.C_drew ?_))); (case side2 => exact (Kd.S_reads' HO542.out).2.1); (case side3 => repeat (first | exact (Kd.S_reads' HO551.out).2.2 | (with_reducible refine Kd.C_alloc ?_ _) | (with_reducible refine Kd.C_drewN ?_ _) | (with_reducible refine Kd.C_drew ?_))); (case side4 => exact (Kd.S_reads' HO551.out).2.1); rintro e w24 ⟨v554, rfl, ho0, hb⟩; have n0_ := Aside0.mk (Kd.S_elder' (by (with_reducible repeat (first | apply Kd.S_alloc | apply Kd.S_drewN | apply Kd.S_drew)); exact HO542.out) (Kd.S_base ho0) hb); have n1_ := Aside0.mk (Kd.S_elder' (by (with_reducible repeat (first | apply Kd.S_alloc | apply Kd.S_drewN | apply Kd.S_drew)); exact HO548.out) (Kd.S_base ho0) hb); have n2_ := Aside0.mk (Kd.S_elder' (by (with_reducible repeat (first | apply Kd.S_alloc | apply Kd.S_drewN | apply Kd.S_drew)); exact HO551.out) (Kd.S_base ho0) hb); have n3_ := Aside0.mk (Kd.S_lower (Kd.S_new' (Kd.S_new' (Kd.S_new' ho0 (Kd.S_lt (by (with_reducible repeat (first | apply Kd.S_alloc | apply Kd.S_drewN | apply Kd.S_drew)); exact HO542.out))) (Kd.S_lt (by (with_reducible repeat (first | apply Kd.S_alloc | apply Kd.S_drewN | apply Kd.S_drew)); exact HO548.out))) (Kd.S_lt (by (with_reducible repeat (first | apply Kd.S_alloc | apply Kd.S_drewN | apply Kd.S_drew)); exact HO551.out))) (below_size (by repeat (first | (with_reducible first | exact HB.out | apply below_alloc | apply pw_below_drewN | apply below_drew1 | refine below_set ?_ GE543.out) | exact HB.out)))); have n4_ := Aside0.mk (blk_below (g := gb543) (o := .cells #[.slice Ao16 t540.length co16] 30 (0, 0)) (by (with_reducible repeat (first | refine blk_drewN ?_ _ | refine blk_drew ?_ | refine blk_alloc ?_ _)); exact BK543.out) hb); have n5_ := Aside0.mk (below_step (by repeat (first | (with_reducible first | exact HB.out | apply below_alloc | apply pw_below_drewN | apply below_drew1 | refine below_set ?_ GE543.out) | exact HB.out)) hb); clear HO542; clear HO548; clear HO551; clear BK543; clear HB; have HO542 := n0_; have HO548 := n1_; have HO551 := n2_; have HO555 := n3_; have BK543 := n4_; have HB := n5_; clear n0_ n1_ n2_ n3_ n4_ n5_; (try clear hb); (try clear hb2); (try clear hk); (try clear hi); (try clear ho0); have hcz25_0 : w24.cell? ⟨gb543, 0, none⟩ = some (.slice Ao16 t540.length co16) := (blk_cell BK543.out 0).trans rfl; have hfz25_0 := blk_frozen BK543.out 0; have p557 : 0 ≤ (0 : Int) := (by omega); have q557 : 0 < (t540.length : Int) := of_decide_eq_true (by first | (with_reducible assumption) | assumption); obtain ⟨ad557, A557_0, c557_0, e557, hx557_0, hl557_0, hi557_0⟩ := at_L2 (Kd.S_reads' HO542.out).2.2 0 p557 q557; cases e557; obtain ⟨ce557, hce557, hMe557, hcc557⟩ := Kd.S_get HO542.out [] 0 p557 (by first | exact q557 | exact of_decide_eq_true (by first | (with_reducible assumption) | assumption) | (have e_ := (Kd.S_reads' HO542.out).1; omega)); obtain ⟨ve557_0, rfl, ge557_0⟩ := hMe557; have hv557_0 := hcc557 0 _ rfl; rw [Nat.add_zero, show ((Kd.slice 2 (Kd.int .i64))).sz = 1 from rfl, Nat.mul_one] at hv557_0; replace hv557_0 := Option.some.inj (hv557_0.symm.trans hx557_0); rw [hv557_0] at ge557_0; have HL557_0 := Aside0.mk (show Kd.R (Kd.int .i64) 2 _ _ _ _ (rd_L2 t540 0) from ge557_0); clear hv557_0 ge557_0; clear hcc557 hce557; have qi557 : (0 < t540.length) = True := eq_true (by omega); (try rw [show ((0 : Int)).toNat = 0 from rfl] at hx557_0); (try rw [Addr.add_zero'] at hx557_0); have HR557_0 := Aside0.mk hi557_0; have HC557_0 := Aside0.mk hl557_0; clear hi557_0 hl557_0; replace p557 := eq_true p557; replace q557 := eq_true q557) | (go_at_call 43; (with_reducible refine (laws_b10Gcd.calls k (t540.length : Int) ((rd_L2 t540 0).length : Int) t558 _ A11.out).mono ?_); rintro e w' ⟨rfl, ⟨nd, rfl⟩⟩; (try first | exact ⟨rfl, _, World.drewN_drewN _ _ _⟩ | exact ⟨rfl, _, Eq.trans (World.drewN_drewN _ _ _) (congrArg (World.drewN _) (Nat.add_assoc _ _ _))⟩)) | (go_at_call 42; (with_reducible refine (impl_BlockErrors.calls k _ _ t540 _ _ t549 t558 t559 t562 _ ?side1 ?side2 ?side3 ?side4 A12.out).mono ?_); (case side1 => repeat (first | exact (Kd.S_reads' HO542.out).2.2 | (with_reducible refine Kd.C_alloc ?_ _) | (with_reducible refine Kd.C_drewN ?_ _) | (with_reducible refine Kd.C_drew ?_))); (case side2 => exact (Kd.S_reads' HO542.out).2.1); (case side3 => repeat (first | exact (Kd.S_reads' HO551.out).2.2 | (with_reducible refine Kd.C_alloc ?_ _) | (with_reducible refine Kd.C_drewN ?_ _) | (with_reducible refine Kd.C_drew ?_))); (case side4 => exact (Kd.S_reads' HO551.out).2.1); rintro e w26 ⟨v560, rfl, ho0, hb⟩; have n0_ := Aside0.mk (Kd.S_elder' (by (with_reducible repeat (first | apply Kd.S_alloc | apply Kd.S_drewN | apply Kd.S_drew)); exact HO542.out) (Kd.S_base ho0) hb); have n1_ := Aside0.mk (Kd.S_elder' (by (with_reducible repeat (first | apply Kd.S_alloc | apply Kd.S_drewN | apply Kd.S_drew)); exact HO548.out) (Kd.S_base ho0) hb); have n2_ := Aside0.mk (Kd.S_elder' (by (with_reducible repeat (first | apply Kd.S_alloc | apply Kd.S_drewN | apply Kd.S_drew)); exact HO551.out) (Kd.S_base ho0) hb); have n3_ := Aside0.mk (Kd.S_elder' (by (with_reducible repeat (first | apply Kd.S_alloc | apply Kd.S_drewN | apply Kd.S_drew)); exact HO555.out) (Kd.S_base ho0) hb); have n4_ := Aside0.mk (Kd.R_below (by (with_reducible repeat (first | apply Kd.R_alloc | apply Kd.R_drewN | apply Kd.R_drew)); exact HL557_0.out) hb); have n5_ := Aside0.mk (Kd.S_lower (Kd.S_new' (Kd.S_new' (Kd.S_new' (Kd.S_new' (Kd.S_new' ho0 (Kd.S_lt (by (with_reducible repeat (first | apply Kd.S_alloc | apply Kd.S_drewN | apply Kd.S_drew)); exact HO542.out))) (Kd.S_lt (by (with_reducible repeat (first | apply Kd.S_alloc | apply Kd.S_drewN | apply Kd.S_drew)); exact HO548.out))) (Kd.S_lt (by (with_reducible repeat (first | apply Kd.S_alloc | apply Kd.S_drewN | apply Kd.S_drew)); exact HO551.out))) (Kd.S_lt (by (with_reducible repeat (first | apply Kd.S_alloc | apply Kd.S_drewN | apply Kd.S_drew)); exact HO555.out))) (Kd.R_lt (by (with_reducible repeat (first | apply Kd.R_alloc | apply Kd.R_drewN | apply Kd.R_drew)); exact HL557_0.out))) (below_size (by repeat (first | (with_reducible first | exact HB.out | apply below_alloc | apply pw_below_drewN | apply below_drew1 | refine below_set ?_ GE543.out) | exact HB.out)))); have n6_ := Aside0.mk (blk_below (g := gb543) (o := .cells #[.slice (some ad557) t540.length co16] 30 (0, 0)) (by (with_reducible repeat (first | refine blk_drewN ?_ _ | refine blk_drew ?_ | refine blk_alloc ?_ _)); exact BK543.out) hb); have n7_ := Aside0.mk (Kd.C_below (by repeat (first | (with_reducible exact HR557_0.out) | (with_reducible refine Kd.C_alloc ?_ _) | (with_reducible refine Kd.C_drewN ?_ _) | (with_reducible refine Kd.C_drew ?_) | exact HR557_0.out)) hb); have n8_ := Aside0.mk (below_step (by repeat (first | (with_reducible first | exact HB.out | apply below_alloc | apply pw_below_drewN | apply below_drew1 | refine below_set ?_ GE543.out) | exact HB.out)) hb); clear HO542; clear HO548; clear HO551; clear HO555; clear HL557_0; clear BK543; clear HR557_0; clear HB; have HO542 := n0_; have HO548 := n1_; have HO551 := n2_; have HO555 := n3_; have HL557_0 := n4_; have HO561 := n5_; have BK543 := n6_; have HR557_0 := n7_; have HB := n8_; clear n0_ n1_ n2_ n3_ n4_ n5_ n6_ n7_ n8_; (try clear hb); (try clear hb2); (try clear hk); (try clear hi); (try clear ho0))))
      (try simp only [Act.put, List.setIfInBounds_toArray, List.set_cons_zero, List.set_cons_succ])
      go_cut [87] (fun v87 wc => ∃ (kq : Nat) (x87_12 : Bool), v87 = .bool x87_12 ∧ Aside0 (laws_FnBlocks.j0 kq t549 t553 t559 x87_12 t540 = some r) ∧ Aside0 (kq ≤ k) ∧ Aside0 (Kd.S (Kd.slice 2 (Kd.int .i64)) 31 wc w.heap.size (fun k_ => some k_ ≠ (v554 : Value).ownBlock ∧ some k_ ≠ (v560 : Value).ownBlock ∧ some k_ ≠ ((.slice (some ad557) t540.length co16) : Value).ownBlock) (.slice Ao23 t549.length co23) t549) ∧ Aside0 (Kd.S (Kd.slice 2 (Kd.int .i64)) 31 wc w.heap.size (fun k_ => some k_ ≠ ((.slice Ao23 t549.length co23) : Value).ownBlock ∧ some k_ ≠ (v560 : Value).ownBlock ∧ some k_ ≠ ((.slice (some ad557) t540.length co16) : Value).ownBlock) v554 t553) ∧ Aside0 (Kd.S (Kd.slice 2 (Kd.int .i64)) 31 wc w.heap.size (fun k_ => some k_ ≠ ((.slice Ao23 t549.length co23) : Value).ownBlock ∧ some k_ ≠ (v554 : Value).ownBlock ∧ some k_ ≠ ((.slice (some ad557) t540.length co16) : Value).ownBlock) v560 t559) ∧ Aside0 (Kd.S (Kd.slice 2 (Kd.int .i64)) 31 wc w.heap.size (fun k_ => some k_ ≠ ((.slice Ao23 t549.length co23) : Value).ownBlock ∧ some k_ ≠ (v554 : Value).ownBlock ∧ some k_ ≠ (v560 : Value).ownBlock) (.slice (some ad557) t540.length co16) t540) ∧ Aside0 (wc.heap[gb543]? = some (.cells #[(.slice (some ad557) t540.length co16)] 30 (0, 0))) ∧ Aside0 (Kd.C (Kd.int .i64) wc A557_0 (rd_L2 t540 0).length (rd_L2 t540 0)) ∧ Aside0 (Below w.heap.size w wc))
      case first =>
        have H := HC13.out
        clear HC13
        by_cases c27 : t546 = true
        · subst c27
          have H1 : (if t552 = true then (if t556 = true then (if t562 = true then (if (t553.length : Int) = (t540.length : Int) then (laws_FnBlocks.j0 k t549 t553 t559 ((wrap64 ((t559.length : Int) * t558)) != (t540.length : Int)) t540) else (laws_FnBlocks.j0 k t549 t553 t559 true t540)) else (laws_FnBlocks.j0 k t549 t553 t559 true t540)) else (laws_FnBlocks.j0 k t549 t553 t559 true t540)) else (laws_FnBlocks.j0 k t549 t553 t559 true t540)) = some r := by rw [if_pos rfl] at H; exact H
          clear H
          have H := H1
          clear H1
          by_cases c28 : t552 = true
          · subst c28
            have H1 : (if t556 = true then (if t562 = true then (if (t553.length : Int) = (t540.length : Int) then (laws_FnBlocks.j0 k t549 t553 t559 ((wrap64 ((t559.length : Int) * t558)) != (t540.length : Int)) t540) else (laws_FnBlocks.j0 k t549 t553 t559 true t540)) else (laws_FnBlocks.j0 k t549 t553 t559 true t540)) else (laws_FnBlocks.j0 k t549 t553 t559 true t540)) = some r := by rw [if_pos rfl] at H; exact H
            clear H
            have H := H1
            clear H1
            by_cases c29 : t556 = true
            · subst c29
              have H1 : (if t562 = true then (if (t553.length : Int) = (t540.length : Int) then (laws_FnBlocks.j0 k t549 t553 t559 ((wrap64 ((t559.length : Int) * t558)) != (t540.length : Int)) t540) else (laws_FnBlocks.j0 k t549 t553 t559 true t540)) else (laws_FnBlocks.j0 k t549 t553 t559 true t540)) = some r := by rw [if_pos rfl] at H; exact H
              clear H
              have H := H1
              clear H1
              by_cases c30 : t562 = true
              · subst c30
                have H1 : (if (t553.length : Int) = (t540.length : Int) then (laws_FnBlocks.j0 k t549 t553 t559 ((wrap64 ((t559.length : Int) * t558)) != (t540.length : Int)) t540) else (laws_FnBlocks.j0 k t549 t553 t559 true t540)) = some r := by rw [if_pos rfl] at H; exact H
                clear H
                have H := H1
                clear H1
                by_cases c31 : (t553.length : Int) = (t540.length : Int)
                · rw [if_pos c31] at H
                  have c31b0 : ((t553.length : Int) == (t540.length : Int)) = true := beq_iff_eq.mpr c31
                  have c31b1 : ((t553.length : Int) != (t540.length : Int)) = false := bne_eq_false_iff_eq.mpr c31
                  have c31b2 : (t553.length == t540.length) = true := by first | simpa using c31 | (simp at c31 ⊢; omega)
                  clear c31
                  (first | rw [c31b0] | (simp only [i64_w, i32_w]; rw [c31b0]) | skip)
                  have H' := Aside0.mk H
                  clear H
                  obtain ⟨Ao32, co32, eo32⟩ := Kd.S_slice HO555.out
                  subst eo32
                  have hcz33_0 : w26.cell? ⟨gb543, 0, none⟩ = some (.slice (some ad557) t540.length co16) := (blk_cell BK543.out 0).trans rfl
                  have hfz33_0 := blk_frozen BK543.out 0
                  obtain ⟨Ao34, co34, eo34⟩ := Kd.S_slice HO561.out
                  subst eo34
                  go_wp2
                  repeat (go_quiet (fail); try go_wp2)
                  go_meet
                  case rel => exact ⟨_, (((wrap64 ((t559.length : Int) * t558)) != (t540.length : Int))), (by first | rfl | (simp; done) | (simp [*]; done)), H', ⟨by first | omega | exact Nat.le_refl _⟩, ⟨by (with_reducible repeat (first | apply Kd.S_alloc | apply Kd.S_drewN | apply Kd.S_drew)); exact Kd.S_mono HO551.out (fun _ hk => ⟨hk.1.2, ⟨hk.2, hk.1.1.1.2⟩⟩)⟩, ⟨by (with_reducible repeat (first | apply Kd.S_alloc | apply Kd.S_drewN | apply Kd.S_drew)); exact Kd.S_mono HO555.out (fun _ hk => ⟨hk.1.2, ⟨hk.2, hk.1.1.1.2⟩⟩)⟩, ⟨by (with_reducible repeat (first | apply Kd.S_alloc | apply Kd.S_drewN | apply Kd.S_drew)); exact Kd.S_mono HO561.out (fun _ hk => ⟨hk.1.1.2, ⟨hk.1.2, hk.1.1.1.1.2⟩⟩)⟩, ⟨by (with_reducible repeat (first | apply Kd.S_alloc | apply Kd.S_drewN | apply Kd.S_drew)); exact Kd.S_mono HO542.out (fun _ hk => ⟨hk.1.1.2, ⟨hk.1.2, hk.2⟩⟩)⟩, ⟨by (with_reducible repeat (first | refine blk_drewN ?_ _ | refine blk_drew ?_ | refine blk_alloc ?_ _)); exact BK543.out⟩, ⟨by repeat (first | (with_reducible exact HR557_0.out) | (with_reducible refine Kd.C_alloc ?_ _) | (with_reducible refine Kd.C_drewN ?_ _) | (with_reducible refine Kd.C_drew ?_) | exact HR557_0.out)⟩, ⟨by repeat (first | (with_reducible first | exact HB.out | apply below_alloc | apply pw_below_drewN | apply below_drew1 | refine below_set ?_ GE543.out) | exact HB.out)⟩⟩
                · rw [if_neg c31] at H
                  have c31b0 : ((t553.length : Int) == (t540.length : Int)) = false := beq_eq_false_iff_ne.mpr c31
                  have c31b1 : ((t553.length : Int) != (t540.length : Int)) = true := bne_iff_ne.mpr c31
                  have c31b2 : (t553.length == t540.length) = false := by first | simpa using c31 | (simp at c31 ⊢; omega)
                  (first | rw [c31b0] | (simp only [i64_w, i32_w]; rw [c31b0]) | skip)
                  have H' := Aside0.mk H
                  clear H
                  obtain ⟨Ao35, co35, eo35⟩ := Kd.S_slice HO555.out
                  subst eo35
                  have hcz36_0 : w26.cell? ⟨gb543, 0, none⟩ = some (.slice (some ad557) t540.length co16) := (blk_cell BK543.out 0).trans rfl
                  have hfz36_0 := blk_frozen BK543.out 0
                  go_wp2
                  repeat (go_quiet (fail); try go_wp2)
                  go_meet
                  case rel => exact ⟨_, (true), (by first | rfl | (simp; done) | (simp [*]; done)), H', ⟨by first | omega | exact Nat.le_refl _⟩, ⟨by (with_reducible repeat (first | apply Kd.S_alloc | apply Kd.S_drewN | apply Kd.S_drew)); exact Kd.S_mono HO551.out (fun _ hk => ⟨hk.1.2, ⟨hk.2, hk.1.1.1.2⟩⟩)⟩, ⟨by (with_reducible repeat (first | apply Kd.S_alloc | apply Kd.S_drewN | apply Kd.S_drew)); exact Kd.S_mono HO555.out (fun _ hk => ⟨hk.1.2, ⟨hk.2, hk.1.1.1.2⟩⟩)⟩, ⟨by (with_reducible repeat (first | apply Kd.S_alloc | apply Kd.S_drewN | apply Kd.S_drew)); exact Kd.S_mono HO561.out (fun _ hk => ⟨hk.1.1.2, ⟨hk.1.2, hk.1.1.1.1.2⟩⟩)⟩, ⟨by (with_reducible repeat (first | apply Kd.S_alloc | apply Kd.S_drewN | apply Kd.S_drew)); exact Kd.S_mono HO542.out (fun _ hk => ⟨hk.1.1.2, ⟨hk.1.2, hk.2⟩⟩)⟩, ⟨by (with_reducible repeat (first | refine blk_drewN ?_ _ | refine blk_drew ?_ | refine blk_alloc ?_ _)); exact BK543.out⟩, ⟨by repeat (first | (with_reducible exact HR557_0.out) | (with_reducible refine Kd.C_alloc ?_ _) | (with_reducible refine Kd.C_drewN ?_ _) | (with_reducible refine Kd.C_drew ?_) | exact HR557_0.out)⟩, ⟨by repeat (first | (with_reducible first | exact HB.out | apply below_alloc | apply pw_below_drewN | apply below_drew1 | refine below_set ?_ GE543.out) | exact HB.out)⟩⟩
              · replace c30 := Bool.eq_false_iff.mpr c30
                subst c30
                have H1 : (laws_FnBlocks.j0 k t549 t553 t559 true t540) = some r := by rw [if_neg (show ¬ (false = true) by decide)] at H; exact H
                clear H
                have H := H1
                clear H1
                have H' := Aside0.mk H
                clear H
                go_wp2
                repeat (go_quiet (fail); try go_wp2)
                go_meet
                case rel => exact ⟨_, (true), (by first | rfl | (simp; done) | (simp [*]; done)), H', ⟨by first | omega | exact Nat.le_refl _⟩, ⟨by (with_reducible repeat (first | apply Kd.S_alloc | apply Kd.S_drewN | apply Kd.S_drew)); exact Kd.S_mono HO551.out (fun _ hk => ⟨hk.1.2, ⟨hk.2, hk.1.1.1.2⟩⟩)⟩, ⟨by (with_reducible repeat (first | apply Kd.S_alloc | apply Kd.S_drewN | apply Kd.S_drew)); exact Kd.S_mono HO555.out (fun _ hk => ⟨hk.1.2, ⟨hk.2, hk.1.1.1.2⟩⟩)⟩, ⟨by (with_reducible repeat (first | apply Kd.S_alloc | apply Kd.S_drewN | apply Kd.S_drew)); exact Kd.S_mono HO561.out (fun _ hk => ⟨hk.1.1.2, ⟨hk.1.2, hk.1.1.1.1.2⟩⟩)⟩, ⟨by (with_reducible repeat (first | apply Kd.S_alloc | apply Kd.S_drewN | apply Kd.S_drew)); exact Kd.S_mono HO542.out (fun _ hk => ⟨hk.1.1.2, ⟨hk.1.2, hk.2⟩⟩)⟩, ⟨by (with_reducible repeat (first | refine blk_drewN ?_ _ | refine blk_drew ?_ | refine blk_alloc ?_ _)); exact BK543.out⟩, ⟨by repeat (first | (with_reducible exact HR557_0.out) | (with_reducible refine Kd.C_alloc ?_ _) | (with_reducible refine Kd.C_drewN ?_ _) | (with_reducible refine Kd.C_drew ?_) | exact HR557_0.out)⟩, ⟨by repeat (first | (with_reducible first | exact HB.out | apply below_alloc | apply pw_below_drewN | apply below_drew1 | refine below_set ?_ GE543.out) | exact HB.out)⟩⟩
            · replace c29 := Bool.eq_false_iff.mpr c29
              subst c29
              have H1 : (laws_FnBlocks.j0 k t549 t553 t559 true t540) = some r := by rw [if_neg (show ¬ (false = true) by decide)] at H; exact H
              clear H
              have H := H1
              clear H1
              have H' := Aside0.mk H
              clear H
              go_wp2
              repeat (go_quiet (fail); try go_wp2)
              go_meet
              case rel => exact ⟨_, (true), (by first | rfl | (simp; done) | (simp [*]; done)), H', ⟨by first | omega | exact Nat.le_refl _⟩, ⟨by (with_reducible repeat (first | apply Kd.S_alloc | apply Kd.S_drewN | apply Kd.S_drew)); exact Kd.S_mono HO551.out (fun _ hk => ⟨hk.1.2, ⟨hk.2, hk.1.1.1.2⟩⟩)⟩, ⟨by (with_reducible repeat (first | apply Kd.S_alloc | apply Kd.S_drewN | apply Kd.S_drew)); exact Kd.S_mono HO555.out (fun _ hk => ⟨hk.1.2, ⟨hk.2, hk.1.1.1.2⟩⟩)⟩, ⟨by (with_reducible repeat (first | apply Kd.S_alloc | apply Kd.S_drewN | apply Kd.S_drew)); exact Kd.S_mono HO561.out (fun _ hk => ⟨hk.1.1.2, ⟨hk.1.2, hk.1.1.1.1.2⟩⟩)⟩, ⟨by (with_reducible repeat (first | apply Kd.S_alloc | apply Kd.S_drewN | apply Kd.S_drew)); exact Kd.S_mono HO542.out (fun _ hk => ⟨hk.1.1.2, ⟨hk.1.2, hk.2⟩⟩)⟩, ⟨by (with_reducible repeat (first | refine blk_drewN ?_ _ | refine blk_drew ?_ | refine blk_alloc ?_ _)); exact BK543.out⟩, ⟨by repeat (first | (with_reducible exact HR557_0.out) | (with_reducible refine Kd.C_alloc ?_ _) | (with_reducible refine Kd.C_drewN ?_ _) | (with_reducible refine Kd.C_drew ?_) | exact HR557_0.out)⟩, ⟨by repeat (first | (with_reducible first | exact HB.out | apply below_alloc | apply pw_below_drewN | apply below_drew1 | refine below_set ?_ GE543.out) | exact HB.out)⟩⟩
          · replace c28 := Bool.eq_false_iff.mpr c28
            subst c28
            have H1 : (laws_FnBlocks.j0 k t549 t553 t559 true t540) = some r := by rw [if_neg (show ¬ (false = true) by decide)] at H; exact H
            clear H
            have H := H1
            clear H1
            have H' := Aside0.mk H
            clear H
            go_wp2
            repeat (go_quiet (fail); try go_wp2)
            go_meet
            case rel => exact ⟨_, (true), (by first | rfl | (simp; done) | (simp [*]; done)), H', ⟨by first | omega | exact Nat.le_refl _⟩, ⟨by (with_reducible repeat (first | apply Kd.S_alloc | apply Kd.S_drewN | apply Kd.S_drew)); exact Kd.S_mono HO551.out (fun _ hk => ⟨hk.1.2, ⟨hk.2, hk.1.1.1.2⟩⟩)⟩, ⟨by (with_reducible repeat (first | apply Kd.S_alloc | apply Kd.S_drewN | apply Kd.S_drew)); exact Kd.S_mono HO555.out (fun _ hk => ⟨hk.1.2, ⟨hk.2, hk.1.1.1.2⟩⟩)⟩, ⟨by (with_reducible repeat (first | apply Kd.S_alloc | apply Kd.S_drewN | apply Kd.S_drew)); exact Kd.S_mono HO561.out (fun _ hk => ⟨hk.1.1.2, ⟨hk.1.2, hk.1.1.1.1.2⟩⟩)⟩, ⟨by (with_reducible repeat (first | apply Kd.S_alloc | apply Kd.S_drewN | apply Kd.S_drew)); exact Kd.S_mono HO542.out (fun _ hk => ⟨hk.1.1.2, ⟨hk.1.2, hk.2⟩⟩)⟩, ⟨by (with_reducible repeat (first | refine blk_drewN ?_ _ | refine blk_drew ?_ | refine blk_alloc ?_ _)); exact BK543.out⟩, ⟨by repeat (first | (with_reducible exact HR557_0.out) | (with_reducible refine Kd.C_alloc ?_ _) | (with_reducible refine Kd.C_drewN ?_ _) | (with_reducible refine Kd.C_drew ?_) | exact HR557_0.out)⟩, ⟨by repeat (first | (with_reducible first | exact HB.out | apply below_alloc | apply pw_below_drewN | apply below_drew1 | refine below_set ?_ GE543.out) | exact HB.out)⟩⟩
        · replace c27 := Bool.eq_false_iff.mpr c27
          subst c27
          have H1 : (laws_FnBlocks.j0 k t549 t553 t559 true t540) = some r := by rw [if_neg (show ¬ (false = true) by decide)] at H; exact H
          clear H
          have H := H1
          clear H1
          have H' := Aside0.mk H
          clear H
          go_wp2
          repeat (go_quiet (fail); try go_wp2)
          go_meet
          case rel => exact ⟨_, (true), (by first | rfl | (simp; done) | (simp [*]; done)), H', ⟨by first | omega | exact Nat.le_refl _⟩, ⟨by (with_reducible repeat (first | apply Kd.S_alloc | apply Kd.S_drewN | apply Kd.S_drew)); exact Kd.S_mono HO551.out (fun _ hk => ⟨hk.1.2, ⟨hk.2, hk.1.1.1.2⟩⟩)⟩, ⟨by (with_reducible repeat (first | apply Kd.S_alloc | apply Kd.S_drewN | apply Kd.S_drew)); exact Kd.S_mono HO555.out (fun _ hk => ⟨hk.1.2, ⟨hk.2, hk.1.1.1.2⟩⟩)⟩, ⟨by (with_reducible repeat (first | apply Kd.S_alloc | apply Kd.S_drewN | apply Kd.S_drew)); exact Kd.S_mono HO561.out (fun _ hk => ⟨hk.1.1.2, ⟨hk.1.2, hk.1.1.1.1.2⟩⟩)⟩, ⟨by (with_reducible repeat (first | apply Kd.S_alloc | apply Kd.S_drewN | apply Kd.S_drew)); exact Kd.S_mono HO542.out (fun _ hk => ⟨hk.1.1.2, ⟨hk.1.2, hk.2⟩⟩)⟩, ⟨by (with_reducible repeat (first | refine blk_drewN ?_ _ | refine blk_drew ?_ | refine blk_alloc ?_ _)); exact BK543.out⟩, ⟨by repeat (first | (with_reducible exact HR557_0.out) | (with_reducible refine Kd.C_alloc ?_ _) | (with_reducible refine Kd.C_drewN ?_ _) | (with_reducible refine Kd.C_drew ?_) | exact HR557_0.out)⟩, ⟨by repeat (first | (with_reducible first | exact HB.out | apply below_alloc | apply pw_below_drewN | apply below_drew1 | refine below_set ?_ GE543.out) | exact HB.out)⟩⟩
      case rest =>
        clear HC13
        try clear c1
        try clear c2
        try clear p2
        try clear c3
        try clear c4
        try clear c5
        try clear p5
        try clear q5
        try clear hx5
        try clear qi5
        try clear p6
        try clear c9
        try clear c10
        try clear c10b0
        try clear c10b1
        try clear c27
        try clear c28
        try clear c29
        try clear c30
        try clear c31
        try clear c31b0
        try clear c31b1
        try clear c31b2
        try clear hcz17_0
        try clear hcz19_0
        try clear hcz22_0
        try clear hcz25_0
        try clear hcz33_0
        try clear hcz36_0
        try clear hfz17_0
        try clear hfz19_0
        try clear hfz22_0
        try clear hfz25_0
        try clear hfz33_0
        try clear hfz36_0
        try clear hx557_0
        try clear p557
        try clear q557
        obtain ⟨kq, x87_12, rfl, HA, HJ12, HO_8, HO_10, HO_13, HO_544000, BK543, HR557_0, HB⟩ := hcut
        cases kq with
        | zero => exact absurd HA.out (by simp [laws_FnBlocks.j0])
        | succ kj12 =>
          have H := HA.out
          clear HA
          simp only [laws_FnBlocks.j0] at H
          by_cases c37 : x87_12 = true
          · subst c37
            have H1 : (some false) = some r := by rw [if_pos rfl] at H; exact H
            clear H
            have H := H1
            clear H1
            obtain rfl := Option.some.inj H
            go_wp2
            repeat (go_quiet (fail); try go_wp2)
            go_ret
            exact ⟨by first | rfl | (simp [errW_none, errW_some] <;> rfl) | (simp [*, errW_none, errW_some] <;> rfl), by repeat (first | (with_reducible first | exact HB.out | apply below_alloc | apply pw_below_drewN | apply below_drew1 | refine below_set ?_ GE543.out) | exact HB.out)⟩
          · replace c37 := Bool.eq_false_iff.mpr c37
            subst c37
            have H1 : (laws_FnBlocks.l0 kj12 t549 t553 t559 0 t540) = some r := by rw [if_neg (show ¬ (false = true) by decide)] at H; exact H
            clear H
            have H := H1
            clear H1
            have H' := Aside0.mk H
            clear H
            go_wp2
            repeat (go_quiet (fail); try go_wp2)
            go_loopg [15] kj12 (fun kq v15 w' => ∃ (x15_2 : Int), v15 = .int .i64 x15_2 ∧ Aside0 (laws_FnBlocks.l0 kq t549 t553 t559 x15_2 t540 = some r) ∧ Aside0 (kq ≤ kj12) ∧ Aside0 (Kd.S (Kd.slice 2 (Kd.int .i64)) 31 w' w.heap.size (fun k_ => some k_ ≠ (v554 : Value).ownBlock ∧ some k_ ≠ (v560 : Value).ownBlock ∧ some k_ ≠ ((.slice (some ad557) t540.length co16) : Value).ownBlock) (.slice Ao23 t549.length co23) t549) ∧ Aside0 (Kd.S (Kd.slice 2 (Kd.int .i64)) 31 w' w.heap.size (fun k_ => some k_ ≠ ((.slice Ao23 t549.length co23) : Value).ownBlock ∧ some k_ ≠ (v560 : Value).ownBlock ∧ some k_ ≠ ((.slice (some ad557) t540.length co16) : Value).ownBlock) v554 t553) ∧ Aside0 (Kd.S (Kd.slice 2 (Kd.int .i64)) 31 w' w.heap.size (fun k_ => some k_ ≠ ((.slice Ao23 t549.length co23) : Value).ownBlock ∧ some k_ ≠ (v554 : Value).ownBlock ∧ some k_ ≠ ((.slice (some ad557) t540.length co16) : Value).ownBlock) v560 t559) ∧ Aside0 (Kd.S (Kd.slice 2 (Kd.int .i64)) 31 w' w.heap.size (fun k_ => some k_ ≠ ((.slice Ao23 t549.length co23) : Value).ownBlock ∧ some k_ ≠ (v554 : Value).ownBlock ∧ some k_ ≠ (v560 : Value).ownBlock) (.slice (some ad557) t540.length co16) t540) ∧ Aside0 (w'.heap[gb543]? = some (.cells #[(.slice (some ad557) t540.length co16)] 30 (0, 0))) ∧ Aside0 (Kd.C (Kd.int .i64) w' A557_0 (rd_L2 t540 0).length (rd_L2 t540 0)) ∧ Aside0 (Below w.heap.size w w'))
            case atStart => exact ⟨(0), (by first | rfl | (simp; done) | (simp [*]; done)), H', ⟨Nat.le_refl _⟩, ⟨by (with_reducible repeat (first | apply Kd.S_alloc | apply Kd.S_drewN | apply Kd.S_drew)); exact HO_8.out⟩, ⟨by (with_reducible repeat (first | apply Kd.S_alloc | apply Kd.S_drewN | apply Kd.S_drew)); exact HO_10.out⟩, ⟨by (with_reducible repeat (first | apply Kd.S_alloc | apply Kd.S_drewN | apply Kd.S_drew)); exact HO_13.out⟩, ⟨by (with_reducible repeat (first | apply Kd.S_alloc | apply Kd.S_drewN | apply Kd.S_drew)); exact HO_544000.out⟩, ⟨by (with_reducible repeat (first | refine blk_drewN ?_ _ | refine blk_drew ?_ | refine blk_alloc ?_ _)); exact BK543.out⟩, ⟨by repeat (first | (with_reducible exact HR557_0.out) | (with_reducible refine Kd.C_alloc ?_ _) | (with_reducible refine Kd.C_drewN ?_ _) | (with_reducible refine Kd.C_drew ?_) | exact HR557_0.out)⟩, ⟨by repeat (first | (with_reducible first | exact HB.out | apply below_alloc | apply pw_below_drewN | apply below_drew1 | refine below_set ?_ GE543.out) | exact HB.out)⟩⟩
            case round =>
              clear H'
              try clear c1
              try clear c2
              try clear p2
              try clear c3
              try clear c4
              try clear c5
              try clear p5
              try clear q5
              try clear hx5
              try clear qi5
              try clear p6
              try clear c9
              try clear c10
              try clear c10b0
              try clear c10b1
              try clear c27
              try clear c28
              try clear c29
              try clear c30
              try clear c31
              try clear c31b0
              try clear c31b1
              try clear c31b2
              try clear c37
              try clear hcz17_0
              try clear hcz19_0
              try clear hcz22_0
              try clear hcz25_0
              try clear hcz33_0
              try clear hcz36_0
              try clear hfz17_0
              try clear hfz19_0
              try clear hfz22_0
              try clear hfz25_0
              try clear hfz33_0
              try clear hfz36_0
              try clear hx557_0
              try clear p2
              try clear p5
              try clear p557
              try clear p6
              try clear q5
              try clear q557
              obtain ⟨x15_2, rfl, HA, HK2, HO_8, HO_10, HO_13, HO_544000, BK543, HR557_0, HB⟩ := hrel
              cases gk with
              | zero => exact absurd HA.out (by simp [laws_FnBlocks.l0])
              | succ k2 =>
                have H := HA.out
                clear HA
                simp only [laws_FnBlocks.l0] at H
                by_cases c38 : x15_2 < (t553.length : Int)
                · rw [if_pos c38] at H
                  have c38b0 : decide (x15_2 < (t553.length : Int)) = true := decide_eq_true c38
                  clear c38
                  have HC39 := Aside0.mk H
                  clear H
                  obtain ⟨Ao40, co40, eo40⟩ := Kd.S_slice HO_10.out
                  subst eo40
                  go_upto_region 14 with (fail)
                  repeat (go_quiet (fail); go_upto_region 14 with (fail))
                  go_cut [119] (fun v119 wc => ∃ (kq : Nat) (x119_38 : Bool), v119 = .bool x119_38 ∧ Aside0 (laws_FnBlocks.j2 kq t549 t553 t559 x15_2 x119_38 t540 = some r) ∧ Aside0 (kq ≤ k2) ∧ Aside0 (Kd.S (Kd.slice 2 (Kd.int .i64)) 31 wc w.heap.size (fun k_ => some k_ ≠ ((.slice Ao40 t553.length co40) : Value).ownBlock ∧ some k_ ≠ (v560 : Value).ownBlock ∧ some k_ ≠ ((.slice (some ad557) t540.length co16) : Value).ownBlock) (.slice Ao23 t549.length co23) t549) ∧ Aside0 (Kd.S (Kd.slice 2 (Kd.int .i64)) 31 wc w.heap.size (fun k_ => some k_ ≠ ((.slice Ao23 t549.length co23) : Value).ownBlock ∧ some k_ ≠ (v560 : Value).ownBlock ∧ some k_ ≠ ((.slice (some ad557) t540.length co16) : Value).ownBlock) (.slice Ao40 t553.length co40) t553) ∧ Aside0 (Kd.S (Kd.slice 2 (Kd.int .i64)) 31 wc w.heap.size (fun k_ => some k_ ≠ ((.slice Ao23 t549.length co23) : Value).ownBlock ∧ some k_ ≠ ((.slice Ao40 t553.length co40) : Value).ownBlock ∧ some k_ ≠ ((.slice (some ad557) t540.length co16) : Value).ownBlock) v560 t559) ∧ Aside0 (Kd.S (Kd.slice 2 (Kd.int .i64)) 31 wc w.heap.size (fun k_ => some k_ ≠ ((.slice Ao23 t549.length co23) : Value).ownBlock ∧ some k_ ≠ ((.slice Ao40 t553.length co40) : Value).ownBlock ∧ some k_ ≠ (v560 : Value).ownBlock) (.slice (some ad557) t540.length co16) t540) ∧ Aside0 (wc.heap[gb543]? = some (.cells #[(.slice (some ad557) t540.length co16)] 30 (0, 0))) ∧ Aside0 (Kd.C (Kd.int .i64) wc A557_0 (rd_L2 t540 0).length (rd_L2 t540 0)) ∧ Aside0 (Below w.heap.size w wc))
                  case first =>
                    have H := HC39.out
                    clear HC39
                    by_cases c41 : 0 ≤ x15_2
                    · rw [if_pos c41] at H
                      have c41b0 : decide (0 ≤ x15_2) = true := decide_eq_true c41
                      clear c41
                      (first | rw [c41b0] | (simp only [i64_w, i32_w]; rw [c41b0]) | skip)
                      by_cases c42 : x15_2 < (t540.length : Int)
                      · rw [if_pos c42] at H
                        have c42b0 : decide (x15_2 < (t540.length : Int)) = true := decide_eq_true c42
                        clear c42
                        by_cases c43 : ((rd_L2 t553 x15_2).length : Int) = ((rd_L2 t540 x15_2).length : Int)
                        · rw [if_pos c43] at H
                          have c43b0 : (((rd_L2 t553 x15_2).length : Int) == ((rd_L2 t540 x15_2).length : Int)) = true := beq_iff_eq.mpr c43
                          have c43b1 : (((rd_L2 t553 x15_2).length : Int) != ((rd_L2 t540 x15_2).length : Int)) = false := bne_eq_false_iff_eq.mpr c43
                          have c43b2 : ((rd_L2 t553 x15_2).length == (rd_L2 t540 x15_2).length) = true := by first | simpa using c43 | (simp at c43 ⊢; omega)
                          clear c43
                          by_cases c44 : x15_2 < (t549.length : Int)
                          · rw [if_pos c44] at H
                            have c44b0 : decide (x15_2 < (t549.length : Int)) = true := decide_eq_true c44
                            clear c44
                            have H' := Aside0.mk H
                            clear H
                            have p565 : 0 ≤ (x15_2 : Int) := of_decide_eq_true (by first | (with_reducible assumption) | assumption)
                            have q565 : x15_2 < (t553.length : Int) := of_decide_eq_true (by first | (with_reducible assumption) | assumption)
                            obtain ⟨ad565, A565_0, c565_0, e565, hx565_0, hl565_0, hi565_0⟩ := at_L2 (Kd.S_reads' HO_10.out).2.2 x15_2 p565 q565
                            cases e565
                            obtain ⟨ce565, hce565, hMe565, hcc565⟩ := Kd.S_get HO_10.out [] x15_2 p565 (by first | exact q565 | exact of_decide_eq_true (by first | (with_reducible assumption) | assumption) | (have e_ := (Kd.S_reads' HO_10.out).1; omega))
                            obtain ⟨ve565_0, rfl, ge565_0⟩ := hMe565
                            have hv565_0 := hcc565 0 _ rfl
                            rw [Nat.add_zero, show ((Kd.slice 2 (Kd.int .i64))).sz = 1 from rfl, Nat.mul_one] at hv565_0
                            replace hv565_0 := Option.some.inj (hv565_0.symm.trans hx565_0)
                            rw [hv565_0] at ge565_0
                            have HL565_0 := Aside0.mk (show Kd.R (Kd.int .i64) 2 _ _ _ _ (rd_L2 t553 x15_2) from ge565_0)
                            clear hv565_0 ge565_0
                            clear hcc565 hce565
                            have HR565_0 := Aside0.mk hi565_0
                            have HC565_0 := Aside0.mk hl565_0
                            clear hi565_0 hl565_0
                            replace p565 := eq_true p565
                            replace q565 := eq_true q565
                            have hcz45_0 : wr.cell? ⟨gb543, 0, none⟩ = some (.slice (some ad557) t540.length co16) := (blk_cell BK543.out 0).trans rfl
                            have hfz45_0 := blk_frozen BK543.out 0
                            have p566 : 0 ≤ (x15_2 : Int) := of_decide_eq_true (by first | (with_reducible assumption) | assumption)
                            have q566 : x15_2 < (t540.length : Int) := of_decide_eq_true (by first | (with_reducible assumption) | assumption)
                            obtain ⟨ad566, A566_0, c566_0, e566, hx566_0, hl566_0, hi566_0⟩ := at_L2 (Kd.S_reads' HO_544000.out).2.2 x15_2 p566 q566
                            obtain rfl : ad557 = ad566 := (by injection e566)
                            obtain ⟨ce566, hce566, hMe566, hcc566⟩ := Kd.S_get HO_544000.out [] x15_2 p566 (by first | exact q566 | exact of_decide_eq_true (by first | (with_reducible assumption) | assumption) | (have e_ := (Kd.S_reads' HO_544000.out).1; omega))
                            obtain ⟨ve566_0, rfl, ge566_0⟩ := hMe566
                            have hv566_0 := hcc566 0 _ rfl
                            rw [Nat.add_zero, show ((Kd.slice 2 (Kd.int .i64))).sz = 1 from rfl, Nat.mul_one] at hv566_0
                            replace hv566_0 := Option.some.inj (hv566_0.symm.trans hx566_0)
                            rw [hv566_0] at ge566_0
                            have HL566_0 := Aside0.mk (show Kd.R (Kd.int .i64) 2 _ _ _ _ (rd_L2 t540 x15_2) from ge566_0)
                            clear hv566_0 ge566_0
                            clear hcc566 hce566
                            have HR566_0 := Aside0.mk hi566_0
                            have HC566_0 := Aside0.mk hl566_0
                            clear hi566_0 hl566_0
                            replace p566 := eq_true p566
                            replace q566 := eq_true q566
                            have p567 : 0 ≤ (x15_2 : Int) := of_decide_eq_true (by first | (with_reducible assumption) | assumption)
                            have q567 : x15_2 < (t549.length : Int) := of_decide_eq_true (by first | (with_reducible assumption) | assumption)
                            obtain ⟨ad567, A567_0, c567_0, e567, hx567_0, hl567_0, hi567_0⟩ := at_L2 (Kd.S_reads' HO_8.out).2.2 x15_2 p567 q567
                            cases e567
                            obtain ⟨ce567, hce567, hMe567, hcc567⟩ := Kd.S_get HO_8.out [] x15_2 p567 (by first | exact q567 | exact of_decide_eq_true (by first | (with_reducible assumption) | assumption) | (have e_ := (Kd.S_reads' HO_8.out).1; omega))
                            obtain ⟨ve567_0, rfl, ge567_0⟩ := hMe567
                            have hv567_0 := hcc567 0 _ rfl
                            rw [Nat.add_zero, show ((Kd.slice 2 (Kd.int .i64))).sz = 1 from rfl, Nat.mul_one] at hv567_0
                            replace hv567_0 := Option.some.inj (hv567_0.symm.trans hx567_0)
                            rw [hv567_0] at ge567_0
                            have HL567_0 := Aside0.mk (show Kd.R (Kd.int .i64) 2 _ _ _ _ (rd_L2 t549 x15_2) from ge567_0)
                            clear hv567_0 ge567_0
                            clear hcc567 hce567
                            have HR567_0 := Aside0.mk hi567_0
                            have HC567_0 := Aside0.mk hl567_0
                            clear hi567_0 hl567_0
                            replace p567 := eq_true p567
                            replace q567 := eq_true q567
                            have p568 : 0 ≤ (x15_2 : Int) := of_decide_eq_true (by first | (with_reducible assumption) | assumption)
                            have q568 : x15_2 < (t540.length : Int) := of_decide_eq_true (by first | (with_reducible assumption) | assumption)
                            obtain ⟨ad568, A568_0, c568_0, e568, hx568_0, hl568_0, hi568_0⟩ := at_L2 (Kd.S_reads' HO_544000.out).2.2 x15_2 p568 q568
                            obtain rfl : ad557 = ad568 := (by injection e568)
                            obtain ⟨ce568, hce568, hMe568, hcc568⟩ := Kd.S_get HO_544000.out [] x15_2 p568 (by first | exact q568 | exact of_decide_eq_true (by first | (with_reducible assumption) | assumption) | (have e_ := (Kd.S_reads' HO_544000.out).1; omega))
                            obtain ⟨ve568_0, rfl, ge568_0⟩ := hMe568
                            have hv568_0 := hcc568 0 _ rfl
                            rw [Nat.add_zero, show ((Kd.slice 2 (Kd.int .i64))).sz = 1 from rfl, Nat.mul_one] at hv568_0
                            replace hv568_0 := Option.some.inj (hv568_0.symm.trans hx568_0)
                            rw [hv568_0] at ge568_0
                            have HL568_0 := Aside0.mk (show Kd.R (Kd.int .i64) 2 _ _ _ _ (rd_L2 t540 x15_2) from ge568_0)
                            clear hv568_0 ge568_0
                            clear hcc568 hce568
                            have HR568_0 := Aside0.mk hi568_0
                            have HC568_0 := Aside0.mk hl568_0
                            clear hi568_0 hl568_0
                            replace p568 := eq_true p568
                            replace q568 := eq_true q568
                            have ea_ := Option.some.inj (hx566_0.symm.trans hx568_0)
                            injection ea_ with ea_ en_ ec_
                            subst ea_
                            subst ec_
                            clear en_
                            go_wp2
                            repeat (go_quiet (fail); try go_wp2)
                            go_meet
                            case rel => exact ⟨_, ((((rd_L2 t549 x15_2).length : Int) != ((rd_L2 t540 x15_2).length : Int))), (by first | rfl | (simp; done) | (simp [*]; done)), H', ⟨by have := HJ12.out; have := HK2.out; first | omega | exact Nat.le_refl _⟩, ⟨by (with_reducible repeat (first | apply Kd.S_alloc | apply Kd.S_drewN | apply Kd.S_drew)); exact HO_8.out⟩, ⟨by (with_reducible repeat (first | apply Kd.S_alloc | apply Kd.S_drewN | apply Kd.S_drew)); exact HO_10.out⟩, ⟨by (with_reducible repeat (first | apply Kd.S_alloc | apply Kd.S_drewN | apply Kd.S_drew)); exact HO_13.out⟩, ⟨by (with_reducible repeat (first | apply Kd.S_alloc | apply Kd.S_drewN | apply Kd.S_drew)); exact HO_544000.out⟩, ⟨by (with_reducible repeat (first | refine blk_drewN ?_ _ | refine blk_drew ?_ | refine blk_alloc ?_ _)); exact BK543.out⟩, ⟨by repeat (first | (with_reducible exact HR557_0.out) | (with_reducible refine Kd.C_alloc ?_ _) | (with_reducible refine Kd.C_drewN ?_ _) | (with_reducible refine Kd.C_drew ?_) | exact HR557_0.out)⟩, ⟨by repeat (first | (with_reducible first | exact HB.out | apply below_alloc | apply pw_below_drewN | apply below_drew1 | refine below_set ?_ GE543.out) | exact HB.out)⟩⟩
                          · rw [if_neg c44] at H
                            exact absurd H (by simp)
                        · rw [if_neg c43] at H
                          have c43b0 : (((rd_L2 t553 x15_2).length : Int) == ((rd_L2 t540 x15_2).length : Int)) = false := beq_eq_false_iff_ne.mpr c43
                          have c43b1 : (((rd_L2 t553 x15_2).length : Int) != ((rd_L2 t540 x15_2).length : Int)) = true := bne_iff_ne.mpr c43
                          have c43b2 : ((rd_L2 t553 x15_2).length == (rd_L2 t540 x15_2).length) = false := by first | simpa using c43 | (simp at c43 ⊢; omega)
                          have H' := Aside0.mk H
                          clear H
                          have p565 : 0 ≤ (x15_2 : Int) := of_decide_eq_true (by first | (with_reducible assumption) | assumption)
                          have q565 : x15_2 < (t553.length : Int) := of_decide_eq_true (by first | (with_reducible assumption) | assumption)
                          obtain ⟨ad565, A565_0, c565_0, e565, hx565_0, hl565_0, hi565_0⟩ := at_L2 (Kd.S_reads' HO_10.out).2.2 x15_2 p565 q565
                          cases e565
                          obtain ⟨ce565, hce565, hMe565, hcc565⟩ := Kd.S_get HO_10.out [] x15_2 p565 (by first | exact q565 | exact of_decide_eq_true (by first | (with_reducible assumption) | assumption) | (have e_ := (Kd.S_reads' HO_10.out).1; omega))
                          obtain ⟨ve565_0, rfl, ge565_0⟩ := hMe565
                          have hv565_0 := hcc565 0 _ rfl
                          rw [Nat.add_zero, show ((Kd.slice 2 (Kd.int .i64))).sz = 1 from rfl, Nat.mul_one] at hv565_0
                          replace hv565_0 := Option.some.inj (hv565_0.symm.trans hx565_0)
                          rw [hv565_0] at ge565_0
                          have HL565_0 := Aside0.mk (show Kd.R (Kd.int .i64) 2 _ _ _ _ (rd_L2 t553 x15_2) from ge565_0)
                          clear hv565_0 ge565_0
                          clear hcc565 hce565
                          have HR565_0 := Aside0.mk hi565_0
                          have HC565_0 := Aside0.mk hl565_0
                          clear hi565_0 hl565_0
                          replace p565 := eq_true p565
                          replace q565 := eq_true q565
                          have hcz46_0 : wr.cell? ⟨gb543, 0, none⟩ = some (.slice (some ad557) t540.length co16) := (blk_cell BK543.out 0).trans rfl
                          have hfz46_0 := blk_frozen BK543.out 0
                          have p566 : 0 ≤ (x15_2 : Int) := of_decide_eq_true (by first | (with_reducible assumption) | assumption)
                          have q566 : x15_2 < (t540.length : Int) := of_decide_eq_true (by first | (with_reducible assumption) | assumption)
                          obtain ⟨ad566, A566_0, c566_0, e566, hx566_0, hl566_0, hi566_0⟩ := at_L2 (Kd.S_reads' HO_544000.out).2.2 x15_2 p566 q566
                          obtain rfl : ad557 = ad566 := (by injection e566)
                          obtain ⟨ce566, hce566, hMe566, hcc566⟩ := Kd.S_get HO_544000.out [] x15_2 p566 (by first | exact q566 | exact of_decide_eq_true (by first | (with_reducible assumption) | assumption) | (have e_ := (Kd.S_reads' HO_544000.out).1; omega))
                          obtain ⟨ve566_0, rfl, ge566_0⟩ := hMe566
                          have hv566_0 := hcc566 0 _ rfl
                          rw [Nat.add_zero, show ((Kd.slice 2 (Kd.int .i64))).sz = 1 from rfl, Nat.mul_one] at hv566_0
                          replace hv566_0 := Option.some.inj (hv566_0.symm.trans hx566_0)
                          rw [hv566_0] at ge566_0
                          have HL566_0 := Aside0.mk (show Kd.R (Kd.int .i64) 2 _ _ _ _ (rd_L2 t540 x15_2) from ge566_0)
                          clear hv566_0 ge566_0
                          clear hcc566 hce566
                          have HR566_0 := Aside0.mk hi566_0
                          have HC566_0 := Aside0.mk hl566_0
                          clear hi566_0 hl566_0
                          replace p566 := eq_true p566
                          replace q566 := eq_true q566
                          go_wp2
                          repeat (go_quiet (fail); try go_wp2)
                          go_meet
                          case rel => exact ⟨_, (true), (by first | rfl | (simp; done) | (simp [*]; done)), H', ⟨by have := HJ12.out; have := HK2.out; first | omega | exact Nat.le_refl _⟩, ⟨by (with_reducible repeat (first | apply Kd.S_alloc | apply Kd.S_drewN | apply Kd.S_drew)); exact HO_8.out⟩, ⟨by (with_reducible repeat (first | apply Kd.S_alloc | apply Kd.S_drewN | apply Kd.S_drew)); exact HO_10.out⟩, ⟨by (with_reducible repeat (first | apply Kd.S_alloc | apply Kd.S_drewN | apply Kd.S_drew)); exact HO_13.out⟩, ⟨by (with_reducible repeat (first | apply Kd.S_alloc | apply Kd.S_drewN | apply Kd.S_drew)); exact HO_544000.out⟩, ⟨by (with_reducible repeat (first | refine blk_drewN ?_ _ | refine blk_drew ?_ | refine blk_alloc ?_ _)); exact BK543.out⟩, ⟨by repeat (first | (with_reducible exact HR557_0.out) | (with_reducible refine Kd.C_alloc ?_ _) | (with_reducible refine Kd.C_drewN ?_ _) | (with_reducible refine Kd.C_drew ?_) | exact HR557_0.out)⟩, ⟨by repeat (first | (with_reducible first | exact HB.out | apply below_alloc | apply pw_below_drewN | apply below_drew1 | refine below_set ?_ GE543.out) | exact HB.out)⟩⟩
                      · rw [if_neg c42] at H
                        exact absurd H (by simp)
                    · rw [if_neg c41] at H
                      exact absurd H (by simp)
                  case rest =>
                    clear HC39
                    try clear c1
                    try clear c2
                    try clear p2
                    try clear c3
                    try clear c4
                    try clear c5
                    try clear p5
                    try clear q5
                    try clear hx5
                    try clear qi5
                    try clear p6
                    try clear c9
                    try clear c10
                    try clear c10b0
                    try clear c10b1
                    try clear c27
                    try clear c28
                    try clear c29
                    try clear c30
                    try clear c31
                    try clear c31b0
                    try clear c31b1
                    try clear c31b2
                    try clear c37
                    try clear c38
                    try clear c38b0
                    try clear c41
                    try clear c41b0
                    try clear c42
                    try clear c42b0
                    try clear c43
                    try clear c43b0
                    try clear c43b1
                    try clear c43b2
                    try clear c44
                    try clear c44b0
                    try clear hcz17_0
                    try clear hcz19_0
                    try clear hcz22_0
                    try clear hcz25_0
                    try clear hcz33_0
                    try clear hcz36_0
                    try clear hcz45_0
                    try clear hcz46_0
                    try clear hfz17_0
                    try clear hfz19_0
                    try clear hfz22_0
                    try clear hfz25_0
                    try clear hfz33_0
                    try clear hfz36_0
                    try clear hfz45_0
                    try clear hfz46_0
                    try clear hx557_0
                    try clear hx565_0
                    try clear hx566_0
                    try clear hx567_0
                    try clear hx568_0
                    try clear p2
                    try clear p5
                    try clear p557
                    try clear p565
                    try clear p566
                    try clear p567
                    try clear p568
                    try clear p6
                    try clear q5
                    try clear q557
                    try clear q565
                    try clear q566
                    try clear q567
                    try clear q568
                    obtain ⟨kq, x119_38, rfl, HA, HJ38, HO_8, HO_10, HO_13, HO_544000, BK543, HR557_0, HB⟩ := hcut
                    cases kq with
                    | zero => exact absurd HA.out (by simp [laws_FnBlocks.j2])
                    | succ kj38 =>
                      have H := HA.out
                      clear HA
                      simp only [laws_FnBlocks.j2] at H
                      by_cases c47 : x119_38 = true
                      · subst c47
                        have H1 : (some false) = some r := by rw [if_pos rfl] at H; exact H
                        clear H
                        have H := H1
                        clear H1
                        obtain rfl := Option.some.inj H
                        go_wp2
                        repeat (go_quiet (fail); try go_wp2)
                        go_ret
                        exact ⟨by first | rfl | (simp [errW_none, errW_some] <;> rfl) | (simp [*, errW_none, errW_some] <;> rfl), by repeat (first | (with_reducible first | exact HB.out | apply below_alloc | apply pw_below_drewN | apply below_drew1 | refine below_set ?_ GE543.out) | exact HB.out)⟩
                      · replace c47 := Bool.eq_false_iff.mpr c47
                        subst c47
                        have H1 : (laws_FnBlocks.l1 kj38 t549 t553 t559 x15_2 0 t540) = some r := by rw [if_neg (show ¬ (false = true) by decide)] at H; exact H
                        clear H
                        have H := H1
                        clear H1
                        have H' := Aside0.mk H
                        clear H
                        go_wp2
                        repeat (go_quiet (fail); try go_wp2)
                        go_loopg [16] kj38 (fun kq v16 w' => ∃ (x16_4 : Int), v16 = .int .i64 x16_4 ∧ Aside0 (laws_FnBlocks.l1 kq t549 t553 t559 x15_2 x16_4 t540 = some r) ∧ Aside0 (kq ≤ kj38) ∧ Aside0 (Kd.S (Kd.slice 2 (Kd.int .i64)) 31 w' w.heap.size (fun k_ => some k_ ≠ ((.slice Ao40 t553.length co40) : Value).ownBlock ∧ some k_ ≠ (v560 : Value).ownBlock ∧ some k_ ≠ ((.slice (some ad557) t540.length co16) : Value).ownBlock) (.slice Ao23 t549.length co23) t549) ∧ Aside0 (Kd.S (Kd.slice 2 (Kd.int .i64)) 31 w' w.heap.size (fun k_ => some k_ ≠ ((.slice Ao23 t549.length co23) : Value).ownBlock ∧ some k_ ≠ (v560 : Value).ownBlock ∧ some k_ ≠ ((.slice (some ad557) t540.length co16) : Value).ownBlock) (.slice Ao40 t553.length co40) t553) ∧ Aside0 (Kd.S (Kd.slice 2 (Kd.int .i64)) 31 w' w.heap.size (fun k_ => some k_ ≠ ((.slice Ao23 t549.length co23) : Value).ownBlock ∧ some k_ ≠ ((.slice Ao40 t553.length co40) : Value).ownBlock ∧ some k_ ≠ ((.slice (some ad557) t540.length co16) : Value).ownBlock) v560 t559) ∧ Aside0 (Kd.S (Kd.slice 2 (Kd.int .i64)) 31 w' w.heap.size (fun k_ => some k_ ≠ ((.slice Ao23 t549.length co23) : Value).ownBlock ∧ some k_ ≠ ((.slice Ao40 t553.length co40) : Value).ownBlock ∧ some k_ ≠ (v560 : Value).ownBlock) (.slice (some ad557) t540.length co16) t540) ∧ Aside0 (w'.heap[gb543]? = some (.cells #[(.slice (some ad557) t540.length co16)] 30 (0, 0))) ∧ Aside0 (Kd.C (Kd.int .i64) w' A557_0 (rd_L2 t540 0).length (rd_L2 t540 0)) ∧ Aside0 (Below w.heap.size w w'))
                        case atStart => exact ⟨(0), (by first | rfl | (simp; done) | (simp [*]; done)), H', ⟨Nat.le_refl _⟩, ⟨by (with_reducible repeat (first | apply Kd.S_alloc | apply Kd.S_drewN | apply Kd.S_drew)); exact HO_8.out⟩, ⟨by (with_reducible repeat (first | apply Kd.S_alloc | apply Kd.S_drewN | apply Kd.S_drew)); exact HO_10.out⟩, ⟨by (with_reducible repeat (first | apply Kd.S_alloc | apply Kd.S_drewN | apply Kd.S_drew)); exact HO_13.out⟩, ⟨by (with_reducible repeat (first | apply Kd.S_alloc | apply Kd.S_drewN | apply Kd.S_drew)); exact HO_544000.out⟩, ⟨by (with_reducible repeat (first | refine blk_drewN ?_ _ | refine blk_drew ?_ | refine blk_alloc ?_ _)); exact BK543.out⟩, ⟨by repeat (first | (with_reducible exact HR557_0.out) | (with_reducible refine Kd.C_alloc ?_ _) | (with_reducible refine Kd.C_drewN ?_ _) | (with_reducible refine Kd.C_drew ?_) | exact HR557_0.out)⟩, ⟨by repeat (first | (with_reducible first | exact HB.out | apply below_alloc | apply pw_below_drewN | apply below_drew1 | refine below_set ?_ GE543.out) | exact HB.out)⟩⟩
                        case round =>
                          clear H'
                          try clear c1
                          try clear c2
                          try clear p2
                          try clear c3
                          try clear c4
                          try clear c5
                          try clear p5
                          try clear q5
                          try clear hx5
                          try clear qi5
                          try clear p6
                          try clear c9
                          try clear c10
                          try clear c10b0
                          try clear c10b1
                          try clear c27
                          try clear c28
                          try clear c29
                          try clear c30
                          try clear c31
                          try clear c31b0
                          try clear c31b1
                          try clear c31b2
                          try clear c37
                          try clear c38
                          try clear c38b0
                          try clear c41
                          try clear c41b0
                          try clear c42
                          try clear c42b0
                          try clear c43
                          try clear c43b0
                          try clear c43b1
                          try clear c43b2
                          try clear c44
                          try clear c44b0
                          try clear c47
                          try clear hcz17_0
                          try clear hcz19_0
                          try clear hcz22_0
                          try clear hcz25_0
                          try clear hcz33_0
                          try clear hcz36_0
                          try clear hcz45_0
                          try clear hcz46_0
                          try clear hfz17_0
                          try clear hfz19_0
                          try clear hfz22_0
                          try clear hfz25_0
                          try clear hfz33_0
                          try clear hfz36_0
                          try clear hfz45_0
                          try clear hfz46_0
                          try clear hx557_0
                          try clear hx565_0
                          try clear hx566_0
                          try clear hx567_0
                          try clear hx568_0
                          try clear p2
                          try clear p5
                          try clear p557
                          try clear p565
                          try clear p566
                          try clear p567
                          try clear p568
                          try clear p6
                          try clear q5
                          try clear q557
                          try clear q565
                          try clear q566
                          try clear q567
                          try clear q568
                          obtain ⟨x16_4, rfl, HA, HK4, HO_8, HO_10, HO_13, HO_544000, BK543, HR557_0, HB⟩ := hrel
                          cases gk with
                          | zero => exact absurd HA.out (by simp [laws_FnBlocks.l1])
                          | succ k4 =>
                            have H := HA.out
                            clear HA
                            simp only [laws_FnBlocks.l1] at H
                            by_cases c48 : 0 ≤ x15_2
                            · rw [if_pos c48] at H
                              have c48b0 : decide (0 ≤ x15_2) = true := decide_eq_true c48
                              clear c48
                              by_cases c49 : x15_2 < (t553.length : Int)
                              · rw [if_pos c49] at H
                                have c49b0 : decide (x15_2 < (t553.length : Int)) = true := decide_eq_true c49
                                clear c49
                                by_cases c50 : x16_4 < ((rd_L2 t553 x15_2).length : Int)
                                · rw [if_pos c50] at H
                                  have c50b0 : decide (x16_4 < ((rd_L2 t553 x15_2).length : Int)) = true := decide_eq_true c50
                                  clear c50
                                  by_cases c51 : 0 ≤ x16_4
                                  · rw [if_pos c51] at H
                                    have c51b0 : decide (0 ≤ x16_4) = true := decide_eq_true c51
                                    clear c51
                                    by_cases c52 : x15_2 < (t540.length : Int)
                                    · rw [if_pos c52] at H
                                      have c52b0 : decide (x15_2 < (t540.length : Int)) = true := decide_eq_true c52
                                      clear c52
                                      by_cases c53 : x16_4 < ((rd_L2 t540 x15_2).length : Int)
                                      · rw [if_pos c53] at H
                                        have c53b0 : decide (x16_4 < ((rd_L2 t540 x15_2).length : Int)) = true := decide_eq_true c53
                                        clear c53
                                        by_cases c54 : x15_2 < (t549.length : Int)
                                        · rw [if_pos c54] at H
                                          have c54b0 : decide (x15_2 < (t549.length : Int)) = true := decide_eq_true c54
                                          clear c54
                                          by_cases c55 : x16_4 < ((rd_L2 t549 x15_2).length : Int)
                                          · rw [if_pos c55] at H
                                            have c55b0 : decide (x16_4 < ((rd_L2 t549 x15_2).length : Int)) = true := decide_eq_true c55
                                            clear c55
                                            by_cases c56 : (rd (rd_L2 t553 x15_2) x16_4) = (wrap64 ((rd (rd_L2 t540 x15_2) x16_4) - (wrap64 (255 * (rd (rd_L2 t549 x15_2) x16_4)))))
                                            · rw [if_pos c56] at H
                                              have c56b0 : ((rd (rd_L2 t553 x15_2) x16_4) == (wrap64 ((rd (rd_L2 t540 x15_2) x16_4) - (wrap64 (255 * (rd (rd_L2 t549 x15_2) x16_4)))))) = true := beq_iff_eq.mpr c56
                                              have c56b1 : ((rd (rd_L2 t553 x15_2) x16_4) != (wrap64 ((rd (rd_L2 t540 x15_2) x16_4) - (wrap64 (255 * (rd (rd_L2 t549 x15_2) x16_4)))))) = false := bne_eq_false_iff_eq.mpr c56
                                              clear c56
                                              have H' := Aside0.mk H
                                              clear H
                                              have p569 : 0 ≤ (x15_2 : Int) := of_decide_eq_true (by first | (with_reducible assumption) | assumption)
                                              have q569 : x15_2 < (t553.length : Int) := of_decide_eq_true (by first | (with_reducible assumption) | assumption)
                                              obtain ⟨ad569, A569_0, c569_0, e569, hx569_0, hl569_0, hi569_0⟩ := at_L2 (Kd.S_reads' HO_10.out).2.2 x15_2 p569 q569
                                              cases e569
                                              obtain ⟨ce569, hce569, hMe569, hcc569⟩ := Kd.S_get HO_10.out [] x15_2 p569 (by first | exact q569 | exact of_decide_eq_true (by first | (with_reducible assumption) | assumption) | (have e_ := (Kd.S_reads' HO_10.out).1; omega))
                                              obtain ⟨ve569_0, rfl, ge569_0⟩ := hMe569
                                              have hv569_0 := hcc569 0 _ rfl
                                              rw [Nat.add_zero, show ((Kd.slice 2 (Kd.int .i64))).sz = 1 from rfl, Nat.mul_one] at hv569_0
                                              replace hv569_0 := Option.some.inj (hv569_0.symm.trans hx569_0)
                                              rw [hv569_0] at ge569_0
                                              have HL569_0 := Aside0.mk (show Kd.R (Kd.int .i64) 2 _ _ _ _ (rd_L2 t553 x15_2) from ge569_0)
                                              clear hv569_0 ge569_0
                                              clear hcc569 hce569
                                              have HR569_0 := Aside0.mk hi569_0
                                              have HC569_0 := Aside0.mk hl569_0
                                              clear hi569_0 hl569_0
                                              replace p569 := eq_true p569
                                              replace q569 := eq_true q569
                                              have p570 : 0 ≤ (x15_2 : Int) := of_decide_eq_true (by first | (with_reducible assumption) | assumption)
                                              have q570 : x15_2 < (t553.length : Int) := of_decide_eq_true (by first | (with_reducible assumption) | assumption)
                                              obtain ⟨ad570, A570_0, c570_0, e570, hx570_0, hl570_0, hi570_0⟩ := at_L2 (Kd.S_reads' HO_10.out).2.2 x15_2 p570 q570
                                              obtain rfl : ad569 = ad570 := (by injection e570)
                                              obtain ⟨ce570, hce570, hMe570, hcc570⟩ := Kd.S_get HO_10.out [] x15_2 p570 (by first | exact q570 | exact of_decide_eq_true (by first | (with_reducible assumption) | assumption) | (have e_ := (Kd.S_reads' HO_10.out).1; omega))
                                              obtain ⟨ve570_0, rfl, ge570_0⟩ := hMe570
                                              have hv570_0 := hcc570 0 _ rfl
                                              rw [Nat.add_zero, show ((Kd.slice 2 (Kd.int .i64))).sz = 1 from rfl, Nat.mul_one] at hv570_0
                                              replace hv570_0 := Option.some.inj (hv570_0.symm.trans hx570_0)
                                              rw [hv570_0] at ge570_0
                                              have HL570_0 := Aside0.mk (show Kd.R (Kd.int .i64) 2 _ _ _ _ (rd_L2 t553 x15_2) from ge570_0)
                                              clear hv570_0 ge570_0
                                              clear hcc570 hce570
                                              have HR570_0 := Aside0.mk hi570_0
                                              have HC570_0 := Aside0.mk hl570_0
                                              clear hi570_0 hl570_0
                                              replace p570 := eq_true p570
                                              replace q570 := eq_true q570
                                              have ea_ := Option.some.inj (hx569_0.symm.trans hx570_0)
                                              injection ea_ with ea_ en_ ec_
                                              subst ea_
                                              subst ec_
                                              clear en_
                                              have p571 : 0 ≤ (x16_4 : Int) := of_decide_eq_true (by first | (with_reducible assumption) | assumption)
                                              have q571 : x16_4 < ((rd_L2 t553 x15_2).length : Int) := of_decide_eq_true (by first | (with_reducible assumption) | assumption)
                                              obtain ⟨ad571, e571, hx571_0⟩ := Kd.at_int (by repeat (first | (with_reducible exact HR570_0.out) | (with_reducible refine Kd.C_alloc ?_ _) | (with_reducible refine Kd.C_drewN ?_ _) | (with_reducible refine Kd.C_drew ?_) | exact HR570_0.out)) x16_4 p571 q571
                                              cases e571
                                              replace p571 := eq_true p571
                                              replace q571 := eq_true q571
                                              have hcz57_0 : wr.cell? ⟨gb543, 0, none⟩ = some (.slice (some ad557) t540.length co16) := (blk_cell BK543.out 0).trans rfl
                                              have hfz57_0 := blk_frozen BK543.out 0
                                              have p572 : 0 ≤ (x15_2 : Int) := of_decide_eq_true (by first | (with_reducible assumption) | assumption)
                                              have q572 : x15_2 < (t540.length : Int) := of_decide_eq_true (by first | (with_reducible assumption) | assumption)
                                              obtain ⟨ad572, A572_0, c572_0, e572, hx572_0, hl572_0, hi572_0⟩ := at_L2 (Kd.S_reads' HO_544000.out).2.2 x15_2 p572 q572
                                              obtain rfl : ad557 = ad572 := (by injection e572)
                                              obtain ⟨ce572, hce572, hMe572, hcc572⟩ := Kd.S_get HO_544000.out [] x15_2 p572 (by first | exact q572 | exact of_decide_eq_true (by first | (with_reducible assumption) | assumption) | (have e_ := (Kd.S_reads' HO_544000.out).1; omega))
                                              obtain ⟨ve572_0, rfl, ge572_0⟩ := hMe572
                                              have hv572_0 := hcc572 0 _ rfl
                                              rw [Nat.add_zero, show ((Kd.slice 2 (Kd.int .i64))).sz = 1 from rfl, Nat.mul_one] at hv572_0
                                              replace hv572_0 := Option.some.inj (hv572_0.symm.trans hx572_0)
                                              rw [hv572_0] at ge572_0
                                              have HL572_0 := Aside0.mk (show Kd.R (Kd.int .i64) 2 _ _ _ _ (rd_L2 t540 x15_2) from ge572_0)
                                              clear hv572_0 ge572_0
                                              clear hcc572 hce572
                                              have HR572_0 := Aside0.mk hi572_0
                                              have HC572_0 := Aside0.mk hl572_0
                                              clear hi572_0 hl572_0
                                              replace p572 := eq_true p572
                                              replace q572 := eq_true q572
                                              have p573 : 0 ≤ (x16_4 : Int) := of_decide_eq_true (by first | (with_reducible assumption) | assumption)
                                              have q573 : x16_4 < ((rd_L2 t540 x15_2).length : Int) := of_decide_eq_true (by first | (with_reducible assumption) | assumption)
                                              obtain ⟨ad573, e573, hx573_0⟩ := Kd.at_int (by repeat (first | (with_reducible exact HR572_0.out) | (with_reducible refine Kd.C_alloc ?_ _) | (with_reducible refine Kd.C_drewN ?_ _) | (with_reducible refine Kd.C_drew ?_) | exact HR572_0.out)) x16_4 p573 q573
                                              cases e573
                                              replace p573 := eq_true p573
                                              replace q573 := eq_true q573
                                              have p574 : 0 ≤ (x15_2 : Int) := of_decide_eq_true (by first | (with_reducible assumption) | assumption)
                                              have q574 : x15_2 < (t549.length : Int) := of_decide_eq_true (by first | (with_reducible assumption) | assumption)
                                              obtain ⟨ad574, A574_0, c574_0, e574, hx574_0, hl574_0, hi574_0⟩ := at_L2 (Kd.S_reads' HO_8.out).2.2 x15_2 p574 q574
                                              cases e574
                                              obtain ⟨ce574, hce574, hMe574, hcc574⟩ := Kd.S_get HO_8.out [] x15_2 p574 (by first | exact q574 | exact of_decide_eq_true (by first | (with_reducible assumption) | assumption) | (have e_ := (Kd.S_reads' HO_8.out).1; omega))
                                              obtain ⟨ve574_0, rfl, ge574_0⟩ := hMe574
                                              have hv574_0 := hcc574 0 _ rfl
                                              rw [Nat.add_zero, show ((Kd.slice 2 (Kd.int .i64))).sz = 1 from rfl, Nat.mul_one] at hv574_0
                                              replace hv574_0 := Option.some.inj (hv574_0.symm.trans hx574_0)
                                              rw [hv574_0] at ge574_0
                                              have HL574_0 := Aside0.mk (show Kd.R (Kd.int .i64) 2 _ _ _ _ (rd_L2 t549 x15_2) from ge574_0)
                                              clear hv574_0 ge574_0
                                              clear hcc574 hce574
                                              have HR574_0 := Aside0.mk hi574_0
                                              have HC574_0 := Aside0.mk hl574_0
                                              clear hi574_0 hl574_0
                                              replace p574 := eq_true p574
                                              replace q574 := eq_true q574
                                              have p575 : 0 ≤ (x16_4 : Int) := of_decide_eq_true (by first | (with_reducible assumption) | assumption)
                                              have q575 : x16_4 < ((rd_L2 t549 x15_2).length : Int) := of_decide_eq_true (by first | (with_reducible assumption) | assumption)
                                              obtain ⟨ad575, e575, hx575_0⟩ := Kd.at_int (by repeat (first | (with_reducible exact HR574_0.out) | (with_reducible refine Kd.C_alloc ?_ _) | (with_reducible refine Kd.C_drewN ?_ _) | (with_reducible refine Kd.C_drew ?_) | exact HR574_0.out)) x16_4 p575 q575
                                              cases e575
                                              replace p575 := eq_true p575
                                              replace q575 := eq_true q575
                                              go_wp2
                                              repeat (go_quiet (fail); try go_wp2)
                                              go_roundg k4
                                              case measure => have := HJ12.out; have := HK2.out; have := HJ38.out; have := HK4.out; omega
                                              case rel => exact ⟨(wrap64 (x16_4 + 1)), (by first | rfl | (simp; done) | (simp [*]; done)), H', ⟨by have := HJ12.out; have := HK2.out; have := HJ38.out; have := HK4.out; omega⟩, ⟨by (with_reducible repeat (first | apply Kd.S_alloc | apply Kd.S_drewN | apply Kd.S_drew)); exact HO_8.out⟩, ⟨by (with_reducible repeat (first | apply Kd.S_alloc | apply Kd.S_drewN | apply Kd.S_drew)); exact HO_10.out⟩, ⟨by (with_reducible repeat (first | apply Kd.S_alloc | apply Kd.S_drewN | apply Kd.S_drew)); exact HO_13.out⟩, ⟨by (with_reducible repeat (first | apply Kd.S_alloc | apply Kd.S_drewN | apply Kd.S_drew)); exact HO_544000.out⟩, ⟨by (with_reducible repeat (first | refine blk_drewN ?_ _ | refine blk_drew ?_ | refine blk_alloc ?_ _)); exact BK543.out⟩, ⟨by repeat (first | (with_reducible exact HR557_0.out) | (with_reducible refine Kd.C_alloc ?_ _) | (with_reducible refine Kd.C_drewN ?_ _) | (with_reducible refine Kd.C_drew ?_) | exact HR557_0.out)⟩, ⟨by repeat (first | (with_reducible first | exact HB.out | apply below_alloc | apply pw_below_drewN | apply below_drew1 | refine below_set ?_ GE543.out) | exact HB.out)⟩⟩
                                            · rw [if_neg c56] at H
                                              have c56b0 : ((rd (rd_L2 t553 x15_2) x16_4) == (wrap64 ((rd (rd_L2 t540 x15_2) x16_4) - (wrap64 (255 * (rd (rd_L2 t549 x15_2) x16_4)))))) = false := beq_eq_false_iff_ne.mpr c56
                                              have c56b1 : ((rd (rd_L2 t553 x15_2) x16_4) != (wrap64 ((rd (rd_L2 t540 x15_2) x16_4) - (wrap64 (255 * (rd (rd_L2 t549 x15_2) x16_4)))))) = true := bne_iff_ne.mpr c56
                                              obtain rfl := Option.some.inj H
                                              have p569 : 0 ≤ (x15_2 : Int) := of_decide_eq_true (by first | (with_reducible assumption) | assumption)
                                              have q569 : x15_2 < (t553.length : Int) := of_decide_eq_true (by first | (with_reducible assumption) | assumption)
                                              obtain ⟨ad569, A569_0, c569_0, e569, hx569_0, hl569_0, hi569_0⟩ := at_L2 (Kd.S_reads' HO_10.out).2.2 x15_2 p569 q569
                                              cases e569
                                              obtain ⟨ce569, hce569, hMe569, hcc569⟩ := Kd.S_get HO_10.out [] x15_2 p569 (by first | exact q569 | exact of_decide_eq_true (by first | (with_reducible assumption) | assumption) | (have e_ := (Kd.S_reads' HO_10.out).1; omega))
                                              obtain ⟨ve569_0, rfl, ge569_0⟩ := hMe569
                                              have hv569_0 := hcc569 0 _ rfl
                                              rw [Nat.add_zero, show ((Kd.slice 2 (Kd.int .i64))).sz = 1 from rfl, Nat.mul_one] at hv569_0
                                              replace hv569_0 := Option.some.inj (hv569_0.symm.trans hx569_0)
                                              rw [hv569_0] at ge569_0
                                              have HL569_0 := Aside0.mk (show Kd.R (Kd.int .i64) 2 _ _ _ _ (rd_L2 t553 x15_2) from ge569_0)
                                              clear hv569_0 ge569_0
                                              clear hcc569 hce569
                                              have HR569_0 := Aside0.mk hi569_0
                                              have HC569_0 := Aside0.mk hl569_0
                                              clear hi569_0 hl569_0
                                              replace p569 := eq_true p569
                                              replace q569 := eq_true q569
                                              have p570 : 0 ≤ (x15_2 : Int) := of_decide_eq_true (by first | (with_reducible assumption) | assumption)
                                              have q570 : x15_2 < (t553.length : Int) := of_decide_eq_true (by first | (with_reducible assumption) | assumption)
                                              obtain ⟨ad570, A570_0, c570_0, e570, hx570_0, hl570_0, hi570_0⟩ := at_L2 (Kd.S_reads' HO_10.out).2.2 x15_2 p570 q570
                                              obtain rfl : ad569 = ad570 := (by injection e570)
                                              obtain ⟨ce570, hce570, hMe570, hcc570⟩ := Kd.S_get HO_10.out [] x15_2 p570 (by first | exact q570 | exact of_decide_eq_true (by first | (with_reducible assumption) | assumption) | (have e_ := (Kd.S_reads' HO_10.out).1; omega))
                                              obtain ⟨ve570_0, rfl, ge570_0⟩ := hMe570
                                              have hv570_0 := hcc570 0 _ rfl
                                              rw [Nat.add_zero, show ((Kd.slice 2 (Kd.int .i64))).sz = 1 from rfl, Nat.mul_one] at hv570_0
                                              replace hv570_0 := Option.some.inj (hv570_0.symm.trans hx570_0)
                                              rw [hv570_0] at ge570_0
                                              have HL570_0 := Aside0.mk (show Kd.R (Kd.int .i64) 2 _ _ _ _ (rd_L2 t553 x15_2) from ge570_0)
                                              clear hv570_0 ge570_0
                                              clear hcc570 hce570
                                              have HR570_0 := Aside0.mk hi570_0
                                              have HC570_0 := Aside0.mk hl570_0
                                              clear hi570_0 hl570_0
                                              replace p570 := eq_true p570
                                              replace q570 := eq_true q570
                                              have ea_ := Option.some.inj (hx569_0.symm.trans hx570_0)
                                              injection ea_ with ea_ en_ ec_
                                              subst ea_
                                              subst ec_
                                              clear en_
                                              have p571 : 0 ≤ (x16_4 : Int) := of_decide_eq_true (by first | (with_reducible assumption) | assumption)
                                              have q571 : x16_4 < ((rd_L2 t553 x15_2).length : Int) := of_decide_eq_true (by first | (with_reducible assumption) | assumption)
                                              obtain ⟨ad571, e571, hx571_0⟩ := Kd.at_int (by repeat (first | (with_reducible exact HR570_0.out) | (with_reducible refine Kd.C_alloc ?_ _) | (with_reducible refine Kd.C_drewN ?_ _) | (with_reducible refine Kd.C_drew ?_) | exact HR570_0.out)) x16_4 p571 q571
                                              cases e571
                                              replace p571 := eq_true p571
                                              replace q571 := eq_true q571
                                              have hcz58_0 : wr.cell? ⟨gb543, 0, none⟩ = some (.slice (some ad557) t540.length co16) := (blk_cell BK543.out 0).trans rfl
                                              have hfz58_0 := blk_frozen BK543.out 0
                                              have p572 : 0 ≤ (x15_2 : Int) := of_decide_eq_true (by first | (with_reducible assumption) | assumption)
                                              have q572 : x15_2 < (t540.length : Int) := of_decide_eq_true (by first | (with_reducible assumption) | assumption)
                                              obtain ⟨ad572, A572_0, c572_0, e572, hx572_0, hl572_0, hi572_0⟩ := at_L2 (Kd.S_reads' HO_544000.out).2.2 x15_2 p572 q572
                                              obtain rfl : ad557 = ad572 := (by injection e572)
                                              obtain ⟨ce572, hce572, hMe572, hcc572⟩ := Kd.S_get HO_544000.out [] x15_2 p572 (by first | exact q572 | exact of_decide_eq_true (by first | (with_reducible assumption) | assumption) | (have e_ := (Kd.S_reads' HO_544000.out).1; omega))
                                              obtain ⟨ve572_0, rfl, ge572_0⟩ := hMe572
                                              have hv572_0 := hcc572 0 _ rfl
                                              rw [Nat.add_zero, show ((Kd.slice 2 (Kd.int .i64))).sz = 1 from rfl, Nat.mul_one] at hv572_0
                                              replace hv572_0 := Option.some.inj (hv572_0.symm.trans hx572_0)
                                              rw [hv572_0] at ge572_0
                                              have HL572_0 := Aside0.mk (show Kd.R (Kd.int .i64) 2 _ _ _ _ (rd_L2 t540 x15_2) from ge572_0)
                                              clear hv572_0 ge572_0
                                              clear hcc572 hce572
                                              have HR572_0 := Aside0.mk hi572_0
                                              have HC572_0 := Aside0.mk hl572_0
                                              clear hi572_0 hl572_0
                                              replace p572 := eq_true p572
                                              replace q572 := eq_true q572
                                              have p573 : 0 ≤ (x16_4 : Int) := of_decide_eq_true (by first | (with_reducible assumption) | assumption)
                                              have q573 : x16_4 < ((rd_L2 t540 x15_2).length : Int) := of_decide_eq_true (by first | (with_reducible assumption) | assumption)
                                              obtain ⟨ad573, e573, hx573_0⟩ := Kd.at_int (by repeat (first | (with_reducible exact HR572_0.out) | (with_reducible refine Kd.C_alloc ?_ _) | (with_reducible refine Kd.C_drewN ?_ _) | (with_reducible refine Kd.C_drew ?_) | exact HR572_0.out)) x16_4 p573 q573
                                              cases e573
                                              replace p573 := eq_true p573
                                              replace q573 := eq_true q573
                                              have p574 : 0 ≤ (x15_2 : Int) := of_decide_eq_true (by first | (with_reducible assumption) | assumption)
                                              have q574 : x15_2 < (t549.length : Int) := of_decide_eq_true (by first | (with_reducible assumption) | assumption)
                                              obtain ⟨ad574, A574_0, c574_0, e574, hx574_0, hl574_0, hi574_0⟩ := at_L2 (Kd.S_reads' HO_8.out).2.2 x15_2 p574 q574
                                              cases e574
                                              obtain ⟨ce574, hce574, hMe574, hcc574⟩ := Kd.S_get HO_8.out [] x15_2 p574 (by first | exact q574 | exact of_decide_eq_true (by first | (with_reducible assumption) | assumption) | (have e_ := (Kd.S_reads' HO_8.out).1; omega))
                                              obtain ⟨ve574_0, rfl, ge574_0⟩ := hMe574
                                              have hv574_0 := hcc574 0 _ rfl
                                              rw [Nat.add_zero, show ((Kd.slice 2 (Kd.int .i64))).sz = 1 from rfl, Nat.mul_one] at hv574_0
                                              replace hv574_0 := Option.some.inj (hv574_0.symm.trans hx574_0)
                                              rw [hv574_0] at ge574_0
                                              have HL574_0 := Aside0.mk (show Kd.R (Kd.int .i64) 2 _ _ _ _ (rd_L2 t549 x15_2) from ge574_0)
                                              clear hv574_0 ge574_0
                                              clear hcc574 hce574
                                              have HR574_0 := Aside0.mk hi574_0
                                              have HC574_0 := Aside0.mk hl574_0
                                              clear hi574_0 hl574_0
                                              replace p574 := eq_true p574
                                              replace q574 := eq_true q574
                                              have p575 : 0 ≤ (x16_4 : Int) := of_decide_eq_true (by first | (with_reducible assumption) | assumption)
                                              have q575 : x16_4 < ((rd_L2 t549 x15_2).length : Int) := of_decide_eq_true (by first | (with_reducible assumption) | assumption)
                                              obtain ⟨ad575, e575, hx575_0⟩ := Kd.at_int (by repeat (first | (with_reducible exact HR574_0.out) | (with_reducible refine Kd.C_alloc ?_ _) | (with_reducible refine Kd.C_drewN ?_ _) | (with_reducible refine Kd.C_drew ?_) | exact HR574_0.out)) x16_4 p575 q575
                                              cases e575
                                              replace p575 := eq_true p575
                                              replace q575 := eq_true q575
                                              go_wp2
                                              repeat (go_quiet (fail); try go_wp2)
                                              go_ret
                                              exact ⟨by first | rfl | (simp [errW_none, errW_some] <;> rfl) | (simp [*, errW_none, errW_some] <;> rfl), by repeat (first | (with_reducible first | exact HB.out | apply below_alloc | apply pw_below_drewN | apply below_drew1 | refine below_set ?_ GE543.out) | exact HB.out)⟩
                                          · rw [if_neg c55] at H
                                            exact absurd H (by simp)
                                        · rw [if_neg c54] at H
                                          exact absurd H (by simp)
                                      · rw [if_neg c53] at H
                                        exact absurd H (by simp)
                                    · rw [if_neg c52] at H
                                      exact absurd H (by simp)
                                  · rw [if_neg c51] at H
                                    exact absurd H (by simp)
                                · rw [if_neg c50] at H
                                  have c50b0 : decide (x16_4 < ((rd_L2 t553 x15_2).length : Int)) = false := decide_eq_false c50
                                  clear c50
                                  have H' := Aside0.mk H
                                  clear H
                                  have p569 : 0 ≤ (x15_2 : Int) := of_decide_eq_true (by first | (with_reducible assumption) | assumption)
                                  have q569 : x15_2 < (t553.length : Int) := of_decide_eq_true (by first | (with_reducible assumption) | assumption)
                                  obtain ⟨ad569, A569_0, c569_0, e569, hx569_0, hl569_0, hi569_0⟩ := at_L2 (Kd.S_reads' HO_10.out).2.2 x15_2 p569 q569
                                  cases e569
                                  obtain ⟨ce569, hce569, hMe569, hcc569⟩ := Kd.S_get HO_10.out [] x15_2 p569 (by first | exact q569 | exact of_decide_eq_true (by first | (with_reducible assumption) | assumption) | (have e_ := (Kd.S_reads' HO_10.out).1; omega))
                                  obtain ⟨ve569_0, rfl, ge569_0⟩ := hMe569
                                  have hv569_0 := hcc569 0 _ rfl
                                  rw [Nat.add_zero, show ((Kd.slice 2 (Kd.int .i64))).sz = 1 from rfl, Nat.mul_one] at hv569_0
                                  replace hv569_0 := Option.some.inj (hv569_0.symm.trans hx569_0)
                                  rw [hv569_0] at ge569_0
                                  have HL569_0 := Aside0.mk (show Kd.R (Kd.int .i64) 2 _ _ _ _ (rd_L2 t553 x15_2) from ge569_0)
                                  clear hv569_0 ge569_0
                                  clear hcc569 hce569
                                  have HR569_0 := Aside0.mk hi569_0
                                  have HC569_0 := Aside0.mk hl569_0
                                  clear hi569_0 hl569_0
                                  replace p569 := eq_true p569
                                  replace q569 := eq_true q569
                                  go_wp2
                                  repeat (go_quiet (fail); try go_wp2)
                                  go_roundg k4
                                  case measure => have := HJ12.out; have := HK2.out; have := HJ38.out; have := HK4.out; omega
                                  case rel => exact ⟨(wrap64 (x15_2 + 1)), (by first | rfl | (simp; done) | (simp [*]; done)), H', ⟨by have := HJ12.out; have := HK2.out; have := HJ38.out; have := HK4.out; omega⟩, ⟨by (with_reducible repeat (first | apply Kd.S_alloc | apply Kd.S_drewN | apply Kd.S_drew)); exact HO_8.out⟩, ⟨by (with_reducible repeat (first | apply Kd.S_alloc | apply Kd.S_drewN | apply Kd.S_drew)); exact HO_10.out⟩, ⟨by (with_reducible repeat (first | apply Kd.S_alloc | apply Kd.S_drewN | apply Kd.S_drew)); exact HO_13.out⟩, ⟨by (with_reducible repeat (first | apply Kd.S_alloc | apply Kd.S_drewN | apply Kd.S_drew)); exact HO_544000.out⟩, ⟨by (with_reducible repeat (first | refine blk_drewN ?_ _ | refine blk_drew ?_ | refine blk_alloc ?_ _)); exact BK543.out⟩, ⟨by repeat (first | (with_reducible exact HR557_0.out) | (with_reducible refine Kd.C_alloc ?_ _) | (with_reducible refine Kd.C_drewN ?_ _) | (with_reducible refine Kd.C_drew ?_) | exact HR557_0.out)⟩, ⟨by repeat (first | (with_reducible first | exact HB.out | apply below_alloc | apply pw_below_drewN | apply below_drew1 | refine below_set ?_ GE543.out) | exact HB.out)⟩⟩
                              · rw [if_neg c49] at H
                                exact absurd H (by simp)
                            · rw [if_neg c48] at H
                              exact absurd H (by simp)
                · rw [if_neg c38] at H
                  have c38b0 : decide (x15_2 < (t553.length : Int)) = false := decide_eq_false c38
                  clear c38
                  replace H := Option.bind_eq_some_iff.mp H
                  obtain ⟨t563, A590, H⟩ := H
                  replace H : ((laws_b10All.f k2 t553).bind fun t564 => (some (t563 == t564))) = some r := H
                  have A59 := Aside0.mk A590
                  clear A590
                  replace H := Option.bind_eq_some_iff.mp H
                  obtain ⟨t564, A600, H⟩ := H
                  replace H : (some (t563 == t564)) = some r := H
                  have A60 := Aside0.mk A600
                  clear A600
                  obtain rfl := Option.some.inj H
                  obtain ⟨Ao61, co61, eo61⟩ := Kd.S_slice HO_10.out
                  subst eo61
                  obtain ⟨Ao62, co62, eo62⟩ := Kd.S_slice HO_13.out
                  subst eo62
                  go_wp2_with (first | (go_at_call 20; (with_reducible refine (laws_b10All.calls k2 _ _ t559 t563 _ ?side1 ?side2 A59.out).mono ?_); (case side1 => repeat (first | exact (Kd.S_reads' HO_13.out).2.2 | (with_reducible refine Kd.C_alloc ?_ _) | (with_reducible refine Kd.C_drewN ?_ _) | (with_reducible refine Kd.C_drew ?_))); (case side2 => exact (Kd.S_reads' HO_13.out).2.1); rintro e w' ⟨rfl, ⟨nd, rfl⟩⟩; (try first | exact ⟨rfl, _, World.drewN_drewN _ _ _⟩ | exact ⟨rfl, _, Eq.trans (World.drewN_drewN _ _ _) (congrArg (World.drewN _) (Nat.add_assoc _ _ _))⟩)) | (go_at_call 20; (with_reducible refine (laws_b10All.calls k2 _ _ t553 t564 _ ?side1 ?side2 A60.out).mono ?_); (case side1 => repeat (first | exact (Kd.S_reads' HO_10.out).2.2 | (with_reducible refine Kd.C_alloc ?_ _) | (with_reducible refine Kd.C_drewN ?_ _) | (with_reducible refine Kd.C_drew ?_))); (case side2 => exact (Kd.S_reads' HO_10.out).2.1); rintro e w' ⟨rfl, ⟨nd, rfl⟩⟩; (try first | exact ⟨rfl, _, World.drewN_drewN _ _ _⟩ | exact ⟨rfl, _, Eq.trans (World.drewN_drewN _ _ _) (congrArg (World.drewN _) (Nat.add_assoc _ _ _))⟩)))
                  repeat (go_quiet (first | (go_at_call 20; (with_reducible refine (laws_b10All.calls k2 _ _ t559 t563 _ ?side1 ?side2 A59.out).mono ?_); (case side1 => repeat (first | exact (Kd.S_reads' HO_13.out).2.2 | (with_reducible refine Kd.C_alloc ?_ _) | (with_reducible refine Kd.C_drewN ?_ _) | (with_reducible refine Kd.C_drew ?_))); (case side2 => exact (Kd.S_reads' HO_13.out).2.1); rintro e w' ⟨rfl, ⟨nd, rfl⟩⟩; (try first | exact ⟨rfl, _, World.drewN_drewN _ _ _⟩ | exact ⟨rfl, _, Eq.trans (World.drewN_drewN _ _ _) (congrArg (World.drewN _) (Nat.add_assoc _ _ _))⟩)) | (go_at_call 20; (with_reducible refine (laws_b10All.calls k2 _ _ t553 t564 _ ?side1 ?side2 A60.out).mono ?_); (case side1 => repeat (first | exact (Kd.S_reads' HO_10.out).2.2 | (with_reducible refine Kd.C_alloc ?_ _) | (with_reducible refine Kd.C_drewN ?_ _) | (with_reducible refine Kd.C_drew ?_))); (case side2 => exact (Kd.S_reads' HO_10.out).2.1); rintro e w' ⟨rfl, ⟨nd, rfl⟩⟩; (try first | exact ⟨rfl, _, World.drewN_drewN _ _ _⟩ | exact ⟨rfl, _, Eq.trans (World.drewN_drewN _ _ _) (congrArg (World.drewN _) (Nat.add_assoc _ _ _))⟩))); try go_wp2_with (first | (go_at_call 20; (with_reducible refine (laws_b10All.calls k2 _ _ t559 t563 _ ?side1 ?side2 A59.out).mono ?_); (case side1 => repeat (first | exact (Kd.S_reads' HO_13.out).2.2 | (with_reducible refine Kd.C_alloc ?_ _) | (with_reducible refine Kd.C_drewN ?_ _) | (with_reducible refine Kd.C_drew ?_))); (case side2 => exact (Kd.S_reads' HO_13.out).2.1); rintro e w' ⟨rfl, ⟨nd, rfl⟩⟩; (try first | exact ⟨rfl, _, World.drewN_drewN _ _ _⟩ | exact ⟨rfl, _, Eq.trans (World.drewN_drewN _ _ _) (congrArg (World.drewN _) (Nat.add_assoc _ _ _))⟩)) | (go_at_call 20; (with_reducible refine (laws_b10All.calls k2 _ _ t553 t564 _ ?side1 ?side2 A60.out).mono ?_); (case side1 => repeat (first | exact (Kd.S_reads' HO_10.out).2.2 | (with_reducible refine Kd.C_alloc ?_ _) | (with_reducible refine Kd.C_drewN ?_ _) | (with_reducible refine Kd.C_drew ?_))); (case side2 => exact (Kd.S_reads' HO_10.out).2.1); rintro e w' ⟨rfl, ⟨nd, rfl⟩⟩; (try first | exact ⟨rfl, _, World.drewN_drewN _ _ _⟩ | exact ⟨rfl, _, Eq.trans (World.drewN_drewN _ _ _) (congrArg (World.drewN _) (Nat.add_assoc _ _ _))⟩))))
                  go_ret
                  exact ⟨by first | rfl | (simp [errW_none, errW_some] <;> rfl) | (simp [*, errW_none, errW_some] <;> rfl), by repeat (first | (with_reducible first | exact HB.out | apply below_alloc | apply pw_below_drewN | apply below_drew1 | refine below_set ?_ GE543.out) | exact HB.out)⟩
    · rw [if_neg c10] at H
      exact absurd H (by simp)

/-- THE ONE PURE STATEMENT of laws_FnBlocks: yours. -/
def laws_FnBlocks.Pure : Prop := ∀ (l0 : List Int) (l1 : List Int), l0.length ≤ maxLen → l0.length * 1 ≤ 140737488351232 → (∀ x ∈ l0, (Lit.int .u8 x).wf = true) → l1.length ≤ maxLen → l1.length * 1 ≤ 140737488351232 → (∀ x ∈ l1, (Lit.int .u8 x).wf = true) → ∃ k, laws_FnBlocks.f k l0 l1 = some true
theorem laws_FnBlocks.walk (P : laws_FnBlocks.Pure) (a0 : Option Addr) (len0 cap0 : Nat) (z0 : List Int) (a1 : Option Addr) (len1 cap1 : Nat) (z1 : List Int) (w : World) (w0 : (a0 = none ∧ len0 = 0 ∧ cap0 = 0 ∧ z0 = []) ∨ ∃ x, a0 = some x ∧ len0 ≤ cap0 ∧ cap0 ≤ maxLen ∧ z0.length = cap0 ∧ (∀ i, i < z0.length → w.cell? (x.add i) = some (.int .u8 (z0.getD i 0))) ∧ ∀ n ∈ z0, (Lit.int .u8 n).wf = true) (y0 : len0 * 1 ≤ 140737488351232) (w1 : (a1 = none ∧ len1 = 0 ∧ cap1 = 0 ∧ z1 = []) ∨ ∃ x, a1 = some x ∧ len1 ≤ cap1 ∧ cap1 ≤ maxLen ∧ z1.length = cap1 ∧ (∀ i, i < z1.length → w.cell? (x.add i) = some (.int .u8 (z1.getD i 0))) ∧ ∀ n ∈ z1, (Lit.int .u8 n).wf = true) (y1 : len1 * 1 ≤ 140737488351232) :
    Calls Try.prog 9 #[.slice a0 len0 cap0, .slice a1 len1 cap1] w fun e w' => e = .returned (.bool true) ∧ Below w.heap.size w w' := by
  obtain ⟨l0, rfl, hr0, hm0, hw0, hc0⟩ := ReadsInt.ofRowC w0
  obtain ⟨l1, rfl, hr1, hm1, hw1, hc1⟩ := ReadsInt.ofRowC w1
  obtain ⟨k, h⟩ := P l0 l1 hm0 y0 hw0 hm1 y1 hw1
  refine (laws_FnBlocks.calls k _ _ l0 _ _ l1 true w (Kd.C_of_reads (d := (0 : Int)) (h1 := fun _ => rfl) hr0) hc0 (Kd.C_of_reads (d := (0 : Int)) (h1 := fun _ => rfl) hr1) hc1 h).mono ?_
  rintro e w' ⟨rfl, hd⟩
  exact ⟨rfl, hd⟩

end Go.Proofs.Ytamjcfdjcagjmaa.P
