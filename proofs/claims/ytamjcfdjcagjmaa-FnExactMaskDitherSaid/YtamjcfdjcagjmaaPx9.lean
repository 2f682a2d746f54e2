-- written by a program of this session (gprint.py), which calls the kit's print
import Derived.Test.YtamjcfdjcagjmaaPx0
import Derived.Test.YtamjcfdjcagjmaaPx1
namespace Go.Proofs.Ytamjcfdjcagjmaa.P
open Go.RowKit Go.Proofs.YtamjcfdjcagjmaaW.PrintWords Go.Proofs.YtamjcfdjcagjmaaW.PrintLast Go.Proofs.YtamjcfdjcagjmaaW.PrintMore
attribute [local go_sem] max2_int min2_int max_two min_two max_three min_three max_four min_four   -- for this text's walks alone
set_option linter.unusedVariables false
set_option linter.unusedSimpArgs false
theorem wrap_dbl {x : Int} (h0 : -9223372036854775808 ≤ x) (h1 : x ≤ 9223372036854775807) : wrap64 x = x := by
  unfold wrap64
  omega
theorem noughts_row (n : Nat) (z : List Int) (hz : z.length ≤ 35184372088832) (d : Nat) : ∀ (i : Nat) (x5 : List (List Int)), n - i = d → i ≤ n → n ≤ 9223372036854775807 → x5.length = n → x5.take i = List.replicate i (List.replicate z.length 0) → ∃ k, impl_noughts.l0 k z.length x5 n i = some (List.replicate n (List.replicate z.length 0)) := by
  induction d with
  | zero =>
    intro i x5 hd hi hn hx ht
    obtain rfl : i = n := by omega
    refine ⟨1, ?_⟩
    simp only [impl_noughts.l0]
    rw [if_neg (by omega), ← ht, ← hx, List.take_length]
  | succ d ih =>
    intro i x5 hd hi hn hx ht
    obtain ⟨k, hk⟩ := ih (i + 1) (x5.set i (List.replicate z.length 0)) (by omega) (by omega) hn (by simpa using hx) (by
      apply List.ext_getElem?
      intro j
      rw [List.getElem?_take, List.getElem?_replicate]
      by_cases e : j < i
      · have := congrArg (fun l => l[j]?) ht
        simp only [List.getElem?_take, List.getElem?_replicate, if_pos e] at this
        rw [if_pos (by omega), if_pos (by omega), List.getElem?_set_ne (by omega)]
        exact this
      · by_cases e2 : j = i
        · subst e2
          rw [if_pos (by omega), if_pos (by omega), List.getElem?_set_self (by omega)]
        · rw [if_neg (by omega), if_neg (by omega)])
    refine ⟨k + 1, ?_⟩
    simp only [impl_noughts.l0]
    have hw : wrap64 ((i : Int) + 1) = ((i + 1 : Nat) : Int) := by rw [wrap_dbl (by omega) (by omega)]; omega
    rw [if_pos (by omega), if_pos (by omega), if_pos (by omega), if_pos (by omega), if_pos (by omega), hw]
    exact hk
theorem noughts_val (n m : Nat) (hn : n ≤ 11728124029610) (hm : m ≤ 35184372088832) : ∃ k, impl_noughts.f k n m = some (List.replicate n (List.replicate m 0)) := by
  obtain ⟨k, hk⟩ := noughts_row n (List.replicate m 0) (by simpa using hm) n 0 (List.replicate n []) (by omega) (by omega) (by omega) (by simp) (by simp)
  refine ⟨k, ?_⟩
  unfold impl_noughts.f
  rw [if_pos (by omega), if_pos (by omega)]
  simp only [Int.toNat_natCast, Option.bind_some, List.length_replicate] at hk ⊢
  exact hk
theorem infoInt : (Try.prog.info? 2).map (fun i => (i.zero, i.size, i.bytes)) = some (some (.int .i64 0), 1, 8) := by kernel_rfl
/-- slices.Grow(nil, n). -/
theorem slices_Grow_int.nil (S : Nat) (hS : S < 17592186044416) (w : World) :
    Calls Try.prog 102 #[.slice none 0 0, .int .i64 S] w fun e w' => ∃ v0_ : Value, e = .returned v0_ ∧ Kd.R (Kd.int .i64) 2 w' w.heap.size (fun _ => True) v0_ ([] : List Int) ∧ Below w.heap.size w w' := by
  rcases Nat.eq_zero_or_pos S with h0 | h0
  · subst h0
    go_enter Try.func102, Try.ntmps102
    go_wp2
    go_ret
    exact ⟨_, rfl, Kd.R_nil _ _ _ _ _, Below.refl _ _⟩
  · have hp : 0 < (S : Int) := by omega
    have hp0 : ¬ (S : Int) < 0 := by omega
    go_enter Try.func102, Try.ntmps102
    go_wp2_with (first | ((with_reducible refine gate_dst (N := 22) rfl ?_); at_builtin; refine Kd.R_append_zeros (Kd.int .i64) (w0 := w) w.heap.size rfl (.tmp 20) (.tmp 21) 31 3 2 (.int .i64 0) 8 rfl Try.underlying31 Try.underlying3 infoInt rfl (by decide) (by omega) (.slice none 0 0) ([] : List Int) (0 : Int) (S : Int) (fun _ => True) rfl rfl rfl (fun _ _ => trivial) (Kd.R_nil _ _ _ _ _) (by omega) (Below.refl _ _) (Nat.le_refl _) (by simp; omega) ?_; intro v1 w1 h1 hb1 _ _; obtain ⟨A1, c1, rfl, hl1, hC1⟩ := Kd.R_reads h1; have HR1 := Aside0.mk h1; have HB1 := Aside0.mk hb1; clear h1 hb1))
    go_ret
    exact ⟨_, rfl, Kd.R_take HR1.out (m := 0) (Nat.zero_le _), HB1.out⟩
def sumLen (l0 : List (List Int)) (k : Nat) : Nat := (l0.take k).flatten.length
theorem sumLen_succ (l0 : List (List Int)) (k : Nat) (h : k < l0.length) : sumLen l0 (k + 1) = sumLen l0 k + (rdR l0 k).length := by
  unfold sumLen
  rw [List.take_succ_eq_append_getElem h, List.flatten_append, List.length_append, rdR_mem h]
  simp
theorem flat_succ (l0 : List (List Int)) (k : Nat) (h : k < l0.length) : (l0.take (k + 1)).flatten = (l0.take k).flatten ++ rdR l0 k := by
  rw [List.take_succ_eq_append_getElem h, List.flatten_append, rdR_mem h]
  simp
theorem sumLen_le (l0 : List (List Int)) (k : Nat) : sumLen l0 k ≤ l0.flatten.length := by
  unfold sumLen
  conv => rhs; rw [← List.take_append_drop k l0, List.flatten_append, List.length_append]
  omega
theorem sumLen_all (l0 : List (List Int)) : sumLen l0 l0.length = l0.flatten.length := by
  unfold sumLen
  rw [List.take_length]
def slices_Concat_int64.f (l0 : List (List Int)) : Option (List Int) := if l0.flatten.length < 17592186044416 then some l0.flatten else none
set_option maxHeartbeats 2000000 in
theorem slices_Concat_int64.calls (A0 : Option Addr) (c0 : Nat) (l0 : List (List Int)) (r : List Int) (w : World) (hr0 : Kd.C (Kd.slice 2 (Kd.int .i64)) w A0 l0.length l0) (hc0 : l0.length ≤ c0) (h : slices_Concat_int64.f l0 = some r) :
    Calls Try.prog 78 #[.slice A0 l0.length c0] w fun e w' => ∃ v0_ : Value, e = .returned (v0_) ∧ Kd.R (Kd.int .i64) 2 w' w.heap.size (fun _ => True) v0_ r ∧ Below w.heap.size w w' := by
  have hlim : l0.flatten.length < 17592186044416 := by
    unfold slices_Concat_int64.f at h
    split at h
    · assumption
    · cases h
  have hr : l0.flatten = r := by
    unfold slices_Concat_int64.f at h
    rw [if_pos hlim] at h
    exact Option.some.inj h
  subst hr
  clear h
  have hmax := Kd.C_max hr0
  have HR0 := Aside0.mk hr0
  have HLIM := Aside0.mk hlim
  clear hr0 hlim
  go_enter Try.func78, Try.ntmps78
  go_wp2
  go_loopg [3, 5, 11] l0.length (fun gg v3 _ v11 w' => ∃ kk : Nat, kk ≤ l0.length ∧ l0.length - kk ≤ gg ∧ v11 = .int .i64 kk ∧ v3 = .int .i64 (sumLen l0 kk) ∧ w = w')
  case atStart => exact ⟨0, Nat.zero_le _, by omega, rfl, by simp [sumLen], rfl⟩
  case round =>
    obtain ⟨kk, hkk, hg, rfl, rfl, rfl⟩ := hrel
    by_cases hlt : kk < l0.length
    · have hltz : (kk : Int) < (l0.length : Int) := by omega
      obtain ⟨ad, rfl, hat⟩ := at_rows HR0.out (by omega)
      obtain ⟨A1, d1, hx, hdx, hC1⟩ := hat kk hlt
      clear hat hC1
      have hS := sumLen_succ l0 kk hlt
      have hS2 := sumLen_le l0 (kk + 1)
      have hS3 := HLIM.out
      have hS6 : sumLen l0 kk + (rdR l0 kk).length ≤ 9223372036854775807 := by omega
      have HS := Aside0.mk hS
      clear hS hS2 hS3
      go_wp2
      go_roundg (l0.length - (kk + 1))
      case measure => omega
      case rel => exact ⟨kk + 1, by omega, by omega, by go_num, by rw [HS.out]; go_num, rfl⟩
    · have hltz : ¬ (kk : Int) < (l0.length : Int) := by omega
      obtain rfl : kk = l0.length := by omega
      rw [sumLen_all]
      have hL := HLIM.out
      generalize hT : l0.flatten.length = T at hL
      have HT := Aside0.mk hT
      have HL := Aside0.mk hL
      clear hT hL
      go_wp2_with (go_at_call 102; refine (slices_Grow_int.nil T HL.out _).mono ?_; rintro e w1 ⟨v1, rfl, hR1, hB1⟩; have HR1 := Aside0.mk hR1; have HB1 := Aside0.mk hB1; clear hR1 hB1)
      go_loopg [6, 8, 27] l0.length (fun gg v6 _ v27 w' => ∃ kk : Nat, kk ≤ l0.length ∧ l0.length - kk ≤ gg ∧ v27 = .int .i64 kk ∧ Aside0 (Kd.R (Kd.int .i64) 2 w' w.heap.size (fun _ => True) v6 (l0.take kk).flatten) ∧ Aside0 (Below w.heap.size w w'))
      case atStart => exact ⟨0, Nat.zero_le _, by omega, rfl, ⟨HR1.out⟩, HB1⟩
      case round =>
        clear HR1 HB1
        obtain ⟨kk, hkk, hg, rfl, HO, HB⟩ := hrel
        by_cases hlt : kk < l0.length
        · have hltz2 : (kk : Int) < (l0.length : Int) := by omega
          obtain ⟨ad, rfl, hat⟩ := at_rows (Kd.C_below HR0.out HB.out) (by omega)
          obtain ⟨A1, d1, hx, hdx, hC1⟩ := hat kk hlt
          clear hat
          have HC := Aside0.mk hC1
          have HF := Aside0.mk (flat_succ l0 kk hlt)
          have hLL : (l0.take kk).flatten.length + (rdR l0 kk).length < 17592186044416 := by
            have e1 := sumLen_succ l0 kk hlt
            have e2 := sumLen_le l0 (kk + 1)
            have e3 := HL.out
            have e4 := HT.out
            unfold sumLen at e1 e2
            omega
          have HLL := Aside0.mk hLL
          clear hC1 hLL
          go_wp2_with (first | ((with_reducible refine gate_builtin (b := .append) (xs := #[.tmp 31, .tmp 32]) rfl ?_); at_builtin; refine Kd.R_append_rows (Kd.int .i64) (w0 := w) w.heap.size rfl (.tmp 31) (.tmp 32) 31 2 (.int .i64 0) 8 rfl Try.underlying31 infoInt rfl (by decide) (by omega) _ (l0.take kk).flatten (rdR l0 kk) A1 (rdR l0 kk).length d1 (fun _ => True) (fun _ => False) rfl rfl HO.out HC.out (fun _ _ h => h) (fun _ h => h.elim) (fun _ _ => trivial) HB.out HB.out.size (by have := HLL.out; omega) ?_; intro v2 w2 h2 hb2 _ _; have HR2 := Aside0.mk h2; have HB2 := Aside0.mk hb2; clear h2 hb2))
          go_roundg (l0.length - (kk + 1))
          case measure => omega
          case rel => exact ⟨kk + 1, by omega, by omega, by go_num, ⟨by rw [HF.out]; exact HR2.out⟩, HB2⟩
        · have hltz2 : ¬ (kk : Int) < (l0.length : Int) := by omega
          obtain rfl : kk = l0.length := by omega
          have HO2 := Aside0.mk (show Kd.R (Kd.int .i64) 2 _ w.heap.size (fun _ => True) _ l0.flatten from by have := HO.out; rw [List.take_length] at this; exact this)
          clear HO
          go_wp2
          go_ret
          exact ⟨_, rfl, HO2.out, HB.out⟩

theorem slices_Sort_int64.own (base : Nat) (v : Value) (xs : List Int) (ok : Nat → Prop) (w0 w : World) (h : Kd.R (Kd.int .i64) 2 w base ok v xs) (hB : Below base w0 w) (hbase : base ≤ w.heap.size) (hlen : xs.length < 4611686018427387904) :
    Calls Try.prog 79 #[v] w fun e w' => e = .returned (.tuple #[]) ∧ Kd.R (Kd.int .i64) 2 w' base ok v (xs.mergeSort fun x y => decide (x ≤ y)) ∧ w.grownBy w' v.ownBlock ∧ Below base w0 w' := by
  have hown := Kd.own_of_R h
  have hok := h.1
  have hlm : (xs.mergeSort fun x y => decide (x ≤ y)).length = xs.length := List.length_mergeSort _
  rcases hown.2 with ⟨rfl, hx⟩ | ⟨g, cap, cur, rfl, hg, hh, h1, h2, h3, h4⟩
  · have hx' : xs = [] := by simpa [encs] using hx
    subst hx'
    refine (AnyM.slices_Sort_int_none lSort none 0 w).mono fun e w' hh => ?_
    obtain ⟨rfl, rfl⟩ := hh
    exact ⟨rfl, by simpa using h, grown_of_below (Below.refl _ _) _, hB⟩
  · have hblk : g < w.heap.size := (Array.getElem?_eq_some_iff.1 hh).1
    have ht : cur.toList.take xs.length = xs.map (Value.int .i64) := by simpa [encs] using h4
    have hH := Go.holds_of_blockI hh ht
    refine (AnyM.slices_Sort_int lSort g 0 cap xs w hH hblk hlen).mono fun e w' hh' => ?_
    obtain ⟨rfl, n, os, rfl⟩ := hh'
    have ho := Go.ownsRow_sortedI (n := n) (os := os) (ts := xs.mergeSort fun x y => decide (x ≤ y)) hlm hg hh h1 h2 h3
    have hgr := Go.grownBy_sortedI (w := w) (g := g) (n := n) (os := os) (xs.mergeSort fun x y => decide (x ≤ y)).toArray
    refine ⟨rfl, Kd.R_of_own (by rw [hlm]; simpa [encs] using ho) hok, hgr, hB.grown hgr hbase (fun k hk => by cases hk; exact hg)⟩

def impl_isSet.l0 : Nat → List Int → Int → List Int → Int → Int → Option (Bool)
  | 0, _, _, _, _, _ => none
  | k + 1, x0, x1, x7, x8, x9 => if x9 < x8 then (if 0 ≤ x9 then (if x9 < (x7.length : Int) then ((impl_within.f (rd x7 x9) 0 (wrap64 (x1 - 1))).bind fun t401 => (if t401 = true then (if x9 > 0 then (if 0 ≤ (wrap64 (x9 - 1)) then (if (wrap64 (x9 - 1)) < (x0.length : Int) then (if (rd x7 x9) ≤ (rd x0 (wrap64 (x9 - 1))) then (some false) else (impl_isSet.l0 k x0 x1 x7 x8 (wrap64 (x9 + 1)))) else (none)) else (none)) else (impl_isSet.l0 k x0 x1 x7 x8 (wrap64 (x9 + 1)))) else (some false))) else (none)) else (none)) else (some true)
def impl_isSet.f (k : Nat) (l0 : List Int) (a1 : Int) : Option (Bool) := impl_isSet.l0 k l0 a1 l0 (l0.length : Int) 0
theorem impl_isSet.mono_l : ∀ k, (∀ y0 y1 y2 y3 y4, LeO (impl_isSet.l0 k y0 y1 y2 y3 y4) (impl_isSet.l0 (k + 1) y0 y1 y2 y3 y4))
  | 0 => fun _ _ _ _ _ r h => by simp [impl_isSet.l0] at h
  | k + 1 => by
    have ih0 := impl_isSet.mono_l k
    · intro y0 y1 y2 y3 y4
      unfold impl_isSet.l0
      repeat' first
      | (with_reducible exact ih0 _ _ _ _ _)
      | (with_reducible exact LeO.refl _)
      | (with_reducible exact LeO.none _)
      | (with_reducible refine LeO.ite ?_ ?_)
      | (with_reducible refine LeO.bind ?_ (fun _ => ?_))
      | exact ih0 _ _ _ _ _
      | exact LeO.none _
      | refine LeO.ite ?_ ?_
      | refine LeO.bind ?_ (fun _ => ?_)
theorem impl_isSet.mono : ∀ a0 a1 k, LeO (impl_isSet.f k a0 a1) (impl_isSet.f (k + 1) a0 a1) := by
  intro a0 a1 k
  have ih0 := impl_isSet.mono_l k
  unfold impl_isSet.f
  repeat' first
      | (with_reducible exact ih0 _ _ _ _ _)
      | (with_reducible exact LeO.refl _)
      | (with_reducible exact LeO.none _)
      | (with_reducible refine LeO.ite ?_ ?_)
      | (with_reducible refine LeO.bind ?_ (fun _ => ?_))
      | exact ih0 _ _ _ _ _
      | exact LeO.none _
      | refine LeO.ite ?_ ?_
      | refine LeO.bind ?_ (fun _ => ?_)
set_option maxHeartbeats 8000000 in
set_option maxRecDepth 100000 in
theorem impl_isSet.calls (k : Nat) (A0 : Option Addr) (c0 : Nat) (l0 : List Int) (a1 : Int) (r : Bool) (w : World) (hr0 : Kd.C (Kd.int .i64) w A0 l0.length l0) (hc0 : l0.length ≤ c0) (h : impl_isSet.f k l0 a1 = some r) :
    Calls Try.prog 80 #[.slice A0 l0.length c0, .int .i64 a1] w fun e w' => e = .returned (.bool r) ∧ Drawn0 w w' := by
  have HR0 := Aside0.mk hr0
  have HC0 := Aside0.mk hc0
  clear hr0 hc0
  have H : (impl_isSet.l0 k l0 a1 l0 (l0.length : Int) 0) = some r := h
  clear h
  have H' := Aside0.mk H
  clear H
  go_enter Try.func80, Try.ntmps80
  go_wp2
  go_loopg [9] k (fun kq v9 w' => ∃ (x9_1 : Int), v9 = .int .i64 x9_1 ∧ Aside0 (impl_isSet.l0 kq l0 a1 l0 (l0.length : Int) x9_1 = some r) ∧ Aside0 (kq ≤ k) ∧ Drawn0 w w')
  case atStart => exact ⟨(0), (by first | rfl | (simp; done) | (simp [*]; done)), H', ⟨Nat.le_refl _⟩, by repeat (first | exact Drawn0.refl _ | apply Drawn0.step)⟩
  case round =>
    clear H'
    try clear p2
    obtain ⟨x9_1, rfl, HA, HK1, ⟨m1, rfl⟩⟩ := hrel
    cases gk with
    | zero => exact absurd HA.out (by simp [impl_isSet.l0])
    | succ k1 =>
      have H := HA.out
      clear HA
      simp only [impl_isSet.l0] at H
      by_cases c3 : x9_1 < (l0.length : Int)
      · rw [if_pos c3] at H
        have c3b0 : decide (x9_1 < (l0.length : Int)) = true := decide_eq_true c3
        clear c3
        by_cases c4 : 0 ≤ x9_1
        · rw [if_pos c4] at H
          have c4b0 : decide (0 ≤ x9_1) = true := decide_eq_true c4
          clear c4
          by_cases c5 : x9_1 < (l0.length : Int)
          · rw [if_pos c5] at H
            have c5b0 : decide (x9_1 < (l0.length : Int)) = true := decide_eq_true c5
            clear c5
            replace H := Option.bind_eq_some_iff.mp H
            obtain ⟨t401, A60, H⟩ := H
            replace H : (if t401 = true then (if x9_1 > 0 then (if 0 ≤ (wrap64 (x9_1 - 1)) then (if (wrap64 (x9_1 - 1)) < (l0.length : Int) then (if (rd l0 x9_1) ≤ (rd l0 (wrap64 (x9_1 - 1))) then (some false) else (impl_isSet.l0 k1 l0 a1 l0 (l0.length : Int) (wrap64 (x9_1 + 1)))) else (none)) else (none)) else (impl_isSet.l0 k1 l0 a1 l0 (l0.length : Int) (wrap64 (x9_1 + 1)))) else (some false)) = some r := H
            have A6 := Aside0.mk A60
            clear A60
            by_cases c7 : t401 = true
            · subst c7
              have H1 : (if x9_1 > 0 then (if 0 ≤ (wrap64 (x9_1 - 1)) then (if (wrap64 (x9_1 - 1)) < (l0.length : Int) then (if (rd l0 x9_1) ≤ (rd l0 (wrap64 (x9_1 - 1))) then (some false) else (impl_isSet.l0 k1 l0 a1 l0 (l0.length : Int) (wrap64 (x9_1 + 1)))) else (none)) else (none)) else (impl_isSet.l0 k1 l0 a1 l0 (l0.length : Int) (wrap64 (x9_1 + 1)))) = some r := by rw [if_pos rfl] at H; exact H
              clear H
              have H := H1
              clear H1
              by_cases c8 : x9_1 > 0
              · rw [if_pos c8] at H
                have c8b0 : decide (0 < x9_1) = true := decide_eq_true c8
                clear c8
                obtain ⟨ji9, hji9⟩ : ∃ j_ : Int, (wrap64 (x9_1 - 1)) = j_ := ⟨_, rfl⟩
                replace H : (if 0 ≤ (ji9) then (if (ji9) < (l0.length : Int) then (if (rd l0 x9_1) ≤ (rd l0 (ji9)) then (some false) else (impl_isSet.l0 k1 l0 a1 l0 (l0.length : Int) (wrap64 (x9_1 + 1)))) else (none)) else (none)) = some r := by first | (rw [hji9] at H; exact H) | (simp only [hji9] at H ⊢; exact H)
                (try rw [hji9] at A6)
                have hji9w : (IntKind.i64.wrap (x9_1 - 1)) = ji9 := (i64_w _).trans hji9
                by_cases c10 : 0 ≤ (ji9)
                · rw [if_pos c10] at H
                  have c10b0 : decide (0 ≤ (ji9)) = true := decide_eq_true c10
                  clear c10
                  by_cases c11 : (ji9) < (l0.length : Int)
                  · rw [if_pos c11] at H
                    have c11b0 : decide ((ji9) < (l0.length : Int)) = true := decide_eq_true c11
                    clear c11
                    by_cases c12 : (rd l0 x9_1) ≤ (rd l0 (ji9))
                    · rw [if_pos c12] at H
                      have c12b0 : decide ((rd l0 x9_1) ≤ (rd l0 (ji9))) = true := decide_eq_true c12
                      clear c12
                      obtain rfl := Option.some.inj H
                      have p400 : 0 ≤ (x9_1 : Int) := of_decide_eq_true (by first | (with_reducible assumption) | assumption)
                      have q400 : x9_1 < (l0.length : Int) := of_decide_eq_true (by first | (with_reducible assumption) | assumption)
                      obtain ⟨ad400, e400, hx400_0⟩ := Kd.at_int HR0.out x9_1 p400 q400
                      cases e400
                      replace p400 := eq_true p400
                      replace q400 := eq_true q400
                      go_wp2_with (first | ((with_reducible refine gate_callee (f := 47) rfl ?_); refine goesL_ (some 17) rfl rfl Try.func47 (by kernel_rfl) rfl #[.int .i64 (rd l0 x9_1), .int .i64 0, .int .i64 (wrap64 (a1 - 1))] rfl (by (try simp only [List.map_toArray, List.map_cons, List.map_nil]); first | done | rfl | (simp only [List.length_drop, List.length_take]; rfl)) ?_; (with_reducible refine (impl_within.calls (rd l0 x9_1) 0 (wrap64 (a1 - 1)) true _ A6.out).mono ?_); rintro e w' ⟨rfl, ⟨nd, rfl⟩⟩; refine ⟨_, rfl, ?_⟩; have p402 : 0 ≤ ((ji9) : Int) := of_decide_eq_true (by first | (with_reducible assumption) | assumption); have q402 : (ji9) < (l0.length : Int) := of_decide_eq_true (by first | (with_reducible assumption) | assumption); obtain ⟨ad402, e402, hx402_0⟩ := Kd.at_int HR0.out (ji9) p402 q402; obtain rfl : ad400 = ad402 := (by injection e402); replace p402 := eq_true p402; replace q402 := eq_true q402))
                      go_ret
                      exact ⟨by first | rfl | (simp; done) | (simp only [← hji9] <;> (first | rfl | simp)) | (simp [*]; done), by repeat (first | exact Drawn0.refl _ | apply Drawn0.step)⟩
                    · rw [if_neg c12] at H
                      have c12b0 : decide ((rd l0 x9_1) ≤ (rd l0 (ji9))) = false := decide_eq_false c12
                      clear c12
                      have H' := Aside0.mk H
                      clear H
                      have p400 : 0 ≤ (x9_1 : Int) := of_decide_eq_true (by first | (with_reducible assumption) | assumption)
                      have q400 : x9_1 < (l0.length : Int) := of_decide_eq_true (by first | (with_reducible assumption) | assumption)
                      obtain ⟨ad400, e400, hx400_0⟩ := Kd.at_int HR0.out x9_1 p400 q400
                      cases e400
                      replace p400 := eq_true p400
                      replace q400 := eq_true q400
                      go_wp2_with (first | ((with_reducible refine gate_callee (f := 47) rfl ?_); refine goesL_ (some 17) rfl rfl Try.func47 (by kernel_rfl) rfl #[.int .i64 (rd l0 x9_1), .int .i64 0, .int .i64 (wrap64 (a1 - 1))] rfl (by (try simp only [List.map_toArray, List.map_cons, List.map_nil]); first | done | rfl | (simp only [List.length_drop, List.length_take]; rfl)) ?_; (with_reducible refine (impl_within.calls (rd l0 x9_1) 0 (wrap64 (a1 - 1)) true _ A6.out).mono ?_); rintro e w' ⟨rfl, ⟨nd, rfl⟩⟩; refine ⟨_, rfl, ?_⟩; have p402 : 0 ≤ ((ji9) : Int) := of_decide_eq_true (by first | (with_reducible assumption) | assumption); have q402 : (ji9) < (l0.length : Int) := of_decide_eq_true (by first | (with_reducible assumption) | assumption); obtain ⟨ad402, e402, hx402_0⟩ := Kd.at_int HR0.out (ji9) p402 q402; obtain rfl : ad400 = ad402 := (by injection e402); replace p402 := eq_true p402; replace q402 := eq_true q402))
                      go_roundg k1
                      case measure => have := HK1.out; omega
                      case rel => exact ⟨(wrap64 (x9_1 + 1)), (by first | rfl | (simp; done) | (simp [*]; done)), H', ⟨by have := HK1.out; omega⟩, by repeat (first | exact Drawn0.refl _ | apply Drawn0.step)⟩
                  · rw [if_neg c11] at H
                    exact absurd H (by simp)
                · rw [if_neg c10] at H
                  exact absurd H (by simp)
              · rw [if_neg c8] at H
                have c8b0 : decide (0 < x9_1) = false := decide_eq_false c8
                clear c8
                have H' := Aside0.mk H
                clear H
                have p400 : 0 ≤ (x9_1 : Int) := of_decide_eq_true (by first | (with_reducible assumption) | assumption)
                have q400 : x9_1 < (l0.length : Int) := of_decide_eq_true (by first | (with_reducible assumption) | assumption)
                obtain ⟨ad400, e400, hx400_0⟩ := Kd.at_int HR0.out x9_1 p400 q400
                cases e400
                replace p400 := eq_true p400
                replace q400 := eq_true q400
                go_wp2_with (first | ((with_reducible refine gate_callee (f := 47) rfl ?_); refine goesL_ (some 17) rfl rfl Try.func47 (by kernel_rfl) rfl #[.int .i64 (rd l0 x9_1), .int .i64 0, .int .i64 (wrap64 (a1 - 1))] rfl (by (try simp only [List.map_toArray, List.map_cons, List.map_nil]); first | done | rfl | (simp only [List.length_drop, List.length_take]; rfl)) ?_; (with_reducible refine (impl_within.calls (rd l0 x9_1) 0 (wrap64 (a1 - 1)) true _ A6.out).mono ?_); rintro e w' ⟨rfl, ⟨nd, rfl⟩⟩; refine ⟨_, rfl, ?_⟩))
                go_roundg k1
                case measure => have := HK1.out; omega
                case rel => exact ⟨(wrap64 (x9_1 + 1)), (by first | rfl | (simp; done) | (simp [*]; done)), H', ⟨by have := HK1.out; omega⟩, by repeat (first | exact Drawn0.refl _ | apply Drawn0.step)⟩
            · replace c7 := Bool.eq_false_iff.mpr c7
              subst c7
              have H1 : (some false) = some r := by rw [if_neg (show ¬ (false = true) by decide)] at H; exact H
              clear H
              have H := H1
              clear H1
              obtain rfl := Option.some.inj H
              have p400 : 0 ≤ (x9_1 : Int) := of_decide_eq_true (by first | (with_reducible assumption) | assumption)
              have q400 : x9_1 < (l0.length : Int) := of_decide_eq_true (by first | (with_reducible assumption) | assumption)
              obtain ⟨ad400, e400, hx400_0⟩ := Kd.at_int HR0.out x9_1 p400 q400
              cases e400
              replace p400 := eq_true p400
              replace q400 := eq_true q400
              go_wp2_with (first | ((with_reducible refine gate_callee (f := 47) rfl ?_); refine goesL_ (some 17) rfl rfl Try.func47 (by kernel_rfl) rfl #[.int .i64 (rd l0 x9_1), .int .i64 0, .int .i64 (wrap64 (a1 - 1))] rfl (by (try simp only [List.map_toArray, List.map_cons, List.map_nil]); first | done | rfl | (simp only [List.length_drop, List.length_take]; rfl)) ?_; (with_reducible refine (impl_within.calls (rd l0 x9_1) 0 (wrap64 (a1 - 1)) false _ A6.out).mono ?_); rintro e w' ⟨rfl, ⟨nd, rfl⟩⟩; refine ⟨_, rfl, ?_⟩))
              go_ret
              exact ⟨by first | rfl | (simp; done) | (simp [*]; done), by repeat (first | exact Drawn0.refl _ | apply Drawn0.step)⟩
          · rw [if_neg c5] at H
            exact absurd H (by simp)
        · rw [if_neg c4] at H
          exact absurd H (by simp)
      · rw [if_neg c3] at H
        have c3b0 : decide (x9_1 < (l0.length : Int)) = false := decide_eq_false c3
        clear c3
        obtain rfl := Option.some.inj H
        go_wp2
        go_ret
        exact ⟨by first | rfl | (simp; done) | (simp [*]; done), by repeat (first | exact Drawn0.refl _ | apply Drawn0.step)⟩

/-- Rising numbers from 0 to less than n, told plainly. -/
def isSetB (l : List Int) (n : Int) : Bool := (List.range l.length).all fun i => decide (0 ≤ rd l (i : Nat)) && decide (rd l (i : Nat) ≤ n - 1) && (decide (i = 0) || decide (rd l ((i - 1 : Nat)) < rd l (i : Nat)))
theorem within_val (a b c : Int) : impl_within.f a b c = some (decide (b ≤ a) && decide (a ≤ c)) := by
  unfold impl_within.f
  by_cases h : b ≤ a <;> by_cases h2 : a ≤ c <;> simp [h, h2]
theorem wrap_id {x : Int} (h0 : -9223372036854775808 ≤ x) (h1 : x ≤ 9223372036854775807) : wrap64 x = x := by
  unfold wrap64
  omega
theorem isSet_loop (l : List Int) (n : Int) (hl : l.length ≤ 9223372036854775807) (hn0 : 0 ≤ n) (hn1 : n ≤ 9223372036854775807) (d : Nat) : ∀ (k i : Nat), l.length - i = d → i ≤ l.length → d < k →
    impl_isSet.l0 k l n l (l.length : Int) (i : Int) = some ((List.range' i (l.length - i)).all fun i => decide (0 ≤ rd l (i : Nat)) && decide (rd l (i : Nat) ≤ n - 1) && (decide (i = 0) || decide (rd l ((i - 1 : Nat)) < rd l (i : Nat)))) := by
  induction d with
  | zero =>
    intro k i hd hi hk
    obtain ⟨k, rfl⟩ : ∃ m, k = m + 1 := ⟨k - 1, by omega⟩
    simp only [impl_isSet.l0]
    rw [if_neg (by omega), hd]
    rfl
  | succ d ih =>
    intro k i hd hi hk
    obtain ⟨k, rfl⟩ : ∃ m, k = m + 1 := ⟨k - 1, by omega⟩
    have hlt : i < l.length := by omega
    simp only [impl_isSet.l0]
    rw [if_pos (by omega), if_pos (by omega), if_pos (by omega), within_val, wrap_id (x := n - 1) (by omega) (by omega), hd, List.range'_succ, List.all_cons]
    simp only [Option.bind_some]
    have hnext := ih k (i + 1) (by omega) (by omega) (by omega)
    rw [show l.length - (i + 1) = d by omega] at hnext
    have hw : wrap64 ((i : Int) + 1) = ((i + 1 : Nat) : Int) := by rw [wrap_id (by omega) (by omega)]; omega
    rw [hw, hnext]
    by_cases c1 : 0 ≤ rd l (i : Nat)
    · by_cases c2 : rd l (i : Nat) ≤ n - 1
      · rw [if_pos (by simp [c1, c2])]
        by_cases c3 : i = 0
        · subst c3
          rw [if_neg (by simp)]
          simp [c1, c2]
          exact fun _ => ⟨c1, c2⟩
        · rw [if_pos (by omega), wrap_id (x := (i : Int) - 1) (by omega) (by omega), if_pos (by omega), if_pos (by omega)]
          have e : (i : Int) - 1 = ((i - 1 : Nat) : Int) := by omega
          rw [e]
          by_cases c4 : rd l (i : Nat) ≤ rd l ((i - 1 : Nat))
          · rw [if_pos c4]
            have : ¬ rd l ((i - 1 : Nat)) < rd l (i : Nat) := by omega
            simp [c1, c2, c3, this]
          · rw [if_neg c4]
            have : rd l ((i - 1 : Nat)) < rd l (i : Nat) := by omega
            simp [c1, c2, c3, this]
      · rw [if_neg (by simp [c1, c2])]
        simp [c1, c2]
    · rw [if_neg (by simp [c1])]
      simp [c1]
theorem isSet_val (l : List Int) (n : Int) (hl : l.length ≤ 9223372036854775807) (hn0 : 0 ≤ n) (hn1 : n ≤ 9223372036854775807) : impl_isSet.f (l.length + 1) l n = some (isSetB l n) := by
  unfold impl_isSet.f
  rw [show (0 : Int) = ((0 : Nat) : Int) from rfl, isSet_loop l n hl hn0 hn1 l.length (l.length + 1) 0 (by omega) (by omega) (by omega)]
  unfold isSetB
  rw [List.range_eq_range']
  simp
def maskB (l0 : List (List Int)) : Bool := (l0.all fun row => decide (row.length = l0.length)) && isSetB (l0.flatten.mergeSort fun x y => decide (x ≤ y)) ((l0.length : Int) * (l0.length : Int))
def impl_IsMask.f (l0 : List (List Int)) : Option (Bool) := some (decide (1 ≤ l0.length) && decide (l0.length ≤ 8) && maskB l0)
theorem impl_IsMask.clos (Ar : Option Addr) (cr n : Nat) (row : List Int) (b1 : Nat) (W : World) (h1 : W.cell? ⟨b1, 0, none⟩ = some (.int .i64 n)) (hcr : row.length ≤ cr) :
    Calls Try.prog 77 #[.slice Ar row.length cr, .pointer (some ⟨b1, 0, none⟩)] W fun e w' => e = .returned (.bool (!decide (row.length = n))) ∧ Drawn0 W w' := by
  have hb : ((row.length : Int) != (n : Int)) = !decide (row.length = n) := by
    rw [Bool.eq_iff_iff, bne_iff_ne, Bool.not_eq_true', decide_eq_false_iff_not]
    omega
  have HB := Aside0.mk hb
  clear hb
  have sz : ∀ (w : World), Calls Try.prog 52 #[.slice Ar row.length cr] w fun e w' => e = .returned (.int .i64 row.length) ∧ w' = w := by
    intro w
    go_enter Try.func52, Try.ntmps52
    go_wp2
    go_ret
    exact ⟨rfl, rfl⟩
  have SZ := Aside0.mk sz
  clear sz
  go_enter Try.func77, Try.ntmps77
  go_wp2
  go_quiet ((go_at_call 52; exact Calls.quiet_of_same (SZ.out _)))
  go_wp2
  go_ret
  exact ⟨by rw [← HB.out]; rfl, by repeat (first | exact Drawn0.refl _ | apply Drawn0.step)⟩
set_option maxHeartbeats 400000 in
theorem impl_IsMask_idx (A : Option Addr) (n c : Nat) (v : Nat → Value) (p : Nat → Bool) (lb : Array Value)
    (w : World) (hbig : n ≤ 9223372036854775807)
    (hc : 0 < n → ∃ ad, A = some ad ∧ ∀ j, j < n → w.cell? (ad.add j) = some (v j))
    (hp : ∀ j, j < n → ∀ W, Below w.heap.size w W → Calls Try.prog 77 (#[v j] ++ lb) W fun e w' => e = .returned (.bool (p j)) ∧ Below w.heap.size w w') :
    Calls Try.prog 101 #[.slice A n c, .func (.func 77) #[] lb] w (IdxPost p n w) := by
  have HC := Aside0.mk hc
  have HP := Aside0.mk hp
  clear hc hp
  go_enter Try.func101, Try.ntmps101
  go_wp2
  go_loopg [5, 8] n (fun gg _ s8 wr => ∃ kk : Nat, kk ≤ n ∧ n - kk ≤ gg ∧ s8 = .int .i64 kk ∧ Aside0 (Below w.heap.size w wr) ∧ Aside0 (∀ j, j < kk → p j = false))
  case atStart => exact ⟨0, Nat.zero_le _, by omega, rfl, ⟨Below.refl _ w⟩, ⟨fun j hj => absurd hj (Nat.not_lt_zero _)⟩⟩
  case round =>
    obtain ⟨kk, hkk, hg, rfl, BW, AF⟩ := hrel
    by_cases hlt : kk < n
    · have hltz : (kk : Int) < (n : Int) := by omega
      obtain ⟨ad, rfl, had⟩ := HC.out (by omega)
      have hcell := pw_cell_below BW.out (had kk hlt)
      have hcall := HP.out kk hlt wr BW.out
      clear had
      generalize hy : v kk = y at hcell hcall
      clear hy
      cases hq : p kk with
      | true =>
        rw [hq] at hcall
        have HQ := Aside0.mk hq
        have HCALL := Aside0.mk hcall
        clear hq hcall
        go_wp2_with (go_at_call 77; refine HCALL.out.mono ?_; rintro e w' ⟨rfl, hb'⟩)
        go_ret
        exact ⟨_, rfl, .inl ⟨kk, hlt, rfl, HQ.out, AF.out⟩, hb'⟩
      | false =>
        rw [hq] at hcall
        have HQ := Aside0.mk hq
        have HCALL := Aside0.mk hcall
        clear hq hcall
        go_wp2_with (go_at_call 77; refine HCALL.out.mono ?_; rintro e w' ⟨rfl, hb'⟩)
        go_roundg (n - (kk + 1))
        case measure => omega
        case rel =>
          refine ⟨kk + 1, by omega, by omega, by go_num, ⟨hb'⟩, ⟨fun j hj => ?_⟩⟩
          by_cases e : j = kk
          · subst e
            exact HQ.out
          · exact AF.out j (by omega)
    · have hltz : ¬ (kk : Int) < (n : Int) := by omega
      have : kk = n := by omega
      subst this
      go_wp2
      go_ret
      exact ⟨_, rfl, .inr ⟨rfl, AF.out⟩, BW.out⟩
set_option maxHeartbeats 400000 in
theorem impl_IsMask_any (A : Option Addr) (n c : Nat) (v : Nat → Value) (p : Nat → Bool) (lb : Array Value)
    (w : World) (hbig : n ≤ 9223372036854775807)
    (hc : 0 < n → ∃ ad, A = some ad ∧ ∀ j, j < n → w.cell? (ad.add j) = some (v j))
    (hp : ∀ j, j < n → ∀ W, Below w.heap.size w W → Calls Try.prog 77 (#[v j] ++ lb) W fun e w' => e = .returned (.bool (p j)) ∧ Below w.heap.size w w') :
    Calls Try.prog 76 #[.slice A n c, .func (.func 77) #[] lb] w (AnyPost p n w) := by
  have hcon := impl_IsMask_idx A n c v p lb w hbig hc hp
  clear hc hp
  go_enter Try.func76, Try.ntmps76
  go_wp2_with (go_at_call 101; refine hcon.mono ?_; rintro e w' ⟨r, rfl, hf, hb'⟩; have HF := Aside0.mk hf; clear hf)
  go_ret
  exact ⟨by rw [← anyOf_hit HF.out]; rfl, hb'⟩
theorem impl_IsMask.first (A0 : Option Addr) (c0 : Nat) (l0 : List (List Int)) (w : World) (hr0 : Kd.C (Kd.slice 2 (Kd.int .i64)) w A0 l0.length l0) (b1 : Nat) (W : World) (hW : Below w.heap.size w W)
    (h1 : W.cell? ⟨b1, 0, none⟩ = some (.int .i64 l0.length)) :
    Calls Try.prog 76 #[.slice A0 l0.length c0, .func (.func 77) #[] #[.pointer (some ⟨b1, 0, none⟩)]] W fun e w' => e = .returned (.bool (!l0.all fun row => decide (row.length = l0.length))) ∧ Below W.heap.size W w' := by
  have hrW := Kd.C_below hr0 hW
  obtain ⟨v, hv, hv2⟩ := rows_vals hrW
  have hcon := impl_IsMask_any A0 l0.length c0 v (fun j => !decide ((rdR l0 j).length = l0.length))
    #[.pointer (some ⟨b1, 0, none⟩)] W (Kd.C_max hr0) hv
    (fun j hj W' hW' => by
      obtain ⟨Aj, cj, e, hl, hC⟩ := hv2 j hj
      rw [e]
      exact (impl_IsMask.clos Aj cj l0.length (rdR l0 j) b1 W' (pw_cell_below hW' h1) hl).mono fun e w' hh => ⟨hh.1, below_then hW' hW'.size (Drawn0.below hh.2)⟩)
  refine hcon.mono fun e w' hh => ⟨hh.1.trans ?_, hh.2⟩
  have := all_rangeR l0 fun row => decide (row.length = l0.length)
  rw [← this, Bool.not_not]
theorem flat_len (l0 : List (List Int)) (n : Nat) (h : ∀ row ∈ l0, row.length = n) : l0.flatten.length = l0.length * n := by
  induction l0 with
  | nil => simp
  | cons x xs ih =>
    rw [List.flatten_cons, List.length_append, ih (fun row hr => h row (List.mem_cons_of_mem _ hr)), h x List.mem_cons_self, List.length_cons, Nat.succ_mul]
    omega
set_option maxRecDepth 100000 in
set_option maxHeartbeats 2000000 in
theorem impl_IsMask.calls (A0 : Option Addr) (c0 : Nat) (l0 : List (List Int)) (r : Bool) (w : World) (hr0 : Kd.C (Kd.slice 2 (Kd.int .i64)) w A0 l0.length l0) (hc0 : l0.length ≤ c0) (h : impl_IsMask.f l0 = some r) :
    Calls Try.prog 36 #[.slice A0 l0.length c0] w fun e w' => e = .returned (.bool r) ∧ Below w.heap.size w w' := by
  have h' := Option.some.inj h
  clear h
  have HB : Below w.heap.size w (w.alloc (.cells #[.int .i64 l0.length] 2)) := (Below.refl _ _).alloc (Nat.le_refl _) _
  by_cases c1 : 1 ≤ l0.length
  · by_cases c2 : l0.length ≤ 8
    · have hfirst := impl_IsMask.first A0 c0 l0 w hr0 w.heap.size (w.alloc (.cells #[.int .i64 l0.length] 2)) HB (by simp)
      have i1 : 1 ≤ (l0.length : Int) := by omega
      have i2 : (l0.length : Int) ≤ 8 := by omega
      by_cases c3 : (l0.all fun row => decide (row.length = l0.length)) = true
      · rw [c3] at hfirst
        have hr2 : isSetB (l0.flatten.mergeSort fun x y => decide (x ≤ y)) ((l0.length : Int) * (l0.length : Int)) = r := by
          rw [← h']
          simp [c1, c2, maskB, c3]
        have hfl : l0.flatten.length = l0.length * l0.length := flat_len l0 l0.length (fun row hr => of_decide_eq_true (List.all_eq_true.1 c3 row hr))
        have hsq : l0.length * l0.length ≤ 64 := Nat.mul_le_mul c2 c2
        have hconc : slices_Concat_int64.f l0 = some l0.flatten := by unfold slices_Concat_int64.f; rw [if_pos (by omega)]
        have hmlen : (l0.flatten.mergeSort fun x y => decide (x ≤ y)).length = l0.flatten.length := List.length_mergeSort _
        have hset := isSet_val (l0.flatten.mergeSort fun x y => decide (x ≤ y)) ((l0.length : Int) * (l0.length : Int)) (by omega) (Int.mul_nonneg (by omega) (by omega)) (by have : (l0.length : Int) * (l0.length : Int) ≤ 8 * 8 := Int.mul_le_mul i2 i2 (by omega) (by omega); omega)
        rw [hr2] at hset
        obtain ⟨ss, hss⟩ : ∃ ss, ss = l0.flatten.mergeSort fun x y => decide (x ≤ y) := ⟨_, rfl⟩
        rw [← hss] at hset
        have HSS := Aside0.mk hss
        clear hss
        have m0 : 0 ≤ (l0.length : Int) * (l0.length : Int) := Int.mul_nonneg (by omega) (by omega)
        have m1 : (l0.length : Int) * (l0.length : Int) ≤ 64 := by have : (l0.length : Int) * (l0.length : Int) ≤ 8 * 8 := Int.mul_le_mul i2 i2 (by omega) (by omega); omega
        have HF := Aside0.mk hfirst
        have HCO := Aside0.mk hconc
        have HSE := Aside0.mk hset
        have HML := Aside0.mk hmlen
        have HFL := Aside0.mk hfl
        have HSQ := Aside0.mk hsq
        have HR0 := Aside0.mk hr0
        have HC0 := Aside0.mk hc0
        have HBB := Aside0.mk HB
        clear hfirst hconc hset hmlen hfl hsq hr0 hc0 HB h' hr2 c3
        go_enter Try.func36, Try.ntmps36
        go_wp2_with (first | (go_at_call 76; refine HF.out.mono ?_; rintro e w1 ⟨rfl, hb1⟩; have HB1 := Aside0.mk hb1; have HBW1 := Aside0.mk (below_then HBB.out HBB.out.size hb1); have hbox : w1.cell? ⟨w.heap.size, 0, none⟩ = some (.int .i64 l0.length) := pw_cell_below hb1 (by simp); clear hb1) | (go_at_call 78; refine (slices_Concat_int64.calls A0 c0 l0 l0.flatten _ (Kd.C_below HR0.out HBW1.out) HC0.out HCO.out).mono ?_; rintro e w2 ⟨v2, rfl, hR2, hb2⟩; have HR2 := Aside0.mk hR2; have HB2 := Aside0.mk hb2; clear hR2 hb2) | (go_at_call 79; refine (slices_Sort_int64.own w1.heap.size v2 l0.flatten (fun _ => True) w1 _ HR2.out HB2.out HB2.out.size (by have := HFL.out; have := HSQ.out; omega)).mono ?_; rintro e w3 ⟨rfl, hR3, hg3, hb3⟩; rw [← HSS.out] at hR3; clear hg3; have hbox3 : w3.cell? ⟨w.heap.size, 0, none⟩ = some (.int .i64 l0.length) := pw_cell_below hb3 hbox; obtain ⟨A3, d3, e3, hl3, hC3⟩ := Kd.R_reads hR3; subst e3; have HC3 := Aside0.mk hC3; have HL3 := Aside0.mk hl3; have HB3 := Aside0.mk (below_then HBW1.out HBW1.out.size hb3); clear hC3 hl3 hb3 hR3) | (go_at_call 80; refine (impl_isSet.calls _ A3 d3 _ _ r _ HC3.out HL3.out HSE.out).mono ?_; rintro e w4 ⟨rfl, ⟨nd, rfl⟩⟩) | go_in)
        go_ret
        exact ⟨rfl, below_then HB3.out HB3.out.size (by first | exact Below.refl _ _ | exact pw_below_drewN (Below.refl _ _) _)⟩
      · have c3' : (l0.all fun row => decide (row.length = l0.length)) = false := by simpa using c3
        rw [c3'] at hfirst
        have hr2 : false = r := by
          rw [← h']
          simp [maskB, c3']
        clear h' c3 c3'
        subst hr2
        have HF := Aside0.mk hfirst
        have HBB := Aside0.mk HB
        clear hfirst hr0 hc0 HB
        go_enter Try.func36, Try.ntmps36
        go_wp2_with (first | (go_at_call 76; refine HF.out.mono ?_; rintro e w1 ⟨rfl, hb1⟩) | go_in)
        go_ret
        exact ⟨rfl, below_then HBB.out HBB.out.size hb1⟩
    · have h2 : false = r := by simpa [c1, c2] using h'
      clear h'
      subst h2
      have i1 : 1 ≤ (l0.length : Int) := by omega
      have i2 : ¬ (l0.length : Int) ≤ 8 := by omega
      have HB' := Aside0.mk HB
      clear HB hr0
      go_enter Try.func36, Try.ntmps36
      go_wp2
      go_ret
      exact ⟨rfl, HB'.out⟩
  · have h2 : false = r := by simpa [c1] using h'
    clear h'
    subst h2
    have i1 : ¬ 1 ≤ (l0.length : Int) := by omega
    have HB' := Aside0.mk HB
    clear HB hr0
    go_enter Try.func36, Try.ntmps36
    go_wp2
    go_ret
    exact ⟨rfl, HB'.out⟩

end Go.Proofs.Ytamjcfdjcagjmaa.P
