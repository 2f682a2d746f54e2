-- written by a program of this session (gprint.py), which calls the kit's print
import Derived.Test.YtamjcfdjcagjmaaPx0
import Derived.Test.YtamjcfdjcagjmaaPx1
import Derived.Test.YtamjcfdjcagjmaaPx7
namespace Go.Proofs.Ytamjcfdjcagjmaa.P
open Go.RowKit Go.Proofs.YtamjcfdjcagjmaaW.PrintWords Go.Proofs.YtamjcfdjcagjmaaW.PrintLast Go.Proofs.YtamjcfdjcagjmaaW.PrintMore
attribute [local go_sem] max2_int min2_int max_two min_two max_three min_three max_four min_four   -- for this text's walks alone
set_option linter.unusedVariables false
set_option linter.unusedSimpArgs false

/-! ### impl_IsMask: function 36 -/
/-- Rising numbers from 0 to less than n, told plainly. -/
def isSetB (l : List Int) (n : Int) : Bool := (List.range l.length).all fun i => decide (0 ≤ rd l (i : Nat)) && decide (rd l (i : Nat) ≤ n - 1) && (decide (i = 0) || decide (rd l ((i - 1 : Nat)) < rd l (i : Nat)))
theorem within_val (a b c : Int) : impl_within.f a b c = some (decide (b ≤ a) && decide (a ≤ c)) := by
  unfold impl_within.f
  by_cases h : b ≤ a <;> by_cases h2 : a ≤ c <;> simp [h, h2]
theorem wrap_id {x : Int} (h0 : -9223372036854775808 ≤ x) (h1 : x ≤ 9223372036854775807) : wrap64 x = x := by
  unfold wrap64
  omega
theorem isSet_loop (l : List Int) (n : Int) (hl : l.length ≤ 9223372036854775807) (hn0 : 0 ≤ n) (hn1 : n ≤ 9223372036854775807) (d : Nat) : ∀ (k i : Nat), l.length - i = d → i ≤ l.length → d < k →
    impl_isSet.l0 k l n l (l.length : Int) (i : Int) = some ((List.range' i (l.length - i)).all fun i => decide (0 ≤ rd l (i : Nat)) && decide (rd l (i : Nat) ≤ n - 1) && (decide (i = 0) || decide (rd l ((i - 1 : Nat)) < rd l (i : Nat)))) := by
  induction d with
  | zero =>
    intro k i hd hi hk
    obtain ⟨k, rfl⟩ : ∃ m, k = m + 1 := ⟨k - 1, by omega⟩
    simp only [impl_isSet.l0]
    rw [if_neg (by omega), hd]
    rfl
  | succ d ih =>
    intro k i hd hi hk
    obtain ⟨k, rfl⟩ : ∃ m, k = m + 1 := ⟨k - 1, by omega⟩
    have hlt : i < l.length := by omega
    simp only [impl_isSet.l0]
    rw [if_pos (by omega), if_pos (by omega), if_pos (by omega), within_val, wrap_id (x := n - 1) (by omega) (by omega), hd, List.range'_succ, List.all_cons]
    simp only [Option.bind_some]
    have hnext := ih k (i + 1) (by omega) (by omega) (by omega)
    rw [show l.length - (i + 1) = d by omega] at hnext
    have hw : wrap64 ((i : Int) + 1) = ((i + 1 : Nat) : Int) := by rw [wrap_id (by omega) (by omega)]; omega
    rw [hw, hnext]
    by_cases c1 : 0 ≤ rd l (i : Nat)
    · by_cases c2 : rd l (i : Nat) ≤ n - 1
      · rw [if_pos (by simp [c1, c2])]
        by_cases c3 : i = 0
        · subst c3
          rw [if_neg (by simp)]
          simp [c1, c2]
          exact fun _ => ⟨c1, c2⟩
        · rw [if_pos (by omega), wrap_id (x := (i : Int) - 1) (by omega) (by omega), if_pos (by omega), if_pos (by omega)]
          have e : (i : Int) - 1 = ((i - 1 : Nat) : Int) := by omega
          rw [e]
          by_cases c4 : rd l (i : Nat) ≤ rd l ((i - 1 : Nat))
          · rw [if_pos c4]
            have : ¬ rd l ((i - 1 : Nat)) < rd l (i : Nat) := by omega
            simp [c1, c2, c3, this]
          · rw [if_neg c4]
            have : rd l ((i - 1 : Nat)) < rd l (i : Nat) := by omega
            simp [c1, c2, c3, this]
      · rw [if_neg (by simp [c1, c2])]
        simp [c1, c2]
    · rw [if_neg (by simp [c1])]
      simp [c1]
theorem isSet_val (l : List Int) (n : Int) (hl : l.length ≤ 9223372036854775807) (hn0 : 0 ≤ n) (hn1 : n ≤ 9223372036854775807) : impl_isSet.f (l.length + 1) l n = some (isSetB l n) := by
  unfold impl_isSet.f
  rw [show (0 : Int) = ((0 : Nat) : Int) from rfl, isSet_loop l n hl hn0 hn1 l.length (l.length + 1) 0 (by omega) (by omega) (by omega)]
  unfold isSetB
  rw [List.range_eq_range']
  simp
def maskB (l0 : List (List Int)) : Bool := (l0.all fun row => decide (row.length = l0.length)) && isSetB (l0.flatten.mergeSort fun x y => decide (x ≤ y)) ((l0.length : Int) * (l0.length : Int))
def impl_IsMask.f (l0 : List (List Int)) : Option (Bool) := some (decide (1 ≤ l0.length) && decide (l0.length ≤ 8) && maskB l0)
theorem impl_IsMask.clos (Ar : Option Addr) (cr n : Nat) (row : List Int) (b1 : Nat) (W : World) (h1 : W.cell? ⟨b1, 0, none⟩ = some (.int .i64 n)) (hcr : row.length ≤ cr) :
    Calls Try.prog 77 #[.slice Ar row.length cr, .pointer (some ⟨b1, 0, none⟩)] W fun e w' => e = .returned (.bool (!decide (row.length = n))) ∧ Drawn0 W w' := by
  have hb : ((row.length : Int) != (n : Int)) = !decide (row.length = n) := by
    rw [Bool.eq_iff_iff, bne_iff_ne, Bool.not_eq_true', decide_eq_false_iff_not]
    omega
  have HB := Aside0.mk hb
  clear hb
  have sz : ∀ (w : World), Calls Try.prog 52 #[.slice Ar row.length cr] w fun e w' => e = .returned (.int .i64 row.length) ∧ w' = w := by
    intro w
    go_enter Try.func52, Try.ntmps52
    go_wp2
    go_ret
    exact ⟨rfl, rfl⟩
  have SZ := Aside0.mk sz
  clear sz
  go_enter Try.func77, Try.ntmps77
  go_wp2
  go_quiet ((go_at_call 52; exact Calls.quiet_of_same (SZ.out _)))
  go_wp2
  go_ret
  exact ⟨by rw [← HB.out]; rfl, by repeat (first | exact Drawn0.refl _ | apply Drawn0.step)⟩
set_option maxHeartbeats 400000 in
theorem impl_IsMask_idx (A : Option Addr) (n c : Nat) (v : Nat → Value) (p : Nat → Bool) (lb : Array Value)
    (w : World) (hbig : n ≤ 9223372036854775807)
    (hc : 0 < n → ∃ ad, A = some ad ∧ ∀ j, j < n → w.cell? (ad.add j) = some (v j))
    (hp : ∀ j, j < n → ∀ W, Below w.heap.size w W → Calls Try.prog 77 (#[v j] ++ lb) W fun e w' => e = .returned (.bool (p j)) ∧ Below w.heap.size w w') :
    Calls Try.prog 101 #[.slice A n c, .func (.func 77) #[] lb] w (IdxPost p n w) := by
  have HC := Aside0.mk hc
  have HP := Aside0.mk hp
  clear hc hp
  go_enter Try.func101, Try.ntmps101
  go_wp2
  go_loopg [5, 8] n (fun gg _ s8 wr => ∃ kk : Nat, kk ≤ n ∧ n - kk ≤ gg ∧ s8 = .int .i64 kk ∧ Aside0 (Below w.heap.size w wr) ∧ Aside0 (∀ j, j < kk → p j = false))
  case atStart => exact ⟨0, Nat.zero_le _, by omega, rfl, ⟨Below.refl _ w⟩, ⟨fun j hj => absurd hj (Nat.not_lt_zero _)⟩⟩
  case round =>
    obtain ⟨kk, hkk, hg, rfl, BW, AF⟩ := hrel
    by_cases hlt : kk < n
    · have hltz : (kk : Int) < (n : Int) := by omega
      obtain ⟨ad, rfl, had⟩ := HC.out (by omega)
      have hcell := pw_cell_below BW.out (had kk hlt)
      have hcall := HP.out kk hlt wr BW.out
      clear had
      generalize hy : v kk = y at hcell hcall
      clear hy
      cases hq : p kk with
      | true =>
        rw [hq] at hcall
        have HQ := Aside0.mk hq
        have HCALL := Aside0.mk hcall
        clear hq hcall
        go_wp2_with (go_at_call 77; refine HCALL.out.mono ?_; rintro e w' ⟨rfl, hb'⟩)
        go_ret
        exact ⟨_, rfl, .inl ⟨kk, hlt, rfl, HQ.out, AF.out⟩, hb'⟩
      | false =>
        rw [hq] at hcall
        have HQ := Aside0.mk hq
        have HCALL := Aside0.mk hcall
        clear hq hcall
        go_wp2_with (go_at_call 77; refine HCALL.out.mono ?_; rintro e w' ⟨rfl, hb'⟩)
        go_roundg (n - (kk + 1))
        case measure => omega
        case rel =>
          refine ⟨kk + 1, by omega, by omega, by go_num, ⟨hb'⟩, ⟨fun j hj => ?_⟩⟩
          by_cases e : j = kk
          · subst e
            exact HQ.out
          · exact AF.out j (by omega)
    · have hltz : ¬ (kk : Int) < (n : Int) := by omega
      have : kk = n := by omega
      subst this
      go_wp2
      go_ret
      exact ⟨_, rfl, .inr ⟨rfl, AF.out⟩, BW.out⟩
set_option maxHeartbeats 400000 in
theorem impl_IsMask_any (A : Option Addr) (n c : Nat) (v : Nat → Value) (p : Nat → Bool) (lb : Array Value)
    (w : World) (hbig : n ≤ 9223372036854775807)
    (hc : 0 < n → ∃ ad, A = some ad ∧ ∀ j, j < n → w.cell? (ad.add j) = some (v j))
    (hp : ∀ j, j < n → ∀ W, Below w.heap.size w W → Calls Try.prog 77 (#[v j] ++ lb) W fun e w' => e = .returned (.bool (p j)) ∧ Below w.heap.size w w') :
    Calls Try.prog 76 #[.slice A n c, .func (.func 77) #[] lb] w (AnyPost p n w) := by
  have hcon := impl_IsMask_idx A n c v p lb w hbig hc hp
  clear hc hp
  go_enter Try.func76, Try.ntmps76
  go_wp2_with (go_at_call 101; refine hcon.mono ?_; rintro e w' ⟨r, rfl, hf, hb'⟩; have HF := Aside0.mk hf; clear hf)
  go_ret
  exact ⟨by rw [← anyOf_hit HF.out]; rfl, hb'⟩
theorem impl_IsMask.first (A0 : Option Addr) (c0 : Nat) (l0 : List (List Int)) (w : World) (hr0 : Kd.C (Kd.slice 2 (Kd.int .i64)) w A0 l0.length l0) (b1 : Nat) (W : World) (hW : Below w.heap.size w W)
    (h1 : W.cell? ⟨b1, 0, none⟩ = some (.int .i64 l0.length)) :
    Calls Try.prog 76 #[.slice A0 l0.length c0, .func (.func 77) #[] #[.pointer (some ⟨b1, 0, none⟩)]] W fun e w' => e = .returned (.bool (!l0.all fun row => decide (row.length = l0.length))) ∧ Below W.heap.size W w' := by
  have hrW := Kd.C_below hr0 hW
  obtain ⟨v, hv, hv2⟩ := rows_vals hrW
  have hcon := impl_IsMask_any A0 l0.length c0 v (fun j => !decide ((rdR l0 j).length = l0.length))
    #[.pointer (some ⟨b1, 0, none⟩)] W (Kd.C_max hr0) hv
    (fun j hj W' hW' => by
      obtain ⟨Aj, cj, e, hl, hC⟩ := hv2 j hj
      rw [e]
      exact (impl_IsMask.clos Aj cj l0.length (rdR l0 j) b1 W' (pw_cell_below hW' h1) hl).mono fun e w' hh => ⟨hh.1, below_then hW' hW'.size (Drawn0.below hh.2)⟩)
  refine hcon.mono fun e w' hh => ⟨hh.1.trans ?_, hh.2⟩
  have := all_rangeR l0 fun row => decide (row.length = l0.length)
  rw [← this, Bool.not_not]
theorem flat_len (l0 : List (List Int)) (n : Nat) (h : ∀ row ∈ l0, row.length = n) : l0.flatten.length = l0.length * n := by
  induction l0 with
  | nil => simp
  | cons x xs ih =>
    rw [List.flatten_cons, List.length_append, ih (fun row hr => h row (List.mem_cons_of_mem _ hr)), h x List.mem_cons_self, List.length_cons, Nat.succ_mul]
    omega
set_option maxRecDepth 100000 in
set_option maxHeartbeats 2000000 in
theorem impl_IsMask.calls (A0 : Option Addr) (c0 : Nat) (l0 : List (List Int)) (r : Bool) (w : World) (hr0 : Kd.C (Kd.slice 2 (Kd.int .i64)) w A0 l0.length l0) (hc0 : l0.length ≤ c0) (h : impl_IsMask.f l0 = some r) :
    Calls Try.prog 36 #[.slice A0 l0.length c0] w fun e w' => e = .returned (.bool r) ∧ Below w.heap.size w w' := by
  have h' := Option.some.inj h
  clear h
  have HB : Below w.heap.size w (w.alloc (.cells #[.int .i64 l0.length] 2)) := (Below.refl _ _).alloc (Nat.le_refl _) _
  by_cases c1 : 1 ≤ l0.length
  · by_cases c2 : l0.length ≤ 8
    · have hfirst := impl_IsMask.first A0 c0 l0 w hr0 w.heap.size (w.alloc (.cells #[.int .i64 l0.length] 2)) HB (by simp)
      have i1 : 1 ≤ (l0.length : Int) := by omega
      have i2 : (l0.length : Int) ≤ 8 := by omega
      by_cases c3 : (l0.all fun row => decide (row.length = l0.length)) = true
      · rw [c3] at hfirst
        have hr2 : isSetB (l0.flatten.mergeSort fun x y => decide (x ≤ y)) ((l0.length : Int) * (l0.length : Int)) = r := by
          rw [← h']
          simp [c1, c2, maskB, c3]
        have hfl : l0.flatten.length = l0.length * l0.length := flat_len l0 l0.length (fun row hr => of_decide_eq_true (List.all_eq_true.1 c3 row hr))
        have hsq : l0.length * l0.length ≤ 64 := Nat.mul_le_mul c2 c2
        have hconc : slices_Concat_int64.f l0 = some l0.flatten := by unfold slices_Concat_int64.f; rw [if_pos (by omega)]
        have hmlen : (l0.flatten.mergeSort fun x y => decide (x ≤ y)).length = l0.flatten.length := List.length_mergeSort _
        have hset := isSet_val (l0.flatten.mergeSort fun x y => decide (x ≤ y)) ((l0.length : Int) * (l0.length : Int)) (by omega) (Int.mul_nonneg (by omega) (by omega)) (by have : (l0.length : Int) * (l0.length : Int) ≤ 8 * 8 := Int.mul_le_mul i2 i2 (by omega) (by omega); omega)
        rw [hr2] at hset
        obtain ⟨ss, hss⟩ : ∃ ss, ss = l0.flatten.mergeSort fun x y => decide (x ≤ y) := ⟨_, rfl⟩
        rw [← hss] at hset
        have HSS := Aside0.mk hss
        clear hss
        have m0 : 0 ≤ (l0.length : Int) * (l0.length : Int) := Int.mul_nonneg (by omega) (by omega)
        have m1 : (l0.length : Int) * (l0.length : Int) ≤ 64 := by have : (l0.length : Int) * (l0.length : Int) ≤ 8 * 8 := Int.mul_le_mul i2 i2 (by omega) (by omega); omega
        have HF := Aside0.mk hfirst
        have HCO := Aside0.mk hconc
        have HSE := Aside0.mk hset
        have HML := Aside0.mk hmlen
        have HFL := Aside0.mk hfl
        have HSQ := Aside0.mk hsq
        have HR0 := Aside0.mk hr0
        have HC0 := Aside0.mk hc0
        have HBB := Aside0.mk HB
        clear hfirst hconc hset hmlen hfl hsq hr0 hc0 HB h' hr2 c3
        go_enter Try.func36, Try.ntmps36
        go_wp2_with (first | (go_at_call 76; refine HF.out.mono ?_; rintro e w1 ⟨rfl, hb1⟩; have HB1 := Aside0.mk hb1; have HBW1 := Aside0.mk (below_then HBB.out HBB.out.size hb1); have hbox : w1.cell? ⟨w.heap.size, 0, none⟩ = some (.int .i64 l0.length) := pw_cell_below hb1 (by simp); clear hb1) | (go_at_call 78; refine (slices_Concat_int64.calls A0 c0 l0 l0.flatten _ (Kd.C_below HR0.out HBW1.out) HC0.out HCO.out).mono ?_; rintro e w2 ⟨v2, rfl, hR2, hb2⟩; have HR2 := Aside0.mk hR2; have HB2 := Aside0.mk hb2; clear hR2 hb2) | (go_at_call 79; refine (slices_Sort_int64.own w1.heap.size v2 l0.flatten (fun _ => True) w1 _ HR2.out HB2.out HB2.out.size (by have := HFL.out; have := HSQ.out; omega)).mono ?_; rintro e w3 ⟨rfl, hR3, hg3, hb3⟩; rw [← HSS.out] at hR3; clear hg3; have hbox3 : w3.cell? ⟨w.heap.size, 0, none⟩ = some (.int .i64 l0.length) := pw_cell_below hb3 hbox; obtain ⟨A3, d3, e3, hl3, hC3⟩ := Kd.R_reads hR3; subst e3; have HC3 := Aside0.mk hC3; have HL3 := Aside0.mk hl3; have HB3 := Aside0.mk (below_then HBW1.out HBW1.out.size hb3); clear hC3 hl3 hb3 hR3) | (go_at_call 80; refine (impl_isSet.calls _ A3 d3 _ _ r _ HC3.out HL3.out HSE.out).mono ?_; rintro e w4 ⟨rfl, ⟨nd, rfl⟩⟩) | go_in)
        go_ret
        exact ⟨rfl, below_then HB3.out HB3.out.size (by first | exact Below.refl _ _ | exact pw_below_drewN (Below.refl _ _) _)⟩
      · have c3' : (l0.all fun row => decide (row.length = l0.length)) = false := by simpa using c3
        rw [c3'] at hfirst
        have hr2 : false = r := by
          rw [← h']
          simp [maskB, c3']
        clear h' c3 c3'
        subst hr2
        have HF := Aside0.mk hfirst
        have HBB := Aside0.mk HB
        clear hfirst hr0 hc0 HB
        go_enter Try.func36, Try.ntmps36
        go_wp2_with (first | (go_at_call 76; refine HF.out.mono ?_; rintro e w1 ⟨rfl, hb1⟩) | go_in)
        go_ret
        exact ⟨rfl, below_then HBB.out HBB.out.size hb1⟩
    · have h2 : false = r := by simpa [c1, c2] using h'
      clear h'
      subst h2
      have i1 : 1 ≤ (l0.length : Int) := by omega
      have i2 : ¬ (l0.length : Int) ≤ 8 := by omega
      have HB' := Aside0.mk HB
      clear HB hr0
      go_enter Try.func36, Try.ntmps36
      go_wp2
      go_ret
      exact ⟨rfl, HB'.out⟩
  · have h2 : false = r := by simpa [c1] using h'
    clear h'
    subst h2
    have i1 : ¬ 1 ≤ (l0.length : Int) := by omega
    have HB' := Aside0.mk HB
    clear HB hr0
    go_enter Try.func36, Try.ntmps36
    go_wp2
    go_ret
    exact ⟨rfl, HB'.out⟩

/-! ### impl_SpreadOf: function 35 -/
def wayD (a b : Int) : Int := if wrap64 (a - b) < wrap64 (b - a) then wrap64 (b - a) else wrap64 (a - b)
def wayI (n a b : Int) : Int := if wrap64 (n - wayD a b) < wayD a b then wrap64 (n - wayD a b) else wayD a b
theorem impl_SpreadOf.clos (n a b : Int) (b1 : Nat) (W : World) (h1 : W.cell? ⟨b1, 0, none⟩ = some (.int .i64 n)) :
    Calls Try.prog 75 #[.int .i64 a, .int .i64 b, .pointer (some ⟨b1, 0, none⟩)] W fun e w' => e = .returned (.int .i64 (wayI n a b)) ∧ w' = W := by
  by_cases q1 : wrap64 (a - b) < wrap64 (b - a)
  · have hd : wayD a b = wrap64 (b - a) := if_pos q1
    by_cases q2 : wrap64 (n - wrap64 (b - a)) < wrap64 (b - a)
    · have hw : wayI n a b = wrap64 (n - wrap64 (b - a)) := by unfold wayI; rw [hd, if_pos q2]
      rw [hw]
      clear hw hd
      go_enter Try.func75, Try.ntmps75
      go_wp2
      go_ret
      exact ⟨rfl, rfl⟩
    · have hw : wayI n a b = wrap64 (b - a) := by unfold wayI; rw [hd, if_neg q2]
      rw [hw]
      clear hw hd
      go_enter Try.func75, Try.ntmps75
      go_wp2
      go_ret
      exact ⟨rfl, rfl⟩
  · have hd : wayD a b = wrap64 (a - b) := if_neg q1
    by_cases q2 : wrap64 (n - wrap64 (a - b)) < wrap64 (a - b)
    · have hw : wayI n a b = wrap64 (n - wrap64 (a - b)) := by unfold wayI; rw [hd, if_pos q2]
      rw [hw]
      clear hw hd
      go_enter Try.func75, Try.ntmps75
      go_wp2
      go_ret
      exact ⟨rfl, rfl⟩
    · have hw : wayI n a b = wrap64 (a - b) := by unfold wayI; rw [hd, if_neg q2]
      rw [hw]
      clear hw hd
      go_enter Try.func75, Try.ntmps75
      go_wp2
      go_ret
      exact ⟨rfl, rfl⟩
def spreadRow (row : List Int) (i : Nat) (cnt : Int) (k : Nat) : List (Int × Int) := (List.range k).filterMap fun k => if rd row (k : Nat) < cnt then some ((i : Int), (k : Int)) else none
def spreadPl (l0 : List (List Int)) (cnt : Int) (i : Nat) : List (Int × Int) := (List.range i).flatMap fun i => spreadRow (rdR l0 i) i cnt (rdR l0 i).length
def rdP (xs : List (Int × Int)) (j : Nat) : Int × Int := xs.getD j (0, 0)
def spreadD (n : Int) (p q : Int × Int) : Int := wrap64 (wrap64 (wayI n p.1 q.1 * wayI n p.1 q.1) + wrap64 (wayI n p.2 q.2 * wayI n p.2 q.2))
def spreadIn (n : Int) (ps : List (Int × Int)) (p : Int × Int) (m : Nat) (b : Int) : Int := (List.range m).foldl (fun b k => if spreadD n p (rdP ps k) < b then spreadD n p (rdP ps k) else b) b
def spreadOut (n : Int) (ps : List (Int × Int)) (m : Nat) (b : Int) : Int := (List.range m).foldl (fun b j => spreadIn n ps (rdP ps j) j b) b
theorem spreadRow_succ (row : List Int) (i : Nat) (cnt : Int) (k : Nat) : spreadRow row i cnt (k + 1) = if rd row (k : Nat) < cnt then spreadRow row i cnt k ++ [((i : Int), (k : Int))] else spreadRow row i cnt k := by
  unfold spreadRow
  rw [List.range_succ, List.filterMap_append]
  by_cases h : rd row (k : Nat) < cnt <;> simp [h]
theorem spreadRow_len (row : List Int) (i : Nat) (cnt : Int) (k : Nat) : (spreadRow row i cnt k).length ≤ k := by
  unfold spreadRow
  exact Nat.le_trans (List.length_filterMap_le _ _) (by simp)
theorem spreadPl_succ (l0 : List (List Int)) (cnt : Int) (i : Nat) : spreadPl l0 cnt (i + 1) = spreadPl l0 cnt i ++ spreadRow (rdR l0 i) i cnt (rdR l0 i).length := by
  unfold spreadPl
  rw [List.range_succ, List.flatMap_append]
  simp
theorem spreadPl_len (l0 : List (List Int)) (cnt : Int) (m : Nat) (h : ∀ j, j < l0.length → (rdR l0 j).length ≤ m) (i : Nat) (hi : i ≤ l0.length) : (spreadPl l0 cnt i).length ≤ i * m := by
  induction i with
  | zero => simp [spreadPl]
  | succ i ih =>
    rw [spreadPl_succ, List.length_append]
    have h1 := ih (by omega)
    have h2 := spreadRow_len (rdR l0 i) i cnt (rdR l0 i).length
    have h3 := h i (by omega)
    rw [Nat.succ_mul]
    omega
theorem spreadIn_succ (n : Int) (ps : List (Int × Int)) (p : Int × Int) (m : Nat) (b : Int) : spreadIn n ps p (m + 1) b = if spreadD n p (rdP ps m) < spreadIn n ps p m b then spreadD n p (rdP ps m) else spreadIn n ps p m b := by
  unfold spreadIn
  rw [List.range_succ, List.foldl_append]
  rfl
theorem spreadOut_zero (n : Int) (ps : List (Int × Int)) (b : Int) : spreadOut n ps 0 b = b := rfl
theorem spreadIn_zero (n : Int) (ps : List (Int × Int)) (p : Int × Int) (b : Int) : spreadIn n ps p 0 b = b := rfl
theorem spreadOut_succ (n : Int) (ps : List (Int × Int)) (m : Nat) (b : Int) : spreadOut n ps (m + 1) b = spreadIn n ps (rdP ps m) m (spreadOut n ps m b) := by
  unfold spreadOut
  rw [List.range_succ, List.foldl_append]
  rfl
def impl_SpreadOf.f (l0 : List (List Int)) (a1 : Int) : Option (Int × Bool) := some (if (decide (1 ≤ l0.length) && decide (l0.length ≤ 8) && maskB l0) && (decide (2 ≤ a1) && decide (a1 ≤ wrap64 ((l0.length : Int) * (l0.length : Int)))) then (spreadOut l0.length (spreadPl l0 a1 l0.length) (spreadPl l0 a1 l0.length).length (wrap64 (2 * (l0.length : Int) * (l0.length : Int))), true) else (0, false))
/-- Pairs, read. -/
theorem at_pairs {w : World} {A : Option Addr} {n : Nat} {xs : List (Int × Int)} (h : Kd.C (Kd.pair (Kd.int .i64) (Kd.int .i64)) w A n xs) (j : Nat) (hj : j < n) : ∃ ad, A = some ad ∧ w.cell? (ad.add (j * 2)) = some (.int .i64 (rdP xs j).1) ∧ w.cell? ⟨(ad.add (j * 2)).block, (ad.add (j * 2)).off + 1, none⟩ = some (.int .i64 (rdP xs j).2) := by
  obtain ⟨ad, c, e, _, hK, hc0⟩ := Kd.C_get h ((0, 0) : Int × Int) (j : Int) (by omega) (by omega)
  have hc : ∀ i u, c[i]? = some u → w.cell? (ad.add ((j : Int).toNat * 2 + i)) = some u := hc0
  obtain ⟨c0, c1, rfl, hA, hB⟩ := hK
  obtain rfl : c0 = [_] := hA
  obtain rfl : c1 = [_] := hB
  refine ⟨ad, e, by have hq := hc 0 _ rfl; simpa [rdP] using hq, ?_⟩
  rw [← add_field _ _ 1 (by omega)]
  have hq := hc 1 _ rfl
  simpa [rdP] using hq
theorem impl_SpreadOf.bad1 (A0 : Option Addr) (c0 : Nat) (l0 : List (List Int)) (a1 : Int) (w : World) (hr0 : Kd.C (Kd.slice 2 (Kd.int .i64)) w A0 l0.length l0) (hc0 : l0.length ≤ c0) (hm : impl_IsMask.f l0 = some false) :
    Calls Try.prog 35 #[.slice A0 l0.length c0, .int .i64 a1] w fun e w' => e = .returned (.tuple #[.int .i64 0, .bool false]) ∧ Below w.heap.size w w' := by
  have HBB := Aside0.mk ((Below.refl w.heap.size w).alloc (Nat.le_refl _) (.cells #[.int .i64 l0.length] 2))
  have HR0 := Aside0.mk hr0
  have HC0 := Aside0.mk hc0
  have HM := Aside0.mk hm
  clear hr0 hc0 hm
  go_enter Try.func35, Try.ntmps35
  go_wp2_with (first | (go_at_call 36; refine (impl_IsMask.calls A0 c0 l0 false _ (Kd.C_below HR0.out HBB.out) HC0.out HM.out).mono ?_; rintro e w1 ⟨rfl, hb1⟩; have HB1 := Aside0.mk hb1; clear hb1) | go_in)
  go_ret2
  exact ⟨rfl, below_then HBB.out HBB.out.size HB1.out⟩
theorem impl_SpreadOf.bad2 (A0 : Option Addr) (c0 : Nat) (l0 : List (List Int)) (a1 : Int) (w : World) (hr0 : Kd.C (Kd.slice 2 (Kd.int .i64)) w A0 l0.length l0) (hc0 : l0.length ≤ c0) (hm : impl_IsMask.f l0 = some true) (hw : impl_within.f a1 2 (wrap64 ((l0.length : Int) * (l0.length : Int))) = some false) :
    Calls Try.prog 35 #[.slice A0 l0.length c0, .int .i64 a1] w fun e w' => e = .returned (.tuple #[.int .i64 0, .bool false]) ∧ Below w.heap.size w w' := by
  have HBB := Aside0.mk ((Below.refl w.heap.size w).alloc (Nat.le_refl _) (.cells #[.int .i64 l0.length] 2))
  have HR0 := Aside0.mk hr0
  have HC0 := Aside0.mk hc0
  have HM := Aside0.mk hm
  have HW := Aside0.mk hw
  clear hr0 hc0 hm hw
  go_enter Try.func35, Try.ntmps35
  go_wp2_with (first | (go_at_call 36; refine (impl_IsMask.calls A0 c0 l0 true _ (Kd.C_below HR0.out HBB.out) HC0.out HM.out).mono ?_; rintro e w1 ⟨rfl, hb1⟩; have hbox : w1.cell? ⟨w.heap.size, 0, none⟩ = some (.int .i64 l0.length) := pw_cell_below hb1 (by simp); have HB1 := Aside0.mk hb1; clear hb1) | (go_at_call 47; refine (impl_within.calls _ _ _ false _ HW.out).mono ?_; rintro e w2 ⟨rfl, ⟨nd, rfl⟩⟩) | go_in)
  go_ret2
  exact ⟨rfl, below_then HBB.out HBB.out.size (by first | exact HB1.out | exact pw_below_drewN HB1.out _)⟩
theorem spread_info : (Try.prog.info? 95).map (fun i => (i.zero, i.size, i.bytes)) = some (some (.agg #[.int .i64 0, .int .i64 0]), 2, 16) := by kernel_rfl
set_option maxRecDepth 100000 in
set_option maxHeartbeats 4000000 in
theorem impl_SpreadOf.good (A0 : Option Addr) (c0 : Nat) (l0 : List (List Int)) (a1 : Int) (w : World) (hr0 : Kd.C (Kd.slice 2 (Kd.int .i64)) w A0 l0.length l0) (hc0 : l0.length ≤ c0) (hm : impl_IsMask.f l0 = some true) (hw : impl_within.f a1 2 (wrap64 ((l0.length : Int) * (l0.length : Int))) = some true)
    (h8 : l0.length ≤ 8) (hall : ∀ j, j < l0.length → (rdR l0 j).length ≤ l0.length) (r : Int) (hres : spreadOut l0.length (spreadPl l0 a1 l0.length) (spreadPl l0 a1 l0.length).length (wrap64 (2 * (l0.length : Int) * (l0.length : Int))) = r) :
    Calls Try.prog 35 #[.slice A0 l0.length c0, .int .i64 a1] w fun e w' => e = .returned (.tuple #[.int .i64 r, .bool true]) ∧ Below w.heap.size w w' := by
  have HBB := Aside0.mk ((Below.refl w.heap.size w).alloc (Nat.le_refl _) (.cells #[.int .i64 l0.length] 2))
  have HR0 := Aside0.mk hr0
  have HC0 := Aside0.mk hc0
  have HM := Aside0.mk hm
  have HW := Aside0.mk hw
  have H8 := Aside0.mk h8
  have HA := Aside0.mk hall
  have HRES := Aside0.mk hres
  clear hr0 hc0 hm hw h8 hall hres
  go_enter Try.func35, Try.ntmps35
  go_wp2_with (first | (go_at_call 36; refine (impl_IsMask.calls A0 c0 l0 true _ (Kd.C_below HR0.out HBB.out) HC0.out HM.out).mono ?_; rintro e w1 ⟨rfl, hb1⟩; have hbox : w1.cell? ⟨w.heap.size, 0, none⟩ = some (.int .i64 l0.length) := pw_cell_below hb1 (by simp); have HB1 := Aside0.mk hb1; clear hb1) | (go_at_call 47; refine (impl_within.calls _ _ _ true _ HW.out).mono ?_; rintro e w2 ⟨rfl, ⟨nd, rfl⟩⟩) | ((with_reducible refine gate_dst (N := 33) rfl ?_); refine Kd.R_lit (Kd.pair (Kd.int .i64) (Kd.int .i64)) (w0 := w.alloc (.cells #[.int .i64 l0.length] 2)) (w.alloc (.cells #[.int .i64 l0.length] 2)).heap.size 95 rfl (N := 33) rfl (xs := ([] : List (Int × Int))) (inner := []) (ok := fun _ => True) (okp := fun _ => True) (by first | (go_simp; done) | (go_simp; rfl)) (Reps.none _ _) (fun _ hk => hk) trivial (pw_below_drewN HB1.out _) (pw_below_drewN HB1.out _).size (by simp) ?_; intro v1 w2 h1 hb2 _ _; have HO := Aside0.mk h1; have HB := Aside0.mk hb2; clear h1 hb2) | go_in)
  have H8' := H8.out
  go_loopg [7, 8, 9, 10, 11, 36] l0.length (fun gg v7 _ _ _ _ v36 w' => ∃ kk : Nat, kk ≤ l0.length ∧ l0.length - kk ≤ gg ∧ v36 = .int .i64 kk ∧ Aside0 (Kd.R (Kd.pair (Kd.int .i64) (Kd.int .i64)) 95 w' (w.alloc (.cells #[.int .i64 l0.length] 2)).heap.size (fun _ => True) v7 (spreadPl l0 a1 kk)) ∧ Aside0 (Below (w.alloc (.cells #[.int .i64 l0.length] 2)).heap.size (w.alloc (.cells #[.int .i64 l0.length] 2)) w'))
  case atStart => exact ⟨0, Nat.zero_le _, by omega, rfl, HO, HB⟩
  case round =>
    clear HO HB
    obtain ⟨kk, hkk, hg, rfl, HO, HB⟩ := hrel
    by_cases hlt : kk < l0.length
    · have hltz : (kk : Int) < (l0.length : Int) := by omega
      obtain ⟨ad, e0, hat⟩ := at_rows HR0.out (by omega)
      obtain ⟨A1, d1, hx0, hdx, hC1⟩ := hat kk hlt
      subst e0
      have hx := pw_cell_below (below_then HBB.out HBB.out.size HB.out) hx0
      clear hx0
      have HC := Aside0.mk hC1
      have hln := HA.out kk hlt
      clear hat hC1
      go_wp2
      go_loopg [7, 10, 11, 43] (rdR l0 kk).length (fun gg v7 _ _ v43 w' => ∃ jj : Nat, jj ≤ (rdR l0 kk).length ∧ (rdR l0 kk).length - jj ≤ gg ∧ v43 = .int .i64 jj ∧ Aside0 (Kd.R (Kd.pair (Kd.int .i64) (Kd.int .i64)) 95 w' (w.alloc (.cells #[.int .i64 l0.length] 2)).heap.size (fun _ => True) v7 (spreadPl l0 a1 kk ++ spreadRow (rdR l0 kk) kk a1 jj)) ∧ Aside0 (Below (w.alloc (.cells #[.int .i64 l0.length] 2)).heap.size (w.alloc (.cells #[.int .i64 l0.length] 2)) w'))
      case atStart => exact ⟨0, Nat.zero_le _, by omega, rfl, ⟨by have := HO.out; simpa [spreadRow] using this⟩, HB⟩
      case round =>
        clear HO HB hx
        obtain ⟨jj, hjj, hg2, rfl, HO, HB⟩ := hrel
        by_cases hlt2 : jj < (rdR l0 kk).length
        · have hltz2 : (jj : Int) < ((rdR l0 kk).length : Int) := by omega
          obtain ⟨ad2, e2, hcell⟩ := cells_of_C (Kd.C_below HC.out (below_then HBB.out HBB.out.size HB.out)) (by omega)
          subst e2
          have hy := hcell jj hlt2
          clear hcell
          by_cases hm : rd (rdR l0 kk) (jj : Nat) < a1
          · have HS := Aside0.mk ((spreadRow_succ (rdR l0 kk) kk a1 jj).trans (if_pos hm))
            have hlen : (spreadPl l0 a1 kk ++ spreadRow (rdR l0 kk) kk a1 jj).length ≤ 100 := by
              have q1 := spreadPl_len l0 a1 l0.length HA.out kk hkk
              have q2 := spreadRow_len (rdR l0 kk) kk a1 jj
              have q3 : kk * l0.length ≤ 8 * 8 := Nat.mul_le_mul (by omega) H8.out
              rw [List.length_append]
              omega
            have HLEN := Aside0.mk hlen
            clear hlen
            go_wp2_with (first | ((with_reducible refine gate_builtin (b := .append) (xs := #[.tmp 51, .tmp 55]) rfl ?_); at_builtin; refine Kd.R_append (Kd.pair (Kd.int .i64) (Kd.int .i64)) (w0 := w.alloc (.cells #[.int .i64 l0.length] 2)) (w.alloc (.cells #[.int .i64 l0.length] 2)).heap.size rfl (.tmp 51) (.tmp 55) 94 95 (.agg #[.int .i64 0, .int .i64 0]) 16 rfl Try.underlying94 spread_info rfl (by decide) (by omega) _ (spreadPl l0 a1 kk ++ spreadRow (rdR l0 kk) kk a1 jj) ((kk : Int), (jj : Int)) _ (fun _ => True) (fun _ => False) rfl rfl ⟨[_], [_], rfl, rfl, rfl⟩ (fun _ h => h.elim) (fun _ _ => trivial) HO.out HB.out HB.out.size (by have := HLEN.out; omega) ?_; intro v2 w2' h2 hb2 _ _; have HR2 := Aside0.mk h2; have HB2 := Aside0.mk hb2; clear h2 hb2))
            go_roundg ((rdR l0 kk).length - (jj + 1))
            case measure => omega
            case rel => exact ⟨jj + 1, by omega, by omega, by go_num, ⟨by rw [HS.out, ← List.append_assoc]; exact HR2.out⟩, HB2⟩
          · have HS := Aside0.mk ((spreadRow_succ (rdR l0 kk) kk a1 jj).trans (if_neg hm))
            go_wp2
            go_roundg ((rdR l0 kk).length - (jj + 1))
            case measure => omega
            case rel => exact ⟨jj + 1, by omega, by omega, by go_num, ⟨by rw [HS.out]; exact HO.out⟩, HB⟩
        · have hltz2 : ¬ (jj : Int) < ((rdR l0 kk).length : Int) := by omega
          obtain rfl : jj = (rdR l0 kk).length := by omega
          have HS := Aside0.mk (spreadPl_succ l0 a1 kk)
          go_wp2
          go_roundg (l0.length - (kk + 1))
          case measure => omega
          case rel => exact ⟨kk + 1, by omega, by omega, by go_num, ⟨by rw [HS.out]; exact HO.out⟩, HB⟩
    · have hltz : ¬ (kk : Int) < (l0.length : Int) := by omega
      obtain rfl : kk = l0.length := by omega
      have hlen := spreadPl_len l0 a1 l0.length HA.out l0.length (Nat.le_refl _)
      have hsq : l0.length * l0.length ≤ 8 * 8 := Nat.mul_le_mul H8.out H8.out
      have hO := HO.out
      have hres := HRES.out
      clear HO HRES HA
      generalize hps : spreadPl l0 a1 l0.length = ps at hO hres hlen
      have HPS := Aside0.mk hps
      clear hps
      have hp9 : ps.length ≤ 9223372036854775807 := by omega
      obtain ⟨A7, c7, rfl, hl7, hC7⟩ := Kd.R_reads hO
      have hbox' : wr.cell? ⟨w.heap.size, 0, none⟩ = some (.int .i64 l0.length) := pw_cell_below HB.out (by simp)
      have HC7 := Aside0.mk hC7
      have HL7 := Aside0.mk hl7
      have HR := Aside0.mk hres
      clear hC7 hO hl7 hlen hsq hres hbox HB1
      go_wp2
      obtain ⟨wa, hwa⟩ : ∃ x, x = wr := ⟨_, rfl⟩
      subst hwa
      go_loopg [13, 14, 15, 17, 18, 19, 66] ps.length (fun gg v13 _ _ _ _ _ v66 w' => ∃ kk : Nat, kk ≤ ps.length ∧ ps.length - kk ≤ gg ∧ v66 = .int .i64 kk ∧ v13 = .int .i64 (spreadOut l0.length ps kk (wrap64 (2 * (l0.length : Int) * (l0.length : Int)))) ∧ Aside0 (Below wa.heap.size wa w'))
      case atStart => exact ⟨0, Nat.zero_le _, by omega, rfl, by rw [spreadOut_zero], ⟨Below.refl _ _⟩⟩
      case round =>
        obtain ⟨kk, hkk, hg, rfl, rfl, HBa⟩ := hrel
        by_cases hlt : kk < ps.length
        · have hltz : (kk : Int) < (ps.length : Int) := by omega
          obtain ⟨ad, e0, hx0, hx1⟩ := at_pairs (Kd.C_below HC7.out HBa.out) kk hlt
          subst e0
          obtain ⟨wb, hwb⟩ : ∃ x, x = wr := ⟨_, rfl⟩
          subst hwb
          have hkc : kk ≤ c7 := by have := HL7.out; omega
          have HP := Aside0.mk (show Below wb.heap.size wb (wb.alloc (.cells #[.int .i64 (rdP ps kk).1, .int .i64 (rdP ps kk).2] 95)) from (Below.refl _ _).alloc (Nat.le_refl _) _)
          have hxp0 : (wb.alloc (.cells #[.int .i64 (rdP ps kk).1, .int .i64 (rdP ps kk).2] 95)).cell? ⟨wb.heap.size, 0, none⟩ = some (.int .i64 (rdP ps kk).1) := by simp
          have hxp1 : (wb.alloc (.cells #[.int .i64 (rdP ps kk).1, .int .i64 (rdP ps kk).2] 95)).cell? ⟨wb.heap.size, 1, none⟩ = some (.int .i64 (rdP ps kk).2) := by simp
          have HXP0 := Aside0.mk hxp0
          have HXP1 := Aside0.mk hxp1
          clear hxp0 hxp1
          go_wp2
          clear hx0 hx1
          go_loopg [13, 17, 18, 19, 75] kk (fun gg v13 _ _ _ v75 w' => ∃ jj : Nat, jj ≤ kk ∧ kk - jj ≤ gg ∧ v75 = .int .i64 jj ∧ v13 = .int .i64 (spreadIn l0.length ps (rdP ps kk) jj (spreadOut l0.length ps kk (wrap64 (2 * (l0.length : Int) * (l0.length : Int))))) ∧ Aside0 (Below wa.heap.size wa w') ∧ Aside0 (w'.cell? ⟨wb.heap.size, 0, none⟩ = some (.int .i64 (rdP ps kk).1)) ∧ Aside0 (w'.cell? ⟨wb.heap.size, 1, none⟩ = some (.int .i64 (rdP ps kk).2)))
          case atStart => exact ⟨0, Nat.zero_le _, by omega, rfl, by rw [spreadIn_zero], ⟨below_then HBa.out HBa.out.size HP.out⟩, HXP0, HXP1⟩
          case round =>
            clear HP HXP0 HXP1 HBa
            obtain ⟨jj, hjj, hg2, rfl, rfl, HBa, HXP0, HXP1⟩ := hrel
            by_cases hlt2 : jj < kk
            · have hltz2 : (jj : Int) < (kk : Int) := by omega
              obtain ⟨ad3, e3, hx0, hx1⟩ := at_pairs (Kd.C_below HC7.out HBa.out) jj (by omega)
              injection e3 with e3
              subst e3
              have HQ := Aside0.mk (show Below wr.heap.size wr (wr.alloc (.cells #[.int .i64 (rdP ps jj).1, .int .i64 (rdP ps jj).2] 95)) from (Below.refl _ _).alloc (Nat.le_refl _) _)
              have hq0 : (wr.alloc (.cells #[.int .i64 (rdP ps jj).1, .int .i64 (rdP ps jj).2] 95)).cell? ⟨wr.heap.size, 0, none⟩ = some (.int .i64 (rdP ps jj).1) := by simp
              have hq1 : (wr.alloc (.cells #[.int .i64 (rdP ps jj).1, .int .i64 (rdP ps jj).2] 95)).cell? ⟨wr.heap.size, 1, none⟩ = some (.int .i64 (rdP ps jj).2) := by simp
              have hp0 := pw_cell_below HQ.out HXP0.out
              have hp1 := pw_cell_below HQ.out HXP1.out
              have hn := pw_cell_below HQ.out (pw_cell_below HBa.out hbox')
              have HN := Aside0.mk hn
              clear hn
              have hsucc := spreadIn_succ l0.length ps (rdP ps kk) jj (spreadOut l0.length ps kk (wrap64 (2 * (l0.length : Int) * (l0.length : Int))))
              generalize hbv : spreadIn l0.length ps (rdP ps kk) jj (spreadOut l0.length ps kk (wrap64 (2 * (l0.length : Int) * (l0.length : Int)))) = bv at hsucc ⊢
              have HSU := Aside0.mk hsucc
              have HBV := Aside0.mk hbv
              clear hsucc hbv
              go_wp2
              clear hx0 hx1
              have hn := HN.out
              generalize hWq : wr.alloc (.cells #[.int .i64 (rdP ps jj).1, .int .i64 (rdP ps jj).2] 95) = Wq at *
              go_quiet ((go_at_call 75; exact Calls.quiet_of_same (impl_SpreadOf.clos _ _ _ _ _ (by assumption))))
              have HDD := Aside0.mk (show spreadD l0.length (rdP ps kk) (rdP ps jj) = wrap64 (wrap64 (wayI l0.length (rdP ps kk).1 (rdP ps jj).1 * wayI l0.length (rdP ps kk).1 (rdP ps jj).1) + wrap64 (wayI l0.length (rdP ps kk).2 (rdP ps jj).2 * wayI l0.length (rdP ps kk).2 (rdP ps jj).2)) from rfl)
              have HBq := Aside0.mk (below_then HBa.out HBa.out.size HQ.out)
              have HP0 := Aside0.mk hp0
              have HP1 := Aside0.mk hp1
              clear hq0 hq1 hp0 hp1 hn HQ HBa HXP0 HXP1
              generalize hxx : wayI l0.length (rdP ps kk).1 (rdP ps jj).1 = xx at HDD ⊢
              generalize hyy : wayI l0.length (rdP ps kk).2 (rdP ps jj).2 = yy at HDD ⊢
              clear hxx hyy
              go_wp2
              · go_roundg (kk - (jj + 1))
                case measure => omega
                case rel => exact ⟨jj + 1, by omega, by omega, by go_num, by rw [HSU.out, HDD.out, if_pos (by assumption)], ⟨pw_below_drewN HBq.out _⟩, ⟨by simpa using HP0.out⟩, ⟨by simpa using HP1.out⟩⟩
              · go_roundg (kk - (jj + 1))
                case measure => omega
                case rel => exact ⟨jj + 1, by omega, by omega, by go_num, by rw [HSU.out, HDD.out, if_neg (by omega)], ⟨pw_below_drewN HBq.out _⟩, ⟨by simpa using HP0.out⟩, ⟨by simpa using HP1.out⟩⟩
            · have hltz2 : ¬ (jj : Int) < (kk : Int) := by omega
              obtain rfl : jj = kk := by omega
              have HSU := Aside0.mk (spreadOut_succ l0.length ps jj (wrap64 (2 * (l0.length : Int) * (l0.length : Int))))
              go_wp2
              go_roundg (ps.length - (jj + 1))
              case measure => omega
              case rel => exact ⟨jj + 1, by omega, by omega, by go_num, by rw [HSU.out], HBa⟩
        · have hltz : ¬ (kk : Int) < (ps.length : Int) := by omega
          obtain rfl : kk = ps.length := by omega
          have hr := HR.out
          go_wp2
          go_ret2
          exact ⟨by rw [← hr]; rfl, below_then HBB.out HBB.out.size (below_then HB.out HB.out.size HBa.out)⟩
theorem impl_SpreadOf.calls (A0 : Option Addr) (c0 : Nat) (l0 : List (List Int)) (a1 : Int) (r1 : Int) (r2 : Bool) (w : World) (hr0 : Kd.C (Kd.slice 2 (Kd.int .i64)) w A0 l0.length l0) (hc0 : l0.length ≤ c0) (h : impl_SpreadOf.f l0 a1 = some (r1, r2)) :
    Calls Try.prog 35 #[.slice A0 l0.length c0, .int .i64 a1] w fun e w' => e = .returned (.tuple #[.int .i64 r1, .bool r2]) ∧ Below w.heap.size w w' := by
  have h' := Option.some.inj h
  clear h
  by_cases cm : (decide (1 ≤ l0.length) && decide (l0.length ≤ 8) && maskB l0) = true
  · have hM : impl_IsMask.f l0 = some true := by unfold impl_IsMask.f; rw [cm]
    have hW := within_val a1 2 (wrap64 ((l0.length : Int) * (l0.length : Int)))
    rw [cm] at h'
    by_cases cw : (decide (2 ≤ a1) && decide (a1 ≤ wrap64 ((l0.length : Int) * (l0.length : Int)))) = true
    · rw [cw] at hW h'
      have e1 : spreadOut l0.length (spreadPl l0 a1 l0.length) (spreadPl l0 a1 l0.length).length (wrap64 (2 * (l0.length : Int) * (l0.length : Int))) = r1 := congrArg Prod.fst h'
      have e2 : true = r2 := congrArg Prod.snd h'
      subst e2
      simp only [Bool.and_eq_true, decide_eq_true_eq, maskB, List.all_eq_true] at cm
      refine impl_SpreadOf.good A0 c0 l0 a1 w hr0 hc0 hM hW cm.1.2 (fun j hj => ?_) r1 e1
      rw [rdR_mem hj]
      exact Nat.le_of_eq (cm.2.1 _ (List.getElem_mem hj))
    · rw [Bool.not_eq_true] at cw
      rw [cw] at hW h'
      have e1 : (0 : Int) = r1 := congrArg Prod.fst h'
      have e2 : false = r2 := congrArg Prod.snd h'
      subst e1 e2
      exact impl_SpreadOf.bad2 A0 c0 l0 a1 w hr0 hc0 hM hW
  · rw [Bool.not_eq_true] at cm
    have hM : impl_IsMask.f l0 = some false := by unfold impl_IsMask.f; rw [cm]
    rw [cm] at h'
    have e1 : (0 : Int) = r1 := congrArg Prod.fst h'
    have e2 : false = r2 := congrArg Prod.snd h'
    subst e1 e2
    exact impl_SpreadOf.bad1 A0 c0 l0 a1 w hr0 hc0 hM

/-! ### laws_FnSpread: function 5 -/
def laws_FnSpread.f (l0 : List Int) (l1 : List Int) : Option (Bool) := (laws_b10Long.f l0 l1).bind fun t374 => (if t374 = true then (some true) else ((laws_b10At.f l0 0 3).bind fun t375 => ((impl_DoublingMask.f (wrap64 (1 + t375))).bind fun bt376 => (if 0 ≤ (IntKind.u64.wrap (wrap64 (1 + t375))) then ((impl_SpreadOf.f bt376.1 2).bind fun bt380 => ((laws_b10At.f l1 0 (wrap64 ((wrap64 ((shl .i64 1 (IntKind.u64.wrap (wrap64 (1 + t375)))) * (shl .i64 1 (IntKind.u64.wrap (wrap64 (1 + t375)))))) - 1))).bind fun t382 => ((impl_SpreadOf.f bt376.1 (wrap64 (2 + t382))).bind fun bt383 => ((impl_SpreadOf.f bt376.1 (wrap64 ((shl .i64 1 (IntKind.u64.wrap (wrap64 (1 + t375)))) * (shl .i64 1 (IntKind.u64.wrap (wrap64 (1 + t375))))))).bind fun bt385 => (if bt376.2 = true then (if bt380.2 = true then (if bt383.2 = true then (if bt385.2 = true then (if bt380.1 = (wrap64 (Int.tdiv (wrap64 ((shl .i64 1 (IntKind.u64.wrap (wrap64 (1 + t375)))) * (shl .i64 1 (IntKind.u64.wrap (wrap64 (1 + t375)))))) 2)) then (if bt383.1 ≤ bt380.1 then (if bt385.1 ≤ bt383.1 then (some (bt385.1 == 1)) else (some false)) else (some false)) else (some false)) else (some false)) else (some false)) else (some false)) else (some false)))))) else (none)))))
set_option maxHeartbeats 8000000 in
set_option maxRecDepth 100000 in
theorem laws_FnSpread.calls (A0 : Option Addr) (c0 : Nat) (l0 : List Int) (A1 : Option Addr) (c1 : Nat) (l1 : List Int) (r : Bool) (w : World) (hr0 : Kd.C (Kd.int .u8) w A0 l0.length l0) (hc0 : l0.length ≤ c0) (hr1 : Kd.C (Kd.int .u8) w A1 l1.length l1) (hc1 : l1.length ≤ c1) (h : laws_FnSpread.f l0 l1 = some r) :
    Calls Try.prog 5 #[.slice A0 l0.length c0, .slice A1 l1.length c1] w fun e w' => e = .returned (.bool r) ∧ Below w.heap.size w w' := by
  have HR0 := Aside0.mk hr0
  have HC0 := Aside0.mk hc0
  clear hr0 hc0
  have HR1 := Aside0.mk hr1
  have HC1 := Aside0.mk hc1
  clear hr1 hc1
  have HB := Aside0.mk (Below.refl w.heap.size w)
  have H : ((laws_b10Long.f l0 l1).bind fun t374 => (if t374 = true then (some true) else ((laws_b10At.f l0 0 3).bind fun t375 => ((impl_DoublingMask.f (wrap64 (1 + t375))).bind fun bt376 => (if 0 ≤ (IntKind.u64.wrap (wrap64 (1 + t375))) then ((impl_SpreadOf.f bt376.1 2).bind fun bt380 => ((laws_b10At.f l1 0 (wrap64 ((wrap64 ((shl .i64 1 (IntKind.u64.wrap (wrap64 (1 + t375)))) * (shl .i64 1 (IntKind.u64.wrap (wrap64 (1 + t375)))))) - 1))).bind fun t382 => ((impl_SpreadOf.f bt376.1 (wrap64 (2 + t382))).bind fun bt383 => ((impl_SpreadOf.f bt376.1 (wrap64 ((shl .i64 1 (IntKind.u64.wrap (wrap64 (1 + t375)))) * (shl .i64 1 (IntKind.u64.wrap (wrap64 (1 + t375))))))).bind fun bt385 => (if bt376.2 = true then (if bt380.2 = true then (if bt383.2 = true then (if bt385.2 = true then (if bt380.1 = (wrap64 (Int.tdiv (wrap64 ((shl .i64 1 (IntKind.u64.wrap (wrap64 (1 + t375)))) * (shl .i64 1 (IntKind.u64.wrap (wrap64 (1 + t375)))))) 2)) then (if bt383.1 ≤ bt380.1 then (if bt385.1 ≤ bt383.1 then (some (bt385.1 == 1)) else (some false)) else (some false)) else (some false)) else (some false)) else (some false)) else (some false)) else (some false)))))) else (none)))))) = some r := h
  clear h
  replace H := Option.bind_eq_some_iff.mp H
  obtain ⟨t374, A30, H⟩ := H
  replace H : (if t374 = true then (some true) else ((laws_b10At.f l0 0 3).bind fun t375 => ((impl_DoublingMask.f (wrap64 (1 + t375))).bind fun bt376 => (if 0 ≤ (IntKind.u64.wrap (wrap64 (1 + t375))) then ((impl_SpreadOf.f bt376.1 2).bind fun bt380 => ((laws_b10At.f l1 0 (wrap64 ((wrap64 ((shl .i64 1 (IntKind.u64.wrap (wrap64 (1 + t375)))) * (shl .i64 1 (IntKind.u64.wrap (wrap64 (1 + t375)))))) - 1))).bind fun t382 => ((impl_SpreadOf.f bt376.1 (wrap64 (2 + t382))).bind fun bt383 => ((impl_SpreadOf.f bt376.1 (wrap64 ((shl .i64 1 (IntKind.u64.wrap (wrap64 (1 + t375)))) * (shl .i64 1 (IntKind.u64.wrap (wrap64 (1 + t375))))))).bind fun bt385 => (if bt376.2 = true then (if bt380.2 = true then (if bt383.2 = true then (if bt385.2 = true then (if bt380.1 = (wrap64 (Int.tdiv (wrap64 ((shl .i64 1 (IntKind.u64.wrap (wrap64 (1 + t375)))) * (shl .i64 1 (IntKind.u64.wrap (wrap64 (1 + t375)))))) 2)) then (if bt383.1 ≤ bt380.1 then (if bt385.1 ≤ bt383.1 then (some (bt385.1 == 1)) else (some false)) else (some false)) else (some false)) else (some false)) else (some false)) else (some false)) else (some false)))))) else (none))))) = some r := H
  have A3 := Aside0.mk A30
  clear A30
  by_cases c4 : t374 = true
  · subst c4
    have H1 : (some true) = some r := by rw [if_pos rfl] at H; exact H
    clear H
    have H := H1
    clear H1
    obtain rfl := Option.some.inj H
    go_enter Try.func5, Try.ntmps5
    go_wp2_with (first | ((with_reducible refine gate_callee (f := 12) rfl ?_); refine goesL_ (some 18) rfl rfl Try.func12 (by kernel_rfl) rfl #[.slice A0 l0.length c0, .slice A1 l1.length c1] rfl (by (try simp only [List.map_toArray, List.map_cons, List.map_nil]); first | done | rfl | (simp only [List.length_drop, List.length_take]; rfl)) ?_; (with_reducible refine (laws_b10Long.calls _ _ l0 _ _ l1 true _ ?side1 ?side2 ?side3 ?side4 A3.out).mono ?_); (case side1 => repeat (first | exact HR0.out | (with_reducible refine Kd.C_alloc ?_ _) | (with_reducible refine Kd.C_drewN ?_ _) | (with_reducible refine Kd.C_drew ?_))); (case side2 => exact HC0.out); (case side3 => repeat (first | exact HR1.out | (with_reducible refine Kd.C_alloc ?_ _) | (with_reducible refine Kd.C_drewN ?_ _) | (with_reducible refine Kd.C_drew ?_))); (case side4 => exact HC1.out); rintro e w' ⟨rfl, ⟨nd, rfl⟩⟩; refine ⟨_, rfl, ?_⟩))
    go_ret
    exact ⟨by first | rfl | (simp [errW_none, errW_some] <;> rfl) | (simp [*, errW_none, errW_some] <;> rfl), by repeat (first | (with_reducible first | exact HB.out | apply below_alloc | apply pw_below_drewN | apply below_drew1) | exact HB.out)⟩
  · replace c4 := Bool.eq_false_iff.mpr c4
    subst c4
    have H1 : ((laws_b10At.f l0 0 3).bind fun t375 => ((impl_DoublingMask.f (wrap64 (1 + t375))).bind fun bt376 => (if 0 ≤ (IntKind.u64.wrap (wrap64 (1 + t375))) then ((impl_SpreadOf.f bt376.1 2).bind fun bt380 => ((laws_b10At.f l1 0 (wrap64 ((wrap64 ((shl .i64 1 (IntKind.u64.wrap (wrap64 (1 + t375)))) * (shl .i64 1 (IntKind.u64.wrap (wrap64 (1 + t375)))))) - 1))).bind fun t382 => ((impl_SpreadOf.f bt376.1 (wrap64 (2 + t382))).bind fun bt383 => ((impl_SpreadOf.f bt376.1 (wrap64 ((shl .i64 1 (IntKind.u64.wrap (wrap64 (1 + t375)))) * (shl .i64 1 (IntKind.u64.wrap (wrap64 (1 + t375))))))).bind fun bt385 => (if bt376.2 = true then (if bt380.2 = true then (if bt383.2 = true then (if bt385.2 = true then (if bt380.1 = (wrap64 (Int.tdiv (wrap64 ((shl .i64 1 (IntKind.u64.wrap (wrap64 (1 + t375)))) * (shl .i64 1 (IntKind.u64.wrap (wrap64 (1 + t375)))))) 2)) then (if bt383.1 ≤ bt380.1 then (if bt385.1 ≤ bt383.1 then (some (bt385.1 == 1)) else (some false)) else (some false)) else (some false)) else (some false)) else (some false)) else (some false)) else (some false)))))) else (none)))) = some r := by rw [if_neg (show ¬ (false = true) by decide)] at H; exact H
    clear H
    have H := H1
    clear H1
    replace H := Option.bind_eq_some_iff.mp H
    obtain ⟨t375, A50, H⟩ := H
    replace H : ((impl_DoublingMask.f (wrap64 (1 + t375))).bind fun bt376 => (if 0 ≤ (IntKind.u64.wrap (wrap64 (1 + t375))) then ((impl_SpreadOf.f bt376.1 2).bind fun bt380 => ((laws_b10At.f l1 0 (wrap64 ((wrap64 ((shl .i64 1 (IntKind.u64.wrap (wrap64 (1 + t375)))) * (shl .i64 1 (IntKind.u64.wrap (wrap64 (1 + t375)))))) - 1))).bind fun t382 => ((impl_SpreadOf.f bt376.1 (wrap64 (2 + t382))).bind fun bt383 => ((impl_SpreadOf.f bt376.1 (wrap64 ((shl .i64 1 (IntKind.u64.wrap (wrap64 (1 + t375)))) * (shl .i64 1 (IntKind.u64.wrap (wrap64 (1 + t375))))))).bind fun bt385 => (if bt376.2 = true then (if bt380.2 = true then (if bt383.2 = true then (if bt385.2 = true then (if bt380.1 = (wrap64 (Int.tdiv (wrap64 ((shl .i64 1 (IntKind.u64.wrap (wrap64 (1 + t375)))) * (shl .i64 1 (IntKind.u64.wrap (wrap64 (1 + t375)))))) 2)) then (if bt383.1 ≤ bt380.1 then (if bt385.1 ≤ bt383.1 then (some (bt385.1 == 1)) else (some false)) else (some false)) else (some false)) else (some false)) else (some false)) else (some false)) else (some false)))))) else (none))) = some r := H
    have A5 := Aside0.mk A50
    clear A50
    replace H := Option.bind_eq_some_iff.mp H
    obtain ⟨⟨t376, t377⟩, A60, H⟩ := H
    replace H : (if 0 ≤ (IntKind.u64.wrap (wrap64 (1 + t375))) then ((impl_SpreadOf.f t376 2).bind fun bt380 => ((laws_b10At.f l1 0 (wrap64 ((wrap64 ((shl .i64 1 (IntKind.u64.wrap (wrap64 (1 + t375)))) * (shl .i64 1 (IntKind.u64.wrap (wrap64 (1 + t375)))))) - 1))).bind fun t382 => ((impl_SpreadOf.f t376 (wrap64 (2 + t382))).bind fun bt383 => ((impl_SpreadOf.f t376 (wrap64 ((shl .i64 1 (IntKind.u64.wrap (wrap64 (1 + t375)))) * (shl .i64 1 (IntKind.u64.wrap (wrap64 (1 + t375))))))).bind fun bt385 => (if t377 = true then (if bt380.2 = true then (if bt383.2 = true then (if bt385.2 = true then (if bt380.1 = (wrap64 (Int.tdiv (wrap64 ((shl .i64 1 (IntKind.u64.wrap (wrap64 (1 + t375)))) * (shl .i64 1 (IntKind.u64.wrap (wrap64 (1 + t375)))))) 2)) then (if bt383.1 ≤ bt380.1 then (if bt385.1 ≤ bt383.1 then (some (bt385.1 == 1)) else (some false)) else (some false)) else (some false)) else (some false)) else (some false)) else (some false)) else (some false)))))) else (none)) = some r := H
    have A6 := Aside0.mk A60
    clear A60
    obtain ⟨ji7, hji7⟩ : ∃ j_ : Int, (IntKind.u64.wrap (wrap64 (1 + t375))) = j_ := ⟨_, rfl⟩
    replace H : (if 0 ≤ (ji7) then ((impl_SpreadOf.f t376 2).bind fun bt380 => ((laws_b10At.f l1 0 (wrap64 ((wrap64 ((shl .i64 1 (ji7)) * (shl .i64 1 (ji7)))) - 1))).bind fun t382 => ((impl_SpreadOf.f t376 (wrap64 (2 + t382))).bind fun bt383 => ((impl_SpreadOf.f t376 (wrap64 ((shl .i64 1 (ji7)) * (shl .i64 1 (ji7))))).bind fun bt385 => (if t377 = true then (if bt380.2 = true then (if bt383.2 = true then (if bt385.2 = true then (if bt380.1 = (wrap64 (Int.tdiv (wrap64 ((shl .i64 1 (ji7)) * (shl .i64 1 (ji7)))) 2)) then (if bt383.1 ≤ bt380.1 then (if bt385.1 ≤ bt383.1 then (some (bt385.1 == 1)) else (some false)) else (some false)) else (some false)) else (some false)) else (some false)) else (some false)) else (some false)))))) else (none)) = some r := by first | (rw [hji7] at H; exact H) | (simp only [hji7] at H ⊢; exact H)
    (try rw [hji7] at A3)
    (try rw [hji7] at A5)
    (try rw [hji7] at A6)
    by_cases c8 : 0 ≤ (ji7)
    · rw [if_pos c8] at H
      have c8b0 := eq_true c8
      have c8b1 : decide (0 ≤ (ji7)) = true := decide_eq_true c8
      clear c8
      obtain ⟨ji9, hji9⟩ : ∃ j_ : Int, (shl .i64 1 (ji7)) = j_ := ⟨_, rfl⟩
      replace H : ((impl_SpreadOf.f t376 2).bind fun bt380 => ((laws_b10At.f l1 0 (wrap64 ((wrap64 ((ji9) * (ji9))) - 1))).bind fun t382 => ((impl_SpreadOf.f t376 (wrap64 (2 + t382))).bind fun bt383 => ((impl_SpreadOf.f t376 (wrap64 ((ji9) * (ji9)))).bind fun bt385 => (if t377 = true then (if bt380.2 = true then (if bt383.2 = true then (if bt385.2 = true then (if bt380.1 = (wrap64 (Int.tdiv (wrap64 ((ji9) * (ji9))) 2)) then (if bt383.1 ≤ bt380.1 then (if bt385.1 ≤ bt383.1 then (some (bt385.1 == 1)) else (some false)) else (some false)) else (some false)) else (some false)) else (some false)) else (some false)) else (some false)))))) = some r := by first | (rw [hji9] at H; exact H) | (simp only [hji9] at H ⊢; exact H)
      (try rw [hji9] at A3)
      (try rw [hji9] at A5)
      (try rw [hji9] at A6)
      have hji9_ : (IntKind.i64.wrap (1 * 2 ^ min (ji7).toNat 64)) = ji9 := hji9
      have hji9z : (ji7) ≤ 64 → (IntKind.i64.wrap (1 * 2 ^ (ji7).toNat)) = ji9 := shl_small hji9
      have hji9u : (IntKind.i64.wrap (2 ^ min (ji7).toNat 64)) = ji9 := by have h_ := hji9_; rw [Int.one_mul] at h_; exact h_
      have hji9v : (ji7) ≤ 64 → (IntKind.i64.wrap (2 ^ (ji7).toNat)) = ji9 := fun hle_ => by have h_ := hji9z hle_; rw [Int.one_mul] at h_; exact h_
      have hji9y : (wrap64 (1 * 2 ^ min (ji7).toNat 64)) = ji9 := (i64_w _).symm.trans hji9_
      have hji9x : (ji7) ≤ 64 → (wrap64 (1 * 2 ^ (ji7).toNat)) = ji9 := fun h_ => (i64_w _).symm.trans (hji9z h_)
      replace H := Option.bind_eq_some_iff.mp H
      obtain ⟨⟨t380, t381⟩, A100, H⟩ := H
      replace H : ((laws_b10At.f l1 0 (wrap64 ((wrap64 ((ji9) * (ji9))) - 1))).bind fun t382 => ((impl_SpreadOf.f t376 (wrap64 (2 + t382))).bind fun bt383 => ((impl_SpreadOf.f t376 (wrap64 ((ji9) * (ji9)))).bind fun bt385 => (if t377 = true then (if t381 = true then (if bt383.2 = true then (if bt385.2 = true then (if t380 = (wrap64 (Int.tdiv (wrap64 ((ji9) * (ji9))) 2)) then (if bt383.1 ≤ t380 then (if bt385.1 ≤ bt383.1 then (some (bt385.1 == 1)) else (some false)) else (some false)) else (some false)) else (some false)) else (some false)) else (some false)) else (some false))))) = some r := H
      have A10 := Aside0.mk A100
      clear A100
      replace H := Option.bind_eq_some_iff.mp H
      obtain ⟨t382, A110, H⟩ := H
      replace H : ((impl_SpreadOf.f t376 (wrap64 (2 + t382))).bind fun bt383 => ((impl_SpreadOf.f t376 (wrap64 ((ji9) * (ji9)))).bind fun bt385 => (if t377 = true then (if t381 = true then (if bt383.2 = true then (if bt385.2 = true then (if t380 = (wrap64 (Int.tdiv (wrap64 ((ji9) * (ji9))) 2)) then (if bt383.1 ≤ t380 then (if bt385.1 ≤ bt383.1 then (some (bt385.1 == 1)) else (some false)) else (some false)) else (some false)) else (some false)) else (some false)) else (some false)) else (some false)))) = some r := H
      have A11 := Aside0.mk A110
      clear A110
      replace H := Option.bind_eq_some_iff.mp H
      obtain ⟨⟨t383, t384⟩, A120, H⟩ := H
      replace H : ((impl_SpreadOf.f t376 (wrap64 ((ji9) * (ji9)))).bind fun bt385 => (if t377 = true then (if t381 = true then (if t384 = true then (if bt385.2 = true then (if t380 = (wrap64 (Int.tdiv (wrap64 ((ji9) * (ji9))) 2)) then (if t383 ≤ t380 then (if bt385.1 ≤ t383 then (some (bt385.1 == 1)) else (some false)) else (some false)) else (some false)) else (some false)) else (some false)) else (some false)) else (some false))) = some r := H
      have A12 := Aside0.mk A120
      clear A120
      replace H := Option.bind_eq_some_iff.mp H
      obtain ⟨⟨t385, t386⟩, A130, H⟩ := H
      replace H : (if t377 = true then (if t381 = true then (if t384 = true then (if t386 = true then (if t380 = (wrap64 (Int.tdiv (wrap64 ((ji9) * (ji9))) 2)) then (if t383 ≤ t380 then (if t385 ≤ t383 then (some (t385 == 1)) else (some false)) else (some false)) else (some false)) else (some false)) else (some false)) else (some false)) else (some false)) = some r := H
      have A13 := Aside0.mk A130
      clear A130
      by_cases c14 : t377 = true
      · subst c14
        have H1 : (if t381 = true then (if t384 = true then (if t386 = true then (if t380 = (wrap64 (Int.tdiv (wrap64 ((ji9) * (ji9))) 2)) then (if t383 ≤ t380 then (if t385 ≤ t383 then (some (t385 == 1)) else (some false)) else (some false)) else (some false)) else (some false)) else (some false)) else (some false)) = some r := by rw [if_pos rfl] at H; exact H
        clear H
        have H := H1
        clear H1
        by_cases c15 : t381 = true
        · subst c15
          have H1 : (if t384 = true then (if t386 = true then (if t380 = (wrap64 (Int.tdiv (wrap64 ((ji9) * (ji9))) 2)) then (if t383 ≤ t380 then (if t385 ≤ t383 then (some (t385 == 1)) else (some false)) else (some false)) else (some false)) else (some false)) else (some false)) = some r := by rw [if_pos rfl] at H; exact H
          clear H
          have H := H1
          clear H1
          by_cases c16 : t384 = true
          · subst c16
            have H1 : (if t386 = true then (if t380 = (wrap64 (Int.tdiv (wrap64 ((ji9) * (ji9))) 2)) then (if t383 ≤ t380 then (if t385 ≤ t383 then (some (t385 == 1)) else (some false)) else (some false)) else (some false)) else (some false)) = some r := by rw [if_pos rfl] at H; exact H
            clear H
            have H := H1
            clear H1
            by_cases c17 : t386 = true
            · subst c17
              have H1 : (if t380 = (wrap64 (Int.tdiv (wrap64 ((ji9) * (ji9))) 2)) then (if t383 ≤ t380 then (if t385 ≤ t383 then (some (t385 == 1)) else (some false)) else (some false)) else (some false)) = some r := by rw [if_pos rfl] at H; exact H
              clear H
              have H := H1
              clear H1
              by_cases c18 : t380 = (wrap64 (Int.tdiv (wrap64 ((ji9) * (ji9))) 2))
              · rw [if_pos c18] at H
                have c18b0 : (t380 == (wrap64 (Int.tdiv (wrap64 ((ji9) * (ji9))) 2))) = true := beq_iff_eq.mpr c18
                have c18b1 : (t380 != (wrap64 (Int.tdiv (wrap64 ((ji9) * (ji9))) 2))) = false := bne_eq_false_iff_eq.mpr c18
                clear c18
                by_cases c19 : t383 ≤ t380
                · rw [if_pos c19] at H
                  have c19b0 : decide (t383 ≤ t380) = true := decide_eq_true c19
                  clear c19
                  by_cases c20 : t385 ≤ t383
                  · rw [if_pos c20] at H
                    have c20b0 : decide (t385 ≤ t383) = true := decide_eq_true c20
                    clear c20
                    obtain rfl := Option.some.inj H
                    go_enter Try.func5, Try.ntmps5
                    go_wp2_with (first | ((with_reducible refine gate_callee (f := 12) rfl ?_); refine goesL_ (some 18) rfl rfl Try.func12 (by kernel_rfl) rfl #[.slice A0 l0.length c0, .slice A1 l1.length c1] rfl (by (try simp only [List.map_toArray, List.map_cons, List.map_nil]); first | done | rfl | (simp only [List.length_drop, List.length_take]; rfl)) ?_; (with_reducible refine (laws_b10Long.calls _ _ l0 _ _ l1 false _ ?side1 ?side2 ?side3 ?side4 A3.out).mono ?_); (case side1 => repeat (first | exact HR0.out | (with_reducible refine Kd.C_alloc ?_ _) | (with_reducible refine Kd.C_drewN ?_ _) | (with_reducible refine Kd.C_drew ?_))); (case side2 => exact HC0.out); (case side3 => repeat (first | exact HR1.out | (with_reducible refine Kd.C_alloc ?_ _) | (with_reducible refine Kd.C_drewN ?_ _) | (with_reducible refine Kd.C_drew ?_))); (case side4 => exact HC1.out); rintro e w' ⟨rfl, ⟨nd, rfl⟩⟩; refine ⟨_, rfl, ?_⟩) | ((with_reducible refine gate_callee (f := 13) rfl ?_); refine goesL_ (some 20) rfl rfl Try.func13 (by kernel_rfl) rfl #[.slice A0 l0.length c0, .int .i64 0, .int .i64 3] rfl (by (try simp only [List.map_toArray, List.map_cons, List.map_nil]); first | done | rfl | (simp only [List.length_drop, List.length_take]; rfl)) ?_; (with_reducible refine (laws_b10At.calls _ _ l0 0 3 t375 _ ?side1 ?side2 A5.out).mono ?_); (case side1 => repeat (first | exact HR0.out | (with_reducible refine Kd.C_alloc ?_ _) | (with_reducible refine Kd.C_drewN ?_ _) | (with_reducible refine Kd.C_drew ?_))); (case side2 => exact HC0.out); rintro e w' ⟨rfl, ⟨nd, rfl⟩⟩; refine ⟨_, rfl, ?_⟩) | ((with_reducible refine gate_callee (f := 34) rfl ?_); refine goesL_ (some 24) rfl rfl Try.func34 (by kernel_rfl) rfl #[.int .i64 (wrap64 (1 + t375))] rfl (by (try simp only [List.map_toArray, List.map_cons, List.map_nil]); first | done | rfl | (simp only [List.length_drop, List.length_take]; rfl)) ?_; (with_reducible refine (impl_DoublingMask.calls (wrap64 (1 + t375)) t376 true _ A6.out).mono ?_); rintro e w21 ⟨v378, rfl, ho0, hb⟩; refine ⟨_, rfl, ?_⟩; have n0_ := Aside0.mk (Kd.S_lower ho0 (below_size (by repeat (first | (with_reducible first | exact HB.out | apply below_alloc | apply pw_below_drewN | apply below_drew1) | exact HB.out)))); have n1_ := Aside0.mk (below_step (by repeat (first | (with_reducible first | exact HB.out | apply below_alloc | apply pw_below_drewN | apply below_drew1) | exact HB.out)) hb); clear HB; have HO379 := n0_; have HB := n1_; clear n0_ n1_; (try clear hb); (try clear hb2); (try clear hk); (try clear hi); (try clear ho0); obtain ⟨Ao22, co22, eo22⟩ := Kd.S_slice HO379.out; subst eo22) | ((with_reducible refine gate_callee (f := 35) rfl ?_); refine goesL_ (some 32) rfl rfl Try.func35 (by kernel_rfl) rfl #[.slice Ao22 t376.length co22, .int .i64 2] rfl (by (try simp only [List.map_toArray, List.map_cons, List.map_nil]); first | done | rfl | (simp only [List.length_drop, List.length_take]; rfl)) ?_; (with_reducible refine (impl_SpreadOf.calls _ _ t376 2 t380 true _ ?side1 ?side2 A10.out).mono ?_); (case side1 => repeat (first | exact (Kd.S_reads' HO379.out).2.2 | (with_reducible refine Kd.C_alloc ?_ _) | (with_reducible refine Kd.C_drewN ?_ _) | (with_reducible refine Kd.C_drew ?_))); (case side2 => exact (Kd.S_reads' HO379.out).2.1); rintro e w23 ⟨rfl, hb⟩; refine ⟨_, rfl, ?_⟩; have n0_ := Aside0.mk (Kd.S_below (by (with_reducible repeat (first | apply Kd.S_alloc | apply Kd.S_drewN | apply Kd.S_drew)); exact HO379.out) hb); have n1_ := Aside0.mk (below_step (by repeat (first | (with_reducible first | exact HB.out | apply below_alloc | apply pw_below_drewN | apply below_drew1) | exact HB.out)) hb); clear HO379; clear HB; have HO379 := n0_; have HB := n1_; clear n0_ n1_; (try clear hb); (try clear hb2); (try clear hk); (try clear hi)) | ((with_reducible refine gate_callee (f := 13) rfl ?_); refine goesL_ (some 40) rfl rfl Try.func13 (by kernel_rfl) rfl #[.slice A1 l1.length c1, .int .i64 0, .int .i64 (wrap64 ((wrap64 ((ji9) * (ji9))) - 1))] rfl (by (try simp only [List.map_toArray, List.map_cons, List.map_nil]); first | done | (simp only [hji9]; rfl) | rfl | (simp only [List.length_drop, List.length_take]; rfl)) ?_; (with_reducible refine (laws_b10At.calls _ _ l1 0 (wrap64 ((wrap64 ((ji9) * (ji9))) - 1)) t382 _ ?side1 ?side2 A11.out).mono ?_); (case side1 => repeat (first | exact (Kd.C_below HR1.out HB.out) | (with_reducible refine Kd.C_alloc ?_ _) | (with_reducible refine Kd.C_drewN ?_ _) | (with_reducible refine Kd.C_drew ?_))); (case side2 => exact HC1.out); rintro e w' ⟨rfl, ⟨nd, rfl⟩⟩; refine ⟨_, rfl, ?_⟩) | ((with_reducible refine gate_callee (f := 35) rfl ?_); refine goesL_ (some 45) rfl rfl Try.func35 (by kernel_rfl) rfl #[.slice Ao22 t376.length co22, .int .i64 (wrap64 (2 + t382))] rfl (by (try simp only [List.map_toArray, List.map_cons, List.map_nil]); first | done | rfl | (simp only [List.length_drop, List.length_take]; rfl)) ?_; (with_reducible refine (impl_SpreadOf.calls _ _ t376 (wrap64 (2 + t382)) t383 true _ ?side1 ?side2 A12.out).mono ?_); (case side1 => repeat (first | exact (Kd.S_reads' HO379.out).2.2 | (with_reducible refine Kd.C_alloc ?_ _) | (with_reducible refine Kd.C_drewN ?_ _) | (with_reducible refine Kd.C_drew ?_))); (case side2 => exact (Kd.S_reads' HO379.out).2.1); rintro e w24 ⟨rfl, hb⟩; refine ⟨_, rfl, ?_⟩; have n0_ := Aside0.mk (Kd.S_below (by (with_reducible repeat (first | apply Kd.S_alloc | apply Kd.S_drewN | apply Kd.S_drew)); exact HO379.out) hb); have n1_ := Aside0.mk (below_step (by repeat (first | (with_reducible first | exact HB.out | apply below_alloc | apply pw_below_drewN | apply below_drew1) | exact HB.out)) hb); clear HO379; clear HB; have HO379 := n0_; have HB := n1_; clear n0_ n1_; (try clear hb); (try clear hb2); (try clear hk); (try clear hi)) | ((with_reducible refine gate_callee (f := 35) rfl ?_); refine goesL_ (some 53) rfl rfl Try.func35 (by kernel_rfl) rfl #[.slice Ao22 t376.length co22, .int .i64 (wrap64 ((ji9) * (ji9)))] rfl (by (try simp only [List.map_toArray, List.map_cons, List.map_nil]); first | done | (simp only [hji9]; rfl) | rfl | (simp only [List.length_drop, List.length_take]; rfl)) ?_; (with_reducible refine (impl_SpreadOf.calls _ _ t376 (wrap64 ((ji9) * (ji9))) t385 true _ ?side1 ?side2 A13.out).mono ?_); (case side1 => repeat (first | exact (Kd.S_reads' HO379.out).2.2 | (with_reducible refine Kd.C_alloc ?_ _) | (with_reducible refine Kd.C_drewN ?_ _) | (with_reducible refine Kd.C_drew ?_))); (case side2 => exact (Kd.S_reads' HO379.out).2.1); rintro e w25 ⟨rfl, hb⟩; refine ⟨_, rfl, ?_⟩; have n0_ := Aside0.mk (Kd.S_below (by (with_reducible repeat (first | apply Kd.S_alloc | apply Kd.S_drewN | apply Kd.S_drew)); exact HO379.out) hb); have n1_ := Aside0.mk (below_step (by repeat (first | (with_reducible first | exact HB.out | apply below_alloc | apply pw_below_drewN | apply below_drew1) | exact HB.out)) hb); clear HO379; clear HB; have HO379 := n0_; have HB := n1_; clear n0_ n1_; (try clear hb); (try clear hb2); (try clear hk); (try clear hi)))
                    go_ret
                    exact ⟨by first | rfl | (simp [errW_none, errW_some] <;> rfl) | (simp only [← hji7, ← hji9]; first | rfl | (simp [errW_none, errW_some] <;> rfl)) | (simp [*, errW_none, errW_some] <;> rfl), by repeat (first | (with_reducible first | exact HB.out | apply below_alloc | apply pw_below_drewN | apply below_drew1) | exact HB.out)⟩
                  · rw [if_neg c20] at H
                    have c20b0 : decide (t385 ≤ t383) = false := decide_eq_false c20
                    clear c20
                    obtain rfl := Option.some.inj H
                    go_enter Try.func5, Try.ntmps5
                    go_wp2_with (first | ((with_reducible refine gate_callee (f := 12) rfl ?_); refine goesL_ (some 18) rfl rfl Try.func12 (by kernel_rfl) rfl #[.slice A0 l0.length c0, .slice A1 l1.length c1] rfl (by (try simp only [List.map_toArray, List.map_cons, List.map_nil]); first | done | rfl | (simp only [List.length_drop, List.length_take]; rfl)) ?_; (with_reducible refine (laws_b10Long.calls _ _ l0 _ _ l1 false _ ?side1 ?side2 ?side3 ?side4 A3.out).mono ?_); (case side1 => repeat (first | exact HR0.out | (with_reducible refine Kd.C_alloc ?_ _) | (with_reducible refine Kd.C_drewN ?_ _) | (with_reducible refine Kd.C_drew ?_))); (case side2 => exact HC0.out); (case side3 => repeat (first | exact HR1.out | (with_reducible refine Kd.C_alloc ?_ _) | (with_reducible refine Kd.C_drewN ?_ _) | (with_reducible refine Kd.C_drew ?_))); (case side4 => exact HC1.out); rintro e w' ⟨rfl, ⟨nd, rfl⟩⟩; refine ⟨_, rfl, ?_⟩) | ((with_reducible refine gate_callee (f := 13) rfl ?_); refine goesL_ (some 20) rfl rfl Try.func13 (by kernel_rfl) rfl #[.slice A0 l0.length c0, .int .i64 0, .int .i64 3] rfl (by (try simp only [List.map_toArray, List.map_cons, List.map_nil]); first | done | rfl | (simp only [List.length_drop, List.length_take]; rfl)) ?_; (with_reducible refine (laws_b10At.calls _ _ l0 0 3 t375 _ ?side1 ?side2 A5.out).mono ?_); (case side1 => repeat (first | exact HR0.out | (with_reducible refine Kd.C_alloc ?_ _) | (with_reducible refine Kd.C_drewN ?_ _) | (with_reducible refine Kd.C_drew ?_))); (case side2 => exact HC0.out); rintro e w' ⟨rfl, ⟨nd, rfl⟩⟩; refine ⟨_, rfl, ?_⟩) | ((with_reducible refine gate_callee (f := 34) rfl ?_); refine goesL_ (some 24) rfl rfl Try.func34 (by kernel_rfl) rfl #[.int .i64 (wrap64 (1 + t375))] rfl (by (try simp only [List.map_toArray, List.map_cons, List.map_nil]); first | done | rfl | (simp only [List.length_drop, List.length_take]; rfl)) ?_; (with_reducible refine (impl_DoublingMask.calls (wrap64 (1 + t375)) t376 true _ A6.out).mono ?_); rintro e w26 ⟨v378, rfl, ho0, hb⟩; refine ⟨_, rfl, ?_⟩; have n0_ := Aside0.mk (Kd.S_lower ho0 (below_size (by repeat (first | (with_reducible first | exact HB.out | apply below_alloc | apply pw_below_drewN | apply below_drew1) | exact HB.out)))); have n1_ := Aside0.mk (below_step (by repeat (first | (with_reducible first | exact HB.out | apply below_alloc | apply pw_below_drewN | apply below_drew1) | exact HB.out)) hb); clear HB; have HO379 := n0_; have HB := n1_; clear n0_ n1_; (try clear hb); (try clear hb2); (try clear hk); (try clear hi); (try clear ho0); obtain ⟨Ao27, co27, eo27⟩ := Kd.S_slice HO379.out; subst eo27) | ((with_reducible refine gate_callee (f := 35) rfl ?_); refine goesL_ (some 32) rfl rfl Try.func35 (by kernel_rfl) rfl #[.slice Ao27 t376.length co27, .int .i64 2] rfl (by (try simp only [List.map_toArray, List.map_cons, List.map_nil]); first | done | rfl | (simp only [List.length_drop, List.length_take]; rfl)) ?_; (with_reducible refine (impl_SpreadOf.calls _ _ t376 2 t380 true _ ?side1 ?side2 A10.out).mono ?_); (case side1 => repeat (first | exact (Kd.S_reads' HO379.out).2.2 | (with_reducible refine Kd.C_alloc ?_ _) | (with_reducible refine Kd.C_drewN ?_ _) | (with_reducible refine Kd.C_drew ?_))); (case side2 => exact (Kd.S_reads' HO379.out).2.1); rintro e w28 ⟨rfl, hb⟩; refine ⟨_, rfl, ?_⟩; have n0_ := Aside0.mk (Kd.S_below (by (with_reducible repeat (first | apply Kd.S_alloc | apply Kd.S_drewN | apply Kd.S_drew)); exact HO379.out) hb); have n1_ := Aside0.mk (below_step (by repeat (first | (with_reducible first | exact HB.out | apply below_alloc | apply pw_below_drewN | apply below_drew1) | exact HB.out)) hb); clear HO379; clear HB; have HO379 := n0_; have HB := n1_; clear n0_ n1_; (try clear hb); (try clear hb2); (try clear hk); (try clear hi)) | ((with_reducible refine gate_callee (f := 13) rfl ?_); refine goesL_ (some 40) rfl rfl Try.func13 (by kernel_rfl) rfl #[.slice A1 l1.length c1, .int .i64 0, .int .i64 (wrap64 ((wrap64 ((ji9) * (ji9))) - 1))] rfl (by (try simp only [List.map_toArray, List.map_cons, List.map_nil]); first | done | (simp only [hji9]; rfl) | rfl | (simp only [List.length_drop, List.length_take]; rfl)) ?_; (with_reducible refine (laws_b10At.calls _ _ l1 0 (wrap64 ((wrap64 ((ji9) * (ji9))) - 1)) t382 _ ?side1 ?side2 A11.out).mono ?_); (case side1 => repeat (first | exact (Kd.C_below HR1.out HB.out) | (with_reducible refine Kd.C_alloc ?_ _) | (with_reducible refine Kd.C_drewN ?_ _) | (with_reducible refine Kd.C_drew ?_))); (case side2 => exact HC1.out); rintro e w' ⟨rfl, ⟨nd, rfl⟩⟩; refine ⟨_, rfl, ?_⟩) | ((with_reducible refine gate_callee (f := 35) rfl ?_); refine goesL_ (some 45) rfl rfl Try.func35 (by kernel_rfl) rfl #[.slice Ao27 t376.length co27, .int .i64 (wrap64 (2 + t382))] rfl (by (try simp only [List.map_toArray, List.map_cons, List.map_nil]); first | done | rfl | (simp only [List.length_drop, List.length_take]; rfl)) ?_; (with_reducible refine (impl_SpreadOf.calls _ _ t376 (wrap64 (2 + t382)) t383 true _ ?side1 ?side2 A12.out).mono ?_); (case side1 => repeat (first | exact (Kd.S_reads' HO379.out).2.2 | (with_reducible refine Kd.C_alloc ?_ _) | (with_reducible refine Kd.C_drewN ?_ _) | (with_reducible refine Kd.C_drew ?_))); (case side2 => exact (Kd.S_reads' HO379.out).2.1); rintro e w29 ⟨rfl, hb⟩; refine ⟨_, rfl, ?_⟩; have n0_ := Aside0.mk (Kd.S_below (by (with_reducible repeat (first | apply Kd.S_alloc | apply Kd.S_drewN | apply Kd.S_drew)); exact HO379.out) hb); have n1_ := Aside0.mk (below_step (by repeat (first | (with_reducible first | exact HB.out | apply below_alloc | apply pw_below_drewN | apply below_drew1) | exact HB.out)) hb); clear HO379; clear HB; have HO379 := n0_; have HB := n1_; clear n0_ n1_; (try clear hb); (try clear hb2); (try clear hk); (try clear hi)) | ((with_reducible refine gate_callee (f := 35) rfl ?_); refine goesL_ (some 53) rfl rfl Try.func35 (by kernel_rfl) rfl #[.slice Ao27 t376.length co27, .int .i64 (wrap64 ((ji9) * (ji9)))] rfl (by (try simp only [List.map_toArray, List.map_cons, List.map_nil]); first | done | (simp only [hji9]; rfl) | rfl | (simp only [List.length_drop, List.length_take]; rfl)) ?_; (with_reducible refine (impl_SpreadOf.calls _ _ t376 (wrap64 ((ji9) * (ji9))) t385 true _ ?side1 ?side2 A13.out).mono ?_); (case side1 => repeat (first | exact (Kd.S_reads' HO379.out).2.2 | (with_reducible refine Kd.C_alloc ?_ _) | (with_reducible refine Kd.C_drewN ?_ _) | (with_reducible refine Kd.C_drew ?_))); (case side2 => exact (Kd.S_reads' HO379.out).2.1); rintro e w30 ⟨rfl, hb⟩; refine ⟨_, rfl, ?_⟩; have n0_ := Aside0.mk (Kd.S_below (by (with_reducible repeat (first | apply Kd.S_alloc | apply Kd.S_drewN | apply Kd.S_drew)); exact HO379.out) hb); have n1_ := Aside0.mk (below_step (by repeat (first | (with_reducible first | exact HB.out | apply below_alloc | apply pw_below_drewN | apply below_drew1) | exact HB.out)) hb); clear HO379; clear HB; have HO379 := n0_; have HB := n1_; clear n0_ n1_; (try clear hb); (try clear hb2); (try clear hk); (try clear hi)))
                    go_ret
                    exact ⟨by first | rfl | (simp [errW_none, errW_some] <;> rfl) | (simp only [← hji7, ← hji9]; first | rfl | (simp [errW_none, errW_some] <;> rfl)) | (simp [*, errW_none, errW_some] <;> rfl), by repeat (first | (with_reducible first | exact HB.out | apply below_alloc | apply pw_below_drewN | apply below_drew1) | exact HB.out)⟩
                · rw [if_neg c19] at H
                  have c19b0 : decide (t383 ≤ t380) = false := decide_eq_false c19
                  clear c19
                  obtain rfl := Option.some.inj H
                  go_enter Try.func5, Try.ntmps5
                  go_wp2_with (first | ((with_reducible refine gate_callee (f := 12) rfl ?_); refine goesL_ (some 18) rfl rfl Try.func12 (by kernel_rfl) rfl #[.slice A0 l0.length c0, .slice A1 l1.length c1] rfl (by (try simp only [List.map_toArray, List.map_cons, List.map_nil]); first | done | rfl | (simp only [List.length_drop, List.length_take]; rfl)) ?_; (with_reducible refine (laws_b10Long.calls _ _ l0 _ _ l1 false _ ?side1 ?side2 ?side3 ?side4 A3.out).mono ?_); (case side1 => repeat (first | exact HR0.out | (with_reducible refine Kd.C_alloc ?_ _) | (with_reducible refine Kd.C_drewN ?_ _) | (with_reducible refine Kd.C_drew ?_))); (case side2 => exact HC0.out); (case side3 => repeat (first | exact HR1.out | (with_reducible refine Kd.C_alloc ?_ _) | (with_reducible refine Kd.C_drewN ?_ _) | (with_reducible refine Kd.C_drew ?_))); (case side4 => exact HC1.out); rintro e w' ⟨rfl, ⟨nd, rfl⟩⟩; refine ⟨_, rfl, ?_⟩) | ((with_reducible refine gate_callee (f := 13) rfl ?_); refine goesL_ (some 20) rfl rfl Try.func13 (by kernel_rfl) rfl #[.slice A0 l0.length c0, .int .i64 0, .int .i64 3] rfl (by (try simp only [List.map_toArray, List.map_cons, List.map_nil]); first | done | rfl | (simp only [List.length_drop, List.length_take]; rfl)) ?_; (with_reducible refine (laws_b10At.calls _ _ l0 0 3 t375 _ ?side1 ?side2 A5.out).mono ?_); (case side1 => repeat (first | exact HR0.out | (with_reducible refine Kd.C_alloc ?_ _) | (with_reducible refine Kd.C_drewN ?_ _) | (with_reducible refine Kd.C_drew ?_))); (case side2 => exact HC0.out); rintro e w' ⟨rfl, ⟨nd, rfl⟩⟩; refine ⟨_, rfl, ?_⟩) | ((with_reducible refine gate_callee (f := 34) rfl ?_); refine goesL_ (some 24) rfl rfl Try.func34 (by kernel_rfl) rfl #[.int .i64 (wrap64 (1 + t375))] rfl (by (try simp only [List.map_toArray, List.map_cons, List.map_nil]); first | done | rfl | (simp only [List.length_drop, List.length_take]; rfl)) ?_; (with_reducible refine (impl_DoublingMask.calls (wrap64 (1 + t375)) t376 true _ A6.out).mono ?_); rintro e w31 ⟨v378, rfl, ho0, hb⟩; refine ⟨_, rfl, ?_⟩; have n0_ := Aside0.mk (Kd.S_lower ho0 (below_size (by repeat (first | (with_reducible first | exact HB.out | apply below_alloc | apply pw_below_drewN | apply below_drew1) | exact HB.out)))); have n1_ := Aside0.mk (below_step (by repeat (first | (with_reducible first | exact HB.out | apply below_alloc | apply pw_below_drewN | apply below_drew1) | exact HB.out)) hb); clear HB; have HO379 := n0_; have HB := n1_; clear n0_ n1_; (try clear hb); (try clear hb2); (try clear hk); (try clear hi); (try clear ho0); obtain ⟨Ao32, co32, eo32⟩ := Kd.S_slice HO379.out; subst eo32) | ((with_reducible refine gate_callee (f := 35) rfl ?_); refine goesL_ (some 32) rfl rfl Try.func35 (by kernel_rfl) rfl #[.slice Ao32 t376.length co32, .int .i64 2] rfl (by (try simp only [List.map_toArray, List.map_cons, List.map_nil]); first | done | rfl | (simp only [List.length_drop, List.length_take]; rfl)) ?_; (with_reducible refine (impl_SpreadOf.calls _ _ t376 2 t380 true _ ?side1 ?side2 A10.out).mono ?_); (case side1 => repeat (first | exact (Kd.S_reads' HO379.out).2.2 | (with_reducible refine Kd.C_alloc ?_ _) | (with_reducible refine Kd.C_drewN ?_ _) | (with_reducible refine Kd.C_drew ?_))); (case side2 => exact (Kd.S_reads' HO379.out).2.1); rintro e w33 ⟨rfl, hb⟩; refine ⟨_, rfl, ?_⟩; have n0_ := Aside0.mk (Kd.S_below (by (with_reducible repeat (first | apply Kd.S_alloc | apply Kd.S_drewN | apply Kd.S_drew)); exact HO379.out) hb); have n1_ := Aside0.mk (below_step (by repeat (first | (with_reducible first | exact HB.out | apply below_alloc | apply pw_below_drewN | apply below_drew1) | exact HB.out)) hb); clear HO379; clear HB; have HO379 := n0_; have HB := n1_; clear n0_ n1_; (try clear hb); (try clear hb2); (try clear hk); (try clear hi)) | ((with_reducible refine gate_callee (f := 13) rfl ?_); refine goesL_ (some 40) rfl rfl Try.func13 (by kernel_rfl) rfl #[.slice A1 l1.length c1, .int .i64 0, .int .i64 (wrap64 ((wrap64 ((ji9) * (ji9))) - 1))] rfl (by (try simp only [List.map_toArray, List.map_cons, List.map_nil]); first | done | (simp only [hji9]; rfl) | rfl | (simp only [List.length_drop, List.length_take]; rfl)) ?_; (with_reducible refine (laws_b10At.calls _ _ l1 0 (wrap64 ((wrap64 ((ji9) * (ji9))) - 1)) t382 _ ?side1 ?side2 A11.out).mono ?_); (case side1 => repeat (first | exact (Kd.C_below HR1.out HB.out) | (with_reducible refine Kd.C_alloc ?_ _) | (with_reducible refine Kd.C_drewN ?_ _) | (with_reducible refine Kd.C_drew ?_))); (case side2 => exact HC1.out); rintro e w' ⟨rfl, ⟨nd, rfl⟩⟩; refine ⟨_, rfl, ?_⟩) | ((with_reducible refine gate_callee (f := 35) rfl ?_); refine goesL_ (some 45) rfl rfl Try.func35 (by kernel_rfl) rfl #[.slice Ao32 t376.length co32, .int .i64 (wrap64 (2 + t382))] rfl (by (try simp only [List.map_toArray, List.map_cons, List.map_nil]); first | done | rfl | (simp only [List.length_drop, List.length_take]; rfl)) ?_; (with_reducible refine (impl_SpreadOf.calls _ _ t376 (wrap64 (2 + t382)) t383 true _ ?side1 ?side2 A12.out).mono ?_); (case side1 => repeat (first | exact (Kd.S_reads' HO379.out).2.2 | (with_reducible refine Kd.C_alloc ?_ _) | (with_reducible refine Kd.C_drewN ?_ _) | (with_reducible refine Kd.C_drew ?_))); (case side2 => exact (Kd.S_reads' HO379.out).2.1); rintro e w34 ⟨rfl, hb⟩; refine ⟨_, rfl, ?_⟩; have n0_ := Aside0.mk (Kd.S_below (by (with_reducible repeat (first | apply Kd.S_alloc | apply Kd.S_drewN | apply Kd.S_drew)); exact HO379.out) hb); have n1_ := Aside0.mk (below_step (by repeat (first | (with_reducible first | exact HB.out | apply below_alloc | apply pw_below_drewN | apply below_drew1) | exact HB.out)) hb); clear HO379; clear HB; have HO379 := n0_; have HB := n1_; clear n0_ n1_; (try clear hb); (try clear hb2); (try clear hk); (try clear hi)) | ((with_reducible refine gate_callee (f := 35) rfl ?_); refine goesL_ (some 53) rfl rfl Try.func35 (by kernel_rfl) rfl #[.slice Ao32 t376.length co32, .int .i64 (wrap64 ((ji9) * (ji9)))] rfl (by (try simp only [List.map_toArray, List.map_cons, List.map_nil]); first | done | (simp only [hji9]; rfl) | rfl | (simp only [List.length_drop, List.length_take]; rfl)) ?_; (with_reducible refine (impl_SpreadOf.calls _ _ t376 (wrap64 ((ji9) * (ji9))) t385 true _ ?side1 ?side2 A13.out).mono ?_); (case side1 => repeat (first | exact (Kd.S_reads' HO379.out).2.2 | (with_reducible refine Kd.C_alloc ?_ _) | (with_reducible refine Kd.C_drewN ?_ _) | (with_reducible refine Kd.C_drew ?_))); (case side2 => exact (Kd.S_reads' HO379.out).2.1); rintro e w35 ⟨rfl, hb⟩; refine ⟨_, rfl, ?_⟩; have n0_ := Aside0.mk (Kd.S_below (by (with_reducible repeat (first | apply Kd.S_alloc | apply Kd.S_drewN | apply Kd.S_drew)); exact HO379.out) hb); have n1_ := Aside0.mk (below_step (by repeat (first | (with_reducible first | exact HB.out | apply below_alloc | apply pw_below_drewN | apply below_drew1) | exact HB.out)) hb); clear HO379; clear HB; have HO379 := n0_; have HB := n1_; clear n0_ n1_; (try clear hb); (try clear hb2); (try clear hk); (try clear hi)))
                  go_ret
                  exact ⟨by first | rfl | (simp [errW_none, errW_some] <;> rfl) | (simp only [← hji7, ← hji9]; first | rfl | (simp [errW_none, errW_some] <;> rfl)) | (simp [*, errW_none, errW_some] <;> rfl), by repeat (first | (with_reducible first | exact HB.out | apply below_alloc | apply pw_below_drewN | apply below_drew1) | exact HB.out)⟩
              · rw [if_neg c18] at H
                have c18b0 : (t380 == (wrap64 (Int.tdiv (wrap64 ((ji9) * (ji9))) 2))) = false := beq_eq_false_iff_ne.mpr c18
                have c18b1 : (t380 != (wrap64 (Int.tdiv (wrap64 ((ji9) * (ji9))) 2))) = true := bne_iff_ne.mpr c18
                obtain rfl := Option.some.inj H
                go_enter Try.func5, Try.ntmps5
                go_wp2_with (first | ((with_reducible refine gate_callee (f := 12) rfl ?_); refine goesL_ (some 18) rfl rfl Try.func12 (by kernel_rfl) rfl #[.slice A0 l0.length c0, .slice A1 l1.length c1] rfl (by (try simp only [List.map_toArray, List.map_cons, List.map_nil]); first | done | rfl | (simp only [List.length_drop, List.length_take]; rfl)) ?_; (with_reducible refine (laws_b10Long.calls _ _ l0 _ _ l1 false _ ?side1 ?side2 ?side3 ?side4 A3.out).mono ?_); (case side1 => repeat (first | exact HR0.out | (with_reducible refine Kd.C_alloc ?_ _) | (with_reducible refine Kd.C_drewN ?_ _) | (with_reducible refine Kd.C_drew ?_))); (case side2 => exact HC0.out); (case side3 => repeat (first | exact HR1.out | (with_reducible refine Kd.C_alloc ?_ _) | (with_reducible refine Kd.C_drewN ?_ _) | (with_reducible refine Kd.C_drew ?_))); (case side4 => exact HC1.out); rintro e w' ⟨rfl, ⟨nd, rfl⟩⟩; refine ⟨_, rfl, ?_⟩) | ((with_reducible refine gate_callee (f := 13) rfl ?_); refine goesL_ (some 20) rfl rfl Try.func13 (by kernel_rfl) rfl #[.slice A0 l0.length c0, .int .i64 0, .int .i64 3] rfl (by (try simp only [List.map_toArray, List.map_cons, List.map_nil]); first | done | rfl | (simp only [List.length_drop, List.length_take]; rfl)) ?_; (with_reducible refine (laws_b10At.calls _ _ l0 0 3 t375 _ ?side1 ?side2 A5.out).mono ?_); (case side1 => repeat (first | exact HR0.out | (with_reducible refine Kd.C_alloc ?_ _) | (with_reducible refine Kd.C_drewN ?_ _) | (with_reducible refine Kd.C_drew ?_))); (case side2 => exact HC0.out); rintro e w' ⟨rfl, ⟨nd, rfl⟩⟩; refine ⟨_, rfl, ?_⟩) | ((with_reducible refine gate_callee (f := 34) rfl ?_); refine goesL_ (some 24) rfl rfl Try.func34 (by kernel_rfl) rfl #[.int .i64 (wrap64 (1 + t375))] rfl (by (try simp only [List.map_toArray, List.map_cons, List.map_nil]); first | done | rfl | (simp only [List.length_drop, List.length_take]; rfl)) ?_; (with_reducible refine (impl_DoublingMask.calls (wrap64 (1 + t375)) t376 true _ A6.out).mono ?_); rintro e w36 ⟨v378, rfl, ho0, hb⟩; refine ⟨_, rfl, ?_⟩; have n0_ := Aside0.mk (Kd.S_lower ho0 (below_size (by repeat (first | (with_reducible first | exact HB.out | apply below_alloc | apply pw_below_drewN | apply below_drew1) | exact HB.out)))); have n1_ := Aside0.mk (below_step (by repeat (first | (with_reducible first | exact HB.out | apply below_alloc | apply pw_below_drewN | apply below_drew1) | exact HB.out)) hb); clear HB; have HO379 := n0_; have HB := n1_; clear n0_ n1_; (try clear hb); (try clear hb2); (try clear hk); (try clear hi); (try clear ho0); obtain ⟨Ao37, co37, eo37⟩ := Kd.S_slice HO379.out; subst eo37) | ((with_reducible refine gate_callee (f := 35) rfl ?_); refine goesL_ (some 32) rfl rfl Try.func35 (by kernel_rfl) rfl #[.slice Ao37 t376.length co37, .int .i64 2] rfl (by (try simp only [List.map_toArray, List.map_cons, List.map_nil]); first | done | rfl | (simp only [List.length_drop, List.length_take]; rfl)) ?_; (with_reducible refine (impl_SpreadOf.calls _ _ t376 2 t380 true _ ?side1 ?side2 A10.out).mono ?_); (case side1 => repeat (first | exact (Kd.S_reads' HO379.out).2.2 | (with_reducible refine Kd.C_alloc ?_ _) | (with_reducible refine Kd.C_drewN ?_ _) | (with_reducible refine Kd.C_drew ?_))); (case side2 => exact (Kd.S_reads' HO379.out).2.1); rintro e w38 ⟨rfl, hb⟩; refine ⟨_, rfl, ?_⟩; have n0_ := Aside0.mk (Kd.S_below (by (with_reducible repeat (first | apply Kd.S_alloc | apply Kd.S_drewN | apply Kd.S_drew)); exact HO379.out) hb); have n1_ := Aside0.mk (below_step (by repeat (first | (with_reducible first | exact HB.out | apply below_alloc | apply pw_below_drewN | apply below_drew1) | exact HB.out)) hb); clear HO379; clear HB; have HO379 := n0_; have HB := n1_; clear n0_ n1_; (try clear hb); (try clear hb2); (try clear hk); (try clear hi)) | ((with_reducible refine gate_callee (f := 13) rfl ?_); refine goesL_ (some 40) rfl rfl Try.func13 (by kernel_rfl) rfl #[.slice A1 l1.length c1, .int .i64 0, .int .i64 (wrap64 ((wrap64 ((ji9) * (ji9))) - 1))] rfl (by (try simp only [List.map_toArray, List.map_cons, List.map_nil]); first | done | (simp only [hji9]; rfl) | rfl | (simp only [List.length_drop, List.length_take]; rfl)) ?_; (with_reducible refine (laws_b10At.calls _ _ l1 0 (wrap64 ((wrap64 ((ji9) * (ji9))) - 1)) t382 _ ?side1 ?side2 A11.out).mono ?_); (case side1 => repeat (first | exact (Kd.C_below HR1.out HB.out) | (with_reducible refine Kd.C_alloc ?_ _) | (with_reducible refine Kd.C_drewN ?_ _) | (with_reducible refine Kd.C_drew ?_))); (case side2 => exact HC1.out); rintro e w' ⟨rfl, ⟨nd, rfl⟩⟩; refine ⟨_, rfl, ?_⟩) | ((with_reducible refine gate_callee (f := 35) rfl ?_); refine goesL_ (some 45) rfl rfl Try.func35 (by kernel_rfl) rfl #[.slice Ao37 t376.length co37, .int .i64 (wrap64 (2 + t382))] rfl (by (try simp only [List.map_toArray, List.map_cons, List.map_nil]); first | done | rfl | (simp only [List.length_drop, List.length_take]; rfl)) ?_; (with_reducible refine (impl_SpreadOf.calls _ _ t376 (wrap64 (2 + t382)) t383 true _ ?side1 ?side2 A12.out).mono ?_); (case side1 => repeat (first | exact (Kd.S_reads' HO379.out).2.2 | (with_reducible refine Kd.C_alloc ?_ _) | (with_reducible refine Kd.C_drewN ?_ _) | (with_reducible refine Kd.C_drew ?_))); (case side2 => exact (Kd.S_reads' HO379.out).2.1); rintro e w39 ⟨rfl, hb⟩; refine ⟨_, rfl, ?_⟩; have n0_ := Aside0.mk (Kd.S_below (by (with_reducible repeat (first | apply Kd.S_alloc | apply Kd.S_drewN | apply Kd.S_drew)); exact HO379.out) hb); have n1_ := Aside0.mk (below_step (by repeat (first | (with_reducible first | exact HB.out | apply below_alloc | apply pw_below_drewN | apply below_drew1) | exact HB.out)) hb); clear HO379; clear HB; have HO379 := n0_; have HB := n1_; clear n0_ n1_; (try clear hb); (try clear hb2); (try clear hk); (try clear hi)) | ((with_reducible refine gate_callee (f := 35) rfl ?_); refine goesL_ (some 53) rfl rfl Try.func35 (by kernel_rfl) rfl #[.slice Ao37 t376.length co37, .int .i64 (wrap64 ((ji9) * (ji9)))] rfl (by (try simp only [List.map_toArray, List.map_cons, List.map_nil]); first | done | (simp only [hji9]; rfl) | rfl | (simp only [List.length_drop, List.length_take]; rfl)) ?_; (with_reducible refine (impl_SpreadOf.calls _ _ t376 (wrap64 ((ji9) * (ji9))) t385 true _ ?side1 ?side2 A13.out).mono ?_); (case side1 => repeat (first | exact (Kd.S_reads' HO379.out).2.2 | (with_reducible refine Kd.C_alloc ?_ _) | (with_reducible refine Kd.C_drewN ?_ _) | (with_reducible refine Kd.C_drew ?_))); (case side2 => exact (Kd.S_reads' HO379.out).2.1); rintro e w40 ⟨rfl, hb⟩; refine ⟨_, rfl, ?_⟩; have n0_ := Aside0.mk (Kd.S_below (by (with_reducible repeat (first | apply Kd.S_alloc | apply Kd.S_drewN | apply Kd.S_drew)); exact HO379.out) hb); have n1_ := Aside0.mk (below_step (by repeat (first | (with_reducible first | exact HB.out | apply below_alloc | apply pw_below_drewN | apply below_drew1) | exact HB.out)) hb); clear HO379; clear HB; have HO379 := n0_; have HB := n1_; clear n0_ n1_; (try clear hb); (try clear hb2); (try clear hk); (try clear hi)))
                go_ret
                exact ⟨by first | rfl | (simp [errW_none, errW_some] <;> rfl) | (simp only [← hji7, ← hji9]; first | rfl | (simp [errW_none, errW_some] <;> rfl)) | (simp [*, errW_none, errW_some] <;> rfl), by repeat (first | (with_reducible first | exact HB.out | apply below_alloc | apply pw_below_drewN | apply below_drew1) | exact HB.out)⟩
            · replace c17 := Bool.eq_false_iff.mpr c17
              subst c17
              have H1 : (some false) = some r := by rw [if_neg (show ¬ (false = true) by decide)] at H; exact H
              clear H
              have H := H1
              clear H1
              obtain rfl := Option.some.inj H
              go_enter Try.func5, Try.ntmps5
              go_wp2_with (first | ((with_reducible refine gate_callee (f := 12) rfl ?_); refine goesL_ (some 18) rfl rfl Try.func12 (by kernel_rfl) rfl #[.slice A0 l0.length c0, .slice A1 l1.length c1] rfl (by (try simp only [List.map_toArray, List.map_cons, List.map_nil]); first | done | rfl | (simp only [List.length_drop, List.length_take]; rfl)) ?_; (with_reducible refine (laws_b10Long.calls _ _ l0 _ _ l1 false _ ?side1 ?side2 ?side3 ?side4 A3.out).mono ?_); (case side1 => repeat (first | exact HR0.out | (with_reducible refine Kd.C_alloc ?_ _) | (with_reducible refine Kd.C_drewN ?_ _) | (with_reducible refine Kd.C_drew ?_))); (case side2 => exact HC0.out); (case side3 => repeat (first | exact HR1.out | (with_reducible refine Kd.C_alloc ?_ _) | (with_reducible refine Kd.C_drewN ?_ _) | (with_reducible refine Kd.C_drew ?_))); (case side4 => exact HC1.out); rintro e w' ⟨rfl, ⟨nd, rfl⟩⟩; refine ⟨_, rfl, ?_⟩) | ((with_reducible refine gate_callee (f := 13) rfl ?_); refine goesL_ (some 20) rfl rfl Try.func13 (by kernel_rfl) rfl #[.slice A0 l0.length c0, .int .i64 0, .int .i64 3] rfl (by (try simp only [List.map_toArray, List.map_cons, List.map_nil]); first | done | rfl | (simp only [List.length_drop, List.length_take]; rfl)) ?_; (with_reducible refine (laws_b10At.calls _ _ l0 0 3 t375 _ ?side1 ?side2 A5.out).mono ?_); (case side1 => repeat (first | exact HR0.out | (with_reducible refine Kd.C_alloc ?_ _) | (with_reducible refine Kd.C_drewN ?_ _) | (with_reducible refine Kd.C_drew ?_))); (case side2 => exact HC0.out); rintro e w' ⟨rfl, ⟨nd, rfl⟩⟩; refine ⟨_, rfl, ?_⟩) | ((with_reducible refine gate_callee (f := 34) rfl ?_); refine goesL_ (some 24) rfl rfl Try.func34 (by kernel_rfl) rfl #[.int .i64 (wrap64 (1 + t375))] rfl (by (try simp only [List.map_toArray, List.map_cons, List.map_nil]); first | done | rfl | (simp only [List.length_drop, List.length_take]; rfl)) ?_; (with_reducible refine (impl_DoublingMask.calls (wrap64 (1 + t375)) t376 true _ A6.out).mono ?_); rintro e w41 ⟨v378, rfl, ho0, hb⟩; refine ⟨_, rfl, ?_⟩; have n0_ := Aside0.mk (Kd.S_lower ho0 (below_size (by repeat (first | (with_reducible first | exact HB.out | apply below_alloc | apply pw_below_drewN | apply below_drew1) | exact HB.out)))); have n1_ := Aside0.mk (below_step (by repeat (first | (with_reducible first | exact HB.out | apply below_alloc | apply pw_below_drewN | apply below_drew1) | exact HB.out)) hb); clear HB; have HO379 := n0_; have HB := n1_; clear n0_ n1_; (try clear hb); (try clear hb2); (try clear hk); (try clear hi); (try clear ho0); obtain ⟨Ao42, co42, eo42⟩ := Kd.S_slice HO379.out; subst eo42) | ((with_reducible refine gate_callee (f := 35) rfl ?_); refine goesL_ (some 32) rfl rfl Try.func35 (by kernel_rfl) rfl #[.slice Ao42 t376.length co42, .int .i64 2] rfl (by (try simp only [List.map_toArray, List.map_cons, List.map_nil]); first | done | rfl | (simp only [List.length_drop, List.length_take]; rfl)) ?_; (with_reducible refine (impl_SpreadOf.calls _ _ t376 2 t380 true _ ?side1 ?side2 A10.out).mono ?_); (case side1 => repeat (first | exact (Kd.S_reads' HO379.out).2.2 | (with_reducible refine Kd.C_alloc ?_ _) | (with_reducible refine Kd.C_drewN ?_ _) | (with_reducible refine Kd.C_drew ?_))); (case side2 => exact (Kd.S_reads' HO379.out).2.1); rintro e w43 ⟨rfl, hb⟩; refine ⟨_, rfl, ?_⟩; have n0_ := Aside0.mk (Kd.S_below (by (with_reducible repeat (first | apply Kd.S_alloc | apply Kd.S_drewN | apply Kd.S_drew)); exact HO379.out) hb); have n1_ := Aside0.mk (below_step (by repeat (first | (with_reducible first | exact HB.out | apply below_alloc | apply pw_below_drewN | apply below_drew1) | exact HB.out)) hb); clear HO379; clear HB; have HO379 := n0_; have HB := n1_; clear n0_ n1_; (try clear hb); (try clear hb2); (try clear hk); (try clear hi)) | ((with_reducible refine gate_callee (f := 13) rfl ?_); refine goesL_ (some 40) rfl rfl Try.func13 (by kernel_rfl) rfl #[.slice A1 l1.length c1, .int .i64 0, .int .i64 (wrap64 ((wrap64 ((ji9) * (ji9))) - 1))] rfl (by (try simp only [List.map_toArray, List.map_cons, List.map_nil]); first | done | (simp only [hji9]; rfl) | rfl | (simp only [List.length_drop, List.length_take]; rfl)) ?_; (with_reducible refine (laws_b10At.calls _ _ l1 0 (wrap64 ((wrap64 ((ji9) * (ji9))) - 1)) t382 _ ?side1 ?side2 A11.out).mono ?_); (case side1 => repeat (first | exact (Kd.C_below HR1.out HB.out) | (with_reducible refine Kd.C_alloc ?_ _) | (with_reducible refine Kd.C_drewN ?_ _) | (with_reducible refine Kd.C_drew ?_))); (case side2 => exact HC1.out); rintro e w' ⟨rfl, ⟨nd, rfl⟩⟩; refine ⟨_, rfl, ?_⟩) | ((with_reducible refine gate_callee (f := 35) rfl ?_); refine goesL_ (some 45) rfl rfl Try.func35 (by kernel_rfl) rfl #[.slice Ao42 t376.length co42, .int .i64 (wrap64 (2 + t382))] rfl (by (try simp only [List.map_toArray, List.map_cons, List.map_nil]); first | done | rfl | (simp only [List.length_drop, List.length_take]; rfl)) ?_; (with_reducible refine (impl_SpreadOf.calls _ _ t376 (wrap64 (2 + t382)) t383 true _ ?side1 ?side2 A12.out).mono ?_); (case side1 => repeat (first | exact (Kd.S_reads' HO379.out).2.2 | (with_reducible refine Kd.C_alloc ?_ _) | (with_reducible refine Kd.C_drewN ?_ _) | (with_reducible refine Kd.C_drew ?_))); (case side2 => exact (Kd.S_reads' HO379.out).2.1); rintro e w44 ⟨rfl, hb⟩; refine ⟨_, rfl, ?_⟩; have n0_ := Aside0.mk (Kd.S_below (by (with_reducible repeat (first | apply Kd.S_alloc | apply Kd.S_drewN | apply Kd.S_drew)); exact HO379.out) hb); have n1_ := Aside0.mk (below_step (by repeat (first | (with_reducible first | exact HB.out | apply below_alloc | apply pw_below_drewN | apply below_drew1) | exact HB.out)) hb); clear HO379; clear HB; have HO379 := n0_; have HB := n1_; clear n0_ n1_; (try clear hb); (try clear hb2); (try clear hk); (try clear hi)) | ((with_reducible refine gate_callee (f := 35) rfl ?_); refine goesL_ (some 53) rfl rfl Try.func35 (by kernel_rfl) rfl #[.slice Ao42 t376.length co42, .int .i64 (wrap64 ((ji9) * (ji9)))] rfl (by (try simp only [List.map_toArray, List.map_cons, List.map_nil]); first | done | (simp only [hji9]; rfl) | rfl | (simp only [List.length_drop, List.length_take]; rfl)) ?_; (with_reducible refine (impl_SpreadOf.calls _ _ t376 (wrap64 ((ji9) * (ji9))) t385 false _ ?side1 ?side2 A13.out).mono ?_); (case side1 => repeat (first | exact (Kd.S_reads' HO379.out).2.2 | (with_reducible refine Kd.C_alloc ?_ _) | (with_reducible refine Kd.C_drewN ?_ _) | (with_reducible refine Kd.C_drew ?_))); (case side2 => exact (Kd.S_reads' HO379.out).2.1); rintro e w45 ⟨rfl, hb⟩; refine ⟨_, rfl, ?_⟩; have n0_ := Aside0.mk (Kd.S_below (by (with_reducible repeat (first | apply Kd.S_alloc | apply Kd.S_drewN | apply Kd.S_drew)); exact HO379.out) hb); have n1_ := Aside0.mk (below_step (by repeat (first | (with_reducible first | exact HB.out | apply below_alloc | apply pw_below_drewN | apply below_drew1) | exact HB.out)) hb); clear HO379; clear HB; have HO379 := n0_; have HB := n1_; clear n0_ n1_; (try clear hb); (try clear hb2); (try clear hk); (try clear hi)))
              go_ret
              exact ⟨by first | rfl | (simp [errW_none, errW_some] <;> rfl) | (simp only [← hji7, ← hji9]; first | rfl | (simp [errW_none, errW_some] <;> rfl)) | (simp [*, errW_none, errW_some] <;> rfl), by repeat (first | (with_reducible first | exact HB.out | apply below_alloc | apply pw_below_drewN | apply below_drew1) | exact HB.out)⟩
          · replace c16 := Bool.eq_false_iff.mpr c16
            subst c16
            have H1 : (some false) = some r := by rw [if_neg (show ¬ (false = true) by decide)] at H; exact H
            clear H
            have H := H1
            clear H1
            obtain rfl := Option.some.inj H
            go_enter Try.func5, Try.ntmps5
            go_wp2_with (first | ((with_reducible refine gate_callee (f := 12) rfl ?_); refine goesL_ (some 18) rfl rfl Try.func12 (by kernel_rfl) rfl #[.slice A0 l0.length c0, .slice A1 l1.length c1] rfl (by (try simp only [List.map_toArray, List.map_cons, List.map_nil]); first | done | rfl | (simp only [List.length_drop, List.length_take]; rfl)) ?_; (with_reducible refine (laws_b10Long.calls _ _ l0 _ _ l1 false _ ?side1 ?side2 ?side3 ?side4 A3.out).mono ?_); (case side1 => repeat (first | exact HR0.out | (with_reducible refine Kd.C_alloc ?_ _) | (with_reducible refine Kd.C_drewN ?_ _) | (with_reducible refine Kd.C_drew ?_))); (case side2 => exact HC0.out); (case side3 => repeat (first | exact HR1.out | (with_reducible refine Kd.C_alloc ?_ _) | (with_reducible refine Kd.C_drewN ?_ _) | (with_reducible refine Kd.C_drew ?_))); (case side4 => exact HC1.out); rintro e w' ⟨rfl, ⟨nd, rfl⟩⟩; refine ⟨_, rfl, ?_⟩) | ((with_reducible refine gate_callee (f := 13) rfl ?_); refine goesL_ (some 20) rfl rfl Try.func13 (by kernel_rfl) rfl #[.slice A0 l0.length c0, .int .i64 0, .int .i64 3] rfl (by (try simp only [List.map_toArray, List.map_cons, List.map_nil]); first | done | rfl | (simp only [List.length_drop, List.length_take]; rfl)) ?_; (with_reducible refine (laws_b10At.calls _ _ l0 0 3 t375 _ ?side1 ?side2 A5.out).mono ?_); (case side1 => repeat (first | exact HR0.out | (with_reducible refine Kd.C_alloc ?_ _) | (with_reducible refine Kd.C_drewN ?_ _) | (with_reducible refine Kd.C_drew ?_))); (case side2 => exact HC0.out); rintro e w' ⟨rfl, ⟨nd, rfl⟩⟩; refine ⟨_, rfl, ?_⟩) | ((with_reducible refine gate_callee (f := 34) rfl ?_); refine goesL_ (some 24) rfl rfl Try.func34 (by kernel_rfl) rfl #[.int .i64 (wrap64 (1 + t375))] rfl (by (try simp only [List.map_toArray, List.map_cons, List.map_nil]); first | done | rfl | (simp only [List.length_drop, List.length_take]; rfl)) ?_; (with_reducible refine (impl_DoublingMask.calls (wrap64 (1 + t375)) t376 true _ A6.out).mono ?_); rintro e w46 ⟨v378, rfl, ho0, hb⟩; refine ⟨_, rfl, ?_⟩; have n0_ := Aside0.mk (Kd.S_lower ho0 (below_size (by repeat (first | (with_reducible first | exact HB.out | apply below_alloc | apply pw_below_drewN | apply below_drew1) | exact HB.out)))); have n1_ := Aside0.mk (below_step (by repeat (first | (with_reducible first | exact HB.out | apply below_alloc | apply pw_below_drewN | apply below_drew1) | exact HB.out)) hb); clear HB; have HO379 := n0_; have HB := n1_; clear n0_ n1_; (try clear hb); (try clear hb2); (try clear hk); (try clear hi); (try clear ho0); obtain ⟨Ao47, co47, eo47⟩ := Kd.S_slice HO379.out; subst eo47) | ((with_reducible refine gate_callee (f := 35) rfl ?_); refine goesL_ (some 32) rfl rfl Try.func35 (by kernel_rfl) rfl #[.slice Ao47 t376.length co47, .int .i64 2] rfl (by (try simp only [List.map_toArray, List.map_cons, List.map_nil]); first | done | rfl | (simp only [List.length_drop, List.length_take]; rfl)) ?_; (with_reducible refine (impl_SpreadOf.calls _ _ t376 2 t380 true _ ?side1 ?side2 A10.out).mono ?_); (case side1 => repeat (first | exact (Kd.S_reads' HO379.out).2.2 | (with_reducible refine Kd.C_alloc ?_ _) | (with_reducible refine Kd.C_drewN ?_ _) | (with_reducible refine Kd.C_drew ?_))); (case side2 => exact (Kd.S_reads' HO379.out).2.1); rintro e w48 ⟨rfl, hb⟩; refine ⟨_, rfl, ?_⟩; have n0_ := Aside0.mk (Kd.S_below (by (with_reducible repeat (first | apply Kd.S_alloc | apply Kd.S_drewN | apply Kd.S_drew)); exact HO379.out) hb); have n1_ := Aside0.mk (below_step (by repeat (first | (with_reducible first | exact HB.out | apply below_alloc | apply pw_below_drewN | apply below_drew1) | exact HB.out)) hb); clear HO379; clear HB; have HO379 := n0_; have HB := n1_; clear n0_ n1_; (try clear hb); (try clear hb2); (try clear hk); (try clear hi)) | ((with_reducible refine gate_callee (f := 13) rfl ?_); refine goesL_ (some 40) rfl rfl Try.func13 (by kernel_rfl) rfl #[.slice A1 l1.length c1, .int .i64 0, .int .i64 (wrap64 ((wrap64 ((ji9) * (ji9))) - 1))] rfl (by (try simp only [List.map_toArray, List.map_cons, List.map_nil]); first | done | (simp only [hji9]; rfl) | rfl | (simp only [List.length_drop, List.length_take]; rfl)) ?_; (with_reducible refine (laws_b10At.calls _ _ l1 0 (wrap64 ((wrap64 ((ji9) * (ji9))) - 1)) t382 _ ?side1 ?side2 A11.out).mono ?_); (case side1 => repeat (first | exact (Kd.C_below HR1.out HB.out) | (with_reducible refine Kd.C_alloc ?_ _) | (with_reducible refine Kd.C_drewN ?_ _) | (with_reducible refine Kd.C_drew ?_))); (case side2 => exact HC1.out); rintro e w' ⟨rfl, ⟨nd, rfl⟩⟩; refine ⟨_, rfl, ?_⟩) | ((with_reducible refine gate_callee (f := 35) rfl ?_); refine goesL_ (some 45) rfl rfl Try.func35 (by kernel_rfl) rfl #[.slice Ao47 t376.length co47, .int .i64 (wrap64 (2 + t382))] rfl (by (try simp only [List.map_toArray, List.map_cons, List.map_nil]); first | done | rfl | (simp only [List.length_drop, List.length_take]; rfl)) ?_; (with_reducible refine (impl_SpreadOf.calls _ _ t376 (wrap64 (2 + t382)) t383 false _ ?side1 ?side2 A12.out).mono ?_); (case side1 => repeat (first | exact (Kd.S_reads' HO379.out).2.2 | (with_reducible refine Kd.C_alloc ?_ _) | (with_reducible refine Kd.C_drewN ?_ _) | (with_reducible refine Kd.C_drew ?_))); (case side2 => exact (Kd.S_reads' HO379.out).2.1); rintro e w49 ⟨rfl, hb⟩; refine ⟨_, rfl, ?_⟩; have n0_ := Aside0.mk (Kd.S_below (by (with_reducible repeat (first | apply Kd.S_alloc | apply Kd.S_drewN | apply Kd.S_drew)); exact HO379.out) hb); have n1_ := Aside0.mk (below_step (by repeat (first | (with_reducible first | exact HB.out | apply below_alloc | apply pw_below_drewN | apply below_drew1) | exact HB.out)) hb); clear HO379; clear HB; have HO379 := n0_; have HB := n1_; clear n0_ n1_; (try clear hb); (try clear hb2); (try clear hk); (try clear hi)) | ((with_reducible refine gate_callee (f := 35) rfl ?_); refine goesL_ (some 53) rfl rfl Try.func35 (by kernel_rfl) rfl #[.slice Ao47 t376.length co47, .int .i64 (wrap64 ((ji9) * (ji9)))] rfl (by (try simp only [List.map_toArray, List.map_cons, List.map_nil]); first | done | (simp only [hji9]; rfl) | rfl | (simp only [List.length_drop, List.length_take]; rfl)) ?_; (with_reducible refine (impl_SpreadOf.calls _ _ t376 (wrap64 ((ji9) * (ji9))) t385 t386 _ ?side1 ?side2 A13.out).mono ?_); (case side1 => repeat (first | exact (Kd.S_reads' HO379.out).2.2 | (with_reducible refine Kd.C_alloc ?_ _) | (with_reducible refine Kd.C_drewN ?_ _) | (with_reducible refine Kd.C_drew ?_))); (case side2 => exact (Kd.S_reads' HO379.out).2.1); rintro e w50 ⟨rfl, hb⟩; refine ⟨_, rfl, ?_⟩; have n0_ := Aside0.mk (Kd.S_below (by (with_reducible repeat (first | apply Kd.S_alloc | apply Kd.S_drewN | apply Kd.S_drew)); exact HO379.out) hb); have n1_ := Aside0.mk (below_step (by repeat (first | (with_reducible first | exact HB.out | apply below_alloc | apply pw_below_drewN | apply below_drew1) | exact HB.out)) hb); clear HO379; clear HB; have HO379 := n0_; have HB := n1_; clear n0_ n1_; (try clear hb); (try clear hb2); (try clear hk); (try clear hi)))
            go_ret
            exact ⟨by first | rfl | (simp [errW_none, errW_some] <;> rfl) | (simp only [← hji7, ← hji9]; first | rfl | (simp [errW_none, errW_some] <;> rfl)) | (simp [*, errW_none, errW_some] <;> rfl), by repeat (first | (with_reducible first | exact HB.out | apply below_alloc | apply pw_below_drewN | apply below_drew1) | exact HB.out)⟩
        · replace c15 := Bool.eq_false_iff.mpr c15
          subst c15
          have H1 : (some false) = some r := by rw [if_neg (show ¬ (false = true) by decide)] at H; exact H
          clear H
          have H := H1
          clear H1
          obtain rfl := Option.some.inj H
          go_enter Try.func5, Try.ntmps5
          go_wp2_with (first | ((with_reducible refine gate_callee (f := 12) rfl ?_); refine goesL_ (some 18) rfl rfl Try.func12 (by kernel_rfl) rfl #[.slice A0 l0.length c0, .slice A1 l1.length c1] rfl (by (try simp only [List.map_toArray, List.map_cons, List.map_nil]); first | done | rfl | (simp only [List.length_drop, List.length_take]; rfl)) ?_; (with_reducible refine (laws_b10Long.calls _ _ l0 _ _ l1 false _ ?side1 ?side2 ?side3 ?side4 A3.out).mono ?_); (case side1 => repeat (first | exact HR0.out | (with_reducible refine Kd.C_alloc ?_ _) | (with_reducible refine Kd.C_drewN ?_ _) | (with_reducible refine Kd.C_drew ?_))); (case side2 => exact HC0.out); (case side3 => repeat (first | exact HR1.out | (with_reducible refine Kd.C_alloc ?_ _) | (with_reducible refine Kd.C_drewN ?_ _) | (with_reducible refine Kd.C_drew ?_))); (case side4 => exact HC1.out); rintro e w' ⟨rfl, ⟨nd, rfl⟩⟩; refine ⟨_, rfl, ?_⟩) | ((with_reducible refine gate_callee (f := 13) rfl ?_); refine goesL_ (some 20) rfl rfl Try.func13 (by kernel_rfl) rfl #[.slice A0 l0.length c0, .int .i64 0, .int .i64 3] rfl (by (try simp only [List.map_toArray, List.map_cons, List.map_nil]); first | done | rfl | (simp only [List.length_drop, List.length_take]; rfl)) ?_; (with_reducible refine (laws_b10At.calls _ _ l0 0 3 t375 _ ?side1 ?side2 A5.out).mono ?_); (case side1 => repeat (first | exact HR0.out | (with_reducible refine Kd.C_alloc ?_ _) | (with_reducible refine Kd.C_drewN ?_ _) | (with_reducible refine Kd.C_drew ?_))); (case side2 => exact HC0.out); rintro e w' ⟨rfl, ⟨nd, rfl⟩⟩; refine ⟨_, rfl, ?_⟩) | ((with_reducible refine gate_callee (f := 34) rfl ?_); refine goesL_ (some 24) rfl rfl Try.func34 (by kernel_rfl) rfl #[.int .i64 (wrap64 (1 + t375))] rfl (by (try simp only [List.map_toArray, List.map_cons, List.map_nil]); first | done | rfl | (simp only [List.length_drop, List.length_take]; rfl)) ?_; (with_reducible refine (impl_DoublingMask.calls (wrap64 (1 + t375)) t376 true _ A6.out).mono ?_); rintro e w51 ⟨v378, rfl, ho0, hb⟩; refine ⟨_, rfl, ?_⟩; have n0_ := Aside0.mk (Kd.S_lower ho0 (below_size (by repeat (first | (with_reducible first | exact HB.out | apply below_alloc | apply pw_below_drewN | apply below_drew1) | exact HB.out)))); have n1_ := Aside0.mk (below_step (by repeat (first | (with_reducible first | exact HB.out | apply below_alloc | apply pw_below_drewN | apply below_drew1) | exact HB.out)) hb); clear HB; have HO379 := n0_; have HB := n1_; clear n0_ n1_; (try clear hb); (try clear hb2); (try clear hk); (try clear hi); (try clear ho0); obtain ⟨Ao52, co52, eo52⟩ := Kd.S_slice HO379.out; subst eo52) | ((with_reducible refine gate_callee (f := 35) rfl ?_); refine goesL_ (some 32) rfl rfl Try.func35 (by kernel_rfl) rfl #[.slice Ao52 t376.length co52, .int .i64 2] rfl (by (try simp only [List.map_toArray, List.map_cons, List.map_nil]); first | done | rfl | (simp only [List.length_drop, List.length_take]; rfl)) ?_; (with_reducible refine (impl_SpreadOf.calls _ _ t376 2 t380 false _ ?side1 ?side2 A10.out).mono ?_); (case side1 => repeat (first | exact (Kd.S_reads' HO379.out).2.2 | (with_reducible refine Kd.C_alloc ?_ _) | (with_reducible refine Kd.C_drewN ?_ _) | (with_reducible refine Kd.C_drew ?_))); (case side2 => exact (Kd.S_reads' HO379.out).2.1); rintro e w53 ⟨rfl, hb⟩; refine ⟨_, rfl, ?_⟩; have n0_ := Aside0.mk (Kd.S_below (by (with_reducible repeat (first | apply Kd.S_alloc | apply Kd.S_drewN | apply Kd.S_drew)); exact HO379.out) hb); have n1_ := Aside0.mk (below_step (by repeat (first | (with_reducible first | exact HB.out | apply below_alloc | apply pw_below_drewN | apply below_drew1) | exact HB.out)) hb); clear HO379; clear HB; have HO379 := n0_; have HB := n1_; clear n0_ n1_; (try clear hb); (try clear hb2); (try clear hk); (try clear hi)) | ((with_reducible refine gate_callee (f := 13) rfl ?_); refine goesL_ (some 40) rfl rfl Try.func13 (by kernel_rfl) rfl #[.slice A1 l1.length c1, .int .i64 0, .int .i64 (wrap64 ((wrap64 ((ji9) * (ji9))) - 1))] rfl (by (try simp only [List.map_toArray, List.map_cons, List.map_nil]); first | done | (simp only [hji9]; rfl) | rfl | (simp only [List.length_drop, List.length_take]; rfl)) ?_; (with_reducible refine (laws_b10At.calls _ _ l1 0 (wrap64 ((wrap64 ((ji9) * (ji9))) - 1)) t382 _ ?side1 ?side2 A11.out).mono ?_); (case side1 => repeat (first | exact (Kd.C_below HR1.out HB.out) | (with_reducible refine Kd.C_alloc ?_ _) | (with_reducible refine Kd.C_drewN ?_ _) | (with_reducible refine Kd.C_drew ?_))); (case side2 => exact HC1.out); rintro e w' ⟨rfl, ⟨nd, rfl⟩⟩; refine ⟨_, rfl, ?_⟩) | ((with_reducible refine gate_callee (f := 35) rfl ?_); refine goesL_ (some 45) rfl rfl Try.func35 (by kernel_rfl) rfl #[.slice Ao52 t376.length co52, .int .i64 (wrap64 (2 + t382))] rfl (by (try simp only [List.map_toArray, List.map_cons, List.map_nil]); first | done | rfl | (simp only [List.length_drop, List.length_take]; rfl)) ?_; (with_reducible refine (impl_SpreadOf.calls _ _ t376 (wrap64 (2 + t382)) t383 t384 _ ?side1 ?side2 A12.out).mono ?_); (case side1 => repeat (first | exact (Kd.S_reads' HO379.out).2.2 | (with_reducible refine Kd.C_alloc ?_ _) | (with_reducible refine Kd.C_drewN ?_ _) | (with_reducible refine Kd.C_drew ?_))); (case side2 => exact (Kd.S_reads' HO379.out).2.1); rintro e w54 ⟨rfl, hb⟩; refine ⟨_, rfl, ?_⟩; have n0_ := Aside0.mk (Kd.S_below (by (with_reducible repeat (first | apply Kd.S_alloc | apply Kd.S_drewN | apply Kd.S_drew)); exact HO379.out) hb); have n1_ := Aside0.mk (below_step (by repeat (first | (with_reducible first | exact HB.out | apply below_alloc | apply pw_below_drewN | apply below_drew1) | exact HB.out)) hb); clear HO379; clear HB; have HO379 := n0_; have HB := n1_; clear n0_ n1_; (try clear hb); (try clear hb2); (try clear hk); (try clear hi)) | ((with_reducible refine gate_callee (f := 35) rfl ?_); refine goesL_ (some 53) rfl rfl Try.func35 (by kernel_rfl) rfl #[.slice Ao52 t376.length co52, .int .i64 (wrap64 ((ji9) * (ji9)))] rfl (by (try simp only [List.map_toArray, List.map_cons, List.map_nil]); first | done | (simp only [hji9]; rfl) | rfl | (simp only [List.length_drop, List.length_take]; rfl)) ?_; (with_reducible refine (impl_SpreadOf.calls _ _ t376 (wrap64 ((ji9) * (ji9))) t385 t386 _ ?side1 ?side2 A13.out).mono ?_); (case side1 => repeat (first | exact (Kd.S_reads' HO379.out).2.2 | (with_reducible refine Kd.C_alloc ?_ _) | (with_reducible refine Kd.C_drewN ?_ _) | (with_reducible refine Kd.C_drew ?_))); (case side2 => exact (Kd.S_reads' HO379.out).2.1); rintro e w55 ⟨rfl, hb⟩; refine ⟨_, rfl, ?_⟩; have n0_ := Aside0.mk (Kd.S_below (by (with_reducible repeat (first | apply Kd.S_alloc | apply Kd.S_drewN | apply Kd.S_drew)); exact HO379.out) hb); have n1_ := Aside0.mk (below_step (by repeat (first | (with_reducible first | exact HB.out | apply below_alloc | apply pw_below_drewN | apply below_drew1) | exact HB.out)) hb); clear HO379; clear HB; have HO379 := n0_; have HB := n1_; clear n0_ n1_; (try clear hb); (try clear hb2); (try clear hk); (try clear hi)))
          go_ret
          exact ⟨by first | rfl | (simp [errW_none, errW_some] <;> rfl) | (simp only [← hji7, ← hji9]; first | rfl | (simp [errW_none, errW_some] <;> rfl)) | (simp [*, errW_none, errW_some] <;> rfl), by repeat (first | (with_reducible first | exact HB.out | apply below_alloc | apply pw_below_drewN | apply below_drew1) | exact HB.out)⟩
      · replace c14 := Bool.eq_false_iff.mpr c14
        subst c14
        have H1 : (some false) = some r := by rw [if_neg (show ¬ (false = true) by decide)] at H; exact H
        clear H
        have H := H1
        clear H1
        obtain rfl := Option.some.inj H
        go_enter Try.func5, Try.ntmps5
        go_wp2_with (first | ((with_reducible refine gate_callee (f := 12) rfl ?_); refine goesL_ (some 18) rfl rfl Try.func12 (by kernel_rfl) rfl #[.slice A0 l0.length c0, .slice A1 l1.length c1] rfl (by (try simp only [List.map_toArray, List.map_cons, List.map_nil]); first | done | rfl | (simp only [List.length_drop, List.length_take]; rfl)) ?_; (with_reducible refine (laws_b10Long.calls _ _ l0 _ _ l1 false _ ?side1 ?side2 ?side3 ?side4 A3.out).mono ?_); (case side1 => repeat (first | exact HR0.out | (with_reducible refine Kd.C_alloc ?_ _) | (with_reducible refine Kd.C_drewN ?_ _) | (with_reducible refine Kd.C_drew ?_))); (case side2 => exact HC0.out); (case side3 => repeat (first | exact HR1.out | (with_reducible refine Kd.C_alloc ?_ _) | (with_reducible refine Kd.C_drewN ?_ _) | (with_reducible refine Kd.C_drew ?_))); (case side4 => exact HC1.out); rintro e w' ⟨rfl, ⟨nd, rfl⟩⟩; refine ⟨_, rfl, ?_⟩) | ((with_reducible refine gate_callee (f := 13) rfl ?_); refine goesL_ (some 20) rfl rfl Try.func13 (by kernel_rfl) rfl #[.slice A0 l0.length c0, .int .i64 0, .int .i64 3] rfl (by (try simp only [List.map_toArray, List.map_cons, List.map_nil]); first | done | rfl | (simp only [List.length_drop, List.length_take]; rfl)) ?_; (with_reducible refine (laws_b10At.calls _ _ l0 0 3 t375 _ ?side1 ?side2 A5.out).mono ?_); (case side1 => repeat (first | exact HR0.out | (with_reducible refine Kd.C_alloc ?_ _) | (with_reducible refine Kd.C_drewN ?_ _) | (with_reducible refine Kd.C_drew ?_))); (case side2 => exact HC0.out); rintro e w' ⟨rfl, ⟨nd, rfl⟩⟩; refine ⟨_, rfl, ?_⟩) | ((with_reducible refine gate_callee (f := 34) rfl ?_); refine goesL_ (some 24) rfl rfl Try.func34 (by kernel_rfl) rfl #[.int .i64 (wrap64 (1 + t375))] rfl (by (try simp only [List.map_toArray, List.map_cons, List.map_nil]); first | done | rfl | (simp only [List.length_drop, List.length_take]; rfl)) ?_; (with_reducible refine (impl_DoublingMask.calls (wrap64 (1 + t375)) t376 false _ A6.out).mono ?_); rintro e w56 ⟨v378, rfl, ho0, hb⟩; refine ⟨_, rfl, ?_⟩; have n0_ := Aside0.mk (Kd.S_lower ho0 (below_size (by repeat (first | (with_reducible first | exact HB.out | apply below_alloc | apply pw_below_drewN | apply below_drew1) | exact HB.out)))); have n1_ := Aside0.mk (below_step (by repeat (first | (with_reducible first | exact HB.out | apply below_alloc | apply pw_below_drewN | apply below_drew1) | exact HB.out)) hb); clear HB; have HO379 := n0_; have HB := n1_; clear n0_ n1_; (try clear hb); (try clear hb2); (try clear hk); (try clear hi); (try clear ho0); obtain ⟨Ao57, co57, eo57⟩ := Kd.S_slice HO379.out; subst eo57) | ((with_reducible refine gate_callee (f := 35) rfl ?_); refine goesL_ (some 32) rfl rfl Try.func35 (by kernel_rfl) rfl #[.slice Ao57 t376.length co57, .int .i64 2] rfl (by (try simp only [List.map_toArray, List.map_cons, List.map_nil]); first | done | rfl | (simp only [List.length_drop, List.length_take]; rfl)) ?_; (with_reducible refine (impl_SpreadOf.calls _ _ t376 2 t380 t381 _ ?side1 ?side2 A10.out).mono ?_); (case side1 => repeat (first | exact (Kd.S_reads' HO379.out).2.2 | (with_reducible refine Kd.C_alloc ?_ _) | (with_reducible refine Kd.C_drewN ?_ _) | (with_reducible refine Kd.C_drew ?_))); (case side2 => exact (Kd.S_reads' HO379.out).2.1); rintro e w58 ⟨rfl, hb⟩; refine ⟨_, rfl, ?_⟩; have n0_ := Aside0.mk (Kd.S_below (by (with_reducible repeat (first | apply Kd.S_alloc | apply Kd.S_drewN | apply Kd.S_drew)); exact HO379.out) hb); have n1_ := Aside0.mk (below_step (by repeat (first | (with_reducible first | exact HB.out | apply below_alloc | apply pw_below_drewN | apply below_drew1) | exact HB.out)) hb); clear HO379; clear HB; have HO379 := n0_; have HB := n1_; clear n0_ n1_; (try clear hb); (try clear hb2); (try clear hk); (try clear hi)) | ((with_reducible refine gate_callee (f := 13) rfl ?_); refine goesL_ (some 40) rfl rfl Try.func13 (by kernel_rfl) rfl #[.slice A1 l1.length c1, .int .i64 0, .int .i64 (wrap64 ((wrap64 ((ji9) * (ji9))) - 1))] rfl (by (try simp only [List.map_toArray, List.map_cons, List.map_nil]); first | done | (simp only [hji9]; rfl) | rfl | (simp only [List.length_drop, List.length_take]; rfl)) ?_; (with_reducible refine (laws_b10At.calls _ _ l1 0 (wrap64 ((wrap64 ((ji9) * (ji9))) - 1)) t382 _ ?side1 ?side2 A11.out).mono ?_); (case side1 => repeat (first | exact (Kd.C_below HR1.out HB.out) | (with_reducible refine Kd.C_alloc ?_ _) | (with_reducible refine Kd.C_drewN ?_ _) | (with_reducible refine Kd.C_drew ?_))); (case side2 => exact HC1.out); rintro e w' ⟨rfl, ⟨nd, rfl⟩⟩; refine ⟨_, rfl, ?_⟩) | ((with_reducible refine gate_callee (f := 35) rfl ?_); refine goesL_ (some 45) rfl rfl Try.func35 (by kernel_rfl) rfl #[.slice Ao57 t376.length co57, .int .i64 (wrap64 (2 + t382))] rfl (by (try simp only [List.map_toArray, List.map_cons, List.map_nil]); first | done | rfl | (simp only [List.length_drop, List.length_take]; rfl)) ?_; (with_reducible refine (impl_SpreadOf.calls _ _ t376 (wrap64 (2 + t382)) t383 t384 _ ?side1 ?side2 A12.out).mono ?_); (case side1 => repeat (first | exact (Kd.S_reads' HO379.out).2.2 | (with_reducible refine Kd.C_alloc ?_ _) | (with_reducible refine Kd.C_drewN ?_ _) | (with_reducible refine Kd.C_drew ?_))); (case side2 => exact (Kd.S_reads' HO379.out).2.1); rintro e w59 ⟨rfl, hb⟩; refine ⟨_, rfl, ?_⟩; have n0_ := Aside0.mk (Kd.S_below (by (with_reducible repeat (first | apply Kd.S_alloc | apply Kd.S_drewN | apply Kd.S_drew)); exact HO379.out) hb); have n1_ := Aside0.mk (below_step (by repeat (first | (with_reducible first | exact HB.out | apply below_alloc | apply pw_below_drewN | apply below_drew1) | exact HB.out)) hb); clear HO379; clear HB; have HO379 := n0_; have HB := n1_; clear n0_ n1_; (try clear hb); (try clear hb2); (try clear hk); (try clear hi)) | ((with_reducible refine gate_callee (f := 35) rfl ?_); refine goesL_ (some 53) rfl rfl Try.func35 (by kernel_rfl) rfl #[.slice Ao57 t376.length co57, .int .i64 (wrap64 ((ji9) * (ji9)))] rfl (by (try simp only [List.map_toArray, List.map_cons, List.map_nil]); first | done | (simp only [hji9]; rfl) | rfl | (simp only [List.length_drop, List.length_take]; rfl)) ?_; (with_reducible refine (impl_SpreadOf.calls _ _ t376 (wrap64 ((ji9) * (ji9))) t385 t386 _ ?side1 ?side2 A13.out).mono ?_); (case side1 => repeat (first | exact (Kd.S_reads' HO379.out).2.2 | (with_reducible refine Kd.C_alloc ?_ _) | (with_reducible refine Kd.C_drewN ?_ _) | (with_reducible refine Kd.C_drew ?_))); (case side2 => exact (Kd.S_reads' HO379.out).2.1); rintro e w60 ⟨rfl, hb⟩; refine ⟨_, rfl, ?_⟩; have n0_ := Aside0.mk (Kd.S_below (by (with_reducible repeat (first | apply Kd.S_alloc | apply Kd.S_drewN | apply Kd.S_drew)); exact HO379.out) hb); have n1_ := Aside0.mk (below_step (by repeat (first | (with_reducible first | exact HB.out | apply below_alloc | apply pw_below_drewN | apply below_drew1) | exact HB.out)) hb); clear HO379; clear HB; have HO379 := n0_; have HB := n1_; clear n0_ n1_; (try clear hb); (try clear hb2); (try clear hk); (try clear hi)))
        go_ret
        exact ⟨by first | rfl | (simp [errW_none, errW_some] <;> rfl) | (simp only [← hji7, ← hji9]; first | rfl | (simp [errW_none, errW_some] <;> rfl)) | (simp [*, errW_none, errW_some] <;> rfl), by repeat (first | (with_reducible first | exact HB.out | apply below_alloc | apply pw_below_drewN | apply below_drew1) | exact HB.out)⟩
    · rw [if_neg c8] at H
      exact absurd H (by simp)

/-- THE ONE PURE STATEMENT of laws_FnSpread: yours. -/
def laws_FnSpread.Pure : Prop := ∀ (l0 : List Int) (l1 : List Int), l0.length ≤ maxLen → l0.length * 1 ≤ 140737488351232 → (∀ x ∈ l0, (Lit.int .u8 x).wf = true) → l1.length ≤ maxLen → l1.length * 1 ≤ 140737488351232 → (∀ x ∈ l1, (Lit.int .u8 x).wf = true) → laws_FnSpread.f l0 l1 = some true
theorem laws_FnSpread.walk (P : laws_FnSpread.Pure) (a0 : Option Addr) (len0 cap0 : Nat) (z0 : List Int) (a1 : Option Addr) (len1 cap1 : Nat) (z1 : List Int) (w : World) (w0 : (a0 = none ∧ len0 = 0 ∧ cap0 = 0 ∧ z0 = []) ∨ ∃ x, a0 = some x ∧ len0 ≤ cap0 ∧ cap0 ≤ maxLen ∧ z0.length = cap0 ∧ (∀ i, i < z0.length → w.cell? (x.add i) = some (.int .u8 (z0.getD i 0))) ∧ ∀ n ∈ z0, (Lit.int .u8 n).wf = true) (y0 : len0 * 1 ≤ 140737488351232) (w1 : (a1 = none ∧ len1 = 0 ∧ cap1 = 0 ∧ z1 = []) ∨ ∃ x, a1 = some x ∧ len1 ≤ cap1 ∧ cap1 ≤ maxLen ∧ z1.length = cap1 ∧ (∀ i, i < z1.length → w.cell? (x.add i) = some (.int .u8 (z1.getD i 0))) ∧ ∀ n ∈ z1, (Lit.int .u8 n).wf = true) (y1 : len1 * 1 ≤ 140737488351232) :
    Calls Try.prog 5 #[.slice a0 len0 cap0, .slice a1 len1 cap1] w fun e w' => e = .returned (.bool true) ∧ Below w.heap.size w w' := by
  obtain ⟨l0, rfl, hr0, hm0, hw0, hc0⟩ := ReadsInt.ofRowC w0
  obtain ⟨l1, rfl, hr1, hm1, hw1, hc1⟩ := ReadsInt.ofRowC w1
  have h := P l0 l1 hm0 y0 hw0 hm1 y1 hw1
  refine (laws_FnSpread.calls _ _ l0 _ _ l1 true w (Kd.C_of_reads (d := (0 : Int)) (h1 := fun _ => rfl) hr0) hc0 (Kd.C_of_reads (d := (0 : Int)) (h1 := fun _ => rfl) hr1) hc1 h).mono ?_
  rintro e w' ⟨rfl, hd⟩
  exact ⟨rfl, hd⟩

end Go.Proofs.Ytamjcfdjcagjmaa.P
