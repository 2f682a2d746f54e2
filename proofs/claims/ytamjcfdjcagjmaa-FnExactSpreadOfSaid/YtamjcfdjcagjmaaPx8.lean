-- written by a program of this session (gprint.py), which calls the kit's print
import Derived.Test.YtamjcfdjcagjmaaPx0
import Derived.Test.YtamjcfdjcagjmaaPx1
import Derived.Test.YtamjcfdjcagjmaaPx7
namespace Go.Proofs.Ytamjcfdjcagjmaa.P
open Go.RowKit Go.Proofs.YtamjcfdjcagjmaaW.PrintWords Go.Proofs.YtamjcfdjcagjmaaW.PrintLast Go.Proofs.YtamjcfdjcagjmaaW.PrintMore
attribute [local go_sem] max2_int min2_int max_two min_two max_three min_three max_four min_four   -- for this text's walks alone
set_option linter.unusedVariables false
set_option linter.unusedSimpArgs false

/-! ### impl_SpreadOf: function 35 -/
def wayD (a b : Int) : Int := if wrap64 (a - b) < wrap64 (b - a) then wrap64 (b - a) else wrap64 (a - b)
def wayI (n a b : Int) : Int := if wrap64 (n - wayD a b) < wayD a b then wrap64 (n - wayD a b) else wayD a b
theorem impl_SpreadOf.clos (n a b : Int) (b1 : Nat) (W : World) (h1 : W.cell? ⟨b1, 0, none⟩ = some (.int .i64 n)) :
    Calls Try.prog 75 #[.int .i64 a, .int .i64 b, .pointer (some ⟨b1, 0, none⟩)] W fun e w' => e = .returned (.int .i64 (wayI n a b)) ∧ w' = W := by
  by_cases q1 : wrap64 (a - b) < wrap64 (b - a)
  · have hd : wayD a b = wrap64 (b - a) := if_pos q1
    by_cases q2 : wrap64 (n - wrap64 (b - a)) < wrap64 (b - a)
    · have hw : wayI n a b = wrap64 (n - wrap64 (b - a)) := by unfold wayI; rw [hd, if_pos q2]
      rw [hw]
      clear hw hd
      go_enter Try.func75, Try.ntmps75
      go_wp2
      go_ret
      exact ⟨rfl, rfl⟩
    · have hw : wayI n a b = wrap64 (b - a) := by unfold wayI; rw [hd, if_neg q2]
      rw [hw]
      clear hw hd
      go_enter Try.func75, Try.ntmps75
      go_wp2
      go_ret
      exact ⟨rfl, rfl⟩
  · have hd : wayD a b = wrap64 (a - b) := if_neg q1
    by_cases q2 : wrap64 (n - wrap64 (a - b)) < wrap64 (a - b)
    · have hw : wayI n a b = wrap64 (n - wrap64 (a - b)) := by unfold wayI; rw [hd, if_pos q2]
      rw [hw]
      clear hw hd
      go_enter Try.func75, Try.ntmps75
      go_wp2
      go_ret
      exact ⟨rfl, rfl⟩
    · have hw : wayI n a b = wrap64 (a - b) := by unfold wayI; rw [hd, if_neg q2]
      rw [hw]
      clear hw hd
      go_enter Try.func75, Try.ntmps75
      go_wp2
      go_ret
      exact ⟨rfl, rfl⟩
def spreadRow (row : List Int) (i : Nat) (cnt : Int) (k : Nat) : List (Int × Int) := (List.range k).filterMap fun k => if rd row (k : Nat) < cnt then some ((i : Int), (k : Int)) else none
def spreadPl (l0 : List (List Int)) (cnt : Int) (i : Nat) : List (Int × Int) := (List.range i).flatMap fun i => spreadRow (rdR l0 i) i cnt (rdR l0 i).length
def rdP (xs : List (Int × Int)) (j : Nat) : Int × Int := xs.getD j (0, 0)
def spreadD (n : Int) (p q : Int × Int) : Int := wrap64 (wrap64 (wayI n p.1 q.1 * wayI n p.1 q.1) + wrap64 (wayI n p.2 q.2 * wayI n p.2 q.2))
def spreadIn (n : Int) (ps : List (Int × Int)) (p : Int × Int) (m : Nat) (b : Int) : Int := (List.range m).foldl (fun b k => if spreadD n p (rdP ps k) < b then spreadD n p (rdP ps k) else b) b
def spreadOut (n : Int) (ps : List (Int × Int)) (m : Nat) (b : Int) : Int := (List.range m).foldl (fun b j => spreadIn n ps (rdP ps j) j b) b
theorem spreadRow_succ (row : List Int) (i : Nat) (cnt : Int) (k : Nat) : spreadRow row i cnt (k + 1) = if rd row (k : Nat) < cnt then spreadRow row i cnt k ++ [((i : Int), (k : Int))] else spreadRow row i cnt k := by
  unfold spreadRow
  rw [List.range_succ, List.filterMap_append]
  by_cases h : rd row (k : Nat) < cnt <;> simp [h]
theorem spreadRow_len (row : List Int) (i : Nat) (cnt : Int) (k : Nat) : (spreadRow row i cnt k).length ≤ k := by
  unfold spreadRow
  exact Nat.le_trans (List.length_filterMap_le _ _) (by simp)
theorem spreadPl_succ (l0 : List (List Int)) (cnt : Int) (i : Nat) : spreadPl l0 cnt (i + 1) = spreadPl l0 cnt i ++ spreadRow (rdR l0 i) i cnt (rdR l0 i).length := by
  unfold spreadPl
  rw [List.range_succ, List.flatMap_append]
  simp
theorem spreadPl_len (l0 : List (List Int)) (cnt : Int) (m : Nat) (h : ∀ j, j < l0.length → (rdR l0 j).length ≤ m) (i : Nat) (hi : i ≤ l0.length) : (spreadPl l0 cnt i).length ≤ i * m := by
  induction i with
  | zero => simp [spreadPl]
  | succ i ih =>
    rw [spreadPl_succ, List.length_append]
    have h1 := ih (by omega)
    have h2 := spreadRow_len (rdR l0 i) i cnt (rdR l0 i).length
    have h3 := h i (by omega)
    rw [Nat.succ_mul]
    omega
theorem spreadIn_succ (n : Int) (ps : List (Int × Int)) (p : Int × Int) (m : Nat) (b : Int) : spreadIn n ps p (m + 1) b = if spreadD n p (rdP ps m) < spreadIn n ps p m b then spreadD n p (rdP ps m) else spreadIn n ps p m b := by
  unfold spreadIn
  rw [List.range_succ, List.foldl_append]
  rfl
theorem spreadOut_zero (n : Int) (ps : List (Int × Int)) (b : Int) : spreadOut n ps 0 b = b := rfl
theorem spreadIn_zero (n : Int) (ps : List (Int × Int)) (p : Int × Int) (b : Int) : spreadIn n ps p 0 b = b := rfl
theorem spreadOut_succ (n : Int) (ps : List (Int × Int)) (m : Nat) (b : Int) : spreadOut n ps (m + 1) b = spreadIn n ps (rdP ps m) m (spreadOut n ps m b) := by
  unfold spreadOut
  rw [List.range_succ, List.foldl_append]
  rfl
def impl_SpreadOf.f (l0 : List (List Int)) (a1 : Int) : Option (Int × Bool) := some (if (decide (1 ≤ l0.length) && decide (l0.length ≤ 8) && maskB l0) && (decide (2 ≤ a1) && decide (a1 ≤ wrap64 ((l0.length : Int) * (l0.length : Int)))) then (spreadOut l0.length (spreadPl l0 a1 l0.length) (spreadPl l0 a1 l0.length).length (wrap64 (2 * (l0.length : Int) * (l0.length : Int))), true) else (0, false))
/-- Pairs, read. -/
theorem at_pairs {w : World} {A : Option Addr} {n : Nat} {xs : List (Int × Int)} (h : Kd.C (Kd.pair (Kd.int .i64) (Kd.int .i64)) w A n xs) (j : Nat) (hj : j < n) : ∃ ad, A = some ad ∧ w.cell? (ad.add (j * 2)) = some (.int .i64 (rdP xs j).1) ∧ w.cell? ⟨(ad.add (j * 2)).block, (ad.add (j * 2)).off + 1, none⟩ = some (.int .i64 (rdP xs j).2) := by
  obtain ⟨ad, c, e, _, hK, hc0⟩ := Kd.C_get h ((0, 0) : Int × Int) (j : Int) (by omega) (by omega)
  have hc : ∀ i u, c[i]? = some u → w.cell? (ad.add ((j : Int).toNat * 2 + i)) = some u := hc0
  obtain ⟨c0, c1, rfl, hA, hB⟩ := hK
  obtain rfl : c0 = [_] := hA
  obtain rfl : c1 = [_] := hB
  refine ⟨ad, e, by have hq := hc 0 _ rfl; simpa [rdP] using hq, ?_⟩
  rw [← add_field _ _ 1 (by omega)]
  have hq := hc 1 _ rfl
  simpa [rdP] using hq
theorem impl_SpreadOf.bad1 (A0 : Option Addr) (c0 : Nat) (l0 : List (List Int)) (a1 : Int) (w : World) (hr0 : Kd.C (Kd.slice 2 (Kd.int .i64)) w A0 l0.length l0) (hc0 : l0.length ≤ c0) (hm : impl_IsMask.f l0 = some false) :
    Calls Try.prog 35 #[.slice A0 l0.length c0, .int .i64 a1] w fun e w' => e = .returned (.tuple #[.int .i64 0, .bool false]) ∧ Below w.heap.size w w' := by
  have HBB := Aside0.mk ((Below.refl w.heap.size w).alloc (Nat.le_refl _) (.cells #[.int .i64 l0.length] 2))
  have HR0 := Aside0.mk hr0
  have HC0 := Aside0.mk hc0
  have HM := Aside0.mk hm
  clear hr0 hc0 hm
  go_enter Try.func35, Try.ntmps35
  go_wp2_with (first | (go_at_call 36; refine (impl_IsMask.calls A0 c0 l0 false _ (Kd.C_below HR0.out HBB.out) HC0.out HM.out).mono ?_; rintro e w1 ⟨rfl, hb1⟩; have HB1 := Aside0.mk hb1; clear hb1) | go_in)
  go_ret2
  exact ⟨rfl, below_then HBB.out HBB.out.size HB1.out⟩
theorem impl_SpreadOf.bad2 (A0 : Option Addr) (c0 : Nat) (l0 : List (List Int)) (a1 : Int) (w : World) (hr0 : Kd.C (Kd.slice 2 (Kd.int .i64)) w A0 l0.length l0) (hc0 : l0.length ≤ c0) (hm : impl_IsMask.f l0 = some true) (hw : impl_within.f a1 2 (wrap64 ((l0.length : Int) * (l0.length : Int))) = some false) :
    Calls Try.prog 35 #[.slice A0 l0.length c0, .int .i64 a1] w fun e w' => e = .returned (.tuple #[.int .i64 0, .bool false]) ∧ Below w.heap.size w w' := by
  have HBB := Aside0.mk ((Below.refl w.heap.size w).alloc (Nat.le_refl _) (.cells #[.int .i64 l0.length] 2))
  have HR0 := Aside0.mk hr0
  have HC0 := Aside0.mk hc0
  have HM := Aside0.mk hm
  have HW := Aside0.mk hw
  clear hr0 hc0 hm hw
  go_enter Try.func35, Try.ntmps35
  go_wp2_with (first | (go_at_call 36; refine (impl_IsMask.calls A0 c0 l0 true _ (Kd.C_below HR0.out HBB.out) HC0.out HM.out).mono ?_; rintro e w1 ⟨rfl, hb1⟩; have hbox : w1.cell? ⟨w.heap.size, 0, none⟩ = some (.int .i64 l0.length) := pw_cell_below hb1 (by simp); have HB1 := Aside0.mk hb1; clear hb1) | (go_at_call 47; refine (impl_within.calls _ _ _ false _ HW.out).mono ?_; rintro e w2 ⟨rfl, ⟨nd, rfl⟩⟩) | go_in)
  go_ret2
  exact ⟨rfl, below_then HBB.out HBB.out.size (by first | exact HB1.out | exact pw_below_drewN HB1.out _)⟩
theorem spread_info : (Try.prog.info? 95).map (fun i => (i.zero, i.size, i.bytes)) = some (some (.agg #[.int .i64 0, .int .i64 0]), 2, 16) := by kernel_rfl
set_option maxRecDepth 100000 in
set_option maxHeartbeats 4000000 in
theorem impl_SpreadOf.good (A0 : Option Addr) (c0 : Nat) (l0 : List (List Int)) (a1 : Int) (w : World) (hr0 : Kd.C (Kd.slice 2 (Kd.int .i64)) w A0 l0.length l0) (hc0 : l0.length ≤ c0) (hm : impl_IsMask.f l0 = some true) (hw : impl_within.f a1 2 (wrap64 ((l0.length : Int) * (l0.length : Int))) = some true)
    (h8 : l0.length ≤ 8) (hall : ∀ j, j < l0.length → (rdR l0 j).length ≤ l0.length) (r : Int) (hres : spreadOut l0.length (spreadPl l0 a1 l0.length) (spreadPl l0 a1 l0.length).length (wrap64 (2 * (l0.length : Int) * (l0.length : Int))) = r) :
    Calls Try.prog 35 #[.slice A0 l0.length c0, .int .i64 a1] w fun e w' => e = .returned (.tuple #[.int .i64 r, .bool true]) ∧ Below w.heap.size w w' := by
  have HBB := Aside0.mk ((Below.refl w.heap.size w).alloc (Nat.le_refl _) (.cells #[.int .i64 l0.length] 2))
  have HR0 := Aside0.mk hr0
  have HC0 := Aside0.mk hc0
  have HM := Aside0.mk hm
  have HW := Aside0.mk hw
  have H8 := Aside0.mk h8
  have HA := Aside0.mk hall
  have HRES := Aside0.mk hres
  clear hr0 hc0 hm hw h8 hall hres
  go_enter Try.func35, Try.ntmps35
  go_wp2_with (first | (go_at_call 36; refine (impl_IsMask.calls A0 c0 l0 true _ (Kd.C_below HR0.out HBB.out) HC0.out HM.out).mono ?_; rintro e w1 ⟨rfl, hb1⟩; have hbox : w1.cell? ⟨w.heap.size, 0, none⟩ = some (.int .i64 l0.length) := pw_cell_below hb1 (by simp); have HB1 := Aside0.mk hb1; clear hb1) | (go_at_call 47; refine (impl_within.calls _ _ _ true _ HW.out).mono ?_; rintro e w2 ⟨rfl, ⟨nd, rfl⟩⟩) | ((with_reducible refine gate_dst (N := 33) rfl ?_); refine Kd.R_lit (Kd.pair (Kd.int .i64) (Kd.int .i64)) (w0 := w.alloc (.cells #[.int .i64 l0.length] 2)) (w.alloc (.cells #[.int .i64 l0.length] 2)).heap.size 95 rfl (N := 33) rfl (xs := ([] : List (Int × Int))) (inner := []) (ok := fun _ => True) (okp := fun _ => True) (by first | (go_simp; done) | (go_simp; rfl)) (Reps.none _ _) (fun _ hk => hk) trivial (pw_below_drewN HB1.out _) (pw_below_drewN HB1.out _).size (by simp) ?_; intro v1 w2 h1 hb2 _ _; have HO := Aside0.mk h1; have HB := Aside0.mk hb2; clear h1 hb2) | go_in)
  have H8' := H8.out
  go_loopg [7, 8, 9, 10, 11, 36] l0.length (fun gg v7 _ _ _ _ v36 w' => ∃ kk : Nat, kk ≤ l0.length ∧ l0.length - kk ≤ gg ∧ v36 = .int .i64 kk ∧ Aside0 (Kd.R (Kd.pair (Kd.int .i64) (Kd.int .i64)) 95 w' (w.alloc (.cells #[.int .i64 l0.length] 2)).heap.size (fun _ => True) v7 (spreadPl l0 a1 kk)) ∧ Aside0 (Below (w.alloc (.cells #[.int .i64 l0.length] 2)).heap.size (w.alloc (.cells #[.int .i64 l0.length] 2)) w'))
  case atStart => exact ⟨0, Nat.zero_le _, by omega, rfl, HO, HB⟩
  case round =>
    clear HO HB
    obtain ⟨kk, hkk, hg, rfl, HO, HB⟩ := hrel
    by_cases hlt : kk < l0.length
    · have hltz : (kk : Int) < (l0.length : Int) := by omega
      obtain ⟨ad, e0, hat⟩ := at_rows HR0.out (by omega)
      obtain ⟨A1, d1, hx0, hdx, hC1⟩ := hat kk hlt
      subst e0
      have hx := pw_cell_below (below_then HBB.out HBB.out.size HB.out) hx0
      clear hx0
      have HC := Aside0.mk hC1
      have hln := HA.out kk hlt
      clear hat hC1
      go_wp2
      go_loopg [7, 10, 11, 43] (rdR l0 kk).length (fun gg v7 _ _ v43 w' => ∃ jj : Nat, jj ≤ (rdR l0 kk).length ∧ (rdR l0 kk).length - jj ≤ gg ∧ v43 = .int .i64 jj ∧ Aside0 (Kd.R (Kd.pair (Kd.int .i64) (Kd.int .i64)) 95 w' (w.alloc (.cells #[.int .i64 l0.length] 2)).heap.size (fun _ => True) v7 (spreadPl l0 a1 kk ++ spreadRow (rdR l0 kk) kk a1 jj)) ∧ Aside0 (Below (w.alloc (.cells #[.int .i64 l0.length] 2)).heap.size (w.alloc (.cells #[.int .i64 l0.length] 2)) w'))
      case atStart => exact ⟨0, Nat.zero_le _, by omega, rfl, ⟨by have := HO.out; simpa [spreadRow] using this⟩, HB⟩
      case round =>
        clear HO HB hx
        obtain ⟨jj, hjj, hg2, rfl, HO, HB⟩ := hrel
        by_cases hlt2 : jj < (rdR l0 kk).length
        · have hltz2 : (jj : Int) < ((rdR l0 kk).length : Int) := by omega
          obtain ⟨ad2, e2, hcell⟩ := cells_of_C (Kd.C_below HC.out (below_then HBB.out HBB.out.size HB.out)) (by omega)
          subst e2
          have hy := hcell jj hlt2
          clear hcell
          by_cases hm : rd (rdR l0 kk) (jj : Nat) < a1
          · have HS := Aside0.mk ((spreadRow_succ (rdR l0 kk) kk a1 jj).trans (if_pos hm))
            have hlen : (spreadPl l0 a1 kk ++ spreadRow (rdR l0 kk) kk a1 jj).length ≤ 100 := by
              have q1 := spreadPl_len l0 a1 l0.length HA.out kk hkk
              have q2 := spreadRow_len (rdR l0 kk) kk a1 jj
              have q3 : kk * l0.length ≤ 8 * 8 := Nat.mul_le_mul (by omega) H8.out
              rw [List.length_append]
              omega
            have HLEN := Aside0.mk hlen
            clear hlen
            go_wp2_with (first | ((with_reducible refine gate_builtin (b := .append) (xs := #[.tmp 51, .tmp 55]) rfl ?_); at_builtin; refine Kd.R_append (Kd.pair (Kd.int .i64) (Kd.int .i64)) (w0 := w.alloc (.cells #[.int .i64 l0.length] 2)) (w.alloc (.cells #[.int .i64 l0.length] 2)).heap.size rfl (.tmp 51) (.tmp 55) 94 95 (.agg #[.int .i64 0, .int .i64 0]) 16 rfl Try.underlying94 spread_info rfl (by decide) (by omega) _ (spreadPl l0 a1 kk ++ spreadRow (rdR l0 kk) kk a1 jj) ((kk : Int), (jj : Int)) _ (fun _ => True) (fun _ => False) rfl rfl ⟨[_], [_], rfl, rfl, rfl⟩ (fun _ h => h.elim) (fun _ _ => trivial) HO.out HB.out HB.out.size (by have := HLEN.out; omega) ?_; intro v2 w2' h2 hb2 _ _; have HR2 := Aside0.mk h2; have HB2 := Aside0.mk hb2; clear h2 hb2))
            go_roundg ((rdR l0 kk).length - (jj + 1))
            case measure => omega
            case rel => exact ⟨jj + 1, by omega, by omega, by go_num, ⟨by rw [HS.out, ← List.append_assoc]; exact HR2.out⟩, HB2⟩
          · have HS := Aside0.mk ((spreadRow_succ (rdR l0 kk) kk a1 jj).trans (if_neg hm))
            go_wp2
            go_roundg ((rdR l0 kk).length - (jj + 1))
            case measure => omega
            case rel => exact ⟨jj + 1, by omega, by omega, by go_num, ⟨by rw [HS.out]; exact HO.out⟩, HB⟩
        · have hltz2 : ¬ (jj : Int) < ((rdR l0 kk).length : Int) := by omega
          obtain rfl : jj = (rdR l0 kk).length := by omega
          have HS := Aside0.mk (spreadPl_succ l0 a1 kk)
          go_wp2
          go_roundg (l0.length - (kk + 1))
          case measure => omega
          case rel => exact ⟨kk + 1, by omega, by omega, by go_num, ⟨by rw [HS.out]; exact HO.out⟩, HB⟩
    · have hltz : ¬ (kk : Int) < (l0.length : Int) := by omega
      obtain rfl : kk = l0.length := by omega
      have hlen := spreadPl_len l0 a1 l0.length HA.out l0.length (Nat.le_refl _)
      have hsq : l0.length * l0.length ≤ 8 * 8 := Nat.mul_le_mul H8.out H8.out
      have hO := HO.out
      have hres := HRES.out
      clear HO HRES HA
      generalize hps : spreadPl l0 a1 l0.length = ps at hO hres hlen
      have HPS := Aside0.mk hps
      clear hps
      have hp9 : ps.length ≤ 9223372036854775807 := by omega
      obtain ⟨A7, c7, rfl, hl7, hC7⟩ := Kd.R_reads hO
      have hbox' : wr.cell? ⟨w.heap.size, 0, none⟩ = some (.int .i64 l0.length) := pw_cell_below HB.out (by simp)
      have HC7 := Aside0.mk hC7
      have HL7 := Aside0.mk hl7
      have HR := Aside0.mk hres
      clear hC7 hO hl7 hlen hsq hres hbox HB1
      go_wp2
      obtain ⟨wa, hwa⟩ : ∃ x, x = wr := ⟨_, rfl⟩
      subst hwa
      go_loopg [13, 14, 15, 17, 18, 19, 66] ps.length (fun gg v13 _ _ _ _ _ v66 w' => ∃ kk : Nat, kk ≤ ps.length ∧ ps.length - kk ≤ gg ∧ v66 = .int .i64 kk ∧ v13 = .int .i64 (spreadOut l0.length ps kk (wrap64 (2 * (l0.length : Int) * (l0.length : Int)))) ∧ Aside0 (Below wa.heap.size wa w'))
      case atStart => exact ⟨0, Nat.zero_le _, by omega, rfl, by rw [spreadOut_zero], ⟨Below.refl _ _⟩⟩
      case round =>
        obtain ⟨kk, hkk, hg, rfl, rfl, HBa⟩ := hrel
        by_cases hlt : kk < ps.length
        · have hltz : (kk : Int) < (ps.length : Int) := by omega
          obtain ⟨ad, e0, hx0, hx1⟩ := at_pairs (Kd.C_below HC7.out HBa.out) kk hlt
          subst e0
          obtain ⟨wb, hwb⟩ : ∃ x, x = wr := ⟨_, rfl⟩
          subst hwb
          have hkc : kk ≤ c7 := by have := HL7.out; omega
          have HP := Aside0.mk (show Below wb.heap.size wb (wb.alloc (.cells #[.int .i64 (rdP ps kk).1, .int .i64 (rdP ps kk).2] 95)) from (Below.refl _ _).alloc (Nat.le_refl _) _)
          have hxp0 : (wb.alloc (.cells #[.int .i64 (rdP ps kk).1, .int .i64 (rdP ps kk).2] 95)).cell? ⟨wb.heap.size, 0, none⟩ = some (.int .i64 (rdP ps kk).1) := by simp
          have hxp1 : (wb.alloc (.cells #[.int .i64 (rdP ps kk).1, .int .i64 (rdP ps kk).2] 95)).cell? ⟨wb.heap.size, 1, none⟩ = some (.int .i64 (rdP ps kk).2) := by simp
          have HXP0 := Aside0.mk hxp0
          have HXP1 := Aside0.mk hxp1
          clear hxp0 hxp1
          go_wp2
          clear hx0 hx1
          go_loopg [13, 17, 18, 19, 75] kk (fun gg v13 _ _ _ v75 w' => ∃ jj : Nat, jj ≤ kk ∧ kk - jj ≤ gg ∧ v75 = .int .i64 jj ∧ v13 = .int .i64 (spreadIn l0.length ps (rdP ps kk) jj (spreadOut l0.length ps kk (wrap64 (2 * (l0.length : Int) * (l0.length : Int))))) ∧ Aside0 (Below wa.heap.size wa w') ∧ Aside0 (w'.cell? ⟨wb.heap.size, 0, none⟩ = some (.int .i64 (rdP ps kk).1)) ∧ Aside0 (w'.cell? ⟨wb.heap.size, 1, none⟩ = some (.int .i64 (rdP ps kk).2)))
          case atStart => exact ⟨0, Nat.zero_le _, by omega, rfl, by rw [spreadIn_zero], ⟨below_then HBa.out HBa.out.size HP.out⟩, HXP0, HXP1⟩
          case round =>
            clear HP HXP0 HXP1 HBa
            obtain ⟨jj, hjj, hg2, rfl, rfl, HBa, HXP0, HXP1⟩ := hrel
            by_cases hlt2 : jj < kk
            · have hltz2 : (jj : Int) < (kk : Int) := by omega
              obtain ⟨ad3, e3, hx0, hx1⟩ := at_pairs (Kd.C_below HC7.out HBa.out) jj (by omega)
              injection e3 with e3
              subst e3
              have HQ := Aside0.mk (show Below wr.heap.size wr (wr.alloc (.cells #[.int .i64 (rdP ps jj).1, .int .i64 (rdP ps jj).2] 95)) from (Below.refl _ _).alloc (Nat.le_refl _) _)
              have hq0 : (wr.alloc (.cells #[.int .i64 (rdP ps jj).1, .int .i64 (rdP ps jj).2] 95)).cell? ⟨wr.heap.size, 0, none⟩ = some (.int .i64 (rdP ps jj).1) := by simp
              have hq1 : (wr.alloc (.cells #[.int .i64 (rdP ps jj).1, .int .i64 (rdP ps jj).2] 95)).cell? ⟨wr.heap.size, 1, none⟩ = some (.int .i64 (rdP ps jj).2) := by simp
              have hp0 := pw_cell_below HQ.out HXP0.out
              have hp1 := pw_cell_below HQ.out HXP1.out
              have hn := pw_cell_below HQ.out (pw_cell_below HBa.out hbox')
              have HN := Aside0.mk hn
              clear hn
              have hsucc := spreadIn_succ l0.length ps (rdP ps kk) jj (spreadOut l0.length ps kk (wrap64 (2 * (l0.length : Int) * (l0.length : Int))))
              generalize hbv : spreadIn l0.length ps (rdP ps kk) jj (spreadOut l0.length ps kk (wrap64 (2 * (l0.length : Int) * (l0.length : Int)))) = bv at hsucc ⊢
              have HSU := Aside0.mk hsucc
              have HBV := Aside0.mk hbv
              clear hsucc hbv
              go_wp2
              clear hx0 hx1
              have hn := HN.out
              generalize hWq : wr.alloc (.cells #[.int .i64 (rdP ps jj).1, .int .i64 (rdP ps jj).2] 95) = Wq at *
              go_quiet ((go_at_call 75; exact Calls.quiet_of_same (impl_SpreadOf.clos _ _ _ _ _ (by assumption))))
              have HDD := Aside0.mk (show spreadD l0.length (rdP ps kk) (rdP ps jj) = wrap64 (wrap64 (wayI l0.length (rdP ps kk).1 (rdP ps jj).1 * wayI l0.length (rdP ps kk).1 (rdP ps jj).1) + wrap64 (wayI l0.length (rdP ps kk).2 (rdP ps jj).2 * wayI l0.length (rdP ps kk).2 (rdP ps jj).2)) from rfl)
              have HBq := Aside0.mk (below_then HBa.out HBa.out.size HQ.out)
              have HP0 := Aside0.mk hp0
              have HP1 := Aside0.mk hp1
              clear hq0 hq1 hp0 hp1 hn HQ HBa HXP0 HXP1
              generalize hxx : wayI l0.length (rdP ps kk).1 (rdP ps jj).1 = xx at HDD ⊢
              generalize hyy : wayI l0.length (rdP ps kk).2 (rdP ps jj).2 = yy at HDD ⊢
              clear hxx hyy
              go_wp2
              · go_roundg (kk - (jj + 1))
                case measure => omega
                case rel => exact ⟨jj + 1, by omega, by omega, by go_num, by rw [HSU.out, HDD.out, if_pos (by assumption)], ⟨pw_below_drewN HBq.out _⟩, ⟨by simpa using HP0.out⟩, ⟨by simpa using HP1.out⟩⟩
              · go_roundg (kk - (jj + 1))
                case measure => omega
                case rel => exact ⟨jj + 1, by omega, by omega, by go_num, by rw [HSU.out, HDD.out, if_neg (by omega)], ⟨pw_below_drewN HBq.out _⟩, ⟨by simpa using HP0.out⟩, ⟨by simpa using HP1.out⟩⟩
            · have hltz2 : ¬ (jj : Int) < (kk : Int) := by omega
              obtain rfl : jj = kk := by omega
              have HSU := Aside0.mk (spreadOut_succ l0.length ps jj (wrap64 (2 * (l0.length : Int) * (l0.length : Int))))
              go_wp2
              go_roundg (ps.length - (jj + 1))
              case measure => omega
              case rel => exact ⟨jj + 1, by omega, by omega, by go_num, by rw [HSU.out], HBa⟩
        · have hltz : ¬ (kk : Int) < (ps.length : Int) := by omega
          obtain rfl : kk = ps.length := by omega
          have hr := HR.out
          go_wp2
          go_ret2
          exact ⟨by rw [← hr]; rfl, below_then HBB.out HBB.out.size (below_then HB.out HB.out.size HBa.out)⟩
theorem impl_SpreadOf.calls (A0 : Option Addr) (c0 : Nat) (l0 : List (List Int)) (a1 : Int) (r1 : Int) (r2 : Bool) (w : World) (hr0 : Kd.C (Kd.slice 2 (Kd.int .i64)) w A0 l0.length l0) (hc0 : l0.length ≤ c0) (h : impl_SpreadOf.f l0 a1 = some (r1, r2)) :
    Calls Try.prog 35 #[.slice A0 l0.length c0, .int .i64 a1] w fun e w' => e = .returned (.tuple #[.int .i64 r1, .bool r2]) ∧ Below w.heap.size w w' := by
  have h' := Option.some.inj h
  clear h
  by_cases cm : (decide (1 ≤ l0.length) && decide (l0.length ≤ 8) && maskB l0) = true
  · have hM : impl_IsMask.f l0 = some true := by unfold impl_IsMask.f; rw [cm]
    have hW := within_val a1 2 (wrap64 ((l0.length : Int) * (l0.length : Int)))
    rw [cm] at h'
    by_cases cw : (decide (2 ≤ a1) && decide (a1 ≤ wrap64 ((l0.length : Int) * (l0.length : Int)))) = true
    · rw [cw] at hW h'
      have e1 : spreadOut l0.length (spreadPl l0 a1 l0.length) (spreadPl l0 a1 l0.length).length (wrap64 (2 * (l0.length : Int) * (l0.length : Int))) = r1 := congrArg Prod.fst h'
      have e2 : true = r2 := congrArg Prod.snd h'
      subst e2
      simp only [Bool.and_eq_true, decide_eq_true_eq, maskB, List.all_eq_true] at cm
      refine impl_SpreadOf.good A0 c0 l0 a1 w hr0 hc0 hM hW cm.1.2 (fun j hj => ?_) r1 e1
      rw [rdR_mem hj]
      exact Nat.le_of_eq (cm.2.1 _ (List.getElem_mem hj))
    · rw [Bool.not_eq_true] at cw
      rw [cw] at hW h'
      have e1 : (0 : Int) = r1 := congrArg Prod.fst h'
      have e2 : false = r2 := congrArg Prod.snd h'
      subst e1 e2
      exact impl_SpreadOf.bad2 A0 c0 l0 a1 w hr0 hc0 hM hW
  · rw [Bool.not_eq_true] at cm
    have hM : impl_IsMask.f l0 = some false := by unfold impl_IsMask.f; rw [cm]
    rw [cm] at h'
    have e1 : (0 : Int) = r1 := congrArg Prod.fst h'
    have e2 : false = r2 := congrArg Prod.snd h'
    subst e1 e2
    exact impl_SpreadOf.bad1 A0 c0 l0 a1 w hr0 hc0 hM

-- NOT PRINTED: function 5 (laws_FnSpread)

end Go.Proofs.Ytamjcfdjcagjmaa.P
