/- Words of this session's own: calls through function values, predicates over rows, small lemmas on lists. -/
import Derived.Test.YtphphmaljndpfaaDoorWMore
import Derived.Test.YtphphmaljndpfaaDoorWNEv
import Derived.Sort.OwnSortedInts
namespace Go.Proofs.YtphphmaljndpfaaDoor.P
open Go.RowKit Go.Proofs.YtphphmaljndpfaaDoorW.PrintWords Go.Proofs.YtphphmaljndpfaaDoorW.PrintLast Go.Proofs.YtphphmaljndpfaaDoorW.PrintMore
set_option linter.unusedVariables false
set_option linter.unusedSimpArgs false

section
variable {P : Program} {ops : Array Oper} {rest : List Oper} {Q : Exit → Act → World → Prop}
/-- A call through a function value that stands in a slot, as an arm of go_wp2_with. -/
theorem goesV_ {oi : Oper} {a : Act} {w : World} (N : Option Tmp) (hd : oi.dst = N) (hg : oi.guard = none) {c : Operand} {as : Array Operand} {ts : Array TypeId} (f : FuncId) (lb : Array Value)
    (args : Array Value) (hop : oi.op = .call { callee := .value c, args := as, argTypes := ts }) (hc : a.eval c = .func (.func f) #[] lb) (hargs : as.map a.eval = args)
    (he : ∀ w, (callFunc f (args ++ lb)).run P w = .ok (.enter f (args ++ lb)) w)
    (h : Calls P f (args ++ lb) w fun e w' => ∃ v, e = .returned v ∧ wpList P ops Q rest (a.put N v) w') : wpList P ops Q (oi :: rest) a w := by
  refine wpList_plain hg fun K hK => ?_
  have hrun : (execOp a.eval oi).run P w = .ok (.enter f (args ++ lb)) w := by
    unfold execOp
    simp [hop, resolve, Deferred.ofValue, invoke, hc, hargs, he]
  unfold Oper.wp
  rw [hrun, Oper.upon_enter]
  refine h.mono fun e w'' hh => ?_
  obtain ⟨v, rfl, hk⟩ := hh
  subst hd
  exact hK _ _ hk
theorem entersA_ {f : FuncId} {fn : Func} (hf : P.funcs[f]? = some fn) (hname : (fn.name == "runtime.NumGoroutine") = false) (hb : fn.body.isSome = true) : ∀ (args : Array Value) (w : World), (callFunc f args).run P w = .ok (.enter f args) w := fun args w => enters_ hf hname hb args w
end

theorem bsz1_ (x : UInt8) : (⟨#[x]⟩ : ByteArray).size = 1 := rfl
theorem bsz2_ (x y : UInt8) : (⟨#[x, y]⟩ : ByteArray).size = 2 := rfl
theorem bsz3_ (x y z : UInt8) : (⟨#[x, y, z]⟩ : ByteArray).size = 3 := rfl
/-- Where a predicate holds first: an index, or -1. -/
def FirstAt (p : Nat → Bool) (n : Nat) (r : Int) : Prop := (∃ j : Nat, j < n ∧ r = (j : Int) ∧ p j = true ∧ ∀ i, i < j → p i = false) ∨ (r = -1 ∧ ∀ i, i < n → p i = false)
def IdxPost (p : Nat → Bool) (n : Nat) (w : World) (e : Ending) (w' : World) : Prop := ∃ r : Int, e = .returned (.int .i64 r) ∧ FirstAt p n r ∧ Below w.heap.size w w'
def AnyPost (p : Nat → Bool) (n : Nat) (w : World) (e : Ending) (w' : World) : Prop := e = .returned (.bool ((List.range n).any p)) ∧ Below w.heap.size w w'
theorem anyOf_hit {p : Nat → Bool} {n : Nat} {r : Int} (h : FirstAt p n r) : decide (0 ≤ r) = (List.range n).any p := by
  rcases h with ⟨j, hj, rfl, hp, _⟩ | ⟨rfl, h⟩
  · have : (List.range n).any p = true := List.any_eq_true.2 ⟨j, List.mem_range.2 hj, hp⟩
    rw [this]
    exact decide_eq_true (by omega)
  · have : (List.range n).any p = false := by
      rw [List.any_eq_false]
      intro x hx
      rw [h x (List.mem_range.1 hx)]
      simp
    rw [this]
    rfl
theorem cells_of_C {k : IntKind} {w : World} {A : Option Addr} {n : Nat} {xs : List Int} (h : (Kd.int k).C w A n xs) : 0 < n → ∃ ad, A = some ad ∧ ∀ j : Nat, j < n → w.cell? (ad.add j) = some (.int k (rd xs j)) := by
  intro hn
  obtain ⟨ad, e, _⟩ := Kd.at_int h 0 (Int.le_refl _) (by omega)
  refine ⟨ad, e, fun j hj => ?_⟩
  obtain ⟨ad', e', h'⟩ := Kd.at_int h (j : Int) (by omega) (by omega)
  rw [e] at e'
  injection e' with e'
  subst e'
  simpa using h'
theorem rd_mem {xs : List Int} {j : Nat} (hj : j < xs.length) : rd xs (j : Nat) = xs[j] := by
  simp [rd, List.getD_eq_getElem?_getD, List.getElem?_eq_getElem hj]
theorem all_range (xs : List Int) (p : Int → Bool) : (!(List.range xs.length).any fun j => !p (rd xs (j : Nat))) = xs.all p := by
  rw [Bool.eq_iff_iff, Bool.not_eq_true', List.any_eq_false, List.all_eq_true]
  constructor
  · intro h x hx
    obtain ⟨j, hj, rfl⟩ := List.getElem_of_mem hx
    have := h j (List.mem_range.2 hj)
    rw [rd_mem hj] at this
    simpa using this
  · intro h j hj
    have hj' := List.mem_range.1 hj
    have := h (xs[j]) (List.getElem_mem hj')
    rw [rd_mem hj']
    simpa using this
/-- Row i of rows. -/
def rdR (xs : List (List Int)) (i : Nat) : List Int := xs.getD i []
theorem at_rows {e : Nat} {k : IntKind} {w : World} {A : Option Addr} {n : Nat} {xs : List (List Int)} (h : Kd.C (Kd.slice e (Kd.int k)) w A n xs) : 0 < n → ∃ ad, A = some ad ∧ ∀ j : Nat, j < n → ∃ A0 c0, w.cell? (ad.add j) = some (.slice A0 (rdR xs j).length c0) ∧ (rdR xs j).length ≤ c0 ∧ (Kd.int k).C w A0 (rdR xs j).length (rdR xs j) := by
  intro hn
  have key : ∀ j : Nat, j < n → ∃ ad A0 c0, A = some ad ∧ w.cell? (ad.add j) = some (.slice A0 (rdR xs j).length c0) ∧ (rdR xs j).length ≤ c0 ∧ (Kd.int k).C w A0 (rdR xs j).length (rdR xs j) := by
    intro j hj
    obtain ⟨ad, c, e, _, hK, hc0⟩ := Kd.C_get h ([] : List Int) (j : Int) (by omega) (by omega)
    have hc : ∀ i u, c[i]? = some u → w.cell? (ad.add ((j : Int).toNat * 1 + i)) = some u := hc0
    obtain ⟨A0, c0, rfl, l0, g0⟩ := hK
    exact ⟨ad, A0, c0, e, by have hq := hc 0 _ rfl; simpa [rdR] using hq, by simpa [rdR] using l0, by simpa [rdR] using g0⟩
  obtain ⟨ad, _, _, e, _⟩ := key 0 hn
  refine ⟨ad, e, fun j hj => ?_⟩
  obtain ⟨ad', A0, c0, e', h1, h2, h3⟩ := key j hj
  rw [e] at e'
  injection e' with e'
  subst e'
  exact ⟨A0, c0, h1, h2, h3⟩
theorem rdR_mem {xs : List (List Int)} {j : Nat} (hj : j < xs.length) : rdR xs j = xs[j] := by
  simp [rdR, List.getD_eq_getElem?_getD, List.getElem?_eq_getElem hj]
theorem all_rangeR (xs : List (List Int)) (p : List Int → Bool) : (!(List.range xs.length).any fun j => !p (rdR xs j)) = xs.all p := by
  rw [Bool.eq_iff_iff, Bool.not_eq_true', List.any_eq_false, List.all_eq_true]
  constructor
  · intro h x hx
    obtain ⟨j, hj, rfl⟩ := List.getElem_of_mem hx
    have := h j (List.mem_range.2 hj)
    rw [rdR_mem hj] at this
    simpa using this
  · intro h j hj
    have hj' := List.mem_range.1 hj
    have := h (xs[j]) (List.getElem_mem hj')
    rw [rdR_mem hj']
    simpa using this
/-- The values of rows' cells, chosen. -/
theorem rows_vals {e : Nat} {k : IntKind} {w : World} {A : Option Addr} {n : Nat} {xs : List (List Int)} (h : Kd.C (Kd.slice e (Kd.int k)) w A n xs) : ∃ (v : Nat → Value), (0 < n → ∃ ad, A = some ad ∧ ∀ j, j < n → w.cell? (ad.add j) = some (v j)) ∧
    ∀ j, j < n → ∃ A0 c0, v j = .slice A0 (rdR xs j).length c0 ∧ (rdR xs j).length ≤ c0 ∧ (Kd.int k).C w A0 (rdR xs j).length (rdR xs j) := by
  rcases Nat.eq_zero_or_pos n with h0 | h0
  · subst h0
    exact ⟨fun _ => .nilIface, fun h => absurd h (Nat.lt_irrefl 0), fun j hj => absurd hj (Nat.not_lt_zero _)⟩
  · obtain ⟨ad, e, hc⟩ := at_rows h h0
    refine ⟨fun j => (w.cell? (ad.add j)).getD .nilIface, fun _ => ⟨ad, e, fun j hj => ?_⟩, fun j hj => ?_⟩
    · obtain ⟨A0, c0, h1, _⟩ := hc j hj
      simp only [h1, Option.getD_some]
    · obtain ⟨A0, c0, h1, h2, h3⟩ := hc j hj
      exact ⟨A0, c0, by simp only [h1, Option.getD_some], h2, h3⟩
end Go.Proofs.YtphphmaljndpfaaDoor.P
