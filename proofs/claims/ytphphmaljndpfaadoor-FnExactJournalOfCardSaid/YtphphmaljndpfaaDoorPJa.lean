/- The decimal text of the reference is the numeral. Plain Lean. -/
import Derived.Test.YtphphmaljndpfaaDoorPx1
import Derived.Test.YtphphmaljndpfaaDoorPJ
namespace Go.Proofs.YtphphmaljndpfaaDoor.P
open Go.RowKit Go.Proofs.YtphphmaljndpfaaDoorW.PrintWords Go.Proofs.YtphphmaljndpfaaDoorW.PrintLast Go.Proofs.YtphphmaljndpfaaDoorW.PrintMore
set_option linter.unusedVariables false
set_option linter.unusedSimpArgs false
theorem bytes_ext {a b : ByteArray} (h : a.data.toList = b.data.toList) : a = b := by
  cases a; cases b
  simp only [ByteArray.mk.injEq]
  exact Array.toList_inj.mp h
theorem bytes_append (a b : ByteArray) : (a ++ b).data.toList = a.data.toList ++ b.data.toList := by
  rw [ByteArray.data_append, Array.toList_append]
def dg (m : Nat) : ByteArray := ⟨#[UInt8.ofNat (48 + m % 10)]⟩
theorem dg_of {v : Int} {m : Nat} (h : v = ((48 + m % 10 : Nat) : Int)) : strOfNums [v] = dg m := by
  subst h
  rfl
def sgn (x : Int) (m : Nat) : Int := if x < 0 then -(m : Int) else (m : Int)
theorem sgn_tmod (x : Int) (m : Nat) : Int.tmod (sgn x m) 10 = sgn x (m % 10) := by
  unfold sgn
  have h : Int.tmod (m : Int) 10 = ((m % 10 : Nat) : Int) := by rw [Int.tmod_eq_emod_of_nonneg (by omega)]; omega
  split
  · rw [Int.neg_tmod, h]
  · exact h
theorem sgn_tdiv (x : Int) (m : Nat) : Int.tdiv (sgn x m) 10 = sgn x (m / 10) := by
  unfold sgn
  have h : Int.tdiv (m : Int) 10 = ((m / 10 : Nat) : Int) := by rw [Int.tdiv_eq_ediv_of_nonneg (by omega)]; omega
  split
  · rw [Int.neg_tdiv, h]
  · exact h
theorem dec_step (x : Int) (out : ByteArray) (m : Nat) (hm : m ≤ 9223372036854775808) (hs : out.size ≤ 100) (k : Nat) :
    spec_l01Dec.l0 (k + 1) x out (sgn x m) = if m < 10 then some (if x < 0 then (⟨#[45]⟩ : ByteArray) ++ (dg m ++ out) else dg m ++ out) else spec_l01Dec.l0 k x (dg m ++ out) (sgn x (m / 10)) := by
  rw [spec_l01Dec.l0.eq_2, sgn_tmod, sgn_tdiv]
  have hd : m % 10 < 10 := Nat.mod_lt _ (by omega)
  have hq : wrap64 (sgn x (m / 10)) = sgn x (m / 10) := by unfold sgn; split <;> exact wrapI (by omega) (by omega)
  have h0 : (sgn x (m / 10) = 0) ↔ m < 10 := by unfold sgn; split <;> omega
  have hz1 : (dg m).size = 1 := rfl
  have hz : (dg m).size + out.size ≤ 9223372036854775807 := by omega
  have hz2 : 1 + (dg m ++ out).size ≤ 9223372036854775807 := by rw [ByteArray.size_append]; omega
  rw [hq]
  have key : ∀ v : Int, v = ((48 + m % 10 : Nat) : Int) → ((some ([v] : List Int)).bind fun y => (if (strOfNums y).size + out.size ≤ 9223372036854775807 then (if sgn x (m / 10) = 0 then (if x < 0 then (if 1 + ((strOfNums y) ++ out).size ≤ 9223372036854775807 then (some ((⟨#[45]⟩ : ByteArray) ++ ((strOfNums y) ++ out))) else (none)) else (some ((strOfNums y) ++ out))) else (spec_l01Dec.l0 k x ((strOfNums y) ++ out) (sgn x (m / 10)))) else (none)))
      = if m < 10 then some (if x < 0 then (⟨#[45]⟩ : ByteArray) ++ (dg m ++ out) else dg m ++ out) else spec_l01Dec.l0 k x (dg m ++ out) (sgn x (m / 10)) := by
    intro v hv
    simp only [Option.bind_some]
    rw [dg_of hv, if_pos hz]
    by_cases c : m < 10
    · rw [if_pos (h0.2 c), if_pos c]
      by_cases c2 : x < 0
      · rw [if_pos c2, if_pos c2, if_pos hz2]
      · rw [if_neg c2, if_neg c2]
    · rw [if_neg (fun e => c (h0.1 e)), if_neg c]
  by_cases c : sgn x (m % 10) < 0
  · rw [if_pos c]
    refine key _ ?_
    have hx : sgn x (m % 10) = -((m % 10 : Nat) : Int) := by
      unfold sgn at c ⊢
      split at c
      · rename_i h; rw [if_pos h]
      · omega
    rw [hx, wrapI (x := -(-((m % 10 : Nat) : Int))) (by omega) (by omega), wrapI (by omega) (by omega)]
    omega
  · rw [if_neg c]
    refine key _ ?_
    have hx : sgn x (m % 10) = ((m % 10 : Nat) : Int) := by
      unfold sgn at c ⊢
      split at c
      · rename_i h; rw [if_pos h]; omega
      · rename_i h; rw [if_neg h]
    rw [hx, wrapI (by omega) (by omega)]
    omega
theorem dec_loop (x : Int) (N : Nat) (hN : N ≤ 9223372036854775808) (hx : sgn x N = x) (m : Nat) : m ≤ N → ∀ out : ByteArray, Lib.decDigits N = Lib.decDigits m ++ out.data.toList → Ev (fun k => spec_l01Dec.l0 k x out (sgn x m)) (dec x) := by
  induction m using Nat.strongRecOn with
  | _ m ih =>
    intro hmN out hout
    have hlen : (Lib.decDigits N).length ≤ 21 := by
      rw [Lib.decDigits_length]
      have := Lib.nDigits_le20 N (by omega)
      omega
    have hs : out.size ≤ 100 := by
      rw [hout, List.length_append] at hlen
      have : out.data.toList.length = out.size := rfl
      omega
    refine Ev.step (fun k => dec_step x out m (by omega) hs k) ?_
    by_cases c : m < 10
    · refine Ev.of_ite_pos c (Ev.const ?_)
      rw [Lib.decDigits_one c] at hout
      have hi : dec x = if x < 0 then (⟨#[45]⟩ : ByteArray) ++ (dg m ++ out) else dg m ++ out := by
        refine bytes_ext ?_
        show Lib.itoa x = _
        have hdm : (dg m).data.toList = [UInt8.ofNat (48 + m)] := by show [UInt8.ofNat (48 + m % 10)] = _; rw [Nat.mod_eq_of_lt c]
        unfold Lib.itoa
        by_cases c2 : x < 0
        · have hxN : x.natAbs = N := by unfold sgn at hx; rw [if_pos c2] at hx; omega
          rw [if_pos c2, if_pos c2, hxN, hout, bytes_append, bytes_append, hdm]
          rfl
        · have hxN : x.toNat = N := by unfold sgn at hx; rw [if_neg c2] at hx; omega
          rw [if_neg c2, if_neg c2, hxN, hout, bytes_append, hdm]
      rw [hi]
    · refine Ev.of_ite_neg c (ih (m / 10) (by omega) (by omega) (dg m ++ out) ?_)
      have hdm : Lib.decDigits m = Lib.decDigits (m / 10) ++ [UInt8.ofNat (48 + m % 10)] := by
        rw [Lib.decDigits, dif_neg c]
      rw [hout, hdm, bytes_append]
      show _ = Lib.decDigits (m / 10) ++ ([UInt8.ofNat (48 + m % 10)] ++ out.data.toList)
      rw [List.append_assoc]
theorem specDec_ev (x : Int) (h0 : -9223372036854775808 ≤ x) (h1 : x ≤ 9223372036854775807) : Ev (fun k => spec_l01Dec.f k x) (dec x) := by
  have hx : sgn x x.natAbs = x := by unfold sgn; split <;> omega
  have := dec_loop x x.natAbs (by omega) hx x.natAbs (Nat.le_refl _) ⟨#[]⟩ (by simp)
  rw [hx] at this
  exact this
theorem dec_size (x : Int) (h0 : -9223372036854775808 ≤ x) (h1 : x ≤ 9223372036854775807) : 1 ≤ (dec x).size ∧ (dec x).size ≤ 21 := by
  have hl : (dec x).size = (Lib.itoa x).length := rfl
  refine ⟨?_, by rw [hl]; exact Lib.itoa_length_le x h0 h1⟩
  rw [hl]
  unfold Lib.itoa
  split
  · simp
  · rw [Lib.decDigits]
    split <;> simp
end Go.Proofs.YtphphmaljndpfaaDoor.P
