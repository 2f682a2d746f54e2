/- Words of this session's own for laws that mark what they were given: what was made lies in a range of blocks, what is marked keeps the other ranges. -/
import Derived.Test.YtamjcfdjcagjmaaHW
namespace Go.Proofs.Ytamjcfdjcagjmaa.P
open Go.RowKit Go.Proofs.YtamjcfdjcagjmaaW.PrintWords Go.Proofs.YtamjcfdjcagjmaaW.PrintLast Go.Proofs.YtamjcfdjcagjmaaW.PrintMore
set_option linter.unusedVariables false
theorem below_then2 {A X B : World} (hA : Below A.heap.size A X) (hb : Below X.heap.size X B) : Below A.heap.size A B := below_then hA hA.size hb
theorem below_then3 {w A X : World} (hw : Below w.heap.size w A) (hA : Below A.heap.size A X) : Below w.heap.size w X := below_then hw hw.size hA
/-- The blocks from lo on, below hi. -/
def Rng (lo hi : Nat) : Nat → Prop := fun k => lo ≤ k ∧ k < hi
theorem made_S {α : Type} {d : Kd α} {e base : Nat} {A X B : World} {v : Value} {xs : List α} (hS : Kd.S d e B X.heap.size (fun _ => True) v xs) (hX : Below A.heap.size A X) (hb : base ≤ A.heap.size) : Kd.S d e B base (Rng A.heap.size B.heap.size) v xs :=
  Kd.S_lower (Kd.S_mono (Kd.S_bound hS) (fun k h => ⟨Nat.le_trans hX.size h.2.1, h.2.2.1⟩)) (Nat.le_trans hb hX.size)
theorem made_R {α : Type} {d : Kd α} {e base : Nat} {A X B : World} {v : Value} {xs : List α} (hS : Kd.R d e B X.heap.size (fun _ => True) v xs) (hX : Below A.heap.size A X) (hb : base ≤ A.heap.size) : Kd.R d e B base (Rng A.heap.size B.heap.size) v xs :=
  Kd.R_lower (Kd.R_mono (Kd.R_bound hS) (fun k h => ⟨Nat.le_trans hX.size h.2.1, h.2.2.1⟩)) (Nat.le_trans hb hX.size)
theorem rng_apart {lo hi lo' hi' : Nat} (h : hi ≤ lo' ∨ hi' ≤ lo) : ∀ k, Rng lo hi k → ¬ Rng lo' hi' k := by
  intro k hk hk2
  unfold Rng at hk hk2
  omega
theorem S_apart {α : Type} {d : Kd α} {e base : Nat} {A B : World} {v : Value} {xs : List α} {ok P : Nat → Prop} (h : Kd.S d e A base ok v xs) (hK : Kept A B P) (hd : ∀ k, ok k → ¬ P k) : Kd.S d e B base ok v xs := Kd.S_step h (fun k ho hk => hK.2 k hk (hd k ho))
theorem R_apart {α : Type} {d : Kd α} {e base : Nat} {A B : World} {v : Value} {xs : List α} {ok P : Nat → Prop} (h : Kd.R d e A base ok v xs) (hK : Kept A B P) (hd : ∀ k, ok k → ¬ P k) : Kd.R d e B base ok v xs := Kd.R_step h (fun k ho hk => hK.2 k hk (hd k ho))
theorem cell_apart {A B : World} {g o : Nat} {v : Value} {lo' hi' : Nat} (h : A.cell? ⟨g, o, none⟩ = some v) (hK : Kept A B (Rng lo' hi')) (hd : g < lo' ∨ hi' ≤ g) : B.cell? ⟨g, o, none⟩ = some v := by
  have hlt : g < A.heap.size := World.block_lt_of_cell? A _ h
  have := hK.2 g hlt (fun hk => by unfold Rng at hk; omega)
  rw [World.cell?_of_block (w := A) (w' := B) (a := ⟨g, o, none⟩) this]
  exact h
theorem S_read {α : Type} {d : Kd α} {e base : Nat} {A X : World} {Ad : Option Addr} {n c : Nat} {xs : List α} {ok : Nat → Prop} (h : Kd.S d e A base ok (.slice Ad n c) xs) (hX : Below A.heap.size A X) : d.C X Ad xs.length xs := (Kd.S_reads' (Kd.S_below h hX)).2.2
theorem R_read {α : Type} {d : Kd α} {e base : Nat} {A X : World} {Ad : Option Addr} {n c : Nat} {xs : List α} {ok : Nat → Prop} (h : Kd.R d e A base ok (.slice Ad n c) xs) (hX : Below A.heap.size A X) : d.C X Ad xs.length xs := (Kd.R_reads' (Kd.R_below h hX)).2.2
theorem S_room {α : Type} {d : Kd α} {e base : Nat} {A : World} {Ad : Option Addr} {c : Nat} {xs : List α} {ok : Nat → Prop} (h : Kd.S d e A base ok (.slice Ad xs.length c) xs) : xs.length ≤ c := (Kd.S_reads' h).2.1
theorem R_room {α : Type} {d : Kd α} {e base : Nat} {A : World} {Ad : Option Addr} {c : Nat} {xs : List α} {ok : Nat → Prop} (h : Kd.R d e A base ok (.slice Ad xs.length c) xs) : xs.length ≤ c := (Kd.R_reads' h).2.1
theorem S_room2 {α : Type} {d : Kd α} {e base : Nat} {A : World} {Ad : Option Addr} {n c : Nat} {xs : List α} {ok : Nat → Prop} (h : Kd.S d e A base ok (.slice Ad n c) xs) : xs.length ≤ c := by
  have := Kd.S_reads' h
  omega
/-- What one number of rounds serves. -/
theorem Ev.and {α β : Type} {f : Nat → Option α} {g : Nat → Option β} {a : α} {b : β} (h : Ev f a) (h2 : Ev g b) : ∃ K, ∀ k, K ≤ k → f k = some a ∧ g k = some b := by
  obtain ⟨K1, h1⟩ := h
  obtain ⟨K2, h2⟩ := h2
  exact ⟨max K1 K2, fun k hk => ⟨h1 k (by omega), h2 k (by omega)⟩⟩
end Go.Proofs.Ytamjcfdjcagjmaa.P
