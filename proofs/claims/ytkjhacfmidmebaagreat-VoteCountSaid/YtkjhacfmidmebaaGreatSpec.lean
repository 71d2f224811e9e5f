/- The plain mathematics of a bench and of a count of votes: lists and numbers alone. -/
import Derived.Test.YtkjhacfmidmebaaGreatMem
namespace Go.Proofs.YtkjhacfmidmebaaGreat

def inL (k : Int) (l : List Int) : Bool := l.any fun x => x == k
def hasS (l : List Seat) (who : Int) : Bool := l.any fun s => s.1 == who
def totalS (l : List Seat) : Int := (l.map (·.2)).sum
def weightS (l : List Seat) (named : List Int) : Int := (l.map fun s => if inL s.1 named then s.2 else 0).sum
def quorumS (l : List Seat) (named : List Int) : Bool := decide (2 * totalS l < 3 * weightS l named)
def moreS (l : List Seat) (named : List Int) : Bool := decide (totalS l < 3 * weightS l named)

/-- A bench as the law has it: at most seven, each of a weight from 1 to 40. -/
def Bench (l : List Seat) : Prop := l.length ≤ 7 ∧ ∀ s ∈ l, 1 ≤ s.2 ∧ s.2 ≤ 40

theorem total_snoc (l : List Seat) (s : Seat) : totalS (l ++ [s]) = totalS l + s.2 := by simp [totalS]
theorem weight_snoc (l : List Seat) (s : Seat) (m : List Int) : weightS (l ++ [s]) m = weightS l m + if inL s.1 m then s.2 else 0 := by simp [weightS]

theorem total_bound : ∀ {l : List Seat}, (∀ s ∈ l, 1 ≤ s.2 ∧ s.2 ≤ 40) → 0 ≤ totalS l ∧ totalS l ≤ 40 * (l.length : Int)
  | [], _ => by simp [totalS]
  | s :: r, h => by
    have h1 := h s (by simp)
    have h2 := total_bound (l := r) (fun x hx => h x (by simp [hx]))
    simp only [totalS, List.map_cons, List.sum_cons, List.length_cons] at *
    omega
theorem weight_bound (m : List Int) : ∀ {l : List Seat}, (∀ s ∈ l, 1 ≤ s.2 ∧ s.2 ≤ 40) → 0 ≤ weightS l m ∧ weightS l m ≤ 40 * (l.length : Int)
  | [], _ => by simp [weightS]
  | s :: r, h => by
    have h1 := h s (by simp)
    have h2 := weight_bound m (l := r) (fun x hx => h x (by simp [hx]))
    simp only [weightS, List.map_cons, List.sum_cons, List.length_cons] at *
    split <;> omega
theorem Bench.total {l : List Seat} (h : Bench l) : 0 ≤ totalS l ∧ totalS l ≤ 280 := by
  have := total_bound h.2; have := h.1; omega
theorem Bench.weight {l : List Seat} (h : Bench l) (m : List Int) : 0 ≤ weightS l m ∧ weightS l m ≤ 280 := by
  have := weight_bound m h.2; have := h.1; omega
theorem Bench.totalTake {l : List Seat} (h : Bench l) (k : Nat) : 0 ≤ totalS (l.take k) ∧ totalS (l.take k) ≤ 280 :=
  Bench.total ⟨by have := h.1; rw [List.length_take]; omega, fun s hs => h.2 s (List.mem_of_mem_take hs)⟩
theorem Bench.weightTake {l : List Seat} (h : Bench l) (m : List Int) (k : Nat) : 0 ≤ weightS (l.take k) m ∧ weightS (l.take k) m ≤ 280 :=
  Bench.weight ⟨by have := h.1; rw [List.length_take]; omega, fun s hs => h.2 s (List.mem_of_mem_take hs)⟩ m

end Go.Proofs.YtkjhacfmidmebaaGreat
