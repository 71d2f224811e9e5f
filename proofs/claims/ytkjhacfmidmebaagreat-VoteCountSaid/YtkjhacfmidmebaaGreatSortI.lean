/- slices.Sort of the call's own ints. -/
import Derived.Test.YtkjhacfmidmebaaGreatShelfI
import Derived.Test.YtkjhacfmidmebaaGreatApp
import Derived.Sort.OwnSortedInts
namespace Go.Proofs.YtkjhacfmidmebaaGreat
open Go.RowKit Go.Sort

def sortL (l : List Int) : List Int := l.mergeSort fun x y => decide (x ≤ y)
theorem sortL_eq {xs ys : List Int} (hp : xs.Perm ys) (hs : ys.Pairwise (· < ·)) : sortL xs = ys := by
  have h1 : (sortL xs).Pairwise (fun a b => decide (a ≤ b) = true) := List.pairwise_mergeSort (by intro a b c h1 h2; simp at *; omega) (by intro a b; simp; omega) xs
  refine List.Perm.eq_of_pairwise (le := fun a b : Int => a ≤ b) (fun a b _ _ h1 h2 => by omega) (h1.imp fun {a b} h => by simpa using h) (hs.imp fun {a b} h => by omega) ((List.mergeSort_perm xs _).trans hp)
theorem sortL_len (l : List Int) : (sortL l).length = l.length := (List.mergeSort_perm l _).length_eq
theorem flat_encI (l : List Int) : l.flatMap encI = l.map (Value.int .i64) := by
  induction l with
  | nil => rfl
  | cons x r ih => simp only [List.flatMap_cons, List.map_cons, ih]; rfl

theorem sortI_any (A : Option Addr) (n c base : Nat) (l : List Int) (w : World) (h : Own encI 1 3 w base A n c l) (hn : n ≤ 65536) :
    Calls Tryz.prog 54 #[.slice A n c] w fun e w' => e = .returned (.tuple #[]) ∧ Own encI 1 3 w' base A n c (sortL l) ∧ w.grownBy w' (Value.slice A n c).ownBlock := by
  rcases h.2.2 with ⟨hv, h0⟩ | ⟨g, cap, cur, hv, hb, hg, hnc, hcm, hcs, hct⟩
  · injection hv with hA hn' hc
    subst hA hn' hc
    have hl : l = [] := List.eq_nil_of_length_eq_zero h.1
    subst hl
    refine (AnyM.slices_Sort_int_none Tryz.sortInts none 0 w).mono ?_
    rintro e w' ⟨he, rfl⟩
    exact ⟨he, by rw [show sortL [] = [] by simp [sortL]]; exact Own.nil _ _, World.grownBy.refl _ _⟩
  · injection hv with hA hn' hc
    subst hA hc
    have hl := h.1
    subst hl
    have hct' : cur.toList.take l.length = l.map (Value.int .i64) := by rw [← flat_encI, ← hct, Nat.mul_one]
    have hH := holds_of_blockI hg hct'
    refine (AnyM.slices_Sort_int Tryz.sortInts g 0 c l w hH (Array.getElem?_eq_some_iff.1 hg).1 (by omega)).mono ?_
    rintro e w' ⟨he, m, os, rfl⟩
    have hlen : (l.mergeSort fun x y => decide (x ≤ y)).length = l.length := sortL_len l
    refine ⟨he, ⟨sortL_len l, ?_⟩, grownBy_sortedI _⟩
    rw [flat_encI]
    exact ownsRow_sortedI hlen hb hg hnc hcm hcs
end Go.Proofs.YtkjhacfmidmebaaGreat
