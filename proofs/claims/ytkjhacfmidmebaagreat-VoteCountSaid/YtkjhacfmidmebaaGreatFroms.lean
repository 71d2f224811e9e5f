/- The program's froms: who voted so, in order. -/
import Derived.Test.YtkjhacfmidmebaaGreatCRep
namespace Go.Proofs.YtkjhacfmidmebaaGreat
open Go.RowKit

set_option maxRecDepth 100000 in
theorem leadC_any (B0 : Nat) (u v : V) (w : World) (hc : Blk w B0 34 #[.int .i64 v.h, .int .i64 v.r, .int .i64 v.s, .bool v.has, .int .u64 v.blk, .int .i64 v.fr]) :
    Calls Tryz.prog 35 #[vagg u, .pointer (some ⟨B0, 0, none⟩)] w fun e w' => e = .returned (.bool (u.has == v.has && u.blk == v.blk)) ∧ Below w.heap.size w w' := by
  have hl := hc.lt
  have c3 := hc.cell 3; have c4 := hc.cell 4
  simp at c3 c4
  unfold vagg
  by_cases h1 : (u.has == v.has) = true
  · go_enter Tryz.func35, Tryz.ntmps35
    go_wp2
    all_goals
      go_ret
      exact ⟨by rw [h1]; simp, (Below.refl _ _).alloc (Nat.le_refl _) _⟩
  · have h1' : (u.has == v.has) = false := by simpa using h1
    clear h1
    go_enter Tryz.func35, Tryz.ntmps35
    go_wp2
    all_goals
      go_ret
      exact ⟨by rw [h1']; simp, (Below.refl _ _).alloc (Nat.le_refl _) _⟩

set_option maxRecDepth 100000 in
theorem anyC_any (u : V) (w : World) :
    Calls Tryz.prog 38 #[vagg u] w fun e w' => e = .returned (.bool true) ∧ Below w.heap.size w w' := by
  unfold vagg
  go_enter Tryz.func38, Tryz.ntmps38
  go_wp2
  go_ret
  exact ⟨rfl, (Below.refl _ _).alloc (Nat.le_refl _) _⟩

end Go.Proofs.YtkjhacfmidmebaaGreat
