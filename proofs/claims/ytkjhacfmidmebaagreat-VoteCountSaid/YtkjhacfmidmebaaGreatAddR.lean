/- place; the reference's Add. -/
import Derived.Test.YtkjhacfmidmebaaGreatCRep
namespace Go.Proofs.YtkjhacfmidmebaaGreat
open Go.RowKit

set_option maxRecDepth 100000 in
theorem place_any (v : V) (w : World) :
    Calls Tryz.prog 25 #[vagg v] w fun e w' => e = .returned (spotV v.h v.r v.s) ∧ Below w.heap.size w w' := by
  have hb0 : Below w.heap.size w (w.alloc (.cells #[.int .i64 v.h, .int .i64 v.r, .int .i64 v.s, .bool v.has, .int .u64 v.blk, .int .i64 v.fr] 34)) := (Below.refl _ _).alloc (Nat.le_refl _) _
  have hb1 := hb0.alloc hb0.size (.cells #[.int .i64 v.h, .int .i64 v.r, .int .i64 v.s] 61)
  have HB := Lib.hid hb1; clear hb0 hb1
  unfold vagg
  go_enter Tryz.func25, Tryz.ntmps25
  go_wp2
  refine bodyPost_ret (v := spotV v.h v.r v.s) (by simp [results, Tryz.results25, go_sem, spotV]; try rfl) rfl ?_
  exact ⟨rfl, HB.out⟩

end Go.Proofs.YtkjhacfmidmebaaGreat
