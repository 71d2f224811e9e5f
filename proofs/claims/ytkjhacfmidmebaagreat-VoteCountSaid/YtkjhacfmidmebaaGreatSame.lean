/- The law's sameCert: of two decisions that are the same. -/
import Derived.Test.YtkjhacfmidmebaaGreatSeated
namespace Go.Proofs.YtkjhacfmidmebaaGreat
open Go.RowKit

set_option maxRecDepth 100000 in
set_option maxHeartbeats 1600000 in
theorem sameCert_any (h r s : Int) (has : Bool) (blk : Int) (A1 A2 : Option Addr) (n n' c1 c2 : Nat) (l : List Int) (w : World) (h1 : Rd encI 1 w w.heap.size A1 n l) (h2 : Rd encI 1 w w.heap.size A2 n' l) (hn : n ≤ 65536) :
    Calls Tryz.prog 11 #[.agg #[.int .i64 h, .int .i64 r, .int .i64 s, .bool has, .int .u64 blk, .slice A1 n c1], .agg #[.int .i64 h, .int .i64 r, .int .i64 s, .bool has, .int .u64 blk, .slice A2 n' c2]] w
      fun e w' => e = .returned (.bool true) ∧ Below w.heap.size w w' := by
  obtain rfl := h1.1
  obtain rfl := h2.1
  have hb0 : Below w.heap.size w (w.alloc (.cells #[.int .i64 h, .int .i64 r, .int .i64 s, .bool has, .int .u64 blk, .slice A1 l.length c1] 42)) := (Below.refl _ _).alloc (Nat.le_refl _) _
  have hb1 := hb0.alloc hb0.size (.cells #[.int .i64 h, .int .i64 r, .int .i64 s, .bool has, .int .u64 blk, .slice A2 l.length c2] 42)
  have hx0 := (Blk.new w 42 #[.int .i64 h, .int .i64 r, .int .i64 s, .bool has, .int .u64 blk, .slice A1 l.length c1]).alloc (.cells #[.int .i64 h, .int .i64 r, .int .i64 s, .bool has, .int .u64 blk, .slice A2 l.length c2] 42)
  have hx1 := Blk.new (w.alloc (.cells #[.int .i64 h, .int .i64 r, .int .i64 s, .bool has, .int .u64 blk, .slice A1 l.length c1] 42)) 42 #[.int .i64 h, .int .i64 r, .int .i64 s, .bool has, .int .u64 blk, .slice A2 l.length c2]
  rw [World.size_alloc] at hx1
  have HB := Lib.hid hb1; clear hb0 hb1
  have H1 := Lib.hid h1; have H2 := Lib.hid h2; clear h1 h2
  have HX0 := Lib.hid hx0; have HX1 := Lib.hid hx1; clear hx0 hx1
  go_enter Tryz.func11, Tryz.ntmps11
  go_wp2
  generalize (w.alloc (.cells #[.int .i64 h, .int .i64 r, .int .i64 s, .bool has, .int .u64 blk, .slice A1 l.length c1] 42)).alloc (.cells #[.int .i64 h, .int .i64 r, .int .i64 s, .bool has, .int .u64 blk, .slice A2 l.length c2] 42) = wa at *
  have x5 := HX0.out.cell 5; have y5 := HX1.out.cell 5
  simp at x5 y5
  go_loopw [5] (fun i wr => (∃ k : Nat, i = .int .i64 k ∧ k ≤ l.length) ∧ ∃ q, wr = wa.drewN q) (fun i _ => l.length - (intOf i).toNat)
  case atStart => exact ⟨⟨0, rfl, by omega⟩, 0, rfl⟩
  case round =>
    obtain ⟨⟨k, rfl, hk⟩, q, rfl⟩ := hrel
    by_cases hlt : k < l.length
    · obtain ⟨b, off, rfl, hb, c0⟩ := rd_int (H1.out.below HB.out) hlt
      obtain ⟨b', off', rfl, hb', d0⟩ := rd_int (H2.out.below HB.out) hlt
      have g1 : (k : Int) < (l.length : Int) := by omega
      go_wp2_with fail
      go_quiet (fail)
      go_wp2
      go_roundw
      case rel => exact ⟨⟨k + 1, by go_num, by omega⟩, _, rfl⟩
      case measure => simp [intOf]; omega
    · have g1 : ¬ (k : Int) < (l.length : Int) := by omega
      go_wp2
      go_ret
      exact ⟨rfl, below_drewN HB.out q⟩

end Go.Proofs.YtkjhacfmidmebaaGreat
