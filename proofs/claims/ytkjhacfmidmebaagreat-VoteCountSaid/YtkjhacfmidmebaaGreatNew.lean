/- The program's New. -/
import Derived.Test.YtkjhacfmidmebaaGreatCRep
namespace Go.Proofs.YtkjhacfmidmebaaGreat
open Go.RowKit

def Cloned (w : World) (n : Nat) (S : List Seat) (e : Ending) (w' : World) : Prop :=
  (∃ A' c', e = .returned (.slice A' n c') ∧ Own encS 2 53 w' w.heap.size A' n c' S) ∧ Below w.heap.size w w'

set_option maxRecDepth 100000 in
theorem clone_any (A : Option Addr) (n c base : Nat) (S : List Seat) (w : World) (h : Own encS 2 53 w base A n c S) (hn : n ≤ 10000) :
    Calls Tryz.prog 22 #[.slice A n c] w (Cloned w n S) := by
  have HR := Lib.hid (h.rd lenS)
  obtain ⟨i0, hi, hz0, hz1, hz2⟩ := info_parts Tryz.info53
  rcases h.cases_ with ⟨rfl, rfl, rfl, rfl⟩ | ⟨g, rfl, _, _, hc, _⟩
  · have hbn : ∀ w : World, (binOp .eql 22 (.slice none 0 0) (.slice none 0 0)).run Tryz.prog w = .ok (.bool true) w := fun w => by first | rfl | kernel_rfl
    go_enter Tryz.func22, Tryz.ntmps22
    go_wp2
    go_ret
    exact ⟨⟨none, 0, rfl, Own.nil _ _⟩, Below.refl _ _⟩
  · have hbn : ∀ w : World, (binOp .eql 22 (.slice (some ⟨g, 0, none⟩) n c) (.slice none 0 0)).run Tryz.prog w = .ok (.bool false) w := fun w => by first | rfl | kernel_rfl
    have HM : Hid (Own (α := Seat) encS 2 53 (w.alloc (.cells #[] 53)) w.heap.size (some ⟨w.heap.size, 0, none⟩) 0 0 []) := Own.made (α := Seat) (enc := encS) (k := 2) (e := 53) w w.heap.size (Nat.le_refl _)
    have HB : Hid (Below w.heap.size w (w.alloc (.cells #[] 53))) := (Below.refl _ _).alloc (Nat.le_refl _) _
    go_enter Tryz.func22, Tryz.ntmps22
    go_wp2_with (at_builtin; first
      | (refine wpList_app rfl (.tmp 5) (.tmp 6) 22 rfl 53 i0 _ 16 Tryz.underlying22 hi hz0 hz1 hz2 rfl (by decide) lenS oneS w.heap.size _ 0 0 [] rfl HM.out w.heap.size n c _ _ rfl (HR.out.alloc (Nat.le_refl _) _) (by simp only [maxLen]; omega) (by omega) HB.out.size ?_; intro A1 c1 w1 hown1 hg1 hat1; have HB1 := Lib.hid (Below.app HB.out HM.out hg1 HB.out.size); rw [Nat.zero_add, List.nil_append] at hown1; have HO1 := Lib.hid hown1; clear hg1 hat1 hown1))
    go_ret
    exact ⟨⟨A1, c1, rfl, HO1.out⟩, HB1.out⟩

set_option maxRecDepth 100000 in
theorem new_any (A : Option Addr) (n c base : Nat) (S : List Seat) (H : Int) (w : World) (h : Own encS 2 53 w base A n c S) (hn : n ≤ 10000) :
    Calls Tryz.prog 5 #[.slice A n c, .int .i64 H] w fun e w' => ∃ C, e = .returned (.pointer (some ⟨C, 0, none⟩)) ∧ CRep w' C S H [] ∧ Below w.heap.size w w' ∧ w.heap.size ≤ C := by
  have HC := Lib.hid (clone_any A n c base S w h hn)
  have hmk : ∀ w : World, (Instr.makeMap 54 none).run Tryz.prog w = .ok (.map (some w.heap.size)) (w.alloc (.map #[] 0)) := fun _ => rfl
  go_enter Tryz.func5, Tryz.ntmps5
  go_wp2_with (go_at_call 22; refine HC.out.mono ?_; rintro e w1 ⟨⟨A1, c1, rfl, ho1⟩, hb1⟩; have HO1 := Lib.hid ho1; have HB1 := Lib.hid hb1; clear ho1 hb1)
  go_ret
  have hs := HB1.out.size
  have hO := HO1.out.alloc (.map #[] 0)
  have hO2 := hO.alloc (.cells #[.slice A1 n c1, .int .i64 H, .map (some w1.heap.size)] 56)
  have hb := Blk.new (w1.alloc (.map #[] 0)) 56 #[.slice A1 n c1, .int .i64 H, .map (some w1.heap.size)]
  have hB := (HB1.out.alloc hs (.map #[] 0)).alloc (by simp; omega) (.cells #[.slice A1 n c1, .int .i64 H, .map (some w1.heap.size)] 56)
  have hm := (World.ownsMap_made w1 Tryz.prog 61 R0).alloc (.cells #[.slice A1 n c1, .int .i64 H, .map (some w1.heap.size)] 56)
  rw [World.size_alloc] at hb
  refine ⟨w1.heap.size + 1, rfl, ⟨A1, n, c1, w1.heap.size, [], hb, hO2.rd lenS, ?_⟩, hB, by omega⟩
  exact ⟨⟨0, _, hm, by simp, ⟨by simp [Maps.has], by simp, by simp⟩⟩, by simp, by simp, by simp, by simp, by simp, by simp⟩

end Go.Proofs.YtkjhacfmidmebaaGreat
