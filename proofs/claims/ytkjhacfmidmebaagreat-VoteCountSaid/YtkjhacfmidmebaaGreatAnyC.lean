/- The program's Any (15). -/
import Derived.Test.YtkjhacfmidmebaaGreatFromsA
import Derived.Deep.RegionLaw
namespace Go.Proofs.YtkjhacfmidmebaaGreat
open Go.RowKit

theorem anyFr_true (r s : Int) (L : List V) : (L.filter (fun v => isAt r s v && (fun _ : V => true) v)).map (·.fr) = anyFr r s L := by
  unfold anyFr
  simp

set_option maxRecDepth 100000 in
set_option maxHeartbeats 1600000 in
theorem anyC_ (C : Nat) (S : List Seat) (H r s : Int) (L : List V) (w : World) (h : CRep w C S H L) (hS : Bench S) (hG : Good S H L) (hH : Fit H) (hr : Fit r) (hs : Fit s) (hL : L.length ≤ 4096) :
    Calls Tryz.prog 15 #[.pointer (some ⟨C, 0, none⟩), .int .i64 r, .int .i64 s] w fun e w' => e = .returned (.bool (anyD S L r s)) ∧ Below w.heap.size w w' := by
  obtain ⟨As, ns, cs, M, O, hblk, hseats, hsp⟩ := id h
  have hF : ∀ W, Below w.heap.size w W → Calls Tryz.prog 34 #[.pointer (some ⟨C, 0, none⟩), .int .i64 r, .int .i64 s, .func (.func 38) #[] #[]] W (IntsAre W (anyFr r s L)) := by
    intro W hb
    have := fromsA_any C S H r s L W (h.below hb) hG hH hr hs hL
    rwa [anyFr_true] at this
  have HF := Lib.hid hF; clear hF
  have HSe := Lib.hid hseats
  have HS := Lib.hid hS; clear hS
  have hlen := anyFr_len r s L
  have c0 := hblk.cell 0; have c1 := hblk.cell 1; have c2 := hblk.cell 2
  simp at c0 c1 c2
  have hCl := hblk.lt
  have HBk := Lib.hid hblk
  clear hseats hsp hblk h
  have HB1 : Hid (Below w.heap.size w w.drew) := (Below.refl _ _).drew
  have HQ : Hid (∀ (A1 : Option Addr) (n1 c1 : Nat) (W : World), Own encI 1 3 W w.heap.size A1 n1 c1 (anyFr r s L) → Below w.heap.size w W → Calls Tryz.prog 36 #[.slice As ns cs, .slice A1 n1 c1] W fun e w' => e = .returned (.bool (anyD S L r s)) ∧ Below W.heap.size W w') := by
    intro A1 n1 c1 W ho hb
    exact quorum_any _ _ _ _ _ _ _ _ W ((HSe.out.below hb).more hb.size) HS.out (ho.rd lenI) (by have := ho.1; omega)
  go_enter Tryz.func15, Tryz.ntmps15
  go_wp2_with fail
  go_region_law (first
    | (go_simp; go_at_call 34; refine (HF.out _ HB1.out).mono ?_; rintro e w1 ⟨⟨A1, n1, c1, rfl, ho1⟩, hb1⟩
       have HO := Lib.hid ho1; have HB2 := Lib.hid (HB1.out.trans hb1); have d0 := (HBk.out.below HB2.out hCl).cell 0; simp at d0; clear ho1 hb1)
    | (go_simp; go_at_call 36; refine (HQ.out _ _ _ _ HO.out HB2.out).mono ?_; rintro e w2 ⟨rfl, hb3⟩
       have HB3 := Lib.hid (HB2.out.trans (hb3.mono HB2.out.size)); clear hb3))
  all_goals
    simp [Act.put, Act.eval]
    go_wp2
    go_ret
    exact ⟨rfl, HB3.out⟩
end Go.Proofs.YtkjhacfmidmebaaGreat
