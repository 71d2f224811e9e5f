/- The program's Add (6). -/
import Derived.Test.YtkjhacfmidmebaaGreatAddI
import Derived.Test.YtkjhacfmidmebaaGreatBestC
import Derived.StillTailTactics
namespace Go.Proofs.YtkjhacfmidmebaaGreat
open Go.RowKit

theorem Spots.kept {w w' : World} {M : Nat} {H : Int} {L : List V} {O : List Sp} {row : Option Nat} (h : Spots w M H L O) (hg : w.grownBy w' row) (hr : ∀ r, row = some r → ∃ cs t fr, w.heap[r]? = some (.cells cs t fr)) : Spots w' M H L O := by
  have hm : ∀ {k b n : Nat} {D : DataW Value}, w.ownsMap Tryz.prog k R0 b n D → some b ≠ row := fun ho e => by
    obtain ⟨cs, t, fr, hc⟩ := hr _ e.symm
    obtain ⟨es, clock, hb, _⟩ := ho
    rw [hb] at hc; cases hc
  refine ⟨?_, h.spots, h.blocks, h.apart, h.fit, fun o ho => ⟨(h.inner o ho).1, ?_⟩, h.all⟩
  · obtain ⟨n, D, h1, h2, h3⟩ := h.map
    exact ⟨n, D, h1.kept hg (hm h1), h2, h3⟩
  · obtain ⟨n, D, h1, h2, h3⟩ := (h.inner o ho).2
    exact ⟨n, D, h1.kept hg (hm h1), h2, h3⟩
theorem CRepN.setCell {w : World} {N C : Nat} {S : List Seat} {H : Int} {L : List V} (h : CRepN w N C S H L) {g : Nat} {t : TypeId} {cs : Array Value} (hx : Blk w g t cs) (ht : t ≠ 56 ∧ t ≠ 53) (i : Nat) (u : Value) : CRepN (w.setCell ⟨g, i, none⟩ u) N C S H L := by
  obtain ⟨As, ns, c, M, O, h1, h2, h3, h4⟩ := h
  have hne : C ≠ g := fun e => by
    subst e
    have := h1.symm.trans hx
    injection this with this; injection this with _ this; exact ht.1 this.symm
  refine ⟨As, ns, c, M, O, blk_other h1 i u hne, ⟨h2.1, h2.2.kept (grown_setCell w g i _) (.inr (own_ne h2.2 hx (fun e => ht.2 e.symm)))⟩, h3.kept (grown_setCell w g i u) (fun r e => ?_), h4⟩
  injection e with e
  subst e
  exact ⟨_, _, _, hx⟩
theorem MapsOnly.setCell {w w' : World} (h : MapsOnly w w') {b : Nat} (hp : w.heap.size ≤ b) (i : Nat) (u : Value) : MapsOnly w (w'.setCell ⟨b, i, none⟩ u) :=
  ⟨Nat.le_trans h.size (grown_setCell w' b i u).size, fun g cs t fr hg => by
    have hl : g < w.heap.size := (Array.getElem?_eq_some_iff.1 hg).1
    rw [RowKit.Below.heap_setCell _ _ _ _ (show g ≠ b by omega)]
    exact h.cells g cs t fr hg⟩

/-- twelve stores into a guilt's row. -/
def twelfth (w : World) (g : Nat) (b0 b1 b2 b3 b4 b5 b6 b7 b8 b9 b10 b11 : Value) : World := ((((((((((((w.setCell ⟨g, 0, none⟩ b0).setCell ⟨g, 1, none⟩ b1).setCell ⟨g, 2, none⟩ b2).setCell ⟨g, 3, none⟩ b3).setCell ⟨g, 4, none⟩ b4).setCell ⟨g, 5, none⟩ b5).setCell ⟨g, 6, none⟩ b6).setCell ⟨g, 7, none⟩ b7).setCell ⟨g, 8, none⟩ b8).setCell ⟨g, 9, none⟩ b9).setCell ⟨g, 10, none⟩ b10).setCell ⟨g, 11, none⟩ b11)
theorem twelfth_blk {w : World} {g : Nat} {a0 a1 a2 a3 a4 a5 a6 a7 a8 a9 a10 a11 : Value} (h : Blk w g 36 #[a0, a1, a2, a3, a4, a5, a6, a7, a8, a9, a10, a11]) (b0 b1 b2 b3 b4 b5 b6 b7 b8 b9 b10 b11 : Value) : Blk (twelfth w g b0 b1 b2 b3 b4 b5 b6 b7 b8 b9 b10 b11) g 36 #[b0, b1, b2, b3, b4, b5, b6, b7, b8, b9, b10, b11] := by
  have h0 : Blk (w.setCell ⟨g, 0, none⟩ b0) g 36 #[b0, a1, a2, a3, a4, a5, a6, a7, a8, a9, a10, a11] := h.set_ 0 b0
  have h1 : Blk ((w.setCell ⟨g, 0, none⟩ b0).setCell ⟨g, 1, none⟩ b1) g 36 #[b0, b1, a2, a3, a4, a5, a6, a7, a8, a9, a10, a11] := h0.set_ 1 b1
  have h2 : Blk (((w.setCell ⟨g, 0, none⟩ b0).setCell ⟨g, 1, none⟩ b1).setCell ⟨g, 2, none⟩ b2) g 36 #[b0, b1, b2, a3, a4, a5, a6, a7, a8, a9, a10, a11] := h1.set_ 2 b2
  have h3 : Blk ((((w.setCell ⟨g, 0, none⟩ b0).setCell ⟨g, 1, none⟩ b1).setCell ⟨g, 2, none⟩ b2).setCell ⟨g, 3, none⟩ b3) g 36 #[b0, b1, b2, b3, a4, a5, a6, a7, a8, a9, a10, a11] := h2.set_ 3 b3
  have h4 : Blk (((((w.setCell ⟨g, 0, none⟩ b0).setCell ⟨g, 1, none⟩ b1).setCell ⟨g, 2, none⟩ b2).setCell ⟨g, 3, none⟩ b3).setCell ⟨g, 4, none⟩ b4) g 36 #[b0, b1, b2, b3, b4, a5, a6, a7, a8, a9, a10, a11] := h3.set_ 4 b4
  have h5 : Blk ((((((w.setCell ⟨g, 0, none⟩ b0).setCell ⟨g, 1, none⟩ b1).setCell ⟨g, 2, none⟩ b2).setCell ⟨g, 3, none⟩ b3).setCell ⟨g, 4, none⟩ b4).setCell ⟨g, 5, none⟩ b5) g 36 #[b0, b1, b2, b3, b4, b5, a6, a7, a8, a9, a10, a11] := h4.set_ 5 b5
  have h6 : Blk (((((((w.setCell ⟨g, 0, none⟩ b0).setCell ⟨g, 1, none⟩ b1).setCell ⟨g, 2, none⟩ b2).setCell ⟨g, 3, none⟩ b3).setCell ⟨g, 4, none⟩ b4).setCell ⟨g, 5, none⟩ b5).setCell ⟨g, 6, none⟩ b6) g 36 #[b0, b1, b2, b3, b4, b5, b6, a7, a8, a9, a10, a11] := h5.set_ 6 b6
  have h7 : Blk ((((((((w.setCell ⟨g, 0, none⟩ b0).setCell ⟨g, 1, none⟩ b1).setCell ⟨g, 2, none⟩ b2).setCell ⟨g, 3, none⟩ b3).setCell ⟨g, 4, none⟩ b4).setCell ⟨g, 5, none⟩ b5).setCell ⟨g, 6, none⟩ b6).setCell ⟨g, 7, none⟩ b7) g 36 #[b0, b1, b2, b3, b4, b5, b6, b7, a8, a9, a10, a11] := h6.set_ 7 b7
  have h8 : Blk (((((((((w.setCell ⟨g, 0, none⟩ b0).setCell ⟨g, 1, none⟩ b1).setCell ⟨g, 2, none⟩ b2).setCell ⟨g, 3, none⟩ b3).setCell ⟨g, 4, none⟩ b4).setCell ⟨g, 5, none⟩ b5).setCell ⟨g, 6, none⟩ b6).setCell ⟨g, 7, none⟩ b7).setCell ⟨g, 8, none⟩ b8) g 36 #[b0, b1, b2, b3, b4, b5, b6, b7, b8, a9, a10, a11] := h7.set_ 8 b8
  have h9 : Blk ((((((((((w.setCell ⟨g, 0, none⟩ b0).setCell ⟨g, 1, none⟩ b1).setCell ⟨g, 2, none⟩ b2).setCell ⟨g, 3, none⟩ b3).setCell ⟨g, 4, none⟩ b4).setCell ⟨g, 5, none⟩ b5).setCell ⟨g, 6, none⟩ b6).setCell ⟨g, 7, none⟩ b7).setCell ⟨g, 8, none⟩ b8).setCell ⟨g, 9, none⟩ b9) g 36 #[b0, b1, b2, b3, b4, b5, b6, b7, b8, b9, a10, a11] := h8.set_ 9 b9
  have h10 : Blk (((((((((((w.setCell ⟨g, 0, none⟩ b0).setCell ⟨g, 1, none⟩ b1).setCell ⟨g, 2, none⟩ b2).setCell ⟨g, 3, none⟩ b3).setCell ⟨g, 4, none⟩ b4).setCell ⟨g, 5, none⟩ b5).setCell ⟨g, 6, none⟩ b6).setCell ⟨g, 7, none⟩ b7).setCell ⟨g, 8, none⟩ b8).setCell ⟨g, 9, none⟩ b9).setCell ⟨g, 10, none⟩ b10) g 36 #[b0, b1, b2, b3, b4, b5, b6, b7, b8, b9, b10, a11] := h9.set_ 10 b10
  have h11 : Blk ((((((((((((w.setCell ⟨g, 0, none⟩ b0).setCell ⟨g, 1, none⟩ b1).setCell ⟨g, 2, none⟩ b2).setCell ⟨g, 3, none⟩ b3).setCell ⟨g, 4, none⟩ b4).setCell ⟨g, 5, none⟩ b5).setCell ⟨g, 6, none⟩ b6).setCell ⟨g, 7, none⟩ b7).setCell ⟨g, 8, none⟩ b8).setCell ⟨g, 9, none⟩ b9).setCell ⟨g, 10, none⟩ b10).setCell ⟨g, 11, none⟩ b11) g 36 #[b0, b1, b2, b3, b4, b5, b6, b7, b8, b9, b10, b11] := h10.set_ 11 b11
  exact h11
theorem twelfth_rep {w : World} {N C g : Nat} {S : List Seat} {H : Int} {L : List V} {cs : Array Value} (h : CRepN w N C S H L) (hx : Blk w g 36 cs) (b0 b1 b2 b3 b4 b5 b6 b7 b8 b9 b10 b11 : Value) : CRepN (twelfth w g b0 b1 b2 b3 b4 b5 b6 b7 b8 b9 b10 b11) N C S H L := by
  have k : ∀ {w : World} {cs : Array Value} (_ : CRepN w N C S H L) (_ : Blk w g 36 cs) (i : Nat) (u : Value), CRepN (w.setCell ⟨g, i, none⟩ u) N C S H L ∧ ∃ cs', Blk (w.setCell ⟨g, i, none⟩ u) g 36 cs' := fun h hx i u => ⟨h.setCell hx (by decide) i u, _, hx.set_ i u⟩
  obtain ⟨h0, _, hx0⟩ := k h hx 0 b0
  obtain ⟨h1, _, hx1⟩ := k h0 hx0 1 b1
  obtain ⟨h2, _, hx2⟩ := k h1 hx1 2 b2
  obtain ⟨h3, _, hx3⟩ := k h2 hx2 3 b3
  obtain ⟨h4, _, hx4⟩ := k h3 hx3 4 b4
  obtain ⟨h5, _, hx5⟩ := k h4 hx4 5 b5
  obtain ⟨h6, _, hx6⟩ := k h5 hx5 6 b6
  obtain ⟨h7, _, hx7⟩ := k h6 hx6 7 b7
  obtain ⟨h8, _, hx8⟩ := k h7 hx7 8 b8
  obtain ⟨h9, _, hx9⟩ := k h8 hx8 9 b9
  obtain ⟨h10, _, hx10⟩ := k h9 hx9 10 b10
  obtain ⟨h11, _, hx11⟩ := k h10 hx10 11 b11
  exact h11
theorem twelfth_maps {w w' : World} {g : Nat} (h : MapsOnly w w') (hg : w.heap.size ≤ g) (b0 b1 b2 b3 b4 b5 b6 b7 b8 b9 b10 b11 : Value) : MapsOnly w (twelfth w' g b0 b1 b2 b3 b4 b5 b6 b7 b8 b9 b10 b11) :=
  ((((((((((((h.setCell hg 0 b0).setCell hg 1 b1).setCell hg 2 b2).setCell hg 3 b3).setCell hg 4 b4).setCell hg 5 b5).setCell hg 6 b6).setCell hg 7 b7).setCell hg 8 b8).setCell hg 9 b9).setCell hg 10 b10).setCell hg 11 b11)
theorem twelfth_below {w0 w : World} {g base : Nat} (h : Below base w0 w) (hg : base ≤ g) (b0 b1 b2 b3 b4 b5 b6 b7 b8 b9 b10 b11 : Value) : Below base w0 (twelfth w g b0 b1 b2 b3 b4 b5 b6 b7 b8 b9 b10 b11) :=
  ((((((((((((h.setCell (p := ⟨g, 0, none⟩) hg b0).setCell (p := ⟨g, 1, none⟩) hg b1).setCell (p := ⟨g, 2, none⟩) hg b2).setCell (p := ⟨g, 3, none⟩) hg b3).setCell (p := ⟨g, 4, none⟩) hg b4).setCell (p := ⟨g, 5, none⟩) hg b5).setCell (p := ⟨g, 6, none⟩) hg b6).setCell (p := ⟨g, 7, none⟩) hg b7).setCell (p := ⟨g, 8, none⟩) hg b8).setCell (p := ⟨g, 9, none⟩) hg b9).setCell (p := ⟨g, 10, none⟩) hg b10).setCell (p := ⟨g, 11, none⟩) hg b11)
theorem drew_def (w : World) : ({ heap := w.heap, tape := w.tape, drawn := w.drawn + 1, os := w.os, output := w.output } : World) = w.drew := rfl
theorem CRepN.drew {w : World} {N C : Nat} {S : List Seat} {H : Int} {L : List V} (h : CRepN w N C S H L) : CRepN w.drew N C S H L := h.below (Below.refl _ _).drew

/-- What Add answers, and what is there then. -/
def AddIs (w : World) (N C : Nat) (S : List Seat) (H : Int) (L : List V) (v : V) (e : Ending) (w' : World) : Prop :=
  e = .returned (.tuple #[guiltOf v (addO S H L v).1, .int .i64 (addO S H L v).2.1]) ∧ CRepN w' N C S H (addO S H L v).2.2 ∧ MapsOnly w w' ∧ Below N w w'
theorem addIs_of {w : World} {N C : Nat} {S : List Seat} {H : Int} {L L' : List V} {v : V} {o : Option V} {n : Int} {e : Ending} {w' : World} (ha : addO S H L v = (o, n, L')) (he : e = .returned (.tuple #[guiltOf v o, .int .i64 n])) (h1 : CRepN w' N C S H L') (h2 : MapsOnly w w') (h3 : Below N w w') : AddIs w N C S H L v e w' := by
  unfold AddIs
  rw [ha]
  exact ⟨he, h1, h2, h3⟩
theorem gzero (v : V) : guiltOf v none = .agg #[.int .i64 0, .int .i64 0, .int .i64 0, .bool false, .int .u64 0, .int .i64 0, .int .i64 0, .int .i64 0, .int .i64 0, .bool false, .int .u64 0, .int .i64 0] := rfl
end Go.Proofs.YtkjhacfmidmebaaGreat
