/- The reference's Add (7). -/
import Derived.Test.YtkjhacfmidmebaaGreatAddC
namespace Go.Proofs.YtkjhacfmidmebaaGreat
open Go.RowKit

def DRepN (w : World) (C : Nat) (S : List Seat) (H : Int) (L : List V) : Prop :=
  ∃ (As : Option Addr) (ns cs : Nat) (Al : Option Addr) (nl cl : Nat), Blk w C 30 #[.slice As ns cs, .int .i64 H, .slice Al nl cl] ∧ Own encS 2 53 w 0 As ns cs S ∧ Own encV 6 34 w 0 Al nl cl L
theorem DRepN.rep {w : World} {C : Nat} {S : List Seat} {H : Int} {L : List V} (h : DRepN w C S H L) : DRep w C S H L := by
  obtain ⟨As, ns, cs, Al, nl, cl, h1, h2, h3⟩ := h
  exact ⟨As, ns, cs, Al, nl, cl, h1, h2.rd lenS, h3⟩
theorem DRepN.below {w w' : World} {C : Nat} {S : List Seat} {H : Int} {L : List V} (h : DRepN w C S H L) (hb : Below w.heap.size w w') : DRepN w' C S H L := by
  obtain ⟨As, ns, cs, Al, nl, cl, h1, h2, h3⟩ := h
  exact ⟨As, ns, cs, Al, nl, cl, h1.below hb h1.lt, h2.below hb, h3.below hb⟩
theorem DRepN.maps {w w' : World} {C : Nat} {S : List Seat} {H : Int} {L : List V} (h : DRepN w C S H L) (hm : MapsOnly w w') : DRepN w' C S H L := by
  obtain ⟨As, ns, cs, Al, nl, cl, h1, h2, h3⟩ := h
  exact ⟨As, ns, cs, Al, nl, cl, hm.blk h1, hm.own h2, hm.own h3⟩
/-- What the reference's Add answers, and what is there then. -/
def AddDIs (w : World) (C : Nat) (S : List Seat) (H : Int) (L : List V) (v : V) (e : Ending) (w' : World) : Prop :=
  e = .returned (.tuple #[guiltOf v (addO S H L v).1, .int .i64 (addO S H L v).2.1]) ∧ DRepN w' C S H (addO S H L v).2.2 ∧ w.grownBy w' (some C)
theorem addD_same {w : World} {C : Nat} {S : List Seat} {H : Int} {L : List V} {v : V} {o : Option V} {n : Int} {e : Ending} {w' : World} (h : DRepN w C S H L) (ha : addO S H L v = (o, n, L)) (he : e = .returned (.tuple #[guiltOf v o, .int .i64 n])) (hb : Below w.heap.size w w') : AddDIs w C S H L v e w' := by
  unfold AddDIs
  rw [ha]
  exact ⟨he, h.below hb, (below_grown (B := 0) hb).but _⟩
theorem take_of {v : V} {L : List V} {k : Nat} (h : ∀ x ∈ L.take k, aheadV x v = true) (hlt : k < L.length) (ha : aheadV L[k] v = false) : tk v L = L.take k ∧ dr v L = L.drop k := by
  have e : L = L.take k ++ L[k] :: L.drop (k + 1) := by rw [← List.drop_eq_getElem_cons hlt, List.take_append_drop]
  constructor
  · unfold tk
    conv => lhs; rw [e]
    rw [List.takeWhile_append_of_pos h, List.takeWhile_cons_of_neg (by simp [ha]), List.append_nil]
  · unfold dr
    conv => lhs; rw [e]
    rw [List.dropWhile_append_of_pos h, List.dropWhile_cons_of_neg (by simp [ha]), ← List.drop_eq_getElem_cons hlt]
theorem take_all {v : V} {L : List V} (h : ∀ x ∈ L, aheadV x v = true) : tk v L = L ∧ dr v L = [] := by
  constructor
  · unfold tk; have := List.takeWhile_append_of_pos (p := fun u => aheadV u v) (l₁ := L) (l₂ := []) h; simpa using this
  · unfold dr; have := List.dropWhile_append_of_pos (p := fun u => aheadV u v) (l₁ := L) (l₂ := []) h; simpa using this
theorem addD_of {w : World} {C : Nat} {S : List Seat} {H : Int} {L L' : List V} {v : V} {o : Option V} {n : Int} {e : Ending} {w' : World} (ha : addO S H L v = (o, n, L')) (he : e = .returned (.tuple #[guiltOf v o, .int .i64 n])) (h1 : DRepN w' C S H L') (h2 : w.grownBy w' (some C)) : AddDIs w C S H L v e w' := by
  unfold AddDIs
  rw [ha]
  exact ⟨he, h1, h2⟩
theorem grown_new {w w' : World} {row : Option Nat} (h : w.grownBy w' row) {g : Nat} (hg : w.heap.size ≤ g) (i : Nat) (u : Value) : w.grownBy (w'.setCell ⟨g, i, none⟩ u) row := by
  have k := grown_setCell w' g i u
  exact ⟨k.os.trans h.os, k.tape.trans h.tape, k.output.trans h.output, Nat.le_trans h.size k.size, fun b hb hne => (k.block b (Nat.lt_of_lt_of_le hb h.size) (fun e => by injection e with e; omega)).trans (h.block b hb hne)⟩
theorem grown_row {w w' : World} {C : Nat} (h : w.grownBy w' (some C)) (i : Nat) (u : Value) : w.grownBy (w'.setCell ⟨C, i, none⟩ u) (some C) := by
  have k := grown_setCell w' C i u
  exact ⟨k.os.trans h.os, k.tape.trans h.tape, k.output.trans h.output, Nat.le_trans h.size k.size, fun b hb hne => (k.block b (Nat.lt_of_lt_of_le hb h.size) hne).trans (h.block b hb hne)⟩
theorem twelfth_grown {w w' : World} {row : Option Nat} {g : Nat} (h : w.grownBy w' row) (hg : w.heap.size ≤ g) (b0 b1 b2 b3 b4 b5 b6 b7 b8 b9 b10 b11 : Value) : w.grownBy (twelfth w' g b0 b1 b2 b3 b4 b5 b6 b7 b8 b9 b10 b11) row :=
  (grown_new (grown_new (grown_new (grown_new (grown_new (grown_new (grown_new (grown_new (grown_new (grown_new (grown_new (grown_new h hg 0 b0) hg 1 b1) hg 2 b2) hg 3 b3) hg 4 b4) hg 5 b5) hg 6 b6) hg 7 b7) hg 8 b8) hg 9 b9) hg 10 b10) hg 11 b11)
theorem own_set {α : Type} {enc : α → List Value} {k : Nat} {e t : TypeId} {w : World} {base n c g : Nat} {A : Option Addr} {l : List α} {cs : Array Value} (h : Own enc k e w base A n c l) (hx : Blk w g t cs) (ht : e ≠ t) (i : Nat) (u : Value) : Own enc k e (w.setCell ⟨g, i, none⟩ u) base A n c l :=
  ⟨h.1, h.2.kept (grown_setCell w g i _) (.inr (own_ne h.2 hx ht))⟩
theorem twelfth_own {α : Type} {enc : α → List Value} {k : Nat} {e : TypeId} {w : World} {base n c g : Nat} {A : Option Addr} {l : List α} {cs : Array Value} (h : Own enc k e w base A n c l) (hx : Blk w g 36 cs) (ht : e ≠ 36) (b0 b1 b2 b3 b4 b5 b6 b7 b8 b9 b10 b11 : Value) : Own enc k e (twelfth w g b0 b1 b2 b3 b4 b5 b6 b7 b8 b9 b10 b11) base A n c l := by
  have k : ∀ {w : World} {cs : Array Value} (_ : Own enc k e w base A n c l) (_ : Blk w g 36 cs) (i : Nat) (u : Value), Own enc k e (w.setCell ⟨g, i, none⟩ u) base A n c l ∧ ∃ cs', Blk (w.setCell ⟨g, i, none⟩ u) g 36 cs' := fun h hx i u => ⟨own_set h hx ht i u, _, hx.set_ i u⟩
  obtain ⟨h0, _, hx0⟩ := k h hx 0 b0
  obtain ⟨h1, _, hx1⟩ := k h0 hx0 1 b1
  obtain ⟨h2, _, hx2⟩ := k h1 hx1 2 b2
  obtain ⟨h3, _, hx3⟩ := k h2 hx2 3 b3
  obtain ⟨h4, _, hx4⟩ := k h3 hx3 4 b4
  obtain ⟨h5, _, hx5⟩ := k h4 hx4 5 b5
  obtain ⟨h6, _, hx6⟩ := k h5 hx5 6 b6
  obtain ⟨h7, _, hx7⟩ := k h6 hx6 7 b7
  obtain ⟨h8, _, hx8⟩ := k h7 hx7 8 b8
  obtain ⟨h9, _, hx9⟩ := k h8 hx8 9 b9
  obtain ⟨h10, _, hx10⟩ := k h9 hx9 10 b10
  obtain ⟨h11, _, hx11⟩ := k h10 hx10 11 b11
  exact h11
theorem twelfth_other {w : World} {g g' : Nat} {t : TypeId} {cs : Array Value} (h : Blk w g' t cs) (hne : g' ≠ g) (b0 b1 b2 b3 b4 b5 b6 b7 b8 b9 b10 b11 : Value) : Blk (twelfth w g b0 b1 b2 b3 b4 b5 b6 b7 b8 b9 b10 b11) g' t cs :=
  (blk_other (blk_other (blk_other (blk_other (blk_other (blk_other (blk_other (blk_other (blk_other (blk_other (blk_other (blk_other h 0 b0 hne) 1 b1 hne) 2 b2 hne) 3 b3 hne) 4 b4 hne) 5 b5 hne) 6 b6 hne) 7 b7 hne) 8 b8 hne) 9 b9 hne) 10 b10 hne) 11 b11 hne)
theorem new_blk {α : Type} {enc : α → List Value} {k : Nat} {e t : TypeId} {w w' : World} {base n c g : Nat} {A : Option Addr} {l : List α} {cs : Array Value} (hx : Blk w g t cs) (h : Own enc k e w base A n c l) (hg : w.grownBy w' (Value.slice A n c).ownBlock) (ht : g < base) : Hid (Blk w' g t cs) :=
  (hg.block g hx.lt (fun e => by have := (h.2.lt g e.symm).1; omega)).trans hx
theorem Below.app2 {α : Type} {enc : α → List Value} {k : Nat} {e : TypeId} {w0 w w' : World} {base base' n c : Nat} {A : Option Addr} {l : List α} (h : Below base w0 w) (hown : Own enc k e w base' A n c l) (hg : w.grownBy w' (Value.slice A n c).ownBlock) (hB : base ≤ w.heap.size) (hbb : base ≤ base') : Below base w0 w' :=
  h.grown hg hB (fun i hi => Nat.le_trans hbb (hown.2.lt i hi).1)
theorem nos_of {v u : V} {L t : List V} (hs : Srt L) (h : dr v L = u :: t) (hn : sameP u v = false) : ∀ x ∈ L, sameP x v = false := fun x hx => by
  rcases hb : sameP x v with _ | _
  · rfl
  · rw [(same_head hs h hx hb).2] at hn; cases hn

set_option maxRecDepth 100000 in
set_option maxHeartbeats 12800000 in
theorem addD_ (C : Nat) (S : List Seat) (H : Int) (L : List V) (v : V) (w : World) (h : DRepN w C S H L) (hS : Bench S) (hG : Good S H L) (hL : L.length ≤ 4096) :
    Calls Tryz.prog 7 #[.pointer (some ⟨C, 0, none⟩), vagg v] w (AddDIs w C S H L v) := by
  have HG := Lib.hid hG; have HDR := Lib.hid h
  obtain ⟨As, ns, cs, Al, nl, cl, hblk, hseats, hvotes⟩ := h
  have HBk := Lib.hid hblk; have HSe := Lib.hid (hseats.rd lenS); have HVo := Lib.hid hvotes; have HSo := Lib.hid hseats
  have hCl := hblk.lt
  have hns : ns ≤ 65536 := by have := hseats.1; have := hS.1; omega
  have hnl := hvotes.1
  subst hnl
  obtain ⟨i0, hi, hz0, hz1, hz2⟩ := info_parts Tryz.info34
  obtain ⟨wa, hwa⟩ : ∃ wa, (w.alloc (.cells #[.int .i64 v.h, .int .i64 v.r, .int .i64 v.s, .bool v.has, .int .u64 v.blk, .int .i64 v.fr] 34)).alloc (.cells #[.int .i64 0, .int .i64 0, .int .i64 0, .bool false, .int .u64 0, .int .i64 0, .int .i64 0, .int .i64 0, .int .i64 0, .bool false, .int .u64 0, .int .i64 0] 36) = wa := ⟨_, rfl⟩
  have q0 := (Blk.new w 34 #[.int .i64 v.h, .int .i64 v.r, .int .i64 v.s, .bool v.has, .int .u64 v.blk, .int .i64 v.fr]).alloc (.cells #[.int .i64 0, .int .i64 0, .int .i64 0, .bool false, .int .u64 0, .int .i64 0, .int .i64 0, .int .i64 0, .int .i64 0, .bool false, .int .u64 0, .int .i64 0] 36)
  have q1 := Blk.new (w.alloc (.cells #[.int .i64 v.h, .int .i64 v.r, .int .i64 v.s, .bool v.has, .int .u64 v.blk, .int .i64 v.fr] 34)) 36 #[.int .i64 0, .int .i64 0, .int .i64 0, .bool false, .int .u64 0, .int .i64 0, .int .i64 0, .int .i64 0, .int .i64 0, .bool false, .int .u64 0, .int .i64 0]
  have qb : Below w.heap.size w ((w.alloc (.cells #[.int .i64 v.h, .int .i64 v.r, .int .i64 v.s, .bool v.has, .int .u64 v.blk, .int .i64 v.fr] 34)).alloc (.cells #[.int .i64 0, .int .i64 0, .int .i64 0, .bool false, .int .u64 0, .int .i64 0, .int .i64 0, .int .i64 0, .int .i64 0, .bool false, .int .u64 0, .int .i64 0] 36)) := ((Below.refl _ _).alloc (Nat.le_refl _) _).alloc (by simp) _
  rw [World.size_alloc] at q1
  rw [hwa] at q0 q1 qb
  have hp := putVoteR_any v wa
  have HP := Lib.hid hp
  have Q0 := Lib.hid q0; have Q1 := Lib.hid q1; have QB := Lib.hid qb
  have p0 := q0.cell 0; have p1 := q0.cell 1; have p2 := q0.cell 2; have p3 := q0.cell 3; have p4 := q0.cell 4; have p5 := q0.cell 5
  simp at p0 p1 p2 p3 p4 p5
  clear hp q0 q1 qb hG hblk hseats hvotes
  unfold vagg
  by_cases he : errV v = 0
  · have he' : (errV v != 0) = false := by simp [he]
    have HE := Lib.hid he; clear he
    go_enter Tryz.func7, Tryz.ntmps7
    go_wp2_with (first
      | (go_at_call 26; refine HP.out.mono ?_; rintro e w1 ⟨⟨sx, rfl⟩, hb1⟩; have B1 := Lib.hid hb1; clear hb1))
    have V1 := Lib.hid (Q0.out.below B1.out Q0.out.lt); have X1 := Lib.hid (Q1.out.below B1.out Q1.out.lt); have C1 := Lib.hid (QB.out.trans (B1.out.mono QB.out.size))
    clear hwa p0 p1 p2 p3 p4 p5 B1
    refine wp_region_still_tail 6 (by kernel_rfl) (by kernel_rfl) ?_
    simp only [List.take_succ_cons, List.take_zero, List.drop_succ_cons, List.drop_zero]
    rw [drew_def]
    obtain ⟨w2, hw2⟩ : ∃ w2, w1.drew = w2 := ⟨_, rfl⟩
    rw [hw2]
    have V2 : Hid (Blk w2 w.heap.size 34 #[.int .i64 v.h, .int .i64 v.r, .int .i64 v.s, .bool v.has, .int .u64 v.blk, .int .i64 v.fr]) := by show Blk _ _ _ _; rw [← hw2]; exact V1.out
    have X2 : Hid (Blk w2 (w.heap.size + 1) 36 #[.int .i64 0, .int .i64 0, .int .i64 0, .bool false, .int .u64 0, .int .i64 0, .int .i64 0, .int .i64 0, .int .i64 0, .bool false, .int .u64 0, .int .i64 0]) := by show Blk _ _ _ _; rw [← hw2]; exact X1.out
    have C2 : Hid (Below w.heap.size w w2) := by show Below _ _ _; rw [← hw2]; exact C1.out.drew
    clear hw2 V1 X1 C1
    have v0 := V2.out.cell 0; have c1 := (HBk.out.below C2.out hCl).cell 1
    simp at v0 c1
    repeat still_step
    refine wpStill_nil ?_
    by_cases hh : v.h = H
    · have hh' : (v.h != H) = false := by simp [hh]
      have HHh := Lib.hid hh; clear hh v0 c1
      go_wp2_with fail
      refine wp_region_still_tail 6 (by kernel_rfl) (by kernel_rfl) ?_
      simp only [List.take_succ_cons, List.take_zero, List.drop_succ_cons, List.drop_zero]
      rw [drew_def]
      obtain ⟨w3, hw3⟩ : ∃ w3, w2.drew = w3 := ⟨_, rfl⟩
      rw [hw3]
      have V3 : Hid (Blk w3 w.heap.size 34 #[.int .i64 v.h, .int .i64 v.r, .int .i64 v.s, .bool v.has, .int .u64 v.blk, .int .i64 v.fr]) := by show Blk _ _ _ _; rw [← hw3]; exact V2.out
      have X3 : Hid (Blk w3 (w.heap.size + 1) 36 #[.int .i64 0, .int .i64 0, .int .i64 0, .bool false, .int .u64 0, .int .i64 0, .int .i64 0, .int .i64 0, .int .i64 0, .bool false, .int .u64 0, .int .i64 0]) := by show Blk _ _ _ _; rw [← hw3]; exact X2.out
      have C3 : Hid (Below w.heap.size w w3) := by show Below _ _ _; rw [← hw3]; exact C2.out.drew
      clear hw3 V2 X2 C2
      have v5 := V3.out.cell 5; have c0 := (HBk.out.below C3.out hCl).cell 0
      simp at v5 c0
      repeat still_step
      refine wpStill_nil ?_
      have hHs := hasR_any As ns cs S v.fr w3 _ (HSe.out.below C3.out) hns
      rcases hb : hasS S v.fr with _ | _
      · rw [hb] at hHs
        have HHs := Lib.hid hHs; clear hHs
        have HAd : Hid (addO S H L v = (none, 17, L)) := by show _ = _; unfold addO; rw [if_pos HE.out, if_pos HHh.out, hb]; rfl
        have KX := X3; have KB := C3
        clear hb
        have y0 := KX.out.cell 0; have y1 := KX.out.cell 1; have y2 := KX.out.cell 2; have y3 := KX.out.cell 3; have y4 := KX.out.cell 4; have y5 := KX.out.cell 5
        have y6 := KX.out.cell 6; have y7 := KX.out.cell 7; have y8 := KX.out.cell 8; have y9 := KX.out.cell 9; have y10 := KX.out.cell 10; have y11 := KX.out.cell 11
        simp at y0 y1 y2 y3 y4 y5 y6 y7 y8 y9 y10 y11
        have yf := KX.out.frozen
        go_wp2_with (go_at_call 27; refine HHs.out.mono ?_; rintro e w4 ⟨rfl, rfl⟩)
        have z1 := twelfth_blk KX.out (.int .i64 0) (.int .i64 0) (.int .i64 0) (.bool false) (.int .u64 0) (.int .i64 0) (.int .i64 0) (.int .i64 0) (.int .i64 0) (.bool false) (.int .u64 0) (.int .i64 0)
        have z2 := True.intro -- (.int .i64 0) (.int .i64 0) (.int .i64 0) (.bool false) (.int .u64 0) (.int .i64 0) (.int .i64 0) (.int .i64 0) (.int .i64 0) (.bool false) (.int .u64 0) (.int .i64 0)
        have z3 := True.intro -- (.int .i64 0) (.int .i64 0) (.int .i64 0) (.bool false) (.int .u64 0) (.int .i64 0) (.int .i64 0) (.int .i64 0) (.int .i64 0) (.bool false) (.int .u64 0) (.int .i64 0)
        have z4 := twelfth_below (g := w.heap.size + 1) KB.out (by omega) (.int .i64 0) (.int .i64 0) (.int .i64 0) (.bool false) (.int .u64 0) (.int .i64 0) (.int .i64 0) (.int .i64 0) (.int .i64 0) (.bool false) (.int .u64 0) (.int .i64 0)
        clear z2 z3
        unfold twelfth at z1 z4
        generalize hwf : World.setCell _ ⟨_, 11, none⟩ _ = wf at *
        clear hwf
        have f0 := z1.cell 0; have f1 := z1.cell 1; have f2 := z1.cell 2; have f3 := z1.cell 3; have f4 := z1.cell 4; have f5 := z1.cell 5
        have f6 := z1.cell 6; have f7 := z1.cell 7; have f8 := z1.cell 8; have f9 := z1.cell 9; have f10 := z1.cell 10; have f11 := z1.cell 11
        simp at f0 f1 f2 f3 f4 f5 f6 f7 f8 f9 f10 f11
        refine bodyPost_ret (v := .tuple #[.agg #[.int .i64 0, .int .i64 0, .int .i64 0, .bool false, .int .u64 0, .int .i64 0, .int .i64 0, .int .i64 0, .int .i64 0, .bool false, .int .u64 0, .int .i64 0], .int .i64 (17)]) (by simp [results, Tryz.results7, go_sem, f0, f1, f2, f3, f4, f5, f6, f7, f8, f9, f10, f11]; try rfl) rfl ?_
        exact addD_same HDR.out HAd.out (by rw [gzero]) z4
      · rw [hb] at hHs
        have HHs := Lib.hid hHs; have HHb := Lib.hid hb; clear hHs hb
        go_wp2_with (go_at_call 27; refine HHs.out.mono ?_; rintro e w4 ⟨rfl, rfl⟩)
        clear v5 c0
        clear HHs
        rcases HVo.out.cases_ with ⟨rfl, h0, rfl, hLn⟩ | ⟨g, rfl, _, hgl, hc, hcm⟩
        · subst hLn
          have k2 := (HBk.out.below C3.out hCl).cell 2
          simp at k2
          refine wp_loop_rounds 1 ?_
          rw [rounds_succ]
          go_wp2_with fail
          have HTD : Hid (tk v ([] : List V) = [] ∧ dr v ([] : List V) = []) := ⟨rfl, rfl⟩
          go_quiet (fail)
          obtain ⟨wI, hwI⟩ : ∃ wI, w3.drewN nq = wI := ⟨_, rfl⟩
          rw [hwI]
          have VI : Hid (Blk wI w.heap.size 34 #[.int .i64 v.h, .int .i64 v.r, .int .i64 v.s, .bool v.has, .int .u64 v.blk, .int .i64 v.fr]) := by show Blk _ _ _ _; rw [← hwI]; exact V3.out
          have XI : Hid (Blk wI (w.heap.size + 1) 36 #[.int .i64 0, .int .i64 0, .int .i64 0, .bool false, .int .u64 0, .int .i64 0, .int .i64 0, .int .i64 0, .int .i64 0, .bool false, .int .u64 0, .int .i64 0]) := by show Blk _ _ _ _; rw [← hwI]; exact X3.out
          have CI : Hid (Below w.heap.size w wI) := by show Below _ _ _; rw [← hwI]; exact below_drewN C3.out nq
          clear hwI V3 X3 C3
          clear k2
          have HNs : Hid (∀ x ∈ ([] : List V), sameP x v = false) := fun x hx => by cases hx
          have HAd : Hid (addO S H [] v = (none, 0, tk v [] ++ v :: dr v [])) := addO_none HE.out HHh.out HHb.out HNs.out
          have k2 := (HBk.out.below CI.out hCl).cell 2
          simp at k2
          have hCw : C < wI.heap.size := by have := CI.out.size; omega
          have hI2 : w.heap.size + 2 ≤ wI.heap.size := by have := XI.out.lt; omega
          have HTk3 := Lib.hid (Rd.nil (α := V) (enc := encV) (k := 6) wI w.heap.size none)
          go_wp2_with (at_builtin; first
            | (refine wpList_app rfl (.tmp 124) (.tmp 130) 23 rfl 34 i0 _ 48 Tryz.underlying23 hi hz0 hz1 hz2 rfl (by decide) lenV oneV (w.heap.size + 2) _ 0 0 [] rfl (Own.made (α := V) (enc := encV) (k := 6) (e := 34) wI (w.heap.size + 2) hI2) w.heap.size 0 0 _ _ rfl (HTk3.out.alloc CI.out.size _) (by simp only [maxLen]; omega) (by omega) (by simp; omega) ?_; skip; intro A1 c1 w1 hown1 hg1 hat1
               have B1 := Lib.hid (Below.app2 (CI.out.alloc CI.out.size _) (Own.made (α := V) (enc := encV) (k := 6) (e := 34) wI (w.heap.size + 2) hI2) hg1 (by have := CI.out.size; simp; omega) (by omega))
               have V1 : Hid (Blk w1 w.heap.size 34 #[.int .i64 v.h, .int .i64 v.r, .int .i64 v.s, .bool v.has, .int .u64 v.blk, .int .i64 v.fr]) := new_blk (VI.out.alloc _) (Own.made (α := V) (enc := encV) (k := 6) (e := 34) wI (w.heap.size + 2) hI2) hg1 (by omega)
               have X1 : Hid (Blk w1 (w.heap.size + 1) 36 #[.int .i64 0, .int .i64 0, .int .i64 0, .bool false, .int .u64 0, .int .i64 0, .int .i64 0, .int .i64 0, .int .i64 0, .bool false, .int .u64 0, .int .i64 0]) := new_blk (XI.out.alloc _) (Own.made (α := V) (enc := encV) (k := 6) (e := 34) wI (w.heap.size + 2) hI2) hg1 (by omega)
               rw [Nat.zero_add, List.nil_append] at hown1
               have hJ1 := X1.out.lt
               have O1 := Lib.hid hown1
               have v0 := V1.out.cell 0; have v1 := V1.out.cell 1; have v2 := V1.out.cell 2; have v3 := V1.out.cell 3; have v4 := V1.out.cell 4; have v5 := V1.out.cell 5
               simp at v0 v1 v2 v3 v4 v5
               clear hg1 hat1 hown1)
            | (refine wpList_app rfl (.tmp 132) (.tmp 134) 23 rfl 34 i0 _ 48 Tryz.underlying23 hi hz0 hz1 hz2 rfl (by decide) lenV oneV (w.heap.size + 2) _ 0 c1 _ rfl (O1.out.alloc _) (w1.heap.size + 1) 1 1 _ [v] rfl (rd_new w1 34 v _ rfl) (by simp only [maxLen]; omega) (by omega) (by simp; omega) ?_; skip; intro A2 c2 w2 hown2 hg2 hat2
               have B2 := Lib.hid (Below.app2 (B1.out.alloc B1.out.size _) (O1.out.alloc _) hg2 (by have := B1.out.size; simp; omega) (by omega))
               have X2 : Hid (Blk w2 (w.heap.size + 1) 36 #[.int .i64 0, .int .i64 0, .int .i64 0, .bool false, .int .u64 0, .int .i64 0, .int .i64 0, .int .i64 0, .int .i64 0, .bool false, .int .u64 0, .int .i64 0]) := new_blk (X1.out.alloc _) (O1.out.alloc _) hg2 (by omega)
               have O2 := Lib.hid hown2
               have hJ2 := X2.out.lt
               have k2 := (HBk.out.below B2.out hCl).cell 2
               simp at k2
               clear hg2 hat2 hown2 v0 v1 v2 v3 v4 v5)
            | (refine wpList_app rfl (.tmp 137) (.tmp 143) 23 rfl 34 i0 _ 48 Tryz.underlying23 hi hz0 hz1 hz2 rfl (by decide) lenV oneV (w.heap.size + 2) _ (0 + 1) c2 _ rfl O2.out w.heap.size 0 _ none [] rfl (Rd.nil _ _ _) (by simp only [maxLen]; omega) (by omega) (by omega) ?_; skip; intro A4 c4 w4 hown4 hg4 hat4
               have B4 := Lib.hid (Below.app2 B2.out O2.out hg4 B2.out.size (by omega))
               have X4 : Hid (Blk w4 (w.heap.size + 1) 36 #[.int .i64 0, .int .i64 0, .int .i64 0, .bool false, .int .u64 0, .int .i64 0, .int .i64 0, .int .i64 0, .int .i64 0, .bool false, .int .u64 0, .int .i64 0]) := new_blk X2.out O2.out hg4 (by omega)
               have O4 := Lib.hid hown4
               have k2 := (HBk.out.below B4.out hCl).cell 2
               simp at k2
               have kf := (HBk.out.below B4.out hCl).frozen
               have XS := Lib.hid (blk_other X4.out 2 (.slice A4 (0 + 1 + 0) c4) (g' := C) (by omega))
               have x0 := XS.out.cell 0; have x1 := XS.out.cell 1; have x2 := XS.out.cell 2; have x3 := XS.out.cell 3; have x4 := XS.out.cell 4; have x5 := XS.out.cell 5
               have x6 := XS.out.cell 6; have x7 := XS.out.cell 7; have x8 := XS.out.cell 8; have x9 := XS.out.cell 9; have x10 := XS.out.cell 10; have x11 := XS.out.cell 11
               simp at x0 x1 x2 x3 x4 x5 x6 x7 x8 x9 x10 x11
               have xf := XS.out.frozen
               clear hg4 hat4 hown4))
          all_goals
            have z1 := twelfth_blk XS.out (.int .i64 0) (.int .i64 0) (.int .i64 0) (.bool false) (.int .u64 0) (.int .i64 0) (.int .i64 0) (.int .i64 0) (.int .i64 0) (.bool false) (.int .u64 0) (.int .i64 0)
            have zc := twelfth_other (g := w.heap.size + 1) (Blk.set_ (HBk.out.below B4.out hCl) 2 (.slice A4 (0 + 1 + 0) c4)) (by omega) (.int .i64 0) (.int .i64 0) (.int .i64 0) (.bool false) (.int .u64 0) (.int .i64 0) (.int .i64 0) (.int .i64 0) (.int .i64 0) (.bool false) (.int .u64 0) (.int .i64 0)
            have zs := twelfth_own (own_set (HSo.out.below B4.out) (HBk.out.below B4.out hCl) (by decide) 2 (.slice A4 (0 + 1 + 0) c4)) XS.out (by decide) (.int .i64 0) (.int .i64 0) (.int .i64 0) (.bool false) (.int .u64 0) (.int .i64 0) (.int .i64 0) (.int .i64 0) (.int .i64 0) (.bool false) (.int .u64 0) (.int .i64 0)
            have zv := twelfth_own (own_set (O4.out.mono (Nat.zero_le _)) (HBk.out.below B4.out hCl) (by decide) 2 (.slice A4 (0 + 1 + 0) c4)) XS.out (by decide) (.int .i64 0) (.int .i64 0) (.int .i64 0) (.bool false) (.int .u64 0) (.int .i64 0) (.int .i64 0) (.int .i64 0) (.int .i64 0) (.bool false) (.int .u64 0) (.int .i64 0)
            have zg := twelfth_grown (g := w.heap.size + 1) (grown_row ((below_grown (B := 0) B4.out).but (some C)) 2 (.slice A4 (0 + 1 + 0) c4)) (by omega) (.int .i64 0) (.int .i64 0) (.int .i64 0) (.bool false) (.int .u64 0) (.int .i64 0) (.int .i64 0) (.int .i64 0) (.int .i64 0) (.bool false) (.int .u64 0) (.int .i64 0)
            have zl : ([] : List V) ++ [v] ++ [] = tk v [] ++ v :: dr v [] := by rw [HTD.out.1, HTD.out.2]; simp
            rw [zl] at zv
            unfold twelfth at z1 zc zs zv zg
            generalize hwf : World.setCell _ ⟨_, 11, none⟩ _ = wf at *
            clear hwf
            have f0 := z1.cell 0; have f1 := z1.cell 1; have f2 := z1.cell 2; have f3 := z1.cell 3; have f4 := z1.cell 4; have f5 := z1.cell 5
            have f6 := z1.cell 6; have f7 := z1.cell 7; have f8 := z1.cell 8; have f9 := z1.cell 9; have f10 := z1.cell 10; have f11 := z1.cell 11
            simp at f0 f1 f2 f3 f4 f5 f6 f7 f8 f9 f10 f11
            refine bodyPost_ret (v := .tuple #[.agg #[.int .i64 0, .int .i64 0, .int .i64 0, .bool false, .int .u64 0, .int .i64 0, .int .i64 0, .int .i64 0, .int .i64 0, .bool false, .int .u64 0, .int .i64 0], .int .i64 0]) (by simp [results, Tryz.results7, go_sem, f0, f1, f2, f3, f4, f5, f6, f7, f8, f9, f10, f11]; try rfl) rfl ?_
            exact addD_of HAd.out (by rw [gzero]) ⟨As, ns, cs, A4, (0 + 1 + 0), c4, zc, zs, zv⟩ zg
        · go_loopw [9, 10] (fun i _ wr => (∃ k : Nat, i = .int .i64 k ∧ k ≤ L.length ∧ Hid (∀ x ∈ L.take k, aheadV x v = true)) ∧ Hid (Blk wr w.heap.size 34 #[.int .i64 v.h, .int .i64 v.r, .int .i64 v.s, .bool v.has, .int .u64 v.blk, .int .i64 v.fr]) ∧ Hid (Blk wr (w.heap.size + 1) 36 #[.int .i64 0, .int .i64 0, .int .i64 0, .bool false, .int .u64 0, .int .i64 0, .int .i64 0, .int .i64 0, .int .i64 0, .bool false, .int .u64 0, .int .i64 0]) ∧ Hid (Below w.heap.size w wr)) (fun i _ _ => L.length - (intOf i).toNat)
          case atStart => exact ⟨⟨0, rfl, by omega, Lib.hid (by simp)⟩, V3, X3, C3⟩
          case round =>
            clear V3 X3 C3
            obtain ⟨⟨k, rfl, hk, HTk⟩, VR, XR, CR⟩ := hrel
            have k2 := (HBk.out.below CR.out hCl).cell 2
            simp at k2
            by_cases hlt : k < L.length
            · have h1 : (k : Int) < (L.length : Int) := by omega
              go_wp2_with fail
              clear k2
              refine wp_region_still_tail 8 (by kernel_rfl) (by kernel_rfl) ?_
              simp only [List.take_succ_cons, List.take_zero, List.drop_succ_cons, List.drop_zero]
              rw [drew_def]
              obtain ⟨wB, hwwB⟩ : ∃ wB, wr.drew = wB := ⟨_, rfl⟩
              rw [hwwB]
              have VB : Hid (Blk wB w.heap.size 34 #[.int .i64 v.h, .int .i64 v.r, .int .i64 v.s, .bool v.has, .int .u64 v.blk, .int .i64 v.fr]) := by show Blk _ _ _ _; rw [← hwwB]; exact VR.out
              have XB : Hid (Blk wB (w.heap.size + 1) 36 #[.int .i64 0, .int .i64 0, .int .i64 0, .bool false, .int .u64 0, .int .i64 0, .int .i64 0, .int .i64 0, .int .i64 0, .bool false, .int .u64 0, .int .i64 0]) := by show Blk _ _ _ _; rw [← hwwB]; exact XR.out
              have CB : Hid (Below w.heap.size w wB) := by show Below _ _ _; rw [← hwwB]; exact CR.out.drew
              clear hwwB VR XR CR
              have k2 := (HBk.out.below CB.out hCl).cell 2
              obtain ⟨b, off, hbo, hb, c0, c1, c2, c3, c4, c5⟩ := rd_vote ((HVo.out.rd lenV).below CB.out) hlt
              injection hbo with hbo; injection hbo with hb1 hb2; subst hb1 hb2
              simp only [Nat.zero_add] at c0 c1 c2 c3 c4 c5
              have hbw : g < wB.heap.size := by have := CB.out.size; omega
              simp at k2
              have v0 := VB.out.cell 0; have v1 := VB.out.cell 1; have v2 := VB.out.cell 2; have v3 := VB.out.cell 3; have v4 := VB.out.cell 4; have v5 := VB.out.cell 5
              simp at v0 v1 v2 v3 v4 v5
              repeat still_step
              refine wpStill_nil ?_
              have hA := ahead_any L[k] v wB
              rcases ha : aheadV L[k] v with _ | _
              · rw [ha] at hA
                have HA := Lib.hid hA; clear hA
                have HTD : Hid (tk v L = L.take k ∧ dr v L = L.drop k) := take_of HTk.out hlt ha
                have HAk := Lib.hid ha; clear ha
                clear k2 v0 v1 v2 v3 v4 v5 c0 c1 c2 c3 c4 c5
                go_wp2_with (go_at_call 28; refine HA.out.mono ?_; rintro e w5 ⟨rfl, hb5⟩
                             have V5 := Lib.hid (VB.out.below hb5 VB.out.lt); have X5 := Lib.hid (XB.out.below hb5 XB.out.lt); have C5 := Lib.hid (CB.out.trans (hb5.mono CB.out.size)); clear hb5
                             have k2 := (HBk.out.below C5.out hCl).cell 2
                             simp at k2)
                have hC5l : C < w5.heap.size := by have := C5.out.size; omega
                obtain ⟨b, off, hbo, hb, c0, c1, c2, c3, c4, c5⟩ := rd_vote ((HVo.out.rd lenV).below C5.out) hlt
                injection hbo with hbo; injection hbo with hb1 hb2; subst hb1 hb2
                simp only [Nat.zero_add] at c0 c1 c2 c3 c4 c5
                have hbw5 : g < w5.heap.size := by have := C5.out.size; omega
                obtain ⟨u, hu⟩ : ∃ u, u = L[k] := ⟨_, rfl⟩
                rw [← hu] at c0 c1 c2 c3 c4 c5
                have HU := Lib.hid hu
                have v0 := V5.out.cell 0; have v1 := V5.out.cell 1; have v2 := V5.out.cell 2; have v3 := V5.out.cell 3; have v4 := V5.out.cell 4; have v5 := V5.out.cell 5
                simp at v0 v1 v2 v3 v4 v5
                have hl0 : w.heap.size < w5.heap.size := V5.out.lt
                by_cases e1 : u.r = v.r
                · have e1' : (u.r == v.r) = true := by simpa using e1
                  by_cases e2 : u.s = v.s
                  · have e2' : (u.s == v.s) = true := by simpa using e2
                    by_cases e3 : u.fr = v.fr
                    · have e3' : (u.fr == v.fr) = true := by simpa using e3
                      have HSx : Hid (sameP u v = true) := (same_iff _ _).2 ⟨e1, e2, e3⟩
                      have HX : Hid (u ∈ L) := by show u ∈ L; rw [hu]; exact List.getElem_mem hlt
                      clear e1 e2 e3 hu
                      go_quiet (fail)
                      obtain ⟨wI, hwI⟩ : ∃ wI, w5.drewN nq = wI := ⟨_, rfl⟩
                      rw [hwI]
                      have VI : Hid (Blk wI w.heap.size 34 #[.int .i64 v.h, .int .i64 v.r, .int .i64 v.s, .bool v.has, .int .u64 v.blk, .int .i64 v.fr]) := by show Blk _ _ _ _; rw [← hwI]; exact V5.out
                      have XI : Hid (Blk wI (w.heap.size + 1) 36 #[.int .i64 0, .int .i64 0, .int .i64 0, .bool false, .int .u64 0, .int .i64 0, .int .i64 0, .int .i64 0, .int .i64 0, .bool false, .int .u64 0, .int .i64 0]) := by show Blk _ _ _ _; rw [← hwI]; exact X5.out
                      have CI : Hid (Below w.heap.size w wI) := by show Below _ _ _; rw [← hwI]; exact below_drewN C5.out nq
                      clear hwI V5 X5 C5
                      clear k2 c0 c1 c2 c3 c4 c5 v0 v1 v2 v3 v4 v5
                      go_wp2_with fail
                      refine wp_region_still_tail 8 (by kernel_rfl) (by kernel_rfl) ?_
                      simp only [List.take_succ_cons, List.take_zero, List.drop_succ_cons, List.drop_zero]
                      rw [drew_def]
                      obtain ⟨wJ, hwwJ⟩ : ∃ wJ, wI.drew = wJ := ⟨_, rfl⟩
                      rw [hwwJ]
                      have VJ : Hid (Blk wJ w.heap.size 34 #[.int .i64 v.h, .int .i64 v.r, .int .i64 v.s, .bool v.has, .int .u64 v.blk, .int .i64 v.fr]) := by show Blk _ _ _ _; rw [← hwwJ]; exact VI.out
                      have XJ : Hid (Blk wJ (w.heap.size + 1) 36 #[.int .i64 0, .int .i64 0, .int .i64 0, .bool false, .int .u64 0, .int .i64 0, .int .i64 0, .int .i64 0, .int .i64 0, .bool false, .int .u64 0, .int .i64 0]) := by show Blk _ _ _ _; rw [← hwwJ]; exact XI.out
                      have CJ : Hid (Below w.heap.size w wJ) := by show Below _ _ _; rw [← hwwJ]; exact CI.out.drew
                      clear hwwJ VI XI CI
                      have k2 := (HBk.out.below CJ.out hCl).cell 2
                      obtain ⟨b, off, hbo, hb, c0, c1, c2, c3, c4, c5⟩ := rd_vote ((HVo.out.rd lenV).below CJ.out) hlt
                      injection hbo with hbo; injection hbo with hb1 hb2; subst hb1 hb2
                      simp only [Nat.zero_add] at c0 c1 c2 c3 c4 c5
                      rw [← HU.out] at c0 c1 c2 c3 c4 c5
                      have v0 := VJ.out.cell 0; have v1 := VJ.out.cell 1; have v2 := VJ.out.cell 2; have v3 := VJ.out.cell 3; have v4 := VJ.out.cell 4; have v5 := VJ.out.cell 5
                      simp at k2 v0 v1 v2 v3 v4 v5
                      have hE := fun w => eqV_run u v w
                      unfold vagg at hE
                      have hgd := Tryz.guard34
                      repeat still_step
                      refine wpStill_nil ?_
                      by_cases hxv : u = v
                      · have HAd : Hid (addO S H L v = (none, 31, L)) := by show _ = _; rw [addO_some HG.out.srt HE.out HHh.out HHb.out HX.out HSx.out, if_pos hxv]
                        have hd : decide (u = v) = true := decide_eq_true hxv
                        rw [hd] at hE
                        clear hd hxv k2 c0 c1 c2 c3 c4 c5 v0 v1 v2 v3 v4 v5
                        have KX := XJ; have KB := CJ
                        have y0 := KX.out.cell 0; have y1 := KX.out.cell 1; have y2 := KX.out.cell 2; have y3 := KX.out.cell 3; have y4 := KX.out.cell 4; have y5 := KX.out.cell 5
                        have y6 := KX.out.cell 6; have y7 := KX.out.cell 7; have y8 := KX.out.cell 8; have y9 := KX.out.cell 9; have y10 := KX.out.cell 10; have y11 := KX.out.cell 11
                        simp at y0 y1 y2 y3 y4 y5 y6 y7 y8 y9 y10 y11
                        have yf := KX.out.frozen
                        go_wp2
                        have z1 := twelfth_blk KX.out (.int .i64 0) (.int .i64 0) (.int .i64 0) (.bool false) (.int .u64 0) (.int .i64 0) (.int .i64 0) (.int .i64 0) (.int .i64 0) (.bool false) (.int .u64 0) (.int .i64 0)
                        have z2 := True.intro -- (.int .i64 0) (.int .i64 0) (.int .i64 0) (.bool false) (.int .u64 0) (.int .i64 0) (.int .i64 0) (.int .i64 0) (.int .i64 0) (.bool false) (.int .u64 0) (.int .i64 0)
                        have z3 := True.intro -- (.int .i64 0) (.int .i64 0) (.int .i64 0) (.bool false) (.int .u64 0) (.int .i64 0) (.int .i64 0) (.int .i64 0) (.int .i64 0) (.bool false) (.int .u64 0) (.int .i64 0)
                        have z4 := twelfth_below (g := w.heap.size + 1) KB.out (by omega) (.int .i64 0) (.int .i64 0) (.int .i64 0) (.bool false) (.int .u64 0) (.int .i64 0) (.int .i64 0) (.int .i64 0) (.int .i64 0) (.bool false) (.int .u64 0) (.int .i64 0)
                        clear z2 z3
                        unfold twelfth at z1 z4
                        generalize hwf : World.setCell _ ⟨_, 11, none⟩ _ = wf at *
                        clear hwf
                        have f0 := z1.cell 0; have f1 := z1.cell 1; have f2 := z1.cell 2; have f3 := z1.cell 3; have f4 := z1.cell 4; have f5 := z1.cell 5
                        have f6 := z1.cell 6; have f7 := z1.cell 7; have f8 := z1.cell 8; have f9 := z1.cell 9; have f10 := z1.cell 10; have f11 := z1.cell 11
                        simp at f0 f1 f2 f3 f4 f5 f6 f7 f8 f9 f10 f11
                        refine bodyPost_ret (v := .tuple #[.agg #[.int .i64 0, .int .i64 0, .int .i64 0, .bool false, .int .u64 0, .int .i64 0, .int .i64 0, .int .i64 0, .int .i64 0, .bool false, .int .u64 0, .int .i64 0], .int .i64 (31)]) (by simp [results, Tryz.results7, go_sem, f0, f1, f2, f3, f4, f5, f6, f7, f8, f9, f10, f11]; try rfl) rfl ?_
                        exact addD_same HDR.out HAd.out (by rw [gzero]) z4
                      · have HAd : Hid (addO S H L v = (some u, 23, L)) := by show _ = _; rw [addO_some HG.out.srt HE.out HHh.out HHb.out HX.out HSx.out, if_neg hxv]
                        have hd : decide (u = v) = false := decide_eq_false hxv
                        rw [hd] at hE
                        clear hd hxv k2 c0 c1 c2 c3 c4 c5 v0 v1 v2 v3 v4 v5
                        go_wp2_with fail
                        refine wp_region_still_tail 8 (by kernel_rfl) (by kernel_rfl) ?_
                        simp only [List.take_succ_cons, List.take_zero, List.drop_succ_cons, List.drop_zero]
                        rw [drew_def]
                        obtain ⟨wK, hwwK⟩ : ∃ wK, wJ.drew = wK := ⟨_, rfl⟩
                        rw [hwwK]
                        have VK : Hid (Blk wK w.heap.size 34 #[.int .i64 v.h, .int .i64 v.r, .int .i64 v.s, .bool v.has, .int .u64 v.blk, .int .i64 v.fr]) := by show Blk _ _ _ _; rw [← hwwK]; exact VJ.out
                        have XK : Hid (Blk wK (w.heap.size + 1) 36 #[.int .i64 0, .int .i64 0, .int .i64 0, .bool false, .int .u64 0, .int .i64 0, .int .i64 0, .int .i64 0, .int .i64 0, .bool false, .int .u64 0, .int .i64 0]) := by show Blk _ _ _ _; rw [← hwwK]; exact XJ.out
                        have CK : Hid (Below w.heap.size w wK) := by show Below _ _ _; rw [← hwwK]; exact CJ.out.drew
                        clear hwwK VJ XJ CJ
                        have k2 := (HBk.out.below CK.out hCl).cell 2
                        obtain ⟨b, off, hbo, hb, c0, c1, c2, c3, c4, c5⟩ := rd_vote ((HVo.out.rd lenV).below CK.out) hlt
                        injection hbo with hbo; injection hbo with hb1 hb2; subst hb1 hb2
                        simp only [Nat.zero_add] at c0 c1 c2 c3 c4 c5
                        rw [← HU.out] at c0 c1 c2 c3 c4 c5
                        have v0 := VK.out.cell 0; have v1 := VK.out.cell 1; have v2 := VK.out.cell 2; have v3 := VK.out.cell 3; have v4 := VK.out.cell 4; have v5 := VK.out.cell 5
                        simp at k2 v0 v1 v2 v3 v4 v5
                        repeat still_step
                        refine wpStill_nil ?_
                        have KX := XK; have KB := CK
                        have y0 := KX.out.cell 0; have y1 := KX.out.cell 1; have y2 := KX.out.cell 2; have y3 := KX.out.cell 3; have y4 := KX.out.cell 4; have y5 := KX.out.cell 5
                        have y6 := KX.out.cell 6; have y7 := KX.out.cell 7; have y8 := KX.out.cell 8; have y9 := KX.out.cell 9; have y10 := KX.out.cell 10; have y11 := KX.out.cell 11
                        simp at y0 y1 y2 y3 y4 y5 y6 y7 y8 y9 y10 y11
                        have yf := KX.out.frozen
                        go_wp2
                        have z1 := twelfth_blk KX.out (.int .i64 u.h) (.int .i64 u.r) (.int .i64 u.s) (.bool u.has) (.int .u64 u.blk) (.int .i64 u.fr) (.int .i64 v.h) (.int .i64 v.r) (.int .i64 v.s) (.bool v.has) (.int .u64 v.blk) (.int .i64 v.fr)
                        have z2 := True.intro -- (.int .i64 u.h) (.int .i64 u.r) (.int .i64 u.s) (.bool u.has) (.int .u64 u.blk) (.int .i64 u.fr) (.int .i64 v.h) (.int .i64 v.r) (.int .i64 v.s) (.bool v.has) (.int .u64 v.blk) (.int .i64 v.fr)
                        have z3 := True.intro -- (.int .i64 u.h) (.int .i64 u.r) (.int .i64 u.s) (.bool u.has) (.int .u64 u.blk) (.int .i64 u.fr) (.int .i64 v.h) (.int .i64 v.r) (.int .i64 v.s) (.bool v.has) (.int .u64 v.blk) (.int .i64 v.fr)
                        have z4 := twelfth_below (g := w.heap.size + 1) KB.out (by omega) (.int .i64 u.h) (.int .i64 u.r) (.int .i64 u.s) (.bool u.has) (.int .u64 u.blk) (.int .i64 u.fr) (.int .i64 v.h) (.int .i64 v.r) (.int .i64 v.s) (.bool v.has) (.int .u64 v.blk) (.int .i64 v.fr)
                        clear z2 z3
                        unfold twelfth at z1 z4
                        generalize hwf : World.setCell _ ⟨_, 11, none⟩ _ = wf at *
                        clear hwf
                        have f0 := z1.cell 0; have f1 := z1.cell 1; have f2 := z1.cell 2; have f3 := z1.cell 3; have f4 := z1.cell 4; have f5 := z1.cell 5
                        have f6 := z1.cell 6; have f7 := z1.cell 7; have f8 := z1.cell 8; have f9 := z1.cell 9; have f10 := z1.cell 10; have f11 := z1.cell 11
                        simp at f0 f1 f2 f3 f4 f5 f6 f7 f8 f9 f10 f11
                        refine bodyPost_ret (v := .tuple #[.agg #[.int .i64 u.h, .int .i64 u.r, .int .i64 u.s, .bool u.has, .int .u64 u.blk, .int .i64 u.fr, .int .i64 v.h, .int .i64 v.r, .int .i64 v.s, .bool v.has, .int .u64 v.blk, .int .i64 v.fr], .int .i64 (23)]) (by simp [results, Tryz.results7, go_sem, f0, f1, f2, f3, f4, f5, f6, f7, f8, f9, f10, f11]; try rfl) rfl ?_
                        exact addD_same HDR.out HAd.out rfl z4
                    · have e3' : (u.fr == v.fr) = false := by simpa using e3
                      have HNs : Hid (∀ x ∈ L, sameP x v = false) := nos_of HG.out.srt (by rw [HTD.out.2, List.drop_eq_getElem_cons hlt, ← hu]) ((same_not _ _).2 fun h => e3 h.2.2)
                      clear e1 e2 e3 hu
                      go_quiet (fail)
                      obtain ⟨wI, hwI⟩ : ∃ wI, w5.drewN nq = wI := ⟨_, rfl⟩
                      rw [hwI]
                      have VI : Hid (Blk wI w.heap.size 34 #[.int .i64 v.h, .int .i64 v.r, .int .i64 v.s, .bool v.has, .int .u64 v.blk, .int .i64 v.fr]) := by show Blk _ _ _ _; rw [← hwI]; exact V5.out
                      have XI : Hid (Blk wI (w.heap.size + 1) 36 #[.int .i64 0, .int .i64 0, .int .i64 0, .bool false, .int .u64 0, .int .i64 0, .int .i64 0, .int .i64 0, .int .i64 0, .bool false, .int .u64 0, .int .i64 0]) := by show Blk _ _ _ _; rw [← hwI]; exact X5.out
                      have CI : Hid (Below w.heap.size w wI) := by show Below _ _ _; rw [← hwI]; exact below_drewN C5.out nq
                      clear hwI V5 X5 C5
                      clear k2 c0 c1 c2 c3 c4 c5 v0 v1 v2 v3 v4 v5
                      have HAd : Hid (addO S H L v = (none, 0, tk v L ++ v :: dr v L)) := addO_none HE.out HHh.out HHb.out HNs.out
                      have hTk3 := ((HVo.out.rd lenV).below CI.out).take k hk
                      have hD : ∀ A : Option Addr, (cl ≠ k → A = some ⟨g, k * 6, none⟩) → Rd encV 6 wI w.heap.size A (L.length - k) (L.drop k) := by
                        intro A hA
                        by_cases e : cl = k
                        · have e0 : L.length - k = 0 := by omega
                          rw [e0, List.drop_eq_nil_of_le (by omega)]
                          exact Rd.nil _ _ _
                        · rw [hA e]
                          have := ((HVo.out.rd lenV).below CI.out).drop k cl hk hc
                          rw [if_neg e] at this
                          simpa using this
                      have HTk3 := Lib.hid hTk3; have HD := Lib.hid hD; clear hTk3 hD
                      have k2 := (HBk.out.below CI.out hCl).cell 2
                      simp at k2
                      have hCw : C < wI.heap.size := by have := CI.out.size; omega
                      have hI2 : w.heap.size + 2 ≤ wI.heap.size := by have := XI.out.lt; omega
                      go_wp2_with (at_builtin; first
                        | (refine wpList_app rfl (.tmp 124) (.tmp 130) 23 rfl 34 i0 _ 48 Tryz.underlying23 hi hz0 hz1 hz2 rfl (by decide) lenV oneV (w.heap.size + 2) _ 0 0 [] rfl (Own.made (α := V) (enc := encV) (k := 6) (e := 34) wI (w.heap.size + 2) hI2) w.heap.size k _ _ _ rfl (HTk3.out.alloc CI.out.size _) (by simp only [maxLen]; omega) (by omega) (by simp; omega) ?_; skip; intro A1 c1 w1 hown1 hg1 hat1
                           have B1 := Lib.hid (Below.app2 (CI.out.alloc CI.out.size _) (Own.made (α := V) (enc := encV) (k := 6) (e := 34) wI (w.heap.size + 2) hI2) hg1 (by have := CI.out.size; simp; omega) (by omega))
                           have V1 : Hid (Blk w1 w.heap.size 34 #[.int .i64 v.h, .int .i64 v.r, .int .i64 v.s, .bool v.has, .int .u64 v.blk, .int .i64 v.fr]) := new_blk (VI.out.alloc _) (Own.made (α := V) (enc := encV) (k := 6) (e := 34) wI (w.heap.size + 2) hI2) hg1 (by omega)
                           have X1 : Hid (Blk w1 (w.heap.size + 1) 36 #[.int .i64 0, .int .i64 0, .int .i64 0, .bool false, .int .u64 0, .int .i64 0, .int .i64 0, .int .i64 0, .int .i64 0, .bool false, .int .u64 0, .int .i64 0]) := new_blk (XI.out.alloc _) (Own.made (α := V) (enc := encV) (k := 6) (e := 34) wI (w.heap.size + 2) hI2) hg1 (by omega)
                           rw [Nat.zero_add, List.nil_append] at hown1
                           have hJ1 := X1.out.lt
                           have O1 := Lib.hid hown1
                           have v0 := V1.out.cell 0; have v1 := V1.out.cell 1; have v2 := V1.out.cell 2; have v3 := V1.out.cell 3; have v4 := V1.out.cell 4; have v5 := V1.out.cell 5
                           simp at v0 v1 v2 v3 v4 v5
                           clear hg1 hat1 hown1)
                        | (refine wpList_app rfl (.tmp 132) (.tmp 134) 23 rfl 34 i0 _ 48 Tryz.underlying23 hi hz0 hz1 hz2 rfl (by decide) lenV oneV (w.heap.size + 2) _ k c1 _ rfl (O1.out.alloc _) (w1.heap.size + 1) 1 1 _ [v] rfl (rd_new w1 34 v _ rfl) (by simp only [maxLen]; omega) (by omega) (by simp; omega) ?_; skip; intro A2 c2 w2 hown2 hg2 hat2
                           have B2 := Lib.hid (Below.app2 (B1.out.alloc B1.out.size _) (O1.out.alloc _) hg2 (by have := B1.out.size; simp; omega) (by omega))
                           have X2 : Hid (Blk w2 (w.heap.size + 1) 36 #[.int .i64 0, .int .i64 0, .int .i64 0, .bool false, .int .u64 0, .int .i64 0, .int .i64 0, .int .i64 0, .int .i64 0, .bool false, .int .u64 0, .int .i64 0]) := new_blk (X1.out.alloc _) (O1.out.alloc _) hg2 (by omega)
                           have O2 := Lib.hid hown2
                           have hJ2 := X2.out.lt
                           have k2 := (HBk.out.below B2.out hCl).cell 2
                           simp at k2
                           clear hg2 hat2 hown2 v0 v1 v2 v3 v4 v5)
                        | (refine wpList_app rfl (.tmp 137) (.tmp 143) 23 rfl 34 i0 _ 48 Tryz.underlying23 hi hz0 hz1 hz2 rfl (by decide) lenV oneV (w.heap.size + 2) _ (k + 1) c2 _ rfl O2.out w.heap.size (L.length - k) _ _ _ rfl ((HD.out _ (by first | (intro _; rfl) | (intro hh; simp [hh]) | (intro hh; exact absurd ‹cl = k› hh) | (intro hh; exact absurd rfl hh))).keep (fun p hp => (B2.out.cell hp).trans (CI.out.cell hp).symm)) (by simp only [maxLen]; omega) (by omega) (by omega) ?_; skip; intro A4 c4 w4 hown4 hg4 hat4
                           have B4 := Lib.hid (Below.app2 B2.out O2.out hg4 B2.out.size (by omega))
                           have X4 : Hid (Blk w4 (w.heap.size + 1) 36 #[.int .i64 0, .int .i64 0, .int .i64 0, .bool false, .int .u64 0, .int .i64 0, .int .i64 0, .int .i64 0, .int .i64 0, .bool false, .int .u64 0, .int .i64 0]) := new_blk X2.out O2.out hg4 (by omega)
                           have O4 := Lib.hid hown4
                           have k2 := (HBk.out.below B4.out hCl).cell 2
                           simp at k2
                           have kf := (HBk.out.below B4.out hCl).frozen
                           have XS := Lib.hid (blk_other X4.out 2 (.slice A4 (k + 1 + (L.length - k)) c4) (g' := C) (by omega))
                           have x0 := XS.out.cell 0; have x1 := XS.out.cell 1; have x2 := XS.out.cell 2; have x3 := XS.out.cell 3; have x4 := XS.out.cell 4; have x5 := XS.out.cell 5
                           have x6 := XS.out.cell 6; have x7 := XS.out.cell 7; have x8 := XS.out.cell 8; have x9 := XS.out.cell 9; have x10 := XS.out.cell 10; have x11 := XS.out.cell 11
                           simp at x0 x1 x2 x3 x4 x5 x6 x7 x8 x9 x10 x11
                           have xf := XS.out.frozen
                           clear hg4 hat4 hown4))
                      all_goals
                        have z1 := twelfth_blk XS.out (.int .i64 0) (.int .i64 0) (.int .i64 0) (.bool false) (.int .u64 0) (.int .i64 0) (.int .i64 0) (.int .i64 0) (.int .i64 0) (.bool false) (.int .u64 0) (.int .i64 0)
                        have zc := twelfth_other (g := w.heap.size + 1) (Blk.set_ (HBk.out.below B4.out hCl) 2 (.slice A4 (k + 1 + (L.length - k)) c4)) (by omega) (.int .i64 0) (.int .i64 0) (.int .i64 0) (.bool false) (.int .u64 0) (.int .i64 0) (.int .i64 0) (.int .i64 0) (.int .i64 0) (.bool false) (.int .u64 0) (.int .i64 0)
                        have zs := twelfth_own (own_set (HSo.out.below B4.out) (HBk.out.below B4.out hCl) (by decide) 2 (.slice A4 (k + 1 + (L.length - k)) c4)) XS.out (by decide) (.int .i64 0) (.int .i64 0) (.int .i64 0) (.bool false) (.int .u64 0) (.int .i64 0) (.int .i64 0) (.int .i64 0) (.int .i64 0) (.bool false) (.int .u64 0) (.int .i64 0)
                        have zv := twelfth_own (own_set (O4.out.mono (Nat.zero_le _)) (HBk.out.below B4.out hCl) (by decide) 2 (.slice A4 (k + 1 + (L.length - k)) c4)) XS.out (by decide) (.int .i64 0) (.int .i64 0) (.int .i64 0) (.bool false) (.int .u64 0) (.int .i64 0) (.int .i64 0) (.int .i64 0) (.int .i64 0) (.bool false) (.int .u64 0) (.int .i64 0)
                        have zg := twelfth_grown (g := w.heap.size + 1) (grown_row ((below_grown (B := 0) B4.out).but (some C)) 2 (.slice A4 (k + 1 + (L.length - k)) c4)) (by omega) (.int .i64 0) (.int .i64 0) (.int .i64 0) (.bool false) (.int .u64 0) (.int .i64 0) (.int .i64 0) (.int .i64 0) (.int .i64 0) (.bool false) (.int .u64 0) (.int .i64 0)
                        have zl : L.take k ++ [v] ++ L.drop k = tk v L ++ v :: dr v L := by rw [HTD.out.1, HTD.out.2]; simp
                        rw [zl] at zv
                        unfold twelfth at z1 zc zs zv zg
                        generalize hwf : World.setCell _ ⟨_, 11, none⟩ _ = wf at *
                        clear hwf
                        have f0 := z1.cell 0; have f1 := z1.cell 1; have f2 := z1.cell 2; have f3 := z1.cell 3; have f4 := z1.cell 4; have f5 := z1.cell 5
                        have f6 := z1.cell 6; have f7 := z1.cell 7; have f8 := z1.cell 8; have f9 := z1.cell 9; have f10 := z1.cell 10; have f11 := z1.cell 11
                        simp at f0 f1 f2 f3 f4 f5 f6 f7 f8 f9 f10 f11
                        refine bodyPost_ret (v := .tuple #[.agg #[.int .i64 0, .int .i64 0, .int .i64 0, .bool false, .int .u64 0, .int .i64 0, .int .i64 0, .int .i64 0, .int .i64 0, .bool false, .int .u64 0, .int .i64 0], .int .i64 0]) (by simp [results, Tryz.results7, go_sem, f0, f1, f2, f3, f4, f5, f6, f7, f8, f9, f10, f11]; try rfl) rfl ?_
                        exact addD_of HAd.out (by rw [gzero]) ⟨As, ns, cs, A4, (k + 1 + (L.length - k)), c4, zc, zs, zv⟩ zg
                  · have e2' : (u.s == v.s) = false := by simpa using e2
                    have HNs : Hid (∀ x ∈ L, sameP x v = false) := nos_of HG.out.srt (by rw [HTD.out.2, List.drop_eq_getElem_cons hlt, ← hu]) ((same_not _ _).2 fun h => e2 h.2.1)
                    clear e1 e2 hu
                    go_quiet (fail)
                    obtain ⟨wI, hwI⟩ : ∃ wI, w5.drewN nq = wI := ⟨_, rfl⟩
                    rw [hwI]
                    have VI : Hid (Blk wI w.heap.size 34 #[.int .i64 v.h, .int .i64 v.r, .int .i64 v.s, .bool v.has, .int .u64 v.blk, .int .i64 v.fr]) := by show Blk _ _ _ _; rw [← hwI]; exact V5.out
                    have XI : Hid (Blk wI (w.heap.size + 1) 36 #[.int .i64 0, .int .i64 0, .int .i64 0, .bool false, .int .u64 0, .int .i64 0, .int .i64 0, .int .i64 0, .int .i64 0, .bool false, .int .u64 0, .int .i64 0]) := by show Blk _ _ _ _; rw [← hwI]; exact X5.out
                    have CI : Hid (Below w.heap.size w wI) := by show Below _ _ _; rw [← hwI]; exact below_drewN C5.out nq
                    clear hwI V5 X5 C5
                    clear k2 c0 c1 c2 c3 c4 c5 v0 v1 v2 v3 v4 v5
                    have HAd : Hid (addO S H L v = (none, 0, tk v L ++ v :: dr v L)) := addO_none HE.out HHh.out HHb.out HNs.out
                    have hTk3 := ((HVo.out.rd lenV).below CI.out).take k hk
                    have hD : ∀ A : Option Addr, (cl ≠ k → A = some ⟨g, k * 6, none⟩) → Rd encV 6 wI w.heap.size A (L.length - k) (L.drop k) := by
                      intro A hA
                      by_cases e : cl = k
                      · have e0 : L.length - k = 0 := by omega
                        rw [e0, List.drop_eq_nil_of_le (by omega)]
                        exact Rd.nil _ _ _
                      · rw [hA e]
                        have := ((HVo.out.rd lenV).below CI.out).drop k cl hk hc
                        rw [if_neg e] at this
                        simpa using this
                    have HTk3 := Lib.hid hTk3; have HD := Lib.hid hD; clear hTk3 hD
                    have k2 := (HBk.out.below CI.out hCl).cell 2
                    simp at k2
                    have hCw : C < wI.heap.size := by have := CI.out.size; omega
                    have hI2 : w.heap.size + 2 ≤ wI.heap.size := by have := XI.out.lt; omega
                    go_wp2_with (at_builtin; first
                      | (refine wpList_app rfl (.tmp 124) (.tmp 130) 23 rfl 34 i0 _ 48 Tryz.underlying23 hi hz0 hz1 hz2 rfl (by decide) lenV oneV (w.heap.size + 2) _ 0 0 [] rfl (Own.made (α := V) (enc := encV) (k := 6) (e := 34) wI (w.heap.size + 2) hI2) w.heap.size k _ _ _ rfl (HTk3.out.alloc CI.out.size _) (by simp only [maxLen]; omega) (by omega) (by simp; omega) ?_; skip; intro A1 c1 w1 hown1 hg1 hat1
                         have B1 := Lib.hid (Below.app2 (CI.out.alloc CI.out.size _) (Own.made (α := V) (enc := encV) (k := 6) (e := 34) wI (w.heap.size + 2) hI2) hg1 (by have := CI.out.size; simp; omega) (by omega))
                         have V1 : Hid (Blk w1 w.heap.size 34 #[.int .i64 v.h, .int .i64 v.r, .int .i64 v.s, .bool v.has, .int .u64 v.blk, .int .i64 v.fr]) := new_blk (VI.out.alloc _) (Own.made (α := V) (enc := encV) (k := 6) (e := 34) wI (w.heap.size + 2) hI2) hg1 (by omega)
                         have X1 : Hid (Blk w1 (w.heap.size + 1) 36 #[.int .i64 0, .int .i64 0, .int .i64 0, .bool false, .int .u64 0, .int .i64 0, .int .i64 0, .int .i64 0, .int .i64 0, .bool false, .int .u64 0, .int .i64 0]) := new_blk (XI.out.alloc _) (Own.made (α := V) (enc := encV) (k := 6) (e := 34) wI (w.heap.size + 2) hI2) hg1 (by omega)
                         rw [Nat.zero_add, List.nil_append] at hown1
                         have hJ1 := X1.out.lt
                         have O1 := Lib.hid hown1
                         have v0 := V1.out.cell 0; have v1 := V1.out.cell 1; have v2 := V1.out.cell 2; have v3 := V1.out.cell 3; have v4 := V1.out.cell 4; have v5 := V1.out.cell 5
                         simp at v0 v1 v2 v3 v4 v5
                         clear hg1 hat1 hown1)
                      | (refine wpList_app rfl (.tmp 132) (.tmp 134) 23 rfl 34 i0 _ 48 Tryz.underlying23 hi hz0 hz1 hz2 rfl (by decide) lenV oneV (w.heap.size + 2) _ k c1 _ rfl (O1.out.alloc _) (w1.heap.size + 1) 1 1 _ [v] rfl (rd_new w1 34 v _ rfl) (by simp only [maxLen]; omega) (by omega) (by simp; omega) ?_; skip; intro A2 c2 w2 hown2 hg2 hat2
                         have B2 := Lib.hid (Below.app2 (B1.out.alloc B1.out.size _) (O1.out.alloc _) hg2 (by have := B1.out.size; simp; omega) (by omega))
                         have X2 : Hid (Blk w2 (w.heap.size + 1) 36 #[.int .i64 0, .int .i64 0, .int .i64 0, .bool false, .int .u64 0, .int .i64 0, .int .i64 0, .int .i64 0, .int .i64 0, .bool false, .int .u64 0, .int .i64 0]) := new_blk (X1.out.alloc _) (O1.out.alloc _) hg2 (by omega)
                         have O2 := Lib.hid hown2
                         have hJ2 := X2.out.lt
                         have k2 := (HBk.out.below B2.out hCl).cell 2
                         simp at k2
                         clear hg2 hat2 hown2 v0 v1 v2 v3 v4 v5)
                      | (refine wpList_app rfl (.tmp 137) (.tmp 143) 23 rfl 34 i0 _ 48 Tryz.underlying23 hi hz0 hz1 hz2 rfl (by decide) lenV oneV (w.heap.size + 2) _ (k + 1) c2 _ rfl O2.out w.heap.size (L.length - k) _ _ _ rfl ((HD.out _ (by first | (intro _; rfl) | (intro hh; simp [hh]) | (intro hh; exact absurd ‹cl = k› hh) | (intro hh; exact absurd rfl hh))).keep (fun p hp => (B2.out.cell hp).trans (CI.out.cell hp).symm)) (by simp only [maxLen]; omega) (by omega) (by omega) ?_; skip; intro A4 c4 w4 hown4 hg4 hat4
                         have B4 := Lib.hid (Below.app2 B2.out O2.out hg4 B2.out.size (by omega))
                         have X4 : Hid (Blk w4 (w.heap.size + 1) 36 #[.int .i64 0, .int .i64 0, .int .i64 0, .bool false, .int .u64 0, .int .i64 0, .int .i64 0, .int .i64 0, .int .i64 0, .bool false, .int .u64 0, .int .i64 0]) := new_blk X2.out O2.out hg4 (by omega)
                         have O4 := Lib.hid hown4
                         have k2 := (HBk.out.below B4.out hCl).cell 2
                         simp at k2
                         have kf := (HBk.out.below B4.out hCl).frozen
                         have XS := Lib.hid (blk_other X4.out 2 (.slice A4 (k + 1 + (L.length - k)) c4) (g' := C) (by omega))
                         have x0 := XS.out.cell 0; have x1 := XS.out.cell 1; have x2 := XS.out.cell 2; have x3 := XS.out.cell 3; have x4 := XS.out.cell 4; have x5 := XS.out.cell 5
                         have x6 := XS.out.cell 6; have x7 := XS.out.cell 7; have x8 := XS.out.cell 8; have x9 := XS.out.cell 9; have x10 := XS.out.cell 10; have x11 := XS.out.cell 11
                         simp at x0 x1 x2 x3 x4 x5 x6 x7 x8 x9 x10 x11
                         have xf := XS.out.frozen
                         clear hg4 hat4 hown4))
                    all_goals
                      have z1 := twelfth_blk XS.out (.int .i64 0) (.int .i64 0) (.int .i64 0) (.bool false) (.int .u64 0) (.int .i64 0) (.int .i64 0) (.int .i64 0) (.int .i64 0) (.bool false) (.int .u64 0) (.int .i64 0)
                      have zc := twelfth_other (g := w.heap.size + 1) (Blk.set_ (HBk.out.below B4.out hCl) 2 (.slice A4 (k + 1 + (L.length - k)) c4)) (by omega) (.int .i64 0) (.int .i64 0) (.int .i64 0) (.bool false) (.int .u64 0) (.int .i64 0) (.int .i64 0) (.int .i64 0) (.int .i64 0) (.bool false) (.int .u64 0) (.int .i64 0)
                      have zs := twelfth_own (own_set (HSo.out.below B4.out) (HBk.out.below B4.out hCl) (by decide) 2 (.slice A4 (k + 1 + (L.length - k)) c4)) XS.out (by decide) (.int .i64 0) (.int .i64 0) (.int .i64 0) (.bool false) (.int .u64 0) (.int .i64 0) (.int .i64 0) (.int .i64 0) (.int .i64 0) (.bool false) (.int .u64 0) (.int .i64 0)
                      have zv := twelfth_own (own_set (O4.out.mono (Nat.zero_le _)) (HBk.out.below B4.out hCl) (by decide) 2 (.slice A4 (k + 1 + (L.length - k)) c4)) XS.out (by decide) (.int .i64 0) (.int .i64 0) (.int .i64 0) (.bool false) (.int .u64 0) (.int .i64 0) (.int .i64 0) (.int .i64 0) (.int .i64 0) (.bool false) (.int .u64 0) (.int .i64 0)
                      have zg := twelfth_grown (g := w.heap.size + 1) (grown_row ((below_grown (B := 0) B4.out).but (some C)) 2 (.slice A4 (k + 1 + (L.length - k)) c4)) (by omega) (.int .i64 0) (.int .i64 0) (.int .i64 0) (.bool false) (.int .u64 0) (.int .i64 0) (.int .i64 0) (.int .i64 0) (.int .i64 0) (.bool false) (.int .u64 0) (.int .i64 0)
                      have zl : L.take k ++ [v] ++ L.drop k = tk v L ++ v :: dr v L := by rw [HTD.out.1, HTD.out.2]; simp
                      rw [zl] at zv
                      unfold twelfth at z1 zc zs zv zg
                      generalize hwf : World.setCell _ ⟨_, 11, none⟩ _ = wf at *
                      clear hwf
                      have f0 := z1.cell 0; have f1 := z1.cell 1; have f2 := z1.cell 2; have f3 := z1.cell 3; have f4 := z1.cell 4; have f5 := z1.cell 5
                      have f6 := z1.cell 6; have f7 := z1.cell 7; have f8 := z1.cell 8; have f9 := z1.cell 9; have f10 := z1.cell 10; have f11 := z1.cell 11
                      simp at f0 f1 f2 f3 f4 f5 f6 f7 f8 f9 f10 f11
                      refine bodyPost_ret (v := .tuple #[.agg #[.int .i64 0, .int .i64 0, .int .i64 0, .bool false, .int .u64 0, .int .i64 0, .int .i64 0, .int .i64 0, .int .i64 0, .bool false, .int .u64 0, .int .i64 0], .int .i64 0]) (by simp [results, Tryz.results7, go_sem, f0, f1, f2, f3, f4, f5, f6, f7, f8, f9, f10, f11]; try rfl) rfl ?_
                      exact addD_of HAd.out (by rw [gzero]) ⟨As, ns, cs, A4, (k + 1 + (L.length - k)), c4, zc, zs, zv⟩ zg
                · have e1' : (u.r == v.r) = false := by simpa using e1
                  have HNs : Hid (∀ x ∈ L, sameP x v = false) := nos_of HG.out.srt (by rw [HTD.out.2, List.drop_eq_getElem_cons hlt, ← hu]) ((same_not _ _).2 fun h => e1 h.1)
                  clear e1 hu
                  go_quiet (fail)
                  obtain ⟨wI, hwI⟩ : ∃ wI, w5.drewN nq = wI := ⟨_, rfl⟩
                  rw [hwI]
                  have VI : Hid (Blk wI w.heap.size 34 #[.int .i64 v.h, .int .i64 v.r, .int .i64 v.s, .bool v.has, .int .u64 v.blk, .int .i64 v.fr]) := by show Blk _ _ _ _; rw [← hwI]; exact V5.out
                  have XI : Hid (Blk wI (w.heap.size + 1) 36 #[.int .i64 0, .int .i64 0, .int .i64 0, .bool false, .int .u64 0, .int .i64 0, .int .i64 0, .int .i64 0, .int .i64 0, .bool false, .int .u64 0, .int .i64 0]) := by show Blk _ _ _ _; rw [← hwI]; exact X5.out
                  have CI : Hid (Below w.heap.size w wI) := by show Below _ _ _; rw [← hwI]; exact below_drewN C5.out nq
                  clear hwI V5 X5 C5
                  clear k2 c0 c1 c2 c3 c4 c5 v0 v1 v2 v3 v4 v5
                  have HAd : Hid (addO S H L v = (none, 0, tk v L ++ v :: dr v L)) := addO_none HE.out HHh.out HHb.out HNs.out
                  have hTk3 := ((HVo.out.rd lenV).below CI.out).take k hk
                  have hD : ∀ A : Option Addr, (cl ≠ k → A = some ⟨g, k * 6, none⟩) → Rd encV 6 wI w.heap.size A (L.length - k) (L.drop k) := by
                    intro A hA
                    by_cases e : cl = k
                    · have e0 : L.length - k = 0 := by omega
                      rw [e0, List.drop_eq_nil_of_le (by omega)]
                      exact Rd.nil _ _ _
                    · rw [hA e]
                      have := ((HVo.out.rd lenV).below CI.out).drop k cl hk hc
                      rw [if_neg e] at this
                      simpa using this
                  have HTk3 := Lib.hid hTk3; have HD := Lib.hid hD; clear hTk3 hD
                  have k2 := (HBk.out.below CI.out hCl).cell 2
                  simp at k2
                  have hCw : C < wI.heap.size := by have := CI.out.size; omega
                  have hI2 : w.heap.size + 2 ≤ wI.heap.size := by have := XI.out.lt; omega
                  go_wp2_with (at_builtin; first
                    | (refine wpList_app rfl (.tmp 124) (.tmp 130) 23 rfl 34 i0 _ 48 Tryz.underlying23 hi hz0 hz1 hz2 rfl (by decide) lenV oneV (w.heap.size + 2) _ 0 0 [] rfl (Own.made (α := V) (enc := encV) (k := 6) (e := 34) wI (w.heap.size + 2) hI2) w.heap.size k _ _ _ rfl (HTk3.out.alloc CI.out.size _) (by simp only [maxLen]; omega) (by omega) (by simp; omega) ?_; skip; intro A1 c1 w1 hown1 hg1 hat1
                       have B1 := Lib.hid (Below.app2 (CI.out.alloc CI.out.size _) (Own.made (α := V) (enc := encV) (k := 6) (e := 34) wI (w.heap.size + 2) hI2) hg1 (by have := CI.out.size; simp; omega) (by omega))
                       have V1 : Hid (Blk w1 w.heap.size 34 #[.int .i64 v.h, .int .i64 v.r, .int .i64 v.s, .bool v.has, .int .u64 v.blk, .int .i64 v.fr]) := new_blk (VI.out.alloc _) (Own.made (α := V) (enc := encV) (k := 6) (e := 34) wI (w.heap.size + 2) hI2) hg1 (by omega)
                       have X1 : Hid (Blk w1 (w.heap.size + 1) 36 #[.int .i64 0, .int .i64 0, .int .i64 0, .bool false, .int .u64 0, .int .i64 0, .int .i64 0, .int .i64 0, .int .i64 0, .bool false, .int .u64 0, .int .i64 0]) := new_blk (XI.out.alloc _) (Own.made (α := V) (enc := encV) (k := 6) (e := 34) wI (w.heap.size + 2) hI2) hg1 (by omega)
                       rw [Nat.zero_add, List.nil_append] at hown1
                       have hJ1 := X1.out.lt
                       have O1 := Lib.hid hown1
                       have v0 := V1.out.cell 0; have v1 := V1.out.cell 1; have v2 := V1.out.cell 2; have v3 := V1.out.cell 3; have v4 := V1.out.cell 4; have v5 := V1.out.cell 5
                       simp at v0 v1 v2 v3 v4 v5
                       clear hg1 hat1 hown1)
                    | (refine wpList_app rfl (.tmp 132) (.tmp 134) 23 rfl 34 i0 _ 48 Tryz.underlying23 hi hz0 hz1 hz2 rfl (by decide) lenV oneV (w.heap.size + 2) _ k c1 _ rfl (O1.out.alloc _) (w1.heap.size + 1) 1 1 _ [v] rfl (rd_new w1 34 v _ rfl) (by simp only [maxLen]; omega) (by omega) (by simp; omega) ?_; skip; intro A2 c2 w2 hown2 hg2 hat2
                       have B2 := Lib.hid (Below.app2 (B1.out.alloc B1.out.size _) (O1.out.alloc _) hg2 (by have := B1.out.size; simp; omega) (by omega))
                       have X2 : Hid (Blk w2 (w.heap.size + 1) 36 #[.int .i64 0, .int .i64 0, .int .i64 0, .bool false, .int .u64 0, .int .i64 0, .int .i64 0, .int .i64 0, .int .i64 0, .bool false, .int .u64 0, .int .i64 0]) := new_blk (X1.out.alloc _) (O1.out.alloc _) hg2 (by omega)
                       have O2 := Lib.hid hown2
                       have hJ2 := X2.out.lt
                       have k2 := (HBk.out.below B2.out hCl).cell 2
                       simp at k2
                       clear hg2 hat2 hown2 v0 v1 v2 v3 v4 v5)
                    | (refine wpList_app rfl (.tmp 137) (.tmp 143) 23 rfl 34 i0 _ 48 Tryz.underlying23 hi hz0 hz1 hz2 rfl (by decide) lenV oneV (w.heap.size + 2) _ (k + 1) c2 _ rfl O2.out w.heap.size (L.length - k) _ _ _ rfl ((HD.out _ (by first | (intro _; rfl) | (intro hh; simp [hh]) | (intro hh; exact absurd ‹cl = k› hh) | (intro hh; exact absurd rfl hh))).keep (fun p hp => (B2.out.cell hp).trans (CI.out.cell hp).symm)) (by simp only [maxLen]; omega) (by omega) (by omega) ?_; skip; intro A4 c4 w4 hown4 hg4 hat4
                       have B4 := Lib.hid (Below.app2 B2.out O2.out hg4 B2.out.size (by omega))
                       have X4 : Hid (Blk w4 (w.heap.size + 1) 36 #[.int .i64 0, .int .i64 0, .int .i64 0, .bool false, .int .u64 0, .int .i64 0, .int .i64 0, .int .i64 0, .int .i64 0, .bool false, .int .u64 0, .int .i64 0]) := new_blk X2.out O2.out hg4 (by omega)
                       have O4 := Lib.hid hown4
                       have k2 := (HBk.out.below B4.out hCl).cell 2
                       simp at k2
                       have kf := (HBk.out.below B4.out hCl).frozen
                       have XS := Lib.hid (blk_other X4.out 2 (.slice A4 (k + 1 + (L.length - k)) c4) (g' := C) (by omega))
                       have x0 := XS.out.cell 0; have x1 := XS.out.cell 1; have x2 := XS.out.cell 2; have x3 := XS.out.cell 3; have x4 := XS.out.cell 4; have x5 := XS.out.cell 5
                       have x6 := XS.out.cell 6; have x7 := XS.out.cell 7; have x8 := XS.out.cell 8; have x9 := XS.out.cell 9; have x10 := XS.out.cell 10; have x11 := XS.out.cell 11
                       simp at x0 x1 x2 x3 x4 x5 x6 x7 x8 x9 x10 x11
                       have xf := XS.out.frozen
                       clear hg4 hat4 hown4))
                  all_goals
                    have z1 := twelfth_blk XS.out (.int .i64 0) (.int .i64 0) (.int .i64 0) (.bool false) (.int .u64 0) (.int .i64 0) (.int .i64 0) (.int .i64 0) (.int .i64 0) (.bool false) (.int .u64 0) (.int .i64 0)
                    have zc := twelfth_other (g := w.heap.size + 1) (Blk.set_ (HBk.out.below B4.out hCl) 2 (.slice A4 (k + 1 + (L.length - k)) c4)) (by omega) (.int .i64 0) (.int .i64 0) (.int .i64 0) (.bool false) (.int .u64 0) (.int .i64 0) (.int .i64 0) (.int .i64 0) (.int .i64 0) (.bool false) (.int .u64 0) (.int .i64 0)
                    have zs := twelfth_own (own_set (HSo.out.below B4.out) (HBk.out.below B4.out hCl) (by decide) 2 (.slice A4 (k + 1 + (L.length - k)) c4)) XS.out (by decide) (.int .i64 0) (.int .i64 0) (.int .i64 0) (.bool false) (.int .u64 0) (.int .i64 0) (.int .i64 0) (.int .i64 0) (.int .i64 0) (.bool false) (.int .u64 0) (.int .i64 0)
                    have zv := twelfth_own (own_set (O4.out.mono (Nat.zero_le _)) (HBk.out.below B4.out hCl) (by decide) 2 (.slice A4 (k + 1 + (L.length - k)) c4)) XS.out (by decide) (.int .i64 0) (.int .i64 0) (.int .i64 0) (.bool false) (.int .u64 0) (.int .i64 0) (.int .i64 0) (.int .i64 0) (.int .i64 0) (.bool false) (.int .u64 0) (.int .i64 0)
                    have zg := twelfth_grown (g := w.heap.size + 1) (grown_row ((below_grown (B := 0) B4.out).but (some C)) 2 (.slice A4 (k + 1 + (L.length - k)) c4)) (by omega) (.int .i64 0) (.int .i64 0) (.int .i64 0) (.bool false) (.int .u64 0) (.int .i64 0) (.int .i64 0) (.int .i64 0) (.int .i64 0) (.bool false) (.int .u64 0) (.int .i64 0)
                    have zl : L.take k ++ [v] ++ L.drop k = tk v L ++ v :: dr v L := by rw [HTD.out.1, HTD.out.2]; simp
                    rw [zl] at zv
                    unfold twelfth at z1 zc zs zv zg
                    generalize hwf : World.setCell _ ⟨_, 11, none⟩ _ = wf at *
                    clear hwf
                    have f0 := z1.cell 0; have f1 := z1.cell 1; have f2 := z1.cell 2; have f3 := z1.cell 3; have f4 := z1.cell 4; have f5 := z1.cell 5
                    have f6 := z1.cell 6; have f7 := z1.cell 7; have f8 := z1.cell 8; have f9 := z1.cell 9; have f10 := z1.cell 10; have f11 := z1.cell 11
                    simp at f0 f1 f2 f3 f4 f5 f6 f7 f8 f9 f10 f11
                    refine bodyPost_ret (v := .tuple #[.agg #[.int .i64 0, .int .i64 0, .int .i64 0, .bool false, .int .u64 0, .int .i64 0, .int .i64 0, .int .i64 0, .int .i64 0, .bool false, .int .u64 0, .int .i64 0], .int .i64 0]) (by simp [results, Tryz.results7, go_sem, f0, f1, f2, f3, f4, f5, f6, f7, f8, f9, f10, f11]; try rfl) rfl ?_
                    exact addD_of HAd.out (by rw [gzero]) ⟨As, ns, cs, A4, (k + 1 + (L.length - k)), c4, zc, zs, zv⟩ zg
              · rw [ha] at hA
                have HA := Lib.hid hA; clear hA
                have hTk2 : ∀ x ∈ L.take (k + 1), aheadV x v = true := fun x hx => by
                  rw [take_succ_of hlt] at hx
                  rcases List.mem_append.1 hx with hx | hx
                  · exact HTk.out x hx
                  · rw [List.mem_singleton.1 hx]; exact ha
                have HTk2 := Lib.hid hTk2
                clear ha hTk2 HTk
                go_wp2_with (go_at_call 28; refine HA.out.mono ?_; rintro e w5 ⟨rfl, hb5⟩; have V5 := Lib.hid (VB.out.below hb5 VB.out.lt); have X5 := Lib.hid (XB.out.below hb5 XB.out.lt); have C5 := Lib.hid (CB.out.trans (hb5.mono CB.out.size)); clear hb5)
                go_roundw
                case rel => exact ⟨⟨k + 1, by go_num, by omega, HTk2⟩, V5, X5, C5⟩
                case measure => simp [intOf]; omega
            · have h1 : ¬ (k : Int) < (L.length : Int) := by omega
              go_wp2_with fail
              have HTD : Hid (tk v L = L.take k ∧ dr v L = L.drop k) := by
                show _ ∧ _
                have hke : k = L.length := by omega
                have := take_all (v := v) (L := L) (fun x hx => HTk.out x (by rw [hke, List.take_length]; exact hx))
                rw [hke, List.take_length, List.drop_length]; exact this
              clear HTk
              go_quiet (fail)
              obtain ⟨wI, hwI⟩ : ∃ wI, wr.drewN nq = wI := ⟨_, rfl⟩
              rw [hwI]
              have VI : Hid (Blk wI w.heap.size 34 #[.int .i64 v.h, .int .i64 v.r, .int .i64 v.s, .bool v.has, .int .u64 v.blk, .int .i64 v.fr]) := by show Blk _ _ _ _; rw [← hwI]; exact VR.out
              have XI : Hid (Blk wI (w.heap.size + 1) 36 #[.int .i64 0, .int .i64 0, .int .i64 0, .bool false, .int .u64 0, .int .i64 0, .int .i64 0, .int .i64 0, .int .i64 0, .bool false, .int .u64 0, .int .i64 0]) := by show Blk _ _ _ _; rw [← hwI]; exact XR.out
              have CI : Hid (Below w.heap.size w wI) := by show Below _ _ _; rw [← hwI]; exact below_drewN CR.out nq
              clear hwI VR XR CR
              clear k2
              have HNs : Hid (∀ x ∈ L, sameP x v = false) := fun x hx => same_none (by rw [HTD.out.2]; exact List.drop_eq_nil_of_le (by omega)) hx
              have HAd : Hid (addO S H L v = (none, 0, tk v L ++ v :: dr v L)) := addO_none HE.out HHh.out HHb.out HNs.out
              have hTk3 := ((HVo.out.rd lenV).below CI.out).take k hk
              have hD : ∀ A : Option Addr, (cl ≠ k → A = some ⟨g, k * 6, none⟩) → Rd encV 6 wI w.heap.size A (L.length - k) (L.drop k) := by
                intro A hA
                by_cases e : cl = k
                · have e0 : L.length - k = 0 := by omega
                  rw [e0, List.drop_eq_nil_of_le (by omega)]
                  exact Rd.nil _ _ _
                · rw [hA e]
                  have := ((HVo.out.rd lenV).below CI.out).drop k cl hk hc
                  rw [if_neg e] at this
                  simpa using this
              have HTk3 := Lib.hid hTk3; have HD := Lib.hid hD; clear hTk3 hD
              have k2 := (HBk.out.below CI.out hCl).cell 2
              simp at k2
              have hCw : C < wI.heap.size := by have := CI.out.size; omega
              have hI2 : w.heap.size + 2 ≤ wI.heap.size := by have := XI.out.lt; omega
              go_wp2_with (at_builtin; first
                | (refine wpList_app rfl (.tmp 124) (.tmp 130) 23 rfl 34 i0 _ 48 Tryz.underlying23 hi hz0 hz1 hz2 rfl (by decide) lenV oneV (w.heap.size + 2) _ 0 0 [] rfl (Own.made (α := V) (enc := encV) (k := 6) (e := 34) wI (w.heap.size + 2) hI2) w.heap.size k _ _ _ rfl (HTk3.out.alloc CI.out.size _) (by simp only [maxLen]; omega) (by omega) (by simp; omega) ?_; skip; intro A1 c1 w1 hown1 hg1 hat1
                   have B1 := Lib.hid (Below.app2 (CI.out.alloc CI.out.size _) (Own.made (α := V) (enc := encV) (k := 6) (e := 34) wI (w.heap.size + 2) hI2) hg1 (by have := CI.out.size; simp; omega) (by omega))
                   have V1 : Hid (Blk w1 w.heap.size 34 #[.int .i64 v.h, .int .i64 v.r, .int .i64 v.s, .bool v.has, .int .u64 v.blk, .int .i64 v.fr]) := new_blk (VI.out.alloc _) (Own.made (α := V) (enc := encV) (k := 6) (e := 34) wI (w.heap.size + 2) hI2) hg1 (by omega)
                   have X1 : Hid (Blk w1 (w.heap.size + 1) 36 #[.int .i64 0, .int .i64 0, .int .i64 0, .bool false, .int .u64 0, .int .i64 0, .int .i64 0, .int .i64 0, .int .i64 0, .bool false, .int .u64 0, .int .i64 0]) := new_blk (XI.out.alloc _) (Own.made (α := V) (enc := encV) (k := 6) (e := 34) wI (w.heap.size + 2) hI2) hg1 (by omega)
                   rw [Nat.zero_add, List.nil_append] at hown1
                   have hJ1 := X1.out.lt
                   have O1 := Lib.hid hown1
                   have v0 := V1.out.cell 0; have v1 := V1.out.cell 1; have v2 := V1.out.cell 2; have v3 := V1.out.cell 3; have v4 := V1.out.cell 4; have v5 := V1.out.cell 5
                   simp at v0 v1 v2 v3 v4 v5
                   clear hg1 hat1 hown1)
                | (refine wpList_app rfl (.tmp 132) (.tmp 134) 23 rfl 34 i0 _ 48 Tryz.underlying23 hi hz0 hz1 hz2 rfl (by decide) lenV oneV (w.heap.size + 2) _ k c1 _ rfl (O1.out.alloc _) (w1.heap.size + 1) 1 1 _ [v] rfl (rd_new w1 34 v _ rfl) (by simp only [maxLen]; omega) (by omega) (by simp; omega) ?_; skip; intro A2 c2 w2 hown2 hg2 hat2
                   have B2 := Lib.hid (Below.app2 (B1.out.alloc B1.out.size _) (O1.out.alloc _) hg2 (by have := B1.out.size; simp; omega) (by omega))
                   have X2 : Hid (Blk w2 (w.heap.size + 1) 36 #[.int .i64 0, .int .i64 0, .int .i64 0, .bool false, .int .u64 0, .int .i64 0, .int .i64 0, .int .i64 0, .int .i64 0, .bool false, .int .u64 0, .int .i64 0]) := new_blk (X1.out.alloc _) (O1.out.alloc _) hg2 (by omega)
                   have O2 := Lib.hid hown2
                   have hJ2 := X2.out.lt
                   have k2 := (HBk.out.below B2.out hCl).cell 2
                   simp at k2
                   clear hg2 hat2 hown2 v0 v1 v2 v3 v4 v5)
                | (refine wpList_app rfl (.tmp 137) (.tmp 143) 23 rfl 34 i0 _ 48 Tryz.underlying23 hi hz0 hz1 hz2 rfl (by decide) lenV oneV (w.heap.size + 2) _ (k + 1) c2 _ rfl O2.out w.heap.size (L.length - k) _ _ _ rfl ((HD.out _ (by first | (intro _; rfl) | (intro hh; simp [hh]) | (intro hh; exact absurd ‹cl = k› hh) | (intro hh; exact absurd rfl hh))).keep (fun p hp => (B2.out.cell hp).trans (CI.out.cell hp).symm)) (by simp only [maxLen]; omega) (by omega) (by omega) ?_; skip; intro A4 c4 w4 hown4 hg4 hat4
                   have B4 := Lib.hid (Below.app2 B2.out O2.out hg4 B2.out.size (by omega))
                   have X4 : Hid (Blk w4 (w.heap.size + 1) 36 #[.int .i64 0, .int .i64 0, .int .i64 0, .bool false, .int .u64 0, .int .i64 0, .int .i64 0, .int .i64 0, .int .i64 0, .bool false, .int .u64 0, .int .i64 0]) := new_blk X2.out O2.out hg4 (by omega)
                   have O4 := Lib.hid hown4
                   have k2 := (HBk.out.below B4.out hCl).cell 2
                   simp at k2
                   have kf := (HBk.out.below B4.out hCl).frozen
                   have XS := Lib.hid (blk_other X4.out 2 (.slice A4 (k + 1 + (L.length - k)) c4) (g' := C) (by omega))
                   have x0 := XS.out.cell 0; have x1 := XS.out.cell 1; have x2 := XS.out.cell 2; have x3 := XS.out.cell 3; have x4 := XS.out.cell 4; have x5 := XS.out.cell 5
                   have x6 := XS.out.cell 6; have x7 := XS.out.cell 7; have x8 := XS.out.cell 8; have x9 := XS.out.cell 9; have x10 := XS.out.cell 10; have x11 := XS.out.cell 11
                   simp at x0 x1 x2 x3 x4 x5 x6 x7 x8 x9 x10 x11
                   have xf := XS.out.frozen
                   clear hg4 hat4 hown4))
              all_goals
                have z1 := twelfth_blk XS.out (.int .i64 0) (.int .i64 0) (.int .i64 0) (.bool false) (.int .u64 0) (.int .i64 0) (.int .i64 0) (.int .i64 0) (.int .i64 0) (.bool false) (.int .u64 0) (.int .i64 0)
                have zc := twelfth_other (g := w.heap.size + 1) (Blk.set_ (HBk.out.below B4.out hCl) 2 (.slice A4 (k + 1 + (L.length - k)) c4)) (by omega) (.int .i64 0) (.int .i64 0) (.int .i64 0) (.bool false) (.int .u64 0) (.int .i64 0) (.int .i64 0) (.int .i64 0) (.int .i64 0) (.bool false) (.int .u64 0) (.int .i64 0)
                have zs := twelfth_own (own_set (HSo.out.below B4.out) (HBk.out.below B4.out hCl) (by decide) 2 (.slice A4 (k + 1 + (L.length - k)) c4)) XS.out (by decide) (.int .i64 0) (.int .i64 0) (.int .i64 0) (.bool false) (.int .u64 0) (.int .i64 0) (.int .i64 0) (.int .i64 0) (.int .i64 0) (.bool false) (.int .u64 0) (.int .i64 0)
                have zv := twelfth_own (own_set (O4.out.mono (Nat.zero_le _)) (HBk.out.below B4.out hCl) (by decide) 2 (.slice A4 (k + 1 + (L.length - k)) c4)) XS.out (by decide) (.int .i64 0) (.int .i64 0) (.int .i64 0) (.bool false) (.int .u64 0) (.int .i64 0) (.int .i64 0) (.int .i64 0) (.int .i64 0) (.bool false) (.int .u64 0) (.int .i64 0)
                have zg := twelfth_grown (g := w.heap.size + 1) (grown_row ((below_grown (B := 0) B4.out).but (some C)) 2 (.slice A4 (k + 1 + (L.length - k)) c4)) (by omega) (.int .i64 0) (.int .i64 0) (.int .i64 0) (.bool false) (.int .u64 0) (.int .i64 0) (.int .i64 0) (.int .i64 0) (.int .i64 0) (.bool false) (.int .u64 0) (.int .i64 0)
                have zl : L.take k ++ [v] ++ L.drop k = tk v L ++ v :: dr v L := by rw [HTD.out.1, HTD.out.2]; simp
                rw [zl] at zv
                unfold twelfth at z1 zc zs zv zg
                generalize hwf : World.setCell _ ⟨_, 11, none⟩ _ = wf at *
                clear hwf
                have f0 := z1.cell 0; have f1 := z1.cell 1; have f2 := z1.cell 2; have f3 := z1.cell 3; have f4 := z1.cell 4; have f5 := z1.cell 5
                have f6 := z1.cell 6; have f7 := z1.cell 7; have f8 := z1.cell 8; have f9 := z1.cell 9; have f10 := z1.cell 10; have f11 := z1.cell 11
                simp at f0 f1 f2 f3 f4 f5 f6 f7 f8 f9 f10 f11
                refine bodyPost_ret (v := .tuple #[.agg #[.int .i64 0, .int .i64 0, .int .i64 0, .bool false, .int .u64 0, .int .i64 0, .int .i64 0, .int .i64 0, .int .i64 0, .bool false, .int .u64 0, .int .i64 0], .int .i64 0]) (by simp [results, Tryz.results7, go_sem, f0, f1, f2, f3, f4, f5, f6, f7, f8, f9, f10, f11]; try rfl) rfl ?_
                exact addD_of HAd.out (by rw [gzero]) ⟨As, ns, cs, A4, (k + 1 + (L.length - k)), c4, zc, zs, zv⟩ zg
    · have hh' : (v.h != H) = true := by simpa using hh
      have HAd : Hid (addO S H L v = (none, 19, L)) := by show _ = _; unfold addO; rw [if_pos HE.out, if_neg hh]
      have KX := X2; have KB := C2
      clear hh
      have y0 := KX.out.cell 0; have y1 := KX.out.cell 1; have y2 := KX.out.cell 2; have y3 := KX.out.cell 3; have y4 := KX.out.cell 4; have y5 := KX.out.cell 5
      have y6 := KX.out.cell 6; have y7 := KX.out.cell 7; have y8 := KX.out.cell 8; have y9 := KX.out.cell 9; have y10 := KX.out.cell 10; have y11 := KX.out.cell 11
      simp at y0 y1 y2 y3 y4 y5 y6 y7 y8 y9 y10 y11
      have yf := KX.out.frozen
      go_wp2
      have z1 := twelfth_blk KX.out (.int .i64 0) (.int .i64 0) (.int .i64 0) (.bool false) (.int .u64 0) (.int .i64 0) (.int .i64 0) (.int .i64 0) (.int .i64 0) (.bool false) (.int .u64 0) (.int .i64 0)
      have z2 := True.intro -- (.int .i64 0) (.int .i64 0) (.int .i64 0) (.bool false) (.int .u64 0) (.int .i64 0) (.int .i64 0) (.int .i64 0) (.int .i64 0) (.bool false) (.int .u64 0) (.int .i64 0)
      have z3 := True.intro -- (.int .i64 0) (.int .i64 0) (.int .i64 0) (.bool false) (.int .u64 0) (.int .i64 0) (.int .i64 0) (.int .i64 0) (.int .i64 0) (.bool false) (.int .u64 0) (.int .i64 0)
      have z4 := twelfth_below (g := w.heap.size + 1) KB.out (by omega) (.int .i64 0) (.int .i64 0) (.int .i64 0) (.bool false) (.int .u64 0) (.int .i64 0) (.int .i64 0) (.int .i64 0) (.int .i64 0) (.bool false) (.int .u64 0) (.int .i64 0)
      clear z2 z3
      unfold twelfth at z1 z4
      generalize hwf : World.setCell _ ⟨_, 11, none⟩ _ = wf at *
      clear hwf
      have f0 := z1.cell 0; have f1 := z1.cell 1; have f2 := z1.cell 2; have f3 := z1.cell 3; have f4 := z1.cell 4; have f5 := z1.cell 5
      have f6 := z1.cell 6; have f7 := z1.cell 7; have f8 := z1.cell 8; have f9 := z1.cell 9; have f10 := z1.cell 10; have f11 := z1.cell 11
      simp at f0 f1 f2 f3 f4 f5 f6 f7 f8 f9 f10 f11
      refine bodyPost_ret (v := .tuple #[.agg #[.int .i64 0, .int .i64 0, .int .i64 0, .bool false, .int .u64 0, .int .i64 0, .int .i64 0, .int .i64 0, .int .i64 0, .bool false, .int .u64 0, .int .i64 0], .int .i64 (19)]) (by simp [results, Tryz.results7, go_sem, f0, f1, f2, f3, f4, f5, f6, f7, f8, f9, f10, f11]; try rfl) rfl ?_
      exact addD_same HDR.out HAd.out (by rw [gzero]) z4
  · have he' : (errV v != 0) = true := by simpa using he
    have HAd : Hid (addO S H L v = (none, errV v, L)) := by show _ = _; unfold addO; rw [if_neg he]
    clear he
    go_enter Tryz.func7, Tryz.ntmps7
    go_wp2_with (first
      | (go_at_call 26; refine HP.out.mono ?_; rintro e w1 ⟨⟨sx, rfl⟩, hb1⟩
         have KX := Lib.hid (Q1.out.below hb1 Q1.out.lt); have KB := Lib.hid (QB.out.trans (hb1.mono QB.out.size))
         have y0 := KX.out.cell 0; have y1 := KX.out.cell 1; have y2 := KX.out.cell 2; have y3 := KX.out.cell 3; have y4 := KX.out.cell 4; have y5 := KX.out.cell 5
         have y6 := KX.out.cell 6; have y7 := KX.out.cell 7; have y8 := KX.out.cell 8; have y9 := KX.out.cell 9; have y10 := KX.out.cell 10; have y11 := KX.out.cell 11
         simp at y0 y1 y2 y3 y4 y5 y6 y7 y8 y9 y10 y11
         have yf := KX.out.frozen
         clear hb1))
    have z1 := twelfth_blk KX.out (.int .i64 0) (.int .i64 0) (.int .i64 0) (.bool false) (.int .u64 0) (.int .i64 0) (.int .i64 0) (.int .i64 0) (.int .i64 0) (.bool false) (.int .u64 0) (.int .i64 0)
    have z2 := True.intro -- (.int .i64 0) (.int .i64 0) (.int .i64 0) (.bool false) (.int .u64 0) (.int .i64 0) (.int .i64 0) (.int .i64 0) (.int .i64 0) (.bool false) (.int .u64 0) (.int .i64 0)
    have z3 := True.intro -- (.int .i64 0) (.int .i64 0) (.int .i64 0) (.bool false) (.int .u64 0) (.int .i64 0) (.int .i64 0) (.int .i64 0) (.int .i64 0) (.bool false) (.int .u64 0) (.int .i64 0)
    have z4 := twelfth_below (g := w.heap.size + 1) KB.out (by omega) (.int .i64 0) (.int .i64 0) (.int .i64 0) (.bool false) (.int .u64 0) (.int .i64 0) (.int .i64 0) (.int .i64 0) (.int .i64 0) (.bool false) (.int .u64 0) (.int .i64 0)
    clear z2 z3
    unfold twelfth at z1 z4
    generalize hwf : World.setCell _ ⟨_, 11, none⟩ _ = wf at *
    clear hwf
    have f0 := z1.cell 0; have f1 := z1.cell 1; have f2 := z1.cell 2; have f3 := z1.cell 3; have f4 := z1.cell 4; have f5 := z1.cell 5
    have f6 := z1.cell 6; have f7 := z1.cell 7; have f8 := z1.cell 8; have f9 := z1.cell 9; have f10 := z1.cell 10; have f11 := z1.cell 11
    simp at f0 f1 f2 f3 f4 f5 f6 f7 f8 f9 f10 f11
    refine bodyPost_ret (v := .tuple #[.agg #[.int .i64 0, .int .i64 0, .int .i64 0, .bool false, .int .u64 0, .int .i64 0, .int .i64 0, .int .i64 0, .int .i64 0, .bool false, .int .u64 0, .int .i64 0], .int .i64 (errV v)]) (by simp [results, Tryz.results7, go_sem, f0, f1, f2, f3, f4, f5, f6, f7, f8, f9, f10, f11]; try rfl) rfl ?_
    exact addD_same HDR.out HAd.out (by rw [gzero]) z4
end Go.Proofs.YtkjhacfmidmebaaGreat
