/- The program's Add (6). -/
import Derived.Test.YtkjhacfmidmebaaGreatAddC0
namespace Go.Proofs.YtkjhacfmidmebaaGreat
open Go.RowKit

theorem err_fit {v : V} (h : errV v = 0) : Fit v.r ∧ Fit v.s ∧ Fit v.fr := by
  have hg : Good [(v.fr, 1)] v.h [v] := ⟨List.pairwise_singleton _ _, fun x hx => by rw [List.mem_singleton.1 hx]; exact ⟨h, rfl, by simp [hasS]⟩⟩
  have := good_fit hg (v := v) (by simp)
  exact ⟨this.1, this.2.1, this.2.2.1⟩

theorem Spots0.drew {w : World} {M : Nat} {H : Int} {L : List V} {O : List Sp} (h : Spots0 w M H L O) : Spots0 w.drew M H L O := ⟨h.map, h.spots, h.blocks, h.apart, h.fit, h.inner, h.all⟩
theorem Spots0.alloc {w : World} {M : Nat} {H : Int} {L : List V} {O : List Sp} (h : Spots0 w M H L O) (o : Obj) : Spots0 (w.alloc o) M H L O := by
  refine ⟨?_, h.spots, h.blocks, h.apart, h.fit, fun u hu => (h.inner u hu).kept (World.grownBy_alloc w o none) (by simp), h.all⟩
  obtain ⟨n, D, h1, h2, h3⟩ := h.map
  exact ⟨n, D, h1.alloc o, h2, h3⟩
/-- All that Add needs where the spot is there and the vote is not. -/
structure Mid (w0 w : World) (N C : Nat) (S : List Seat) (H : Int) (L : List V) (v : V) (As : Option Addr) (ns cs M : Nat) (O : List Sp) (o : Sp) (t8 : Nat) : Prop where
  blk : Blk w C 56 #[.slice As ns cs, .int .i64 H, .map (some M)]
  own : Own encS 2 53 w 0 As ns cs S
  sp : Spots0 w M H L O
  hM : N ≤ M
  hO : ∀ u ∈ O, N ≤ u.2.2
  oIn : o ∈ O
  o1 : o.1 = v.r
  o2 : o.2.1 = v.s
  full : ∀ u ∈ O, u.1 ≠ v.r ∨ u.2.1 ≠ v.s → L.filter (isAt u.1 u.2.1) ≠ []
  nos : ∀ x ∈ L, sameP x v = false
  bv : Blk w w0.heap.size 34 #[.int .i64 v.h, .int .i64 v.r, .int .i64 v.s, .bool v.has, .int .u64 v.blk, .int .i64 v.fr]
  bx : Blk w (w0.heap.size + 1) 36 #[.int .i64 0, .int .i64 0, .int .i64 0, .bool false, .int .u64 0, .int .i64 0, .int .i64 0, .int .i64 0, .int .i64 0, .bool false, .int .u64 0, .int .i64 0]
  bt : Blk w t8 61 #[.int .i64 v.h, .int .i64 v.r, .int .i64 v.s]
  km : MapsOnly w0 w
  kb : Below N w0 w
  big : w0.heap.size + 1 < w.heap.size
theorem Mid.drew {w0 w : World} {N C : Nat} {S : List Seat} {H : Int} {L : List V} {v : V} {As : Option Addr} {ns cs M : Nat} {O : List Sp} {o : Sp} {t8 : Nat} (h : Mid w0 w N C S H L v As ns cs M O o t8) : Mid w0 w.drew N C S H L v As ns cs M O o t8 :=
  ⟨h.blk, h.own, h.sp.drew, h.hM, h.hO, h.oIn, h.o1, h.o2, h.full, h.nos, h.bv, h.bx, h.bt, ⟨h.km.size, h.km.cells⟩, h.kb.drew, h.big⟩
theorem Mid.alloc {w0 w : World} {N C : Nat} {S : List Seat} {H : Int} {L : List V} {v : V} {As : Option Addr} {ns cs M : Nat} {O : List Sp} {o : Sp} {t8 : Nat} (h : Mid w0 w N C S H L v As ns cs M O o t8) (hN : N ≤ w0.heap.size) (ob : Obj) : Mid w0 (w.alloc ob) N C S H L v As ns cs M O o t8 :=
  ⟨h.blk.alloc ob, h.own.alloc ob, h.sp.alloc ob, h.hM, h.hO, h.oIn, h.o1, h.o2, h.full, h.nos, h.bv.alloc ob, h.bx.alloc ob, h.bt.alloc ob, h.km.trans (MapsOnly.below ((Below.refl _ _).alloc (Nat.le_refl _) ob)), h.kb.alloc (by have := h.big; omega) ob, by have := h.big; simp; omega⟩
/-- The look-ups. -/
theorem Mid.look {w0 w : World} {N C : Nat} {S : List Seat} {H : Int} {L : List V} {v : V} {As : Option Addr} {ns cs M : Nat} {O : List Sp} {o : Sp} {t8 : Nat} (h : Mid w0 w N C S H L v As ns cs M O o t8) (hH : v.h = H) (hf : Fit H ∧ Fit v.r ∧ Fit v.s) :
    (Instr.lookup 54 (.map (some M)) (.agg #[.int .i64 v.h, .int .i64 v.r, .int .i64 v.s]) false).run Tryz.prog w = .ok (.map (some o.2.2)) w := by
  obtain ⟨n, D, h1, h2, h3⟩ := h.sp.map
  have hkey := spot_key hf.1 hf.2.1 hf.2.2
  obtain ⟨x, ps, hrun, hv⟩ := World.ownsMap.lookup h1 Tryz.keyed61 Tryz.mapOuter (Tryz.zeroM _) (rfl : R0 (.map none) = some (.held (.map none), [])) hkey
  have hat : D.atKey (spotL H v.r v.s) (.held (.map none)) = .held (.map (some o.2.2)) := by
    have := h3.vals o h.oIn (.held (.map none))
    simp only [spKey, h.o1, h.o2, spVal] at this
    exact this
  rw [hat] at hv
  have := R0_inv hv
  simp at this
  rw [hH]
  unfold spotV at hrun
  rw [hrun, this]
theorem Mid.inner {w0 w : World} {N C : Nat} {S : List Seat} {H : Int} {L : List V} {v : V} {As : Option Addr} {ns cs M : Nat} {O : List Sp} {o : Sp} {t8 : Nat} (h : Mid w0 w N C S H L v As ns cs M O o t8) (hf : Fit v.fr) :
    (Instr.lookup 63 (.map (some o.2.2)) (.int .i64 v.fr) true).run Tryz.prog w = .ok (.tuple #[zeroVal, .bool false]) w := by
  obtain ⟨n, D, h1, h2, h3⟩ := h.sp.inner o h.oIn
  obtain ⟨x, ps, hrun, hv⟩ := World.ownsMap.look_ok h1 Tryz.keyed3 Tryz.mapInner (Tryz.zeroVt _) (rfl : R0 zeroVal = some (.held zeroVal, [])) (Maps.keyOf_int_mk Tryz.underlying3 hf)
  have hno : Maps.has D (.int .i64 v.fr) = false := by
    rcases hb : Maps.has D (.int .i64 v.fr) with _ | _
    · rfl
    · obtain ⟨u, hu, e⟩ := h3.only _ hb
      rw [List.mem_filter] at hu
      have h4 := h.nos u hu.1
      simp only [isAt, Bool.and_eq_true, beq_iff_eq, h.o1, h.o2] at hu
      rw [same_not] at h4
      exact absurd ⟨hu.2.1, hu.2.2, by simpa [frKey] using e.symm⟩ h4
  rw [hno] at hrun
  rw [Maps.atKey_of_not_has hno] at hv
  have := R0_inv hv
  simp at this
  rw [hrun, this]
/-- The vote laid. -/
theorem Mid.store {w0 w : World} {N C : Nat} {S : List Seat} {H : Int} {L : List V} {v : V} {As : Option Addr} {ns cs M : Nat} {O : List Sp} {o : Sp} {t8 : Nat} (h : Mid w0 w N C S H L v As ns cs M O o t8) (hf : Fit v.fr) (hL : L.length ≤ 4096) (hN : N ≤ w0.heap.size) :
    ∃ w', (Instr.mapUpdate 63 (.map (some o.2.2)) (.int .i64 v.fr) (vagg v)).run Tryz.prog w = .ok () w' ∧ CRepN w' N C S H (tk v L ++ v :: dr v L) ∧ MapsOnly w0 w' ∧ Below N w0 w' ∧ Blk w' (w0.heap.size + 1) 36 #[.int .i64 0, .int .i64 0, .int .i64 0, .bool false, .int .u64 0, .int .i64 0, .int .i64 0, .int .i64 0, .int .i64 0, .bool false, .int .u64 0, .int .i64 0] := by
  obtain ⟨n, D, h1, h2, h3⟩ := h.sp.inner o h.oIn
  have hl := List.length_filter_le (isAt o.1 o.2.1) L
  obtain ⟨w', hrun, hown, hg⟩ := World.ownsMap.update h1 Tryz.keyed3 Tryz.mapInner (by simp only [maxLen]; omega) (Maps.keyOf_int_mk Tryz.underlying3 hf) (rfl : R0 (vagg v) = some (.held (vagg v), []))
  obtain ⟨es, clock, hmap, _⟩ := id h1
  have hmo : MapsOnly w w' := MapsOnly.grown hg (fun r e => by injection e with e; subst e; exact ⟨_, _, hmap⟩)
  rw [h.o1, h.o2] at h2 h3
  have hsp := h.sp.vote h.full h.nos h.oIn h.o1 h.o2 n D h1 h2 h3 hown hg
  exact ⟨w', hrun, ⟨As, ns, cs, M, O, hmo.blk h.blk, hmo.own h.own, hsp, h.hM, h.hO⟩, h.km.trans hmo, h.kb.grown hg (Nat.le_trans hN h.km.size) (fun r e => by injection e with e; subst e; exact h.hO o h.oIn), hmo.blk h.bx⟩

set_option maxRecDepth 100000 in
set_option maxHeartbeats 12800000 in
theorem addC_ (N C : Nat) (S : List Seat) (H : Int) (L : List V) (v : V) (w : World) (h : CRepN w N C S H L) (hN : N ≤ w.heap.size) (hS : Bench S) (hG : Good S H L) (hH : Fit H) (hL : L.length ≤ 4096) :
    Calls Tryz.prog 6 #[.pointer (some ⟨C, 0, none⟩), vagg v] w (AddIs w N C S H L v) := by
  have HG := Lib.hid hG; have HH := Lib.hid hH
  obtain ⟨wa, hwa⟩ : ∃ wa, (w.alloc (.cells #[.int .i64 v.h, .int .i64 v.r, .int .i64 v.s, .bool v.has, .int .u64 v.blk, .int .i64 v.fr] 34)).alloc (.cells #[.int .i64 0, .int .i64 0, .int .i64 0, .bool false, .int .u64 0, .int .i64 0, .int .i64 0, .int .i64 0, .int .i64 0, .bool false, .int .u64 0, .int .i64 0] 36) = wa := ⟨_, rfl⟩
  have q0 := (Blk.new w 34 #[.int .i64 v.h, .int .i64 v.r, .int .i64 v.s, .bool v.has, .int .u64 v.blk, .int .i64 v.fr]).alloc (.cells #[.int .i64 0, .int .i64 0, .int .i64 0, .bool false, .int .u64 0, .int .i64 0, .int .i64 0, .int .i64 0, .int .i64 0, .bool false, .int .u64 0, .int .i64 0] 36)
  have q1 := Blk.new (w.alloc (.cells #[.int .i64 v.h, .int .i64 v.r, .int .i64 v.s, .bool v.has, .int .u64 v.blk, .int .i64 v.fr] 34)) 36 #[.int .i64 0, .int .i64 0, .int .i64 0, .bool false, .int .u64 0, .int .i64 0, .int .i64 0, .int .i64 0, .int .i64 0, .bool false, .int .u64 0, .int .i64 0]
  have qb : Below w.heap.size w ((w.alloc (.cells #[.int .i64 v.h, .int .i64 v.r, .int .i64 v.s, .bool v.has, .int .u64 v.blk, .int .i64 v.fr] 34)).alloc (.cells #[.int .i64 0, .int .i64 0, .int .i64 0, .bool false, .int .u64 0, .int .i64 0, .int .i64 0, .int .i64 0, .int .i64 0, .bool false, .int .u64 0, .int .i64 0] 36)) := ((Below.refl _ _).alloc (Nat.le_refl _) _).alloc (by simp) _
  rw [World.size_alloc] at q1
  rw [hwa] at q0 q1 qb
  have hp := putVote_any v wa
  have HP := Lib.hid hp
  have Q0 := Lib.hid q0; have Q1 := Lib.hid q1; have QB := Lib.hid qb; have HR := Lib.hid (h.below qb)
  have p0 := q0.cell 0; have p1 := q0.cell 1; have p2 := q0.cell 2; have p3 := q0.cell 3; have p4 := q0.cell 4; have p5 := q0.cell 5
  simp at p0 p1 p2 p3 p4 p5
  clear hp q0 q1 qb h hG hH
  unfold vagg
  by_cases he : errV v = 0
  · have he' : (errV v != 0) = false := by simp [he]
    have HE := Lib.hid he; clear he
    go_enter Tryz.func6, Tryz.ntmps6
    go_wp2_with (first
      | (go_at_call 23; refine HP.out.mono ?_; rintro e w1 ⟨⟨sx, rfl⟩, hb1⟩; have B1 := Lib.hid hb1; clear hb1))
    have R1 := Lib.hid (HR.out.below B1.out); have V1 := Lib.hid (Q0.out.below B1.out Q0.out.lt); have X1 := Lib.hid (Q1.out.below B1.out Q1.out.lt); have C1 := Lib.hid (QB.out.trans (B1.out.mono QB.out.size))
    clear hwa p0 p1 p2 p3 p4 p5
    refine wp_region_still_tail 6 (by kernel_rfl) (by kernel_rfl) ?_
    simp only [List.take_succ_cons, List.take_zero, List.drop_succ_cons, List.drop_zero]
    rw [drew_def]
    obtain ⟨w2, hw2⟩ : ∃ w2, w1.drew = w2 := ⟨_, rfl⟩
    rw [hw2]
    have R2 : Hid (CRepN w2 N C S H L) := by show CRepN w2 N C S H L; rw [← hw2]; exact R1.out.drew
    have V2 : Hid (Blk w2 w.heap.size 34 #[.int .i64 v.h, .int .i64 v.r, .int .i64 v.s, .bool v.has, .int .u64 v.blk, .int .i64 v.fr]) := by show Blk _ _ _ _; rw [← hw2]; exact V1.out
    have X2 : Hid (Blk w2 (w.heap.size + 1) 36 #[.int .i64 0, .int .i64 0, .int .i64 0, .bool false, .int .u64 0, .int .i64 0, .int .i64 0, .int .i64 0, .int .i64 0, .bool false, .int .u64 0, .int .i64 0]) := by show Blk _ _ _ _; rw [← hw2]; exact X1.out
    have C2 : Hid (Below w.heap.size w w2) := by show Below _ _ _; rw [← hw2]; exact C1.out.drew
    clear hw2 R1 V1 X1 C1 B1 w1
    obtain ⟨As, ns, cs, M, O, hblk, hown, hsp, hNM, hNO⟩ := id R2.out
    have v0 := V2.out.cell 0; have c1 := hblk.cell 1
    simp at v0 c1
    repeat still_step
    refine wpStill_nil ?_
    by_cases hh : v.h = H
    · have hh' : (v.h != H) = false := by simp [hh]
      have HHh := Lib.hid hh; clear hh v0 c1 hblk hown hsp hNM hNO
      go_wp2_with fail
      refine wp_region_still_tail 6 (by kernel_rfl) (by kernel_rfl) ?_
      simp only [List.take_succ_cons, List.take_zero, List.drop_succ_cons, List.drop_zero]
      rw [drew_def]
      obtain ⟨w3, hw3⟩ : ∃ w3, w2.drew = w3 := ⟨_, rfl⟩
      rw [hw3]
      have R3 : Hid (CRepN w3 N C S H L) := by show CRepN w3 N C S H L; rw [← hw3]; exact R2.out.drew
      have V3 : Hid (Blk w3 w.heap.size 34 #[.int .i64 v.h, .int .i64 v.r, .int .i64 v.s, .bool v.has, .int .u64 v.blk, .int .i64 v.fr]) := by show Blk _ _ _ _; rw [← hw3]; exact V2.out
      have X3 : Hid (Blk w3 (w.heap.size + 1) 36 #[.int .i64 0, .int .i64 0, .int .i64 0, .bool false, .int .u64 0, .int .i64 0, .int .i64 0, .int .i64 0, .int .i64 0, .bool false, .int .u64 0, .int .i64 0]) := by show Blk _ _ _ _; rw [← hw3]; exact X2.out
      have C3 : Hid (Below w.heap.size w w3) := by show Below _ _ _; rw [← hw3]; exact C2.out.drew
      clear hw3 R2 V2 X2 C2
      obtain ⟨As, ns, cs, M, O, hblk, hown, hsp, hNM, hNO⟩ := id R3.out
      have v5 := V3.out.cell 5; have c0 := hblk.cell 0
      simp at v5 c0
      repeat still_step
      refine wpStill_nil ?_
      have hHs := has_any As ns cs S v.fr w3 (hown.rd lenS) (by have := hown.1; have := hS.1; omega)
      rcases hb : hasS S v.fr with _ | _
      · rw [hb] at hHs
        have HHs := Lib.hid hHs; clear hHs
        have HAd : Hid (addO S H L v = (none, 17, L)) := by show _ = _; unfold addO; rw [if_pos HE.out, if_pos HHh.out, hb]; rfl
        have hRX := R3.out; have hXX := X3.out
        clear hb hblk hown hsp
        go_wp2_with (first
          | (go_at_call 24; refine HHs.out.mono ?_; rintro e w4 ⟨rfl, hb4⟩
             have KX := Lib.hid (X3.out.below hb4 X3.out.lt); have KR := Lib.hid (R3.out.below hb4); have KB0 := Lib.hid (C3.out.trans (hb4.mono C3.out.size))
             have y0 := KX.out.cell 0; have y1 := KX.out.cell 1; have y2 := KX.out.cell 2; have y3 := KX.out.cell 3; have y4 := KX.out.cell 4; have y5 := KX.out.cell 5
             have y6 := KX.out.cell 6; have y7 := KX.out.cell 7; have y8 := KX.out.cell 8; have y9 := KX.out.cell 9; have y10 := KX.out.cell 10; have y11 := KX.out.cell 11
             simp at y0 y1 y2 y3 y4 y5 y6 y7 y8 y9 y10 y11
             have yf := KX.out.frozen
             clear hb4))
        have KM := Lib.hid (MapsOnly.below KB0.out); have KB := Lib.hid (KB0.out.mono hN)
        have z1 := twelfth_blk KX.out (.int .i64 0) (.int .i64 0) (.int .i64 0) (.bool false) (.int .u64 0) (.int .i64 0) (.int .i64 0) (.int .i64 0) (.int .i64 0) (.bool false) (.int .u64 0) (.int .i64 0)
        have z2 := twelfth_rep KR.out KX.out (.int .i64 0) (.int .i64 0) (.int .i64 0) (.bool false) (.int .u64 0) (.int .i64 0) (.int .i64 0) (.int .i64 0) (.int .i64 0) (.bool false) (.int .u64 0) (.int .i64 0)
        have z3 := twelfth_maps (g := w.heap.size + 1) KM.out (by omega) (.int .i64 0) (.int .i64 0) (.int .i64 0) (.bool false) (.int .u64 0) (.int .i64 0) (.int .i64 0) (.int .i64 0) (.int .i64 0) (.bool false) (.int .u64 0) (.int .i64 0)
        have z4 := twelfth_below (g := w.heap.size + 1) KB.out (by omega) (.int .i64 0) (.int .i64 0) (.int .i64 0) (.bool false) (.int .u64 0) (.int .i64 0) (.int .i64 0) (.int .i64 0) (.int .i64 0) (.bool false) (.int .u64 0) (.int .i64 0)
        unfold twelfth at z1 z2 z3 z4
        generalize hwf : World.setCell _ ⟨_, 11, none⟩ _ = wf at *
        clear hwf
        have f0 := z1.cell 0; have f1 := z1.cell 1; have f2 := z1.cell 2; have f3 := z1.cell 3; have f4 := z1.cell 4; have f5 := z1.cell 5
        have f6 := z1.cell 6; have f7 := z1.cell 7; have f8 := z1.cell 8; have f9 := z1.cell 9; have f10 := z1.cell 10; have f11 := z1.cell 11
        simp at f0 f1 f2 f3 f4 f5 f6 f7 f8 f9 f10 f11
        refine bodyPost_ret (v := .tuple #[.agg #[.int .i64 0, .int .i64 0, .int .i64 0, .bool false, .int .u64 0, .int .i64 0, .int .i64 0, .int .i64 0, .int .i64 0, .bool false, .int .u64 0, .int .i64 0], .int .i64 (17)]) (by simp [results, Tryz.results6, go_sem, f0, f1, f2, f3, f4, f5, f6, f7, f8, f9, f10, f11]; try rfl) rfl ?_
        exact addIs_of HAd.out (by rw [gzero]) z2 z3 z4
      · rw [hb] at hHs
        have HHs := Lib.hid hHs; clear hHs
        have HHb := Lib.hid hb
        have hPl := fun W => place_any v W
        unfold vagg spotV at hPl
        have HPl := Lib.hid hPl
        clear hb hblk hown hsp hPl v5 c0
        go_wp2_with (first
          | (go_at_call 24; refine HHs.out.mono ?_; rintro e w4 ⟨rfl, hb4⟩
             have R4 := Lib.hid (R3.out.below hb4); have V4 := Lib.hid (V3.out.below hb4 V3.out.lt); have X4 := Lib.hid (X3.out.below hb4 X3.out.lt); have C4 := Lib.hid (C3.out.trans (hb4.mono C3.out.size))
             have p0 := V4.out.cell 0; have p1 := V4.out.cell 1; have p2 := V4.out.cell 2; have p3 := V4.out.cell 3; have p4 := V4.out.cell 4; have p5 := V4.out.cell 5
             simp at p0 p1 p2 p3 p4 p5
             clear hb4)
          | (go_at_call 25; refine (HPl.out _).mono ?_; rintro e w5 ⟨rfl, hb5⟩
             have R5 := Lib.hid (R4.out.below hb5); have V5 := Lib.hid (V4.out.below hb5 V4.out.lt); have X5 := Lib.hid (X4.out.below hb5 X4.out.lt); have C5 := Lib.hid (C4.out.trans (hb5.mono C4.out.size))
             clear hb5))
        obtain ⟨w6, hw6⟩ : ∃ w6, w5.alloc (.cells #[.int .i64 v.h, .int .i64 v.r, .int .i64 v.s] 61) = w6 := ⟨_, rfl⟩
        have hR6 := R5.out.below ((Below.refl _ _).alloc (Nat.le_refl _) (.cells #[.int .i64 v.h, .int .i64 v.r, .int .i64 v.s] 61))
        have hV6 := V5.out.alloc (.cells #[.int .i64 v.h, .int .i64 v.r, .int .i64 v.s] 61)
        have hX6 := X5.out.alloc (.cells #[.int .i64 v.h, .int .i64 v.r, .int .i64 v.s] 61)
        have hC6 := C5.out.alloc C5.out.size (.cells #[.int .i64 v.h, .int .i64 v.r, .int .i64 v.s] 61)
        have hT6 := Blk.new w5 61 #[.int .i64 v.h, .int .i64 v.r, .int .i64 v.s]
        rw [hw6] at hR6 hV6 hX6 hC6 hT6
        have R6 := Lib.hid hR6; have V6 := Lib.hid hV6; have X6 := Lib.hid hX6; have C6 := Lib.hid hC6; have T6 := Lib.hid hT6
        obtain ⟨t8, ht8⟩ : ∃ t8, t8 = w5.heap.size := ⟨_, rfl⟩
        rw [← ht8] at T6 ⊢
        have ht8b : w.heap.size ≤ t8 := by rw [ht8]; exact C5.out.size
        rw [hw6]
        clear hw6 hR6 hV6 hX6 hC6 hT6 R5 V5 X5 C5 R4 V4 X4 C4 p0 p1 p2 p3 p4 p5 HHs HPl
        clear ht8
        refine wp_region_still_tail 6 (by kernel_rfl) (by kernel_rfl) ?_
        simp only [List.take_succ_cons, List.take_zero, List.drop_succ_cons, List.drop_zero]
        rw [drew_def]
        obtain ⟨w7, hw7⟩ : ∃ w7, w6.drew = w7 := ⟨_, rfl⟩
        rw [hw7]
        have R7 : Hid (CRepN w7 N C S H L) := by show CRepN w7 N C S H L; rw [← hw7]; exact R6.out.drew
        have V7 : Hid (Blk w7 w.heap.size 34 #[.int .i64 v.h, .int .i64 v.r, .int .i64 v.s, .bool v.has, .int .u64 v.blk, .int .i64 v.fr]) := by show Blk _ _ _ _; rw [← hw7]; exact V6.out
        have X7 : Hid (Blk w7 (w.heap.size + 1) 36 #[.int .i64 0, .int .i64 0, .int .i64 0, .bool false, .int .u64 0, .int .i64 0, .int .i64 0, .int .i64 0, .int .i64 0, .bool false, .int .u64 0, .int .i64 0]) := by show Blk _ _ _ _; rw [← hw7]; exact X6.out
        have C7 : Hid (Below w.heap.size w w7) := by show Below _ _ _; rw [← hw7]; exact C6.out.drew
        have T7 : Hid (Blk w7 t8 61 #[.int .i64 v.h, .int .i64 v.r, .int .i64 v.s]) := by show Blk _ _ _ _; rw [← hw7]; exact T6.out
        clear hw7 R6 V6 X6 C6
        clear T6
        obtain ⟨As, ns, cs, M, O, hblk, hown, hsp, hNM, hNO⟩ := id R7.out
        have c2 := hblk.cell 2; have t0 := T7.out.cell 0; have t1 := T7.out.cell 1; have t2 := T7.out.cell 2
        simp at c2 t0 t1 t2
        have hf : Fit v.r ∧ Fit v.s ∧ Fit v.fr := err_fit HE.out
        have hkey := spot_key HH.out hf.1 hf.2.1
        rw [← HHh.out] at hkey
        obtain ⟨n, D, hmo, hn, hhD⟩ := hsp.map
        have hOl := sp_len hsp
        by_cases hin : ∃ x ∈ L, x.r = v.r ∧ x.s = v.s
        · obtain ⟨x0, hx0, hxr, hxs⟩ := hin
          obtain ⟨o, ho, ho1, ho2⟩ := hsp.all x0 hx0
          have hnl : ∀ (w : World) (r : Option Nat), (binOp .eql 63 (.map r) (.map none)).run Tryz.prog w = .ok (.bool r.isNone) w := fun w r => run_eql_map_nil w 63 3 34 r Tryz.mapInner
          have hla : (Instr.lookup 54 (.map (some M)) (.agg #[.int .i64 v.h, .int .i64 v.r, .int .i64 v.s]) false).run Tryz.prog w7 = .ok (.map (some o.2.2)) w7 := by
            obtain ⟨x, ps, hrun, hv⟩ := World.ownsMap.lookup hmo Tryz.keyed61 Tryz.mapOuter (Tryz.zeroM _) (rfl : R0 (.map none) = some (.held (.map none), [])) hkey
            have hat : D.atKey (spotL v.h v.r v.s) (.held (.map none)) = .held (.map (some o.2.2)) := by
              have := hhD.vals o ho (.held (.map none))
              simp only [spKey, ho1, ho2, hxr, hxs, spVal] at this
              rw [HHh.out]
              exact this
            rw [hat] at hv
            have := R0_inv hv
            simp at this
            unfold spotV at hrun
            rw [hrun, this]
          repeat still_step
          refine wpStill_nil ?_
          go_wp2_with fail
          clear hla
          by_cases hex : ∃ x ∈ L, sameP x v = true
          · have hex' := hex
            obtain ⟨x, hx, hsx⟩ := hex'
            have hxx := (same_iff _ _).1 hsx
            obtain ⟨hne1, n1, D1, hin1, hn1, hh1⟩ := hsp.inner o ho
            have hxm : x ∈ L.filter (isAt o.1 o.2.1) := List.mem_filter.2 ⟨hx, by simp [isAt, hxx.1, hxx.2.1, ho1, ho2, hxr, hxs]⟩
            have hkx : frKey x = .int .i64 v.fr := by simp [frKey, hxx.2.2]
            have hlook : ∀ W, W.ownsMap Tryz.prog 3 R0 o.2.2 n1 D1 → (Instr.lookup 63 (.map (some o.2.2)) (.int .i64 v.fr) true).run Tryz.prog W = .ok (.tuple #[vagg x, .bool true]) W := by
              intro W hW
              obtain ⟨y, ps, hrun, hv⟩ := World.ownsMap.look_ok hW Tryz.keyed3 Tryz.mapInner (Tryz.zeroVt _) (rfl : R0 zeroVal = some (.held zeroVal, [])) (Maps.keyOf_int_mk Tryz.underlying3 hf.2.2)
              have h1 := hh1.all x hxm
              have h2 := hh1.vals x hxm (.held zeroVal)
              rw [hkx] at h1 h2
              rw [h1] at hrun
              rw [h2] at hv
              have := R0_inv hv
              simp at this
              rw [hrun, this]
            have hloo : ∀ W, W.ownsMap Tryz.prog 61 R0 M n D → (Instr.lookup 54 (.map (some M)) (.agg #[.int .i64 v.h, .int .i64 v.r, .int .i64 v.s]) false).run Tryz.prog W = .ok (.map (some o.2.2)) W := by
              intro W hW
              obtain ⟨y, ps, hrun, hv⟩ := World.ownsMap.lookup hW Tryz.keyed61 Tryz.mapOuter (Tryz.zeroM _) (rfl : R0 (.map none) = some (.held (.map none), [])) hkey
              have hat : D.atKey (spotL v.h v.r v.s) (.held (.map none)) = .held (.map (some o.2.2)) := by
                have := hhD.vals o ho (.held (.map none))
                simp only [spKey, ho1, ho2, hxr, hxs, spVal] at this
                rw [HHh.out]
                exact this
              rw [hat] at hv
              have := R0_inv hv
              simp at this
              unfold spotV at hrun
              rw [hrun, this]
            have hla := hloo w7.drew hmo.drew
            have hli := hlook w7.drew hin1.drew
            have hlb := hloo (w7.alloc (.cells #[.int .i64 0, .int .i64 0, .int .i64 0, .bool false, .int .u64 0, .int .i64 0] 34)).drew (hmo.alloc _).drew
            have hlj := hlook (w7.alloc (.cells #[.int .i64 0, .int .i64 0, .int .i64 0, .bool false, .int .u64 0, .int .i64 0] 34)).drew (hin1.alloc _).drew
            unfold vagg at hli hlj
            have v5 := V7.out.cell 5
            simp at v5
            have l1 := hblk.lt; have l2 := T7.out.lt; have l3 := V7.out.lt
            have R8 := Lib.hid ((R7.out.below ((Below.refl _ _).alloc (Nat.le_refl _) (.cells #[.int .i64 x.h, .int .i64 x.r, .int .i64 x.s, .bool x.has, .int .u64 x.blk, .int .i64 x.fr] 34))).drew)
            have V8 := Lib.hid ((V7.out.alloc (.cells #[.int .i64 x.h, .int .i64 x.r, .int .i64 x.s, .bool x.has, .int .u64 x.blk, .int .i64 x.fr] 34)).drew)
            have X8 := Lib.hid ((X7.out.alloc (.cells #[.int .i64 x.h, .int .i64 x.r, .int .i64 x.s, .bool x.has, .int .u64 x.blk, .int .i64 x.fr] 34)).drew)
            have T9 := Lib.hid ((Blk.new w7 34 #[.int .i64 x.h, .int .i64 x.r, .int .i64 x.s, .bool x.has, .int .u64 x.blk, .int .i64 x.fr]).drew)
            have C8 := Lib.hid ((C7.out.alloc C7.out.size (.cells #[.int .i64 x.h, .int .i64 x.r, .int .i64 x.s, .bool x.has, .int .u64 x.blk, .int .i64 x.fr] 34)).drew)
            have hE := fun w => eqV_run x v w
            unfold vagg at hE
            have hgd := Tryz.guard34
            have HX := Lib.hid hx; have HSx := Lib.hid hsx
            clear hlook hloo hin1 hh1 hn1 hne1 hxm hkx hxx hx hsx hmo hhD hn hsp hblk hown
            go_region
            all_goals
              obtain ⟨wC, hwC⟩ : ∃ wC, (w7.alloc (.cells #[.int .i64 x.h, .int .i64 x.r, .int .i64 x.s, .bool x.has, .int .u64 x.blk, .int .i64 x.fr] 34)).drew = wC := ⟨_, rfl⟩
              obtain ⟨t9, ht9⟩ : ∃ t9, t9 = w7.heap.size := ⟨_, rfl⟩
              rw [hwC] at R8 V8 X8 T9 C8 ⊢
              rw [← ht9] at T9 ⊢
              clear hwC ht9 c2 t0 t1 t2 v5 hla hli hlb hlj l1 l2 l3 R7 V7 X7 T7 C7
              have u0 := T9.out.cell 0; have u1 := T9.out.cell 1; have u2 := T9.out.cell 2; have u3 := T9.out.cell 3; have u4 := T9.out.cell 4; have u5 := T9.out.cell 5
              have v0 := V8.out.cell 0; have v1 := V8.out.cell 1; have v2 := V8.out.cell 2; have v3 := V8.out.cell 3; have v4 := V8.out.cell 4; have v5 := V8.out.cell 5
              simp at u0 u1 u2 u3 u4 u5 v0 v1 v2 v3 v4 v5
              have KX := X8; have KR := R8; have KM := Lib.hid (MapsOnly.below C8.out); have KB := Lib.hid (C8.out.mono hN)
              by_cases hxv : x = v
              · have HAd : Hid (addO S H L v = (none, 31, L)) := by show _ = _; rw [addO_some HG.out.srt HE.out HHh.out HHb.out HX.out HSx.out, if_pos hxv]
                have hd : decide (x = v) = true := decide_eq_true hxv
                rw [hd] at hE
                clear hd hxv
                have y0 := KX.out.cell 0; have y1 := KX.out.cell 1; have y2 := KX.out.cell 2; have y3 := KX.out.cell 3; have y4 := KX.out.cell 4; have y5 := KX.out.cell 5
                have y6 := KX.out.cell 6; have y7 := KX.out.cell 7; have y8 := KX.out.cell 8; have y9 := KX.out.cell 9; have y10 := KX.out.cell 10; have y11 := KX.out.cell 11
                simp at y0 y1 y2 y3 y4 y5 y6 y7 y8 y9 y10 y11
                have yf := KX.out.frozen
                go_wp2
                have z1 := twelfth_blk KX.out (.int .i64 0) (.int .i64 0) (.int .i64 0) (.bool false) (.int .u64 0) (.int .i64 0) (.int .i64 0) (.int .i64 0) (.int .i64 0) (.bool false) (.int .u64 0) (.int .i64 0)
                have z2 := twelfth_rep KR.out KX.out (.int .i64 0) (.int .i64 0) (.int .i64 0) (.bool false) (.int .u64 0) (.int .i64 0) (.int .i64 0) (.int .i64 0) (.int .i64 0) (.bool false) (.int .u64 0) (.int .i64 0)
                have z3 := twelfth_maps (g := w.heap.size + 1) KM.out (by omega) (.int .i64 0) (.int .i64 0) (.int .i64 0) (.bool false) (.int .u64 0) (.int .i64 0) (.int .i64 0) (.int .i64 0) (.int .i64 0) (.bool false) (.int .u64 0) (.int .i64 0)
                have z4 := twelfth_below (g := w.heap.size + 1) KB.out (by omega) (.int .i64 0) (.int .i64 0) (.int .i64 0) (.bool false) (.int .u64 0) (.int .i64 0) (.int .i64 0) (.int .i64 0) (.int .i64 0) (.bool false) (.int .u64 0) (.int .i64 0)
                unfold twelfth at z1 z2 z3 z4
                generalize hwf : World.setCell _ ⟨_, 11, none⟩ _ = wf at *
                clear hwf
                have f0 := z1.cell 0; have f1 := z1.cell 1; have f2 := z1.cell 2; have f3 := z1.cell 3; have f4 := z1.cell 4; have f5 := z1.cell 5
                have f6 := z1.cell 6; have f7 := z1.cell 7; have f8 := z1.cell 8; have f9 := z1.cell 9; have f10 := z1.cell 10; have f11 := z1.cell 11
                simp at f0 f1 f2 f3 f4 f5 f6 f7 f8 f9 f10 f11
                refine bodyPost_ret (v := .tuple #[.agg #[.int .i64 0, .int .i64 0, .int .i64 0, .bool false, .int .u64 0, .int .i64 0, .int .i64 0, .int .i64 0, .int .i64 0, .bool false, .int .u64 0, .int .i64 0], .int .i64 (31)]) (by simp [results, Tryz.results6, go_sem, f0, f1, f2, f3, f4, f5, f6, f7, f8, f9, f10, f11]; try rfl) rfl ?_
                exact addIs_of HAd.out (by rw [gzero]) z2 z3 z4
              · have HAd : Hid (addO S H L v = (some x, 23, L)) := by show _ = _; rw [addO_some HG.out.srt HE.out HHh.out HHb.out HX.out HSx.out, if_neg hxv]
                have hd : decide (x = v) = false := decide_eq_false hxv
                rw [hd] at hE
                clear hd hxv
                have y0 := KX.out.cell 0; have y1 := KX.out.cell 1; have y2 := KX.out.cell 2; have y3 := KX.out.cell 3; have y4 := KX.out.cell 4; have y5 := KX.out.cell 5
                have y6 := KX.out.cell 6; have y7 := KX.out.cell 7; have y8 := KX.out.cell 8; have y9 := KX.out.cell 9; have y10 := KX.out.cell 10; have y11 := KX.out.cell 11
                simp at y0 y1 y2 y3 y4 y5 y6 y7 y8 y9 y10 y11
                have yf := KX.out.frozen
                go_wp2
                have z1 := twelfth_blk KX.out (.int .i64 x.h) (.int .i64 x.r) (.int .i64 x.s) (.bool x.has) (.int .u64 x.blk) (.int .i64 x.fr) (.int .i64 v.h) (.int .i64 v.r) (.int .i64 v.s) (.bool v.has) (.int .u64 v.blk) (.int .i64 v.fr)
                have z2 := twelfth_rep KR.out KX.out (.int .i64 x.h) (.int .i64 x.r) (.int .i64 x.s) (.bool x.has) (.int .u64 x.blk) (.int .i64 x.fr) (.int .i64 v.h) (.int .i64 v.r) (.int .i64 v.s) (.bool v.has) (.int .u64 v.blk) (.int .i64 v.fr)
                have z3 := twelfth_maps (g := w.heap.size + 1) KM.out (by omega) (.int .i64 x.h) (.int .i64 x.r) (.int .i64 x.s) (.bool x.has) (.int .u64 x.blk) (.int .i64 x.fr) (.int .i64 v.h) (.int .i64 v.r) (.int .i64 v.s) (.bool v.has) (.int .u64 v.blk) (.int .i64 v.fr)
                have z4 := twelfth_below (g := w.heap.size + 1) KB.out (by omega) (.int .i64 x.h) (.int .i64 x.r) (.int .i64 x.s) (.bool x.has) (.int .u64 x.blk) (.int .i64 x.fr) (.int .i64 v.h) (.int .i64 v.r) (.int .i64 v.s) (.bool v.has) (.int .u64 v.blk) (.int .i64 v.fr)
                unfold twelfth at z1 z2 z3 z4
                generalize hwf : World.setCell _ ⟨_, 11, none⟩ _ = wf at *
                clear hwf
                have f0 := z1.cell 0; have f1 := z1.cell 1; have f2 := z1.cell 2; have f3 := z1.cell 3; have f4 := z1.cell 4; have f5 := z1.cell 5
                have f6 := z1.cell 6; have f7 := z1.cell 7; have f8 := z1.cell 8; have f9 := z1.cell 9; have f10 := z1.cell 10; have f11 := z1.cell 11
                simp at f0 f1 f2 f3 f4 f5 f6 f7 f8 f9 f10 f11
                refine bodyPost_ret (v := .tuple #[.agg #[.int .i64 x.h, .int .i64 x.r, .int .i64 x.s, .bool x.has, .int .u64 x.blk, .int .i64 x.fr, .int .i64 v.h, .int .i64 v.r, .int .i64 v.s, .bool v.has, .int .u64 v.blk, .int .i64 v.fr], .int .i64 (23)]) (by simp [results, Tryz.results6, go_sem, f0, f1, f2, f3, f4, f5, f6, f7, f8, f9, f10, f11]; try rfl) rfl ?_
                exact addIs_of HAd.out rfl z2 z3 z4
          · have hno : ∀ x ∈ L, sameP x v = false := fun x hx => by
              rcases hb : sameP x v with _ | _
              · rfl
              · exact absurd ⟨x, hx, hb⟩ hex
            have MA : Hid (Mid w w7 N C S H L v As ns cs M O o t8) := ⟨hblk, hown, hsp.weak, hNM, hNO, ho, by rw [ho1, hxr], by rw [ho2, hxs], fun u hu _ => (hsp.inner u hu).1, hno, V7.out, X7.out, T7.out, MapsOnly.below C7.out, C7.out.mono hN, by have := X7.out.lt; omega⟩
            clear hno hex hblk hown hsp hNM hNO hmo hhD V7 X7 T7 C7 R7 c2 t0 t1 t2 hkey ho1 ho2 hxr hxs ho hx0
            have hMC := (MA.out.alloc hN (.cells #[.int .i64 0, .int .i64 0, .int .i64 0, .bool false, .int .u64 0, .int .i64 0] 34)).drew
            have hla : (Instr.lookup 54 (.map (some M)) (.agg #[.int .i64 v.h, .int .i64 v.r, .int .i64 v.s]) false).run Tryz.prog w7.drew = .ok (.map (some o.2.2)) w7.drew := MA.out.drew.look HHh.out ⟨HH.out, hf.1, hf.2.1⟩
            have hli : (Instr.lookup 63 (.map (some o.2.2)) (.int .i64 v.fr) true).run Tryz.prog w7.drew = .ok (.tuple #[zeroVal, .bool false]) w7.drew := MA.out.drew.inner hf.2.2
            have hlb : (Instr.lookup 54 (.map (some M)) (.agg #[.int .i64 v.h, .int .i64 v.r, .int .i64 v.s]) false).run Tryz.prog (w7.alloc (.cells #[.int .i64 0, .int .i64 0, .int .i64 0, .bool false, .int .u64 0, .int .i64 0] 34)).drew = .ok (.map (some o.2.2)) (w7.alloc (.cells #[.int .i64 0, .int .i64 0, .int .i64 0, .bool false, .int .u64 0, .int .i64 0] 34)).drew := hMC.look HHh.out ⟨HH.out, hf.1, hf.2.1⟩
            have hlj : (Instr.lookup 63 (.map (some o.2.2)) (.int .i64 v.fr) true).run Tryz.prog (w7.alloc (.cells #[.int .i64 0, .int .i64 0, .int .i64 0, .bool false, .int .u64 0, .int .i64 0] 34)).drew = .ok (.tuple #[zeroVal, .bool false]) (w7.alloc (.cells #[.int .i64 0, .int .i64 0, .int .i64 0, .bool false, .int .u64 0, .int .i64 0] 34)).drew := hMC.inner hf.2.2
            have c2 := MA.out.blk.cell 2; have t0 := MA.out.bt.cell 0; have t1 := MA.out.bt.cell 1; have t2 := MA.out.bt.cell 2; have v5 := MA.out.bv.cell 5
            have l1 := MA.out.blk.lt; have l2 := MA.out.bt.lt; have l3 := MA.out.bv.lt
            simp at c2 t0 t1 t2 v5
            unfold zeroVal at hli hlj
            have MC := Lib.hid hMC; clear hMC
            go_region
            all_goals
              go_wp2_with fail
              obtain ⟨wC, hwC⟩ : ∃ wC, (w7.alloc (.cells #[.int .i64 0, .int .i64 0, .int .i64 0, .bool false, .int .u64 0, .int .i64 0] 34)).drew = wC := ⟨_, rfl⟩
              have MX : Hid (Mid w wC N C S H L v As ns cs M O o t8) := by show Mid w wC N C S H L v As ns cs M O o t8; rw [← hwC]; exact MC.out
              rw [hwC]
              clear hwC MC MA c2 t0 t1 t2 v5 hla hli hlb hlj l1 l2 l3
              have MC := MX
              clear MX
              have hla : (Instr.lookup 54 (.map (some M)) (.agg #[.int .i64 v.h, .int .i64 v.r, .int .i64 v.s]) false).run Tryz.prog wC.drew = .ok (.map (some o.2.2)) wC.drew := MC.out.drew.look HHh.out ⟨HH.out, hf.1, hf.2.1⟩
              refine wp_region_still_tail 9 (by kernel_rfl) (by kernel_rfl) ?_
              simp only [List.take_succ_cons, List.take_zero, List.drop_succ_cons, List.drop_zero]
              rw [drew_def]
              obtain ⟨wD, hwD⟩ : ∃ wD, wC.drew = wD := ⟨_, rfl⟩
              have MD : Hid (Mid w wD N C S H L v As ns cs M O o t8) := by show Mid w wD N C S H L v As ns cs M O o t8; rw [← hwD]; exact MC.out.drew
              rw [hwD] at hla ⊢
              clear hwD MC
              have c2 := MD.out.blk.cell 2; have t0 := MD.out.bt.cell 0; have t1 := MD.out.bt.cell 1; have t2 := MD.out.bt.cell 2
              have v0 := MD.out.bv.cell 0; have v1 := MD.out.bv.cell 1; have v2 := MD.out.bv.cell 2; have v3 := MD.out.bv.cell 3; have v4 := MD.out.bv.cell 4; have v5 := MD.out.bv.cell 5
              simp at c2 t0 t1 t2 v0 v1 v2 v3 v4 v5
              obtain ⟨wE, hrun, hRE, hME, hBE, hXE⟩ := MD.out.store hf.2.2 hL hN
              unfold vagg at hrun
              have HAd : Hid (addO S H L v = (none, 0, tk v L ++ v :: dr v L)) := addO_none HE.out HHh.out HHb.out MD.out.nos
              have KR := Lib.hid hRE; have KM := Lib.hid hME; have KB := Lib.hid hBE; have KX := Lib.hid hXE
              clear hRE hME hBE hXE
              have y0 := KX.out.cell 0; have y1 := KX.out.cell 1; have y2 := KX.out.cell 2; have y3 := KX.out.cell 3; have y4 := KX.out.cell 4; have y5 := KX.out.cell 5
              have y6 := KX.out.cell 6; have y7 := KX.out.cell 7; have y8 := KX.out.cell 8; have y9 := KX.out.cell 9; have y10 := KX.out.cell 10; have y11 := KX.out.cell 11
              simp at y0 y1 y2 y3 y4 y5 y6 y7 y8 y9 y10 y11
              have yf := KX.out.frozen
              repeat still_step
              refine wpStill_nil ?_
              go_wp2
              have z1 := twelfth_blk KX.out (.int .i64 0) (.int .i64 0) (.int .i64 0) (.bool false) (.int .u64 0) (.int .i64 0) (.int .i64 0) (.int .i64 0) (.int .i64 0) (.bool false) (.int .u64 0) (.int .i64 0)
              have z2 := twelfth_rep KR.out KX.out (.int .i64 0) (.int .i64 0) (.int .i64 0) (.bool false) (.int .u64 0) (.int .i64 0) (.int .i64 0) (.int .i64 0) (.int .i64 0) (.bool false) (.int .u64 0) (.int .i64 0)
              have z3 := twelfth_maps (g := w.heap.size + 1) KM.out (by omega) (.int .i64 0) (.int .i64 0) (.int .i64 0) (.bool false) (.int .u64 0) (.int .i64 0) (.int .i64 0) (.int .i64 0) (.int .i64 0) (.bool false) (.int .u64 0) (.int .i64 0)
              have z4 := twelfth_below (g := w.heap.size + 1) KB.out (by omega) (.int .i64 0) (.int .i64 0) (.int .i64 0) (.bool false) (.int .u64 0) (.int .i64 0) (.int .i64 0) (.int .i64 0) (.int .i64 0) (.bool false) (.int .u64 0) (.int .i64 0)
              unfold twelfth at z1 z2 z3 z4
              generalize hwf : World.setCell _ ⟨_, 11, none⟩ _ = wf at *
              clear hwf
              have f0 := z1.cell 0; have f1 := z1.cell 1; have f2 := z1.cell 2; have f3 := z1.cell 3; have f4 := z1.cell 4; have f5 := z1.cell 5
              have f6 := z1.cell 6; have f7 := z1.cell 7; have f8 := z1.cell 8; have f9 := z1.cell 9; have f10 := z1.cell 10; have f11 := z1.cell 11
              simp at f0 f1 f2 f3 f4 f5 f6 f7 f8 f9 f10 f11
              refine bodyPost_ret (v := .tuple #[.agg #[.int .i64 0, .int .i64 0, .int .i64 0, .bool false, .int .u64 0, .int .i64 0, .int .i64 0, .int .i64 0, .int .i64 0, .bool false, .int .u64 0, .int .i64 0], .int .i64 (0)]) (by simp [results, Tryz.results6, go_sem, f0, f1, f2, f3, f4, f5, f6, f7, f8, f9, f10, f11]; try rfl) rfl ?_
              exact addIs_of HAd.out (by rw [gzero]) z2 z3 z4
        · have hnoat : ∀ x ∈ L, isAt v.r v.s x = false := fun x hx => by
            simp only [isAt, Bool.and_eq_false_iff, beq_eq_false_iff_ne]
            by_cases e : x.r = v.r
            · exact .inr fun e2 => hin ⟨x, hx, e, e2⟩
            · exact .inl e
          have hnos : ∀ x ∈ L, sameP x v = false := fun x hx => by
            rw [same_not]
            exact fun e => hin ⟨x, hx, e.1, e.2.1⟩
          have hnl : ∀ (w : World) (r : Option Nat), (binOp .eql 63 (.map r) (.map none)).run Tryz.prog w = .ok (.bool r.isNone) w := fun w r => run_eql_map_nil w 63 3 34 r Tryz.mapInner
          have hhas : Maps.has D (spotL v.h v.r v.s) = false := by
            rcases hb : Maps.has D (spotL v.h v.r v.s) with _ | _
            · rfl
            · obtain ⟨o, ho, e⟩ := hhD.only _ hb
              obtain ⟨f1, f2⟩ := hsp.fit o ho
              rw [HHh.out] at e
              obtain ⟨_, e1, e2⟩ := spot_inj HH.out hf.1 hf.2.1 HH.out f1 f2 e
              exact absurd (List.filter_eq_nil_iff.2 fun x hx => by rw [← e1, ← e2, hnoat x hx]; simp) (hsp.inner o ho).1
          have hla : (Instr.lookup 54 (.map (some M)) (.agg #[.int .i64 v.h, .int .i64 v.r, .int .i64 v.s]) false).run Tryz.prog w7 = .ok (.map none) w7 := by
            obtain ⟨x, ps, hrun, hv⟩ := World.ownsMap.lookup hmo Tryz.keyed61 Tryz.mapOuter (Tryz.zeroM _) (rfl : R0 (.map none) = some (.held (.map none), [])) hkey
            rw [Maps.atKey_of_not_has hhas] at hv
            have := R0_inv hv
            simp at this
            unfold spotV at hrun
            rw [hrun, this]
          repeat still_step
          refine wpStill_nil ?_
          go_wp2_with fail
          clear hla
          have hm1 : ((w7.alloc (.map #[] 0)).drew).ownsMap Tryz.prog 61 R0 M n D := (hmo.alloc _).drew
          obtain ⟨w9, hrun, hown9, hg9⟩ := World.ownsMap.update hm1 Tryz.keyed61 Tryz.mapOuter (by simp only [maxLen]; omega) hkey (rfl : R0 (.map (some w7.heap.size)) = some (.held (.map (some w7.heap.size)), []))
          unfold spotV at hrun
          have hmk : ∀ w : World, (Instr.makeMap 63 none).run Tryz.prog w = .ok (.map (some w.heap.size)) (w.alloc (.map #[] 0)) := fun _ => rfl
          have hspd : Spots w7.drew M H L O := ⟨hsp.map, hsp.spots, hsp.blocks, hsp.apart, hsp.fit, hsp.inner, hsp.all⟩
          rw [HHh.out] at hown9
          have hnew := hspd.newspot (by simp only [maxLen]; omega) hf.1 hf.2.1 HH.out hnoat w7.heap.size rfl (w1 := (w7.alloc (.map #[] 0)).drew) rfl n D hmo.drew hn hhD hown9 hg9
          obtain ⟨es9, clock9, hmap9, _⟩ := id hm1
          have hmo9 : MapsOnly w7 w9 := (MapsOnly.below (((Below.refl w7.heap.size w7).alloc (Nat.le_refl _) (.map #[] 0)).drew)).trans (MapsOnly.grown hg9 (fun r e => by injection e with e; subst e; exact ⟨_, _, hmap9⟩))
          obtain ⟨O9, hO9⟩ : ∃ O9, O9 = O ++ [(v.r, v.s, w7.heap.size)] := ⟨_, rfl⟩
          obtain ⟨o9, ho9⟩ : ∃ o9 : Sp, o9 = (v.r, v.s, w7.heap.size) := ⟨_, rfl⟩
          have MA : Hid (Mid w w9 N C S H L v As ns cs M O9 o9 t8) := by
            show Mid w w9 N C S H L v As ns cs M O9 o9 t8
            rw [hO9, ho9]
            refine ⟨hmo9.blk hblk, hmo9.own hown, hnew, hNM, ?_, by simp, rfl, rfl, ?_, hnos, hmo9.blk V7.out, hmo9.blk X7.out, hmo9.blk T7.out, (MapsOnly.below C7.out).trans hmo9, ?_, ?_⟩
            · intro u hu
              rcases List.mem_append.1 hu with hu | hu
              · exact hNO u hu
              · rw [List.mem_singleton.1 hu]; exact Nat.le_trans hN C7.out.size
            · intro u hu hne
              rcases List.mem_append.1 hu with hu | hu
              · exact (hsp.inner u hu).1
              · rw [List.mem_singleton.1 hu] at hne; rcases hne with hne | hne <;> exact absurd rfl hne
            · exact (((C7.out.mono hN).alloc (Nat.le_trans hN C7.out.size) (.map #[] 0)).drew).grown hg9 (by have := C7.out.size; show N ≤ (w7.alloc (.map #[] 0)).heap.size; rw [World.size_alloc]; omega) (fun r e => by injection e with e; subst e; exact hNM)
            · have := X7.out.lt; have := hmo9.size; omega
          have l1 := hblk.lt; have l2 := T7.out.lt; have l3 := V7.out.lt
          clear hnoat hnos hhas hin hm1 hown9 hg9 hspd hnew hmap9 hmo9 hO9 ho9 hhD hmo hsp hn hOl hNM hNO hown hblk hkey
          go_region
          all_goals
            go_wp2_with fail
            clear hrun l1 l2 l3 c2 t0 t1 t2 V7 X7 T7 C7 R7 hmk
            have hMC := (MA.out.alloc hN (.cells #[.int .i64 0, .int .i64 0, .int .i64 0, .bool false, .int .u64 0, .int .i64 0] 34)).drew
            have hla : (Instr.lookup 54 (.map (some M)) (.agg #[.int .i64 v.h, .int .i64 v.r, .int .i64 v.s]) false).run Tryz.prog w9.drew = .ok (.map (some o9.2.2)) w9.drew := MA.out.drew.look HHh.out ⟨HH.out, hf.1, hf.2.1⟩
            have hli : (Instr.lookup 63 (.map (some o9.2.2)) (.int .i64 v.fr) true).run Tryz.prog w9.drew = .ok (.tuple #[zeroVal, .bool false]) w9.drew := MA.out.drew.inner hf.2.2
            have hlb : (Instr.lookup 54 (.map (some M)) (.agg #[.int .i64 v.h, .int .i64 v.r, .int .i64 v.s]) false).run Tryz.prog (w9.alloc (.cells #[.int .i64 0, .int .i64 0, .int .i64 0, .bool false, .int .u64 0, .int .i64 0] 34)).drew = .ok (.map (some o9.2.2)) (w9.alloc (.cells #[.int .i64 0, .int .i64 0, .int .i64 0, .bool false, .int .u64 0, .int .i64 0] 34)).drew := hMC.look HHh.out ⟨HH.out, hf.1, hf.2.1⟩
            have hlj : (Instr.lookup 63 (.map (some o9.2.2)) (.int .i64 v.fr) true).run Tryz.prog (w9.alloc (.cells #[.int .i64 0, .int .i64 0, .int .i64 0, .bool false, .int .u64 0, .int .i64 0] 34)).drew = .ok (.tuple #[zeroVal, .bool false]) (w9.alloc (.cells #[.int .i64 0, .int .i64 0, .int .i64 0, .bool false, .int .u64 0, .int .i64 0] 34)).drew := hMC.inner hf.2.2
            have c2 := MA.out.blk.cell 2; have t0 := MA.out.bt.cell 0; have t1 := MA.out.bt.cell 1; have t2 := MA.out.bt.cell 2; have v5 := MA.out.bv.cell 5
            have l1 := MA.out.blk.lt; have l2 := MA.out.bt.lt; have l3 := MA.out.bv.lt
            simp at c2 t0 t1 t2 v5
            unfold zeroVal at hli hlj
            have MC := Lib.hid hMC; clear hMC
            go_region
            all_goals
              go_wp2_with fail
              obtain ⟨wC, hwC⟩ : ∃ wC, (w9.alloc (.cells #[.int .i64 0, .int .i64 0, .int .i64 0, .bool false, .int .u64 0, .int .i64 0] 34)).drew = wC := ⟨_, rfl⟩
              have MX : Hid (Mid w wC N C S H L v As ns cs M O9 o9 t8) := by show Mid w wC N C S H L v As ns cs M O9 o9 t8; rw [← hwC]; exact MC.out
              rw [hwC]
              clear hwC MC MA c2 t0 t1 t2 v5 hla hli hlb hlj l1 l2 l3
              have MC := MX
              clear MX
              have hla : (Instr.lookup 54 (.map (some M)) (.agg #[.int .i64 v.h, .int .i64 v.r, .int .i64 v.s]) false).run Tryz.prog wC.drew = .ok (.map (some o9.2.2)) wC.drew := MC.out.drew.look HHh.out ⟨HH.out, hf.1, hf.2.1⟩
              refine wp_region_still_tail 9 (by kernel_rfl) (by kernel_rfl) ?_
              simp only [List.take_succ_cons, List.take_zero, List.drop_succ_cons, List.drop_zero]
              rw [drew_def]
              obtain ⟨wD, hwD⟩ : ∃ wD, wC.drew = wD := ⟨_, rfl⟩
              have MD : Hid (Mid w wD N C S H L v As ns cs M O9 o9 t8) := by show Mid w wD N C S H L v As ns cs M O9 o9 t8; rw [← hwD]; exact MC.out.drew
              rw [hwD] at hla ⊢
              clear hwD MC
              have c2 := MD.out.blk.cell 2; have t0 := MD.out.bt.cell 0; have t1 := MD.out.bt.cell 1; have t2 := MD.out.bt.cell 2
              have v0 := MD.out.bv.cell 0; have v1 := MD.out.bv.cell 1; have v2 := MD.out.bv.cell 2; have v3 := MD.out.bv.cell 3; have v4 := MD.out.bv.cell 4; have v5 := MD.out.bv.cell 5
              simp at c2 t0 t1 t2 v0 v1 v2 v3 v4 v5
              obtain ⟨wE, hrun, hRE, hME, hBE, hXE⟩ := MD.out.store hf.2.2 hL hN
              unfold vagg at hrun
              have HAd : Hid (addO S H L v = (none, 0, tk v L ++ v :: dr v L)) := addO_none HE.out HHh.out HHb.out MD.out.nos
              have KR := Lib.hid hRE; have KM := Lib.hid hME; have KB := Lib.hid hBE; have KX := Lib.hid hXE
              clear hRE hME hBE hXE
              have y0 := KX.out.cell 0; have y1 := KX.out.cell 1; have y2 := KX.out.cell 2; have y3 := KX.out.cell 3; have y4 := KX.out.cell 4; have y5 := KX.out.cell 5
              have y6 := KX.out.cell 6; have y7 := KX.out.cell 7; have y8 := KX.out.cell 8; have y9 := KX.out.cell 9; have y10 := KX.out.cell 10; have y11 := KX.out.cell 11
              simp at y0 y1 y2 y3 y4 y5 y6 y7 y8 y9 y10 y11
              have yf := KX.out.frozen
              repeat still_step
              refine wpStill_nil ?_
              go_wp2
              have z1 := twelfth_blk KX.out (.int .i64 0) (.int .i64 0) (.int .i64 0) (.bool false) (.int .u64 0) (.int .i64 0) (.int .i64 0) (.int .i64 0) (.int .i64 0) (.bool false) (.int .u64 0) (.int .i64 0)
              have z2 := twelfth_rep KR.out KX.out (.int .i64 0) (.int .i64 0) (.int .i64 0) (.bool false) (.int .u64 0) (.int .i64 0) (.int .i64 0) (.int .i64 0) (.int .i64 0) (.bool false) (.int .u64 0) (.int .i64 0)
              have z3 := twelfth_maps (g := w.heap.size + 1) KM.out (by omega) (.int .i64 0) (.int .i64 0) (.int .i64 0) (.bool false) (.int .u64 0) (.int .i64 0) (.int .i64 0) (.int .i64 0) (.int .i64 0) (.bool false) (.int .u64 0) (.int .i64 0)
              have z4 := twelfth_below (g := w.heap.size + 1) KB.out (by omega) (.int .i64 0) (.int .i64 0) (.int .i64 0) (.bool false) (.int .u64 0) (.int .i64 0) (.int .i64 0) (.int .i64 0) (.int .i64 0) (.bool false) (.int .u64 0) (.int .i64 0)
              unfold twelfth at z1 z2 z3 z4
              generalize hwf : World.setCell _ ⟨_, 11, none⟩ _ = wf at *
              clear hwf
              have f0 := z1.cell 0; have f1 := z1.cell 1; have f2 := z1.cell 2; have f3 := z1.cell 3; have f4 := z1.cell 4; have f5 := z1.cell 5
              have f6 := z1.cell 6; have f7 := z1.cell 7; have f8 := z1.cell 8; have f9 := z1.cell 9; have f10 := z1.cell 10; have f11 := z1.cell 11
              simp at f0 f1 f2 f3 f4 f5 f6 f7 f8 f9 f10 f11
              refine bodyPost_ret (v := .tuple #[.agg #[.int .i64 0, .int .i64 0, .int .i64 0, .bool false, .int .u64 0, .int .i64 0, .int .i64 0, .int .i64 0, .int .i64 0, .bool false, .int .u64 0, .int .i64 0], .int .i64 (0)]) (by simp [results, Tryz.results6, go_sem, f0, f1, f2, f3, f4, f5, f6, f7, f8, f9, f10, f11]; try rfl) rfl ?_
              exact addIs_of HAd.out (by rw [gzero]) z2 z3 z4

    · have hh' : (v.h != H) = true := by simpa using hh
      have KX := X2; have KR := R2; have KM := Lib.hid (MapsOnly.below C2.out); have KB := Lib.hid (C2.out.mono hN)
      have HAd : Hid (addO S H L v = (none, 19, L)) := by show _ = _; unfold addO; rw [if_pos HE.out, if_neg hh]
      clear hh
      have y0 := KX.out.cell 0; have y1 := KX.out.cell 1; have y2 := KX.out.cell 2; have y3 := KX.out.cell 3; have y4 := KX.out.cell 4; have y5 := KX.out.cell 5
      have y6 := KX.out.cell 6; have y7 := KX.out.cell 7; have y8 := KX.out.cell 8; have y9 := KX.out.cell 9; have y10 := KX.out.cell 10; have y11 := KX.out.cell 11
      simp at y0 y1 y2 y3 y4 y5 y6 y7 y8 y9 y10 y11
      have yf := KX.out.frozen
      go_wp2
      have z1 := twelfth_blk KX.out (.int .i64 0) (.int .i64 0) (.int .i64 0) (.bool false) (.int .u64 0) (.int .i64 0) (.int .i64 0) (.int .i64 0) (.int .i64 0) (.bool false) (.int .u64 0) (.int .i64 0)
      have z2 := twelfth_rep KR.out KX.out (.int .i64 0) (.int .i64 0) (.int .i64 0) (.bool false) (.int .u64 0) (.int .i64 0) (.int .i64 0) (.int .i64 0) (.int .i64 0) (.bool false) (.int .u64 0) (.int .i64 0)
      have z3 := twelfth_maps (g := w.heap.size + 1) KM.out (by omega) (.int .i64 0) (.int .i64 0) (.int .i64 0) (.bool false) (.int .u64 0) (.int .i64 0) (.int .i64 0) (.int .i64 0) (.int .i64 0) (.bool false) (.int .u64 0) (.int .i64 0)
      have z4 := twelfth_below (g := w.heap.size + 1) KB.out (by omega) (.int .i64 0) (.int .i64 0) (.int .i64 0) (.bool false) (.int .u64 0) (.int .i64 0) (.int .i64 0) (.int .i64 0) (.int .i64 0) (.bool false) (.int .u64 0) (.int .i64 0)
      unfold twelfth at z1 z2 z3 z4
      generalize hwf : World.setCell _ ⟨_, 11, none⟩ _ = wf at *
      clear hwf
      have f0 := z1.cell 0; have f1 := z1.cell 1; have f2 := z1.cell 2; have f3 := z1.cell 3; have f4 := z1.cell 4; have f5 := z1.cell 5
      have f6 := z1.cell 6; have f7 := z1.cell 7; have f8 := z1.cell 8; have f9 := z1.cell 9; have f10 := z1.cell 10; have f11 := z1.cell 11
      simp at f0 f1 f2 f3 f4 f5 f6 f7 f8 f9 f10 f11
      refine bodyPost_ret (v := .tuple #[.agg #[.int .i64 0, .int .i64 0, .int .i64 0, .bool false, .int .u64 0, .int .i64 0, .int .i64 0, .int .i64 0, .int .i64 0, .bool false, .int .u64 0, .int .i64 0], .int .i64 (19)]) (by simp [results, Tryz.results6, go_sem, f0, f1, f2, f3, f4, f5, f6, f7, f8, f9, f10, f11]; try rfl) rfl ?_
      exact addIs_of HAd.out (by rw [gzero]) z2 z3 z4
  · have he' : (errV v != 0) = true := by simpa using he
    have HAd : Hid (addO S H L v = (none, errV v, L)) := by show _ = _; unfold addO; rw [if_neg he]
    clear he
    go_enter Tryz.func6, Tryz.ntmps6
    go_wp2_with (first
      | (go_at_call 23; refine HP.out.mono ?_; rintro e w1 ⟨⟨sx, rfl⟩, hb1⟩; have B1 := Lib.hid hb1
         have KX := Lib.hid (Q1.out.below hb1 Q1.out.lt); have KR := Lib.hid (HR.out.below hb1); have KB0 := Lib.hid (QB.out.trans (hb1.mono QB.out.size))
         have y0 := KX.out.cell 0; have y1 := KX.out.cell 1; have y2 := KX.out.cell 2; have y3 := KX.out.cell 3; have y4 := KX.out.cell 4; have y5 := KX.out.cell 5
         have y6 := KX.out.cell 6; have y7 := KX.out.cell 7; have y8 := KX.out.cell 8; have y9 := KX.out.cell 9; have y10 := KX.out.cell 10; have y11 := KX.out.cell 11
         simp at y0 y1 y2 y3 y4 y5 y6 y7 y8 y9 y10 y11
         have yf := KX.out.frozen
         clear hb1))
    have KM := Lib.hid (MapsOnly.below KB0.out); have KB := Lib.hid (KB0.out.mono hN)
    have z1 := twelfth_blk KX.out (.int .i64 0) (.int .i64 0) (.int .i64 0) (.bool false) (.int .u64 0) (.int .i64 0) (.int .i64 0) (.int .i64 0) (.int .i64 0) (.bool false) (.int .u64 0) (.int .i64 0)
    have z2 := twelfth_rep KR.out KX.out (.int .i64 0) (.int .i64 0) (.int .i64 0) (.bool false) (.int .u64 0) (.int .i64 0) (.int .i64 0) (.int .i64 0) (.int .i64 0) (.bool false) (.int .u64 0) (.int .i64 0)
    have z3 := twelfth_maps (g := w.heap.size + 1) KM.out (by omega) (.int .i64 0) (.int .i64 0) (.int .i64 0) (.bool false) (.int .u64 0) (.int .i64 0) (.int .i64 0) (.int .i64 0) (.int .i64 0) (.bool false) (.int .u64 0) (.int .i64 0)
    have z4 := twelfth_below (g := w.heap.size + 1) KB.out (by omega) (.int .i64 0) (.int .i64 0) (.int .i64 0) (.bool false) (.int .u64 0) (.int .i64 0) (.int .i64 0) (.int .i64 0) (.int .i64 0) (.bool false) (.int .u64 0) (.int .i64 0)
    unfold twelfth at z1 z2 z3 z4
    generalize hwf : World.setCell _ ⟨_, 11, none⟩ _ = wf at *
    clear hwf
    have f0 := z1.cell 0; have f1 := z1.cell 1; have f2 := z1.cell 2; have f3 := z1.cell 3; have f4 := z1.cell 4; have f5 := z1.cell 5
    have f6 := z1.cell 6; have f7 := z1.cell 7; have f8 := z1.cell 8; have f9 := z1.cell 9; have f10 := z1.cell 10; have f11 := z1.cell 11
    simp at f0 f1 f2 f3 f4 f5 f6 f7 f8 f9 f10 f11
    refine bodyPost_ret (v := .tuple #[.agg #[.int .i64 0, .int .i64 0, .int .i64 0, .bool false, .int .u64 0, .int .i64 0, .int .i64 0, .int .i64 0, .int .i64 0, .bool false, .int .u64 0, .int .i64 0], .int .i64 (errV v)]) (by simp [results, Tryz.results6, go_sem, f0, f1, f2, f3, f4, f5, f6, f7, f8, f9, f10, f11]; try rfl) rfl ?_
    exact addIs_of HAd.out (by rw [gzero]) z2 z3 z4
end Go.Proofs.YtkjhacfmidmebaaGreat
