/- The votes' order as the program compares it (30), cmp.Or (31). -/
import Derived.Test.YtkjhacfmidmebaaGreatShelfV
import Derived.Test.YtkjhacfmidmebaaGreatApp
import Derived.Test.YtkjhacfmidmebaaGreatPlain1
import Derived.StillTailTactics
namespace Go.Proofs.YtkjhacfmidmebaaGreat
open Go.RowKit Go.Sort

def or3 (a b c : Int) : Int := if a != 0 then a else if b != 0 then b else c

theorem or3_any (a b c : Int) (A : Option Addr) (cap : Nat) (w : World) (B : Nat) (h : Rd encI 1 w B A 3 [a, b, c]) :
    Calls Tryz.prog 31 #[.slice A 3 cap] w fun e w' => e = .returned (.int .i64 (or3 a b c)) ∧ w' = w := by
  obtain ⟨b0, off, rfl, _, h0⟩ := rd_int h (i := 0) (by simp)
  obtain ⟨_, _, hA1, _, h1⟩ := rd_int h (i := 1) (by simp)
  obtain ⟨_, _, hA2, _, h2⟩ := rd_int h (i := 2) (by simp)
  injection hA1 with hA1; injection hA1 with e1 e2; subst e1 e2
  injection hA2 with hA2; injection hA2 with e1 e2; subst e1 e2
  simp at h0 h1 h2
  by_cases ha : (a != 0) = true
  · have E : Hid (or3 a b c = a) := by show _ = _; simp [or3, ha]
    go_enter Tryz.func31, Tryz.ntmps31
    go_wp2
    refine wp_loop_rounds 1 ?_
    rw [rounds_succ]
    go_wp2
    go_ret
    exact ⟨ret_int E.out.symm, rfl⟩
  · have ha' : (a != 0) = false := by simpa using ha
    clear ha
    by_cases hb : (b != 0) = true
    · have E : Hid (or3 a b c = b) := by show _ = _; simp [or3, ha', hb]
      go_enter Tryz.func31, Tryz.ntmps31
      go_wp2
      refine wp_loop_rounds 2 ?_
      rw [rounds_succ]
      go_wp2
      rw [rounds_succ]
      go_wp2
      go_ret
      exact ⟨ret_int E.out.symm, rfl⟩
    · have hb' : (b != 0) = false := by simpa using hb
      clear hb
      by_cases hc : (c != 0) = true
      · have E : Hid (or3 a b c = c) := by show _ = _; simp [or3, ha', hb']
        go_enter Tryz.func31, Tryz.ntmps31
        go_wp2
        refine wp_loop_rounds 3 ?_
        rw [rounds_succ]
        go_wp2
        rw [rounds_succ]
        go_wp2
        rw [rounds_succ]
        go_wp2
        go_ret
        exact ⟨ret_int E.out.symm, rfl⟩
      · have hc' : (c != 0) = false := by simpa using hc
        clear hc
        have E : Hid (or3 a b c = 0) := by show _ = _; simp [or3, ha', hb']; simpa using hc'
        go_enter Tryz.func31, Tryz.ntmps31
        go_wp2
        refine wp_loop_rounds 4 ?_
        rw [rounds_succ]
        go_wp2
        rw [rounds_succ]
        go_wp2
        rw [rounds_succ]
        go_wp2
        rw [rounds_succ]
        go_wp2
        go_ret
        exact ⟨ret_int E.out.symm, rfl⟩

theorem grow3 (w : World) (a b c : Obj) : ({ heap := ((w.alloc a).alloc b).heap, tape := ((w.alloc a).alloc b).tape, drawn := ((w.alloc a).alloc b).drawn + 1, os := ((w.alloc a).alloc b).os, output := ((w.alloc a).alloc b).output } : World).alloc c = grow (w.drewN 1) #[a, b, c] := by
  have h : ∀ h : Array Obj, ((h.push a).push b).push c = h ++ #[a, b, c] := fun h => by apply Array.ext'; simp
  unfold grow World.drewN World.alloc
  simp [h]
theorem rd3 (w : World) (a b c : Int) : Rd encI 1 (w.alloc (.cells #[.int .i64 a, .int .i64 b, .int .i64 c] 3)) (w.heap.size + 1) (some ⟨w.heap.size, 0, none⟩) 3 [a, b, c] := by
  refine ⟨rfl, fun i x hx => ⟨w.heap.size, 0, rfl, by omega, fun j u hu => ?_⟩⟩
  have hj : j = 0 := by have := (List.getElem?_eq_some_iff.1 hu).1; simp [encI] at this; omega
  subst hj
  simp [encI] at hu
  subst hu
  have hi : i < 3 := by have := (List.getElem?_eq_some_iff.1 hx).1; simpa using this
  rw [(Blk.new w 3 #[.int .i64 a, .int .i64 b, .int .i64 c]).cell]
  match i, hi, hx with
  | 0, _, hx => simp at hx; subst hx; rfl
  | 1, _, hx => simp at hx; subst hx; rfl
  | 2, _, hx => simp at hx; subst hx; rfl

def cfV (a b : V) : Int := or3 (Lib.compareInt a.r b.r) (Lib.compareInt a.s b.s) (Lib.compareInt a.fr b.fr)

set_option maxRecDepth 100000 in
set_option maxHeartbeats 1600000 in
theorem cmpV_any (a b : V) (w : World) :
    Calls Tryz.prog 30 #[.agg (encV a).toArray, .agg (encV b).toArray] w fun e w' => e = .returned (.int .i64 (cfV a b)) ∧ ∃ q os, w' = grow (w.drewN q) os := by
  have hcon := fun x y W => AnyG.cmp_Compare_int Tryz.cmpInt x y W
  change ∀ x y W, Calls Tryz.prog 32 _ _ _ at hcon
  unfold encV cfV
  generalize hwa : (w.alloc (.cells #[.int .i64 a.h, .int .i64 a.r, .int .i64 a.s, .bool a.has, .int .u64 a.blk, .int .i64 a.fr] 34)).alloc (.cells #[.int .i64 b.h, .int .i64 b.r, .int .i64 b.s, .bool b.has, .int .u64 b.blk, .int .i64 b.fr] 34) = wa
  have q0 := (Blk.new w 34 #[.int .i64 a.h, .int .i64 a.r, .int .i64 a.s, .bool a.has, .int .u64 a.blk, .int .i64 a.fr]).alloc (.cells #[.int .i64 b.h, .int .i64 b.r, .int .i64 b.s, .bool b.has, .int .u64 b.blk, .int .i64 b.fr] 34)
  have q1 := Blk.new (w.alloc (.cells #[.int .i64 a.h, .int .i64 a.r, .int .i64 a.s, .bool a.has, .int .u64 a.blk, .int .i64 a.fr] 34)) 34 #[.int .i64 b.h, .int .i64 b.r, .int .i64 b.s, .bool b.has, .int .u64 b.blk, .int .i64 b.fr]
  rw [World.size_alloc] at q1
  rw [hwa] at q0 q1
  have x1 := q0.cell 1; have x2 := q0.cell 2; have x5 := q0.cell 5
  have y1 := q1.cell 1; have y2 := q1.cell 2; have y5 := q1.cell 5
  simp at x1 x2 x5 y1 y2 y5
  go_enter Tryz.func30, Tryz.ntmps30
  go_wp2_with fail
  refine wp_region_still_tail 15 (by kernel_rfl) (by kernel_rfl) ?_
  simp only [List.take_succ_cons, List.take_zero, List.drop_succ_cons, List.drop_zero]
  obtain ⟨wd, hwd⟩ : ∃ wd, ({ heap := wa.heap, tape := wa.tape, drawn := wa.drawn + 1, os := wa.os, output := wa.output } : World) = wd := ⟨_, rfl⟩
  rw [hwd]
  have z1 : wd.cell? ⟨w.heap.size, 1, none⟩ = some (.int .i64 a.r) := by rw [← hwd]; exact x1
  have z2 : wd.cell? ⟨w.heap.size, 2, none⟩ = some (.int .i64 a.s) := by rw [← hwd]; exact x2
  have z5 : wd.cell? ⟨w.heap.size, 5, none⟩ = some (.int .i64 a.fr) := by rw [← hwd]; exact x5
  have v1 : wd.cell? ⟨w.heap.size + 1, 1, none⟩ = some (.int .i64 b.r) := by rw [← hwd]; exact y1
  have v2 : wd.cell? ⟨w.heap.size + 1, 2, none⟩ = some (.int .i64 b.s) := by rw [← hwd]; exact y2
  have v5 : wd.cell? ⟨w.heap.size + 1, 5, none⟩ = some (.int .i64 b.fr) := by rw [← hwd]; exact y5
  have HWd := Lib.hid hwd; have HWa := Lib.hid hwa
  clear hwd hwa x1 x2 x5 y1 y2 y5
  iterate 4 still_step
  still_call (hcon _ _ _)
  iterate 4 still_step
  still_call (hcon _ _ _)
  iterate 4 still_step
  still_call (hcon _ _ _)
  refine wpStill_nil ?_
  generalize hk1 : Lib.compareInt a.r b.r = k1
  generalize hk2 : Lib.compareInt a.s b.s = k2
  generalize hk3 : Lib.compareInt a.fr b.fr = k3
  have HR := Lib.hid (rd3 wd k1 k2 k3)
  clear hcon
  go_wp2_with (go_at_call 31; refine (or3_any _ _ _ _ _ _ _ HR.out).mono ?_; rintro e w' ⟨rfl, rfl⟩)
  go_ret
  refine ⟨ret_int (by rw [hk1, hk2, hk3]), 1, #[.cells #[.int .i64 a.h, .int .i64 a.r, .int .i64 a.s, .bool a.has, .int .u64 a.blk, .int .i64 a.fr] 34, .cells #[.int .i64 b.h, .int .i64 b.r, .int .i64 b.s, .bool b.has, .int .u64 b.blk, .int .i64 b.fr] 34, .cells #[.int .i64 k1, .int .i64 k2, .int .i64 k3] 3], ?_⟩
  rw [← HWd.out, ← HWa.out]
  exact grow3 _ _ _ _
end Go.Proofs.YtkjhacfmidmebaaGreat
