/- Walks: the program's writer, the rest: PutVote's error. -/
import Derived.Test.YtkjhacfmidmebaaGreatEight
namespace Go.Proofs.YtkjhacfmidmebaaGreat
open Go.RowKit

/-- append of a string's bytes, at a step of a region that draws its order. -/
theorem step_pushS {P : Program} {W : World} {ops : Array Oper} {o : Oper} {a : Act} {K : Act → World → Prop} {Q : Exit → Act → World → Prop} {E : Prop} (hgd : o.guard = none) (sl x : Operand) (t u : TypeId)
    (ho : o.op = .call { callee := .builtin .append, args := #[sl, x], argTypes := #[t, u] })
    (base : Nat) (e : TypeId) (i : TypeInfo) (ht : P.underlying t = some (.slice e)) (hu : P.underlying u = some .string) (hi : P.info? e = some i) (hz : i.zero = some (.int .u8 0)) (hsize : i.size = 1) (hby : i.bytes = 1)
    (v : Value) (n : Nat) (xs : List Value) (hs : a.eval sl = v) (hown : W.ownsRow base e 1 v n xs) (s : ByteArray) (hx : a.eval x = .string s) (hpos : 0 < s.size)
    (h63 : n + s.size ≤ maxLen) (hbytes : n + s.size ≤ 140737488355328) (hbase : base ≤ W.heap.size)
    (h : ∀ g cap w', w'.ownsRow base e 1 (.slice (some ⟨g, 0, none⟩) (n + s.size) cap) (n + s.size) (xs ++ Lib.strCells s) → W.grownBy w' v.ownBlock → K (a.put o.dst (.slice (some ⟨g, 0, none⟩) (n + s.size) cap)) w') :
    if Region.wanted o (yielded ops a.tmps) = true then Oper.wp P o a W K Q else E := by
  have hw : Region.wanted o (yielded ops a.tmps) = true := by simp [Region.wanted, hgd]
  rw [if_pos hw]
  obtain ⟨v', w', hr, h2, h3, _⟩ := Lib.run_append_own_string (P := P) W base t u o.type e i ht hu hi hz hsize hby v n xs hown s h63 hbytes hbase
  obtain ⟨g, cap, rfl, _, _⟩ := h2.form (by omega)
  unfold Oper.wp execOp
  simp only [ho, resolve, invoke, builtin, Sem.run_bind, Sem.run_pure, Result.andThen_ok, List.map_toArray, List.map_cons, List.map_nil, hs, hx, hr]
  exact h g cap w' h2 h3

theorem bytes_str {xs : List Value} (h : Bytes xs) (s : ByteArray) : Bytes (xs ++ Lib.strCells s) := by
  intro u hu
  rcases List.mem_append.1 hu with hu | hu
  · exact h u hu
  · unfold Lib.strCells at hu
    obtain ⟨b, _, rfl⟩ := List.mem_map.1 hu
    exact ⟨_, rfl⟩

theorem Wr.below {w w' : World} {B g N : Nat} {v : Value} {lim frm : Bool} (h : Wr w B g N v lim frm) (hb : Below w.heap.size w w') : Wr w' B g N v lim frm := by
  obtain ⟨h1, h2, n, xs, h3, h4, h5⟩ := h
  have hg : w.grownBy w' none := ⟨hb.os, hb.tape, hb.output, hb.size, fun k hk _ => hb.block k hk⟩
  refine ⟨h1, h2.below hb h2.lt, n, xs, h3.kept hg ?_, h4, h5⟩
  cases hv : v.ownBlock with
  | none => exact .inl rfl
  | some k => exact .inr (by simp)

set_option maxHeartbeats 800000 in
set_option maxRecDepth 100000 in
theorem digest_any (g N : Nat) (v : Value) (lim frm : Bool) (d : Int) (w : World) (B : Nat) (h : Wr w B g N v lim frm) (hN : N ≤ 65536) :
    Calls Tryz.prog 63 #[.pointer (some ⟨g, 0, none⟩), .int .u64 d] w fun e w' => e = .returned (.tuple #[]) ∧ (∃ v', Wr w' B g (N + 8) v' lim frm) ∧ Wt B w w' := by
  obtain ⟨hB, hg, m, xs, hown, hm, hby⟩ := h
  have HBy := Lib.hid hby; clear hby
  have hc0 := hg.cell 0
  have hf0 := hg.frozen 0
  simp at hc0
  have gl := hg.lt
  obtain ⟨i0, hi, hz0, hz1, hz2⟩ := info_parts Tryz.info5
  have hBw : B ≤ w.heap.size := by omega
  have HBw := Lib.hid hBw; clear hBw
  have hE := eight_any d w.drew
  have HE := Lib.hid hE; clear hE
  go_enter Tryz.func63, Tryz.ntmps63
  go_wp2_with fail
  go_region_law (first
    | (refine step_pushS rfl (.tmp 8) (.tmp 10) 98 9 rfl B 5 i0 Tryz.underlying98 Tryz.underlying9 hi hz0 hz1 hz2 v m xs (by simp [Act.eval, Act.put]) hown1 s (by simp [Act.eval, Act.put]) (by omega) (by simp only [maxLen]; omega) (by omega) HB1.out ?_
       intro g2 cap2 w3 hown4 hgrow4
       have hg4 := hg1.grown hgrow4 (own_ne hown1 hg1 (by decide)); have l0 := hg4.cell 0; simp at l0; have l1 := hg4.frozen 0)
    | (go_simp; go_at_call 84; refine HE.out.mono ?_; rintro e w1 ⟨⟨s, rfl, hs⟩, hb1⟩
       have hg1 := hg.drew.below hb1 gl; have k0 := hg1.cell 0; simp at k0; have k1 := hg1.frozen 0
       have hW1 : Wr w1 B g N v lim frm := Wr.below (w := w.drew) ⟨hB, hg, m, xs, hown.drew, hm, HBy.out⟩ hb1
       have hown1 : w1.ownsRow B 5 1 v m xs := hown.drew.kept (row := none) ⟨hb1.os, hb1.tape, hb1.output, hb1.size, fun k hk _ => hb1.block k hk⟩ (by cases hv : v.ownBlock <;> simp)
       have HB1 := Lib.hid hW1.size
       have hs8 : s.size ≤ 8 := by omega
       have hs0 : 8 ≤ s.size := by omega
       clear hs hW1))
  all_goals
    have hW := wr_push hB hg1 hown1 hown4 hgrow4 HB1.out (bytes_str HBy.out _)
    have HW := Lib.hid hW; clear hW
    go_wp2
    go_end0
    exact ⟨rfl, ⟨_, HW.out.1.more (by omega)⟩, ((Wt.drew B w).trans (Wt.below hb1 HBw.out)).trans HW.out.2⟩

set_option maxRecDepth 100000 in
set_option maxHeartbeats 800000 in
theorem flag_any (g N : Nat) (v : Value) (lim frm : Bool) (f : Bool) (w : World) (B : Nat) (h : Wr w B g N v lim frm) (hN : N ≤ 65536) :
    Calls Tryz.prog 62 #[.pointer (some ⟨g, 0, none⟩), .bool f] w fun e w' => e = .returned (.tuple #[]) ∧ (∃ v', Wr w' B g (N + 1) v' lim frm) ∧ Wt B w w' := by
  obtain ⟨hB, hg, m, xs, hown, hm, hby⟩ := h
  have HBy := Lib.hid hby; clear hby
  have hc0 := hg.cell 0
  have hf0 := hg.frozen 0
  simp at hc0
  have gl := hg.lt
  obtain ⟨i0, hi, hz0, hz1, hz2⟩ := info_parts Tryz.info5
  have hBw : B ≤ w.heap.size := by omega
  have HS := Lib.hid hBw; clear hBw
  cases f
  all_goals
    go_enter Tryz.func62, Tryz.ntmps62
    go_wp2_with (at_builtin; first
      | (refine wpList_push rfl (.tmp 9) (.tmp 10) 98 rfl B 5 i0 (.int .u8 0) 1 1 Tryz.underlying98 hi hz0 hz1 hz2 rfl (by decide) v m xs rfl hown rfl rfl (by simp [Value.oneCell']) (by simp only [maxLen]; omega) (by omega) HS.out ?_; intro g1 cap1 w1 hown2 hgrow hlt hat; have hg1 := hg.grown hgrow (own_ne hown hg (by decide)); have k0 := hg1.cell 0; simp at k0; have l0 := hg1.frozen 0)
      | (refine wpList_push rfl (.tmp 18) (.tmp 19) 98 rfl B 5 i0 (.int .u8 0) 1 1 Tryz.underlying98 hi hz0 hz1 hz2 rfl (by decide) v m xs rfl hown rfl rfl (by simp [Value.oneCell']) (by simp only [maxLen]; omega) (by omega) HS.out ?_; intro g1 cap1 w1 hown2 hgrow hlt hat; have hg1 := hg.grown hgrow (own_ne hown hg (by decide)); have k0 := hg1.cell 0; simp at k0; have l0 := hg1.frozen 0))
    have hW := wr_push hB hg hown hown2 hgrow HS.out (bytes_snoc HBy.out _)
    have HW := Lib.hid hW; clear hW
    first | go_end0 | refine bodyPost_ret (results_none rfl _ _ _) rfl ?_
    exact ⟨rfl, ⟨_, HW.out.1.more (by omega)⟩, HW.out.2⟩

set_option maxRecDepth 100000 in
theorem need_any (g N : Nat) (v : Value) (lim frm : Bool) (f : Bool) (w : World) (B : Nat) (h : Wr w B g N v lim frm) :
    Calls Tryz.prog 65 #[.pointer (some ⟨g, 0, none⟩), .bool f] w fun e w' => e = .returned (.tuple #[]) ∧ (∃ v', Wr w' B g N v' lim (frm || !f)) ∧ Wt B w w' := by
  obtain ⟨hB, hg, m, xs, hown, hm, hby⟩ := h
  have HBy := Lib.hid hby; clear hby
  have hc2 := hg.cell 2
  have hf2 := hg.frozen 2
  simp at hc2
  cases f
  · go_enter Tryz.func65, Tryz.ntmps65
    go_wp2
    go_end0
    refine ⟨rfl, ⟨v, hB, ?_, m, xs, hown.kept (grown_setCell w g 2 _) (.inr (own_ne hown hg (by decide))), hm, HBy.out⟩, Wt.set_ hB hg 2 _⟩
    have := hg.set_ 2 (.bool true)
    simpa using this
  · go_enter Tryz.func65, Tryz.ntmps65
    go_wp2
    go_end0
    exact ⟨rfl, ⟨v, hB, by simpa using hg, m, xs, hown, hm, HBy.out⟩, Wt.refl _ _⟩

def bad3 (l : List Int) : Bool := l.any fun n => !inN n

set_option maxRecDepth 100000 in
set_option maxHeartbeats 800000 in
theorem numbers_any (g N b : Nat) (v : Value) (lim frm : Bool) (l : List Int) (w : World) (B : Nat) (h : Wr w B g N v lim frm) (hN : N ≤ 60000) (hl : l.length ≤ 7) (hc : Blk w b 3 (l.map (Value.int .i64)).toArray) :
    Calls Tryz.prog 61 #[.pointer (some ⟨g, 0, none⟩), .slice (some ⟨b, 0, none⟩) l.length l.length] w fun e w' => e = .returned (.tuple #[]) ∧ (∃ v', Wr w' B g (N + 6 * l.length) v' (lim || bad3 l) frm) ∧ Wt B w w' := by
  go_enter Tryz.func61, Tryz.ntmps61
  go_wp2
  go_loopw [5, 8] (fun _ i wr => (∃ k : Nat, i = .int .i64 k ∧ k ≤ l.length ∧ ∃ v', Wr wr B g (N + 6 * k) v' (lim || bad3 (l.take k)) frm) ∧ Wt B w wr) (fun _ i _ => l.length - (intOf i).toNat)
  case atStart => exact ⟨⟨0, rfl, by omega, v, by simpa [bad3] using h⟩, Wt.refl _ _⟩
  case round =>
    obtain ⟨⟨k, rfl, hk, v', hW⟩, hwt⟩ := hrel
    have hc' := hwt.rows b 3 _ (by decide) (by decide) hc
    by_cases hlt : k < l.length
    · have c0 : wr.cell? ⟨b, k, none⟩ = some (.int .i64 l[k]) := by rw [hc'.cell]; simp [hlt]
      have hC := number_any g (N + 6 * k) v' _ frm l[k] wr B hW (by omega)
      have HC := Lib.hid hC; clear hC
      go_wp2_with (go_at_call 64; refine HC.out.mono ?_; rintro e w1 ⟨rfl, hw1, hwt1⟩)
      go_roundw
      case rel =>
        obtain ⟨v2, hv2⟩ := hw1
        refine ⟨⟨k + 1, by go_num, by omega, v2, ?_⟩, hwt.trans hwt1⟩
        have e1 : (lim || bad3 (l.take (k + 1))) = (lim || bad3 (l.take k) || !inN l[k]) := by
          unfold bad3; rw [take_succ_of hlt, List.any_append, ← Bool.or_assoc]; simp only [List.any_cons, List.any_nil, Bool.or_false]
        rw [e1]
        exact hv2.more (by omega)
      case measure => simp [intOf]; omega
    · obtain rfl : k = l.length := by omega
      go_wp2
      go_end0
      exact ⟨rfl, ⟨v', by simpa using hW⟩, hwt⟩

/-- May the vote be? (Of what is no number the error is another.) -/
def fineV (v : V) : Bool := decide (v.s ≤ 2) && decide (1 ≤ v.fr) && (v.has || (decide (v.blk = 0) && decide (v.s ≠ 0)))
def farV (v : V) : Bool := bad3 [v.h, v.r, v.s] || !inN v.fr
/-- PutVote's error. -/
def errV (v : V) : Int := if farV v then 3 else if fineV v then 0 else 2

theorem dec_ne (x : Int) : decide (x = 0) = !(x != 0) := by
  by_cases h : x = 0
  · subst h; rfl
  · rw [decide_eq_false h, bne_iff_ne.2 h]; rfl

def V.val (v : V) : Value := .agg #[.int .i64 v.h, .int .i64 v.r, .int .i64 v.s, .bool v.has, .int .u64 v.blk, .int .i64 v.fr]

set_option maxRecDepth 100000 in
set_option maxHeartbeats 1600000 in
theorem wvote_any (g N : Nat) (u : Value) (lim frm : Bool) (v : V) (w : World) (B : Nat) (h : Wr w B g N u lim frm) (hN : N ≤ 50000) :
    Calls Tryz.prog 46 #[.pointer (some ⟨g, 0, none⟩), .agg #[.int .i64 v.h, .int .i64 v.r, .int .i64 v.s, .bool v.has, .int .u64 v.blk, .int .i64 v.fr]] w fun e w' => e = .returned (.tuple #[]) ∧
      (∃ v', Wr w' B g (N + 33) v' (lim || farV v) (frm || !fineV v)) ∧ Wt B w w' := by
  obtain ⟨vh, vr, vs, vhas, vblk, vfr⟩ := v
  have hB := h.size
  have hg := h.2.1.lt
  -- the box of the vote, and the row of three
  have hb0 : Below w.heap.size w (w.alloc (.cells #[.int .i64 vh, .int .i64 vr, .int .i64 vs, .bool vhas, .int .u64 vblk, .int .i64 vfr] 34)) := (Below.refl _ _).alloc (Nat.le_refl _) _
  have hb1 : Below w.heap.size w ((w.alloc (.cells #[.int .i64 vh, .int .i64 vr, .int .i64 vs, .bool vhas, .int .u64 vblk, .int .i64 vfr] 34)).alloc (.cells #[.int .i64 vh, .int .i64 vr, .int .i64 vs] 3)) := hb0.alloc (by simp) _
  have hx0 := (Blk.new w 34 #[.int .i64 vh, .int .i64 vr, .int .i64 vs, .bool vhas, .int .u64 vblk, .int .i64 vfr]).alloc (.cells #[.int .i64 vh, .int .i64 vr, .int .i64 vs] 3)
  have hx1 := Blk.new (w.alloc (.cells #[.int .i64 vh, .int .i64 vr, .int .i64 vs, .bool vhas, .int .u64 vblk, .int .i64 vfr] 34)) 3 #[.int .i64 vh, .int .i64 vr, .int .i64 vs]
  have hC := numbers_any g N (w.heap.size + 1) u lim frm [vh, vr, vs] _ B (h.below hb1) (by omega) (by simp) (by simpa using hx1)
  have HC := Lib.hid hC; clear hC hx1
  have HT := Lib.hid (Wt.below hb1 hB); clear hb0 hb1
  go_enter Tryz.func46, Tryz.ntmps46
  go_wp2_with (first
    | (go_at_call 61; refine HC.out.mono ?_; rintro e w1 ⟨rfl, hw1, hwt1⟩
       obtain ⟨u1, hw1⟩ := hw1
       have hx1 := hwt1.rows _ 34 _ (by decide) (by decide) hx0
       have k3 := hx1.cell 3
       simp at k3
       have hC := flag_any g _ u1 _ frm vhas w1 B hw1 (by simp; omega)
       have HC1 := Lib.hid hC; clear hC)
    | (go_at_call 62; refine HC1.out.mono ?_; rintro e w2 ⟨rfl, hw2, hwt2⟩
       obtain ⟨u2, hw2⟩ := hw2
       have hx2 := hwt2.rows _ 34 _ (by decide) (by decide) hx1
       have k4 := hx2.cell 4
       simp at k4
       have hC := digest_any g _ u2 _ frm vblk w2 B hw2 (by simp; omega)
       have HC2 := Lib.hid hC; clear hC)
    | (go_at_call 63; refine HC2.out.mono ?_; rintro e w3 ⟨rfl, hw3, hwt3⟩
       obtain ⟨u3, hw3⟩ := hw3
       have hx3 := hwt3.rows _ 34 _ (by decide) (by decide) hx2
       have k5 := hx3.cell 5
       simp at k5
       have hC := number_any g _ u3 _ frm vfr w3 B hw3 (by simp; omega)
       have HC3 := Lib.hid hC; clear hC)
    | (go_at_call 64; refine HC3.out.mono ?_; rintro e w4 ⟨rfl, hw4, hwt4⟩
       obtain ⟨u4, hw4⟩ := hw4
       have hx4 := hwt4.rows _ 34 _ (by decide) (by decide) hx3
       have j2 := hx4.cell 2
       have j3 := hx4.cell 3
       have j4 := hx4.cell 4
       have j5 := hx4.cell 5
       simp at j2 j3 j4 j5))
  all_goals
    refine (need_any g _ u4 _ frm _ w4 B hw4).mono ?_
    rintro e w5 ⟨rfl, ⟨u5, hw5⟩, hwt5⟩
    go_wp2
    go_end0
    refine ⟨rfl, ⟨u5, ?_⟩, HT.out.trans (hwt1.trans (hwt2.trans (hwt3.trans (hwt4.trans hwt5))))⟩
    have hw6 := hw5.more (N' := N + 33) (by simp only [List.length_cons, List.length_nil]; omega)
    rw [Bool.or_assoc] at hw6
    have ef : ∀ b : Bool, fineV ⟨vh, vr, vs, vhas, vblk, vfr⟩ = b → Wr w5 B g (N + 33) u5 (lim || (bad3 [vh, vr, vs] || !inN vfr)) (frm || !b) → Wr w5 B g (N + 33) u5 (lim || farV ⟨vh, vr, vs, vhas, vblk, vfr⟩) (frm || !fineV ⟨vh, vr, vs, vhas, vblk, vfr⟩) := by
      intro b hb hh
      rw [hb]
      exact hh
    refine ef _ ?_ hw6
    clear ef hw6 hw5 hwt5
    simp [fineV, *]
    all_goals first | exact dec_ne vs | (intros; omega)

theorem V.val_def (v : V) : v.val = .agg #[.int .i64 v.h, .int .i64 v.r, .int .i64 v.s, .bool v.has, .int .u64 v.blk, .int .i64 v.fr] := rfl

end Go.Proofs.YtkjhacfmidmebaaGreat
