/- Walks: PutVote of the program: its error. -/
import Derived.Test.YtkjhacfmidmebaaGreatWire2
namespace Go.Proofs.YtkjhacfmidmebaaGreat
open Go.RowKit

theorem bytes_ints {xs : List Value} (h : Bytes xs) : ∃ ns : List Int, xs = ns.map (Value.int .u8) := by
  induction xs with
  | nil => exact ⟨[], rfl⟩
  | cons x r ih =>
    obtain ⟨ns, hn⟩ := ih (fun u hu => h u (by simp [hu]))
    obtain ⟨n, rfl⟩ := h x (by simp)
    exact ⟨n :: ns, by simp [hn]⟩

/-- An owned row of bytes as a string. -/
theorem conv_own {w : World} {B n : Nat} {v : Value} {xs : List Value} (h : w.ownsRow B 5 1 v n xs) (hb : Bytes xs) : ∃ s : ByteArray, (convert 98 9 v).run Tryz.prog w = .ok (.string s) w := by
  obtain ⟨ns, rfl⟩ := bytes_ints hb
  rcases h.2 with ⟨rfl, rfl⟩ | ⟨g, cap, cur, rfl, _, hh, hnc, _, hcs, htake⟩
  · exact ⟨ByteArray.empty, by rw [run_convert_bytes_string w 98 9 5 _ _ _ Tryz.underlying98 Tryz.underlying5 Tryz.underlying9]; simp [Conv.bytesToString]⟩
  · have hn : ns.length = n := by have := h.1; simpa using this
    exact ⟨_, conv_bytes (cap := cap) (ns := ns) hh hn (fun i k hi => by
      have h1 : (ns.map (Value.int .u8))[i]? = some (.int .u8 k) := by simp [hi]
      rw [← htake, List.getElem?_take] at h1
      split at h1
      · simpa using h1
      · cases h1)⟩

theorem ret2_int {k : IntKind} {x : Value} {a b : Int} (h : a = b) : Ending.returned (.tuple #[x, .int k a]) = .returned (.tuple #[x, .int k b]) := by rw [h]

set_option maxRecDepth 100000 in
set_option maxHeartbeats 1600000 in
theorem write_any (v : V) (w : World) :
    Calls Tryz.prog 45 #[.agg #[.int .i64 v.h, .int .i64 v.r, .int .i64 v.s, .bool v.has, .int .u64 v.blk, .int .i64 v.fr], .func (.func 46) #[] #[]] w fun e w' => (∃ s : ByteArray, e = .returned (.tuple #[.string s, .int .i64 (errV v)])) ∧ Below w.heap.size w w' := by
  have hb0 : Below w.heap.size w (w.alloc (.cells #[.int .i64 v.h, .int .i64 v.r, .int .i64 v.s, .bool v.has, .int .u64 v.blk, .int .i64 v.fr] 34)) := (Below.refl _ _).alloc (Nat.le_refl _) _
  have hb1 : Below w.heap.size w ((w.alloc (.cells #[.int .i64 v.h, .int .i64 v.r, .int .i64 v.s, .bool v.has, .int .u64 v.blk, .int .i64 v.fr] 34)).alloc (.cells #[.slice none 0 0, .bool false, .bool false] 100)) := hb0.alloc (by simp) _
  have hg : Wr ((w.alloc (.cells #[.int .i64 v.h, .int .i64 v.r, .int .i64 v.s, .bool v.has, .int .u64 v.blk, .int .i64 v.fr] 34)).alloc (.cells #[.slice none 0 0, .bool false, .bool false] 100)) w.heap.size (w.heap.size + 1) 0 (.slice none 0 0) false false :=
    ⟨by omega, by simpa using Blk.new (w.alloc (.cells #[.int .i64 v.h, .int .i64 v.r, .int .i64 v.s, .bool v.has, .int .u64 v.blk, .int .i64 v.fr] 34)) 100 #[.slice none 0 0, .bool false, .bool false], 0, [], World.ownsRow_nil _ _ _ _, Nat.le_refl _, fun u hu => by simp at hu⟩
  have hC := wvote_any _ _ _ _ _ v _ _ hg (by omega)
  have HC := Lib.hid hC; clear hC hg hb0
  have HB := Lib.hid hb1; clear hb1
  go_enter Tryz.func45, Tryz.ntmps45
  go_wp2_with (go_at_call 46; refine HC.out.mono ?_; rintro e w1 ⟨rfl, ⟨u1, hw1⟩, hwt1⟩
               obtain ⟨_, hg1, n1, xs1, hown1, _, hby1⟩ := hw1
               obtain ⟨s1, hs1⟩ := conv_own hown1 hby1
               have k0 := hg1.cell 0
               have k1 := hg1.cell 1
               have k2 := hg1.cell 2
               simp at k0 k1 k2
               have hwl := hwt1.low
               have HW := Lib.hid hwl
               clear hwl hwt1 hown1 hby1 hg1)
  all_goals
    go_ret2
    refine ⟨⟨_, ret2_int ?_⟩, HB.out.trans HW.out⟩
    simp_all [errV]

set_option maxRecDepth 100000 in
/-- the program's PutVote. -/
theorem putVote_any (v : V) (w : World) :
    Calls Tryz.prog 23 #[.agg #[.int .i64 v.h, .int .i64 v.r, .int .i64 v.s, .bool v.has, .int .u64 v.blk, .int .i64 v.fr]] w fun e w' => (∃ s : ByteArray, e = .returned (.tuple #[.string s, .int .i64 (errV v)])) ∧ Below w.heap.size w w' := by
  have hb0 : Below w.heap.size w (w.alloc (.cells #[.int .i64 v.h, .int .i64 v.r, .int .i64 v.s, .bool v.has, .int .u64 v.blk, .int .i64 v.fr] 34)) := (Below.refl _ _).alloc (Nat.le_refl _) _
  have HB := Lib.hid hb0; clear hb0
  go_enter Tryz.func23, Tryz.ntmps23
  go_wp2_with (go_at_call 45; refine (write_any v _).mono ?_; rintro e w1 ⟨⟨s, rfl⟩, hb1⟩)
  go_ret2
  exact ⟨⟨_, rfl⟩, HB.out.trans (hb1.mono HB.out.size)⟩

/-! ### The reference's. -/

/-- The reference's writer. -/
def Pt (w : World) (g N : Nat) (s : ByteArray) (far odd : Bool) : Prop := Blk w g 88 #[.string s, .bool far, .bool odd] ∧ s.size ≤ N

theorem Blk.set0 {w : World} {g : Nat} {s : ByteArray} {far odd : Bool} (h : Blk w g 88 #[.string s, .bool far, .bool odd]) (t : ByteArray) : Blk (w.setCell ⟨g, 0, none⟩ (.string t)) g 88 #[.string t, .bool far, .bool odd] := by
  have := h.set_ 0 (.string t)
  simpa using this

theorem Pt.low {w : World} {g N : Nat} {s : ByteArray} {far odd : Bool} (h : Pt w g N s far odd) (w' : World) (hb : Below w.heap.size w w') : Pt w' g N s far odd := ⟨h.1.below hb h.1.lt, h.2⟩

/-- What the reference's calls leave: nothing that was there has turned but block g. -/
def Pn (g : Nat) (w w' : World) : Prop := w.grownBy w' (some g)
theorem Pn.refl (g : Nat) (w : World) : Pn g w w := World.grownBy.refl w _
theorem Pn.trans {g : Nat} {a b c : World} (h : Pn g a b) (k : Pn g b c) : Pn g a c := World.grownBy.trans h k
theorem Pn.set_ (g i : Nat) (w : World) (u : Value) : Pn g w (w.setCell ⟨g, i, none⟩ u) := grown_setCell w g i u
theorem Pn.below {g : Nat} {w w' : World} (h : Below w.heap.size w w') : Pn g w w' := ⟨h.os, h.tape, h.output, h.size, fun k hk _ => h.block k hk⟩
theorem Pn.drew (g : Nat) (w : World) : Pn g w w.drew := ⟨rfl, rfl, rfl, Nat.le_refl _, fun _ _ _ => rfl⟩
theorem Blk.pn {g k : Nat} {t : TypeId} {cs : Array Value} {w w' : World} (h : Blk w k t cs) (hp : Pn g w w') (hne : k ≠ g) : Blk w' k t cs := h.grown hp (by simpa using fun e => hne e.symm)

set_option maxRecDepth 100000 in
set_option maxHeartbeats 800000 in
theorem num_any (g N : Nat) (s : ByteArray) (far odd : Bool) (n : Int) (w : World) (h : Pt w g N s far odd) (hN : N ≤ 65536) :
    Calls Tryz.prog 67 #[.pointer (some ⟨g, 0, none⟩), .int .i64 n] w fun e w' => e = .returned (.tuple #[]) ∧ (∃ s', Pt w' g (N + 7) s' (far || !inN n) odd) ∧ Pn g w w' := by
  obtain ⟨hg, hs⟩ := h
  have c0 := hg.cell 0; have c1 := hg.cell 1; have f0 := hg.frozen 0; have f1 := hg.frozen 1
  simp at c0 c1
  have gl := hg.lt
  by_cases hin : inN n = true
  · have e1 : decide (n < 0) = false := by simp [inN] at hin; simp; omega
    have e2 : decide (1099511627775 < n) = false := by simp [inN] at hin; simp; omega
    have HI := Lib.hid hin; clear hin
    obtain ⟨q, rfl⟩ : ∃ q : Nat, n = q := ⟨n.toNat, by simp at e1; omega⟩
    have hq : q < 256 ^ 5 := by simp at e2; omega
    have Hq := Lib.hid hq; clear hq
    go_enter Tryz.func67, Tryz.ntmps67
    go_wp2
    clear e1 e2
    go_loopw [1, 4] (fun c t wr => (∃ (k r : Nat) (b : ByteArray), c = .int .i64 r ∧ t = .string b ∧ b.size ≤ k ∧ k ≤ 5 ∧ Hid (r < 256 ^ (5 - k))) ∧ Below w.heap.size w wr) (fun c _ _ => (intOf c).toNat)
    case atStart => exact ⟨⟨0, q, _, rfl, rfl, Nat.le_refl _, by omega, Hq⟩, Below.refl _ _⟩
    case round =>
      obtain ⟨⟨k, r, b, rfl, rfl, hb, hk, Hr⟩, hbl⟩ := hrel
      by_cases hr : 0 < r
      · have hcv : ∀ x : Int, (convert 98 9 (.slice (some ⟨wr.heap.size, 0, none⟩) 1 1)).run Tryz.prog (wr.alloc (.cells #[.int .u8 x] 5)) = .ok (.string (strOf [x])) (wr.alloc (.cells #[.int .u8 x] 5)) :=
          fun x => conv_bytes (ns := [x]) (Blk.new _ _ _) rfl (fun i n h => by cases i <;> simp_all)
        have hz : ∀ x : Int, (strOf [x]).size = 1 := fun x => strOf_size [x]
        have hr5 : r < 256 ^ 5 := Nat.lt_of_lt_of_le Hr.out (Nat.pow_le_pow_right (by omega) (by omega))
        have hw : wrap64 ((r : Int) / 256) = (r : Int) / 256 := IntWalk.wrap64_in _ (by constructor <;> omega)
        have hw2 : IntKind.i64.wrap ((r : Int) / 256) = (r : Int) / 256 := IntWalk.i64_in _ (by omega)
        clear hr5
        go_wp2
        go_roundw
        case rel =>
          refine ⟨⟨k + 1, r / 256, _, by go_num, rfl, by show (strOf _ ++ b).size ≤ k + 1; rw [ByteArray.size_append, hz]; omega, ?_, ?_⟩, hbl.alloc hbl.size _⟩
          · have := Hr.out
            rcases Nat.lt_or_ge k 5 with h5 | h5
            · omega
            · rw [show 5 - k = 0 by omega] at this; simp at this; omega
          · have := Hr.out
            show r / 256 < 256 ^ (5 - (k + 1))
            rcases Nat.lt_or_ge k 5 with h5 | h5
            · rw [show 5 - k = (5 - (k + 1)) + 1 by omega, Nat.pow_succ] at this; omega
            · rw [show 5 - k = 0 by omega] at this; simp at this; omega
        case measure => simp [intOf]; omega
      · have hg' := hg.below hbl gl
        have d0 := hg'.cell 0; have m0 := hg'.frozen 0
        simp at d0
        have gl' := hg'.lt
        have hcv : ∀ x : Int, (convert 98 9 (.slice (some ⟨wr.heap.size, 0, none⟩) 1 1)).run Tryz.prog (wr.alloc (.cells #[.int .u8 x] 5)).drew = .ok (.string (strOf [x])) (wr.alloc (.cells #[.int .u8 x] 5)).drew :=
          fun x => conv_bytes (ns := [x]) (Blk.drew (Blk.new _ _ _)) rfl (fun i n h => by cases i <;> simp_all)
        have hz : ∀ x : Int, (strOf [x]).size = 1 := fun x => strOf_size [x]
        go_wp2
        go_region
        all_goals
          go_wp2
          go_end0
          rw [show (far || !inN (q : Int)) = far by rw [show inN (q : Int) = true from HI.out]; simp]
          refine ⟨rfl, ⟨_, ⟨Blk.drew (Blk.alloc (hg'.set0 (s ++ strOf [(b.size : Int)] ++ b)) _), by rw [ByteArray.size_append, ByteArray.size_append, hz]; omega⟩⟩, ?_⟩
          exact ((Pn.below hbl).trans (Pn.set_ g 0 wr _)).trans (Pn.below (((Below.refl _ _).alloc (Nat.le_refl _) _).drew))
  · have hin' : inN n = false := by simpa using hin
    have hneg : (n < 0) ∨ (¬ n < 0 ∧ decide (1099511627775 < n) = true) := by
      simp [inN] at hin'
      by_cases h0 : n < 0
      · exact .inl h0
      · exact .inr ⟨h0, by simp; exact hin' (by omega)⟩
    have HI := Lib.hid hin'; clear hin hin'
    rcases hneg with e1 | ⟨e0, e1⟩
    all_goals
      go_enter Tryz.func67, Tryz.ntmps67
      go_wp2
      refine bodyPost_ret (results_none rfl _ _ _) rfl ?_
      refine ⟨rfl, ⟨s, ?_, by omega⟩, Pn.set_ g 1 w _⟩
      rw [HI.out]
      have := hg.set_ 1 (.bool true)
      simpa using this

set_option maxRecDepth 100000 in
theorem flagR_any (g N : Nat) (s : ByteArray) (far odd f : Bool) (w : World) (h : Pt w g N s far odd) (hN : N ≤ 65536) :
    Calls Tryz.prog 68 #[.pointer (some ⟨g, 0, none⟩), .bool f] w fun e w' => e = .returned (.tuple #[]) ∧ (∃ s', Pt w' g (N + 1) s' far odd) ∧ Pn g w w' := by
  obtain ⟨hg, hs⟩ := h
  have c0 := hg.cell 0; have f0 := hg.frozen 0
  simp at c0
  cases f
  all_goals
    go_enter Tryz.func68, Tryz.ntmps68
    go_wp2
    go_end0
    refine ⟨rfl, ⟨_, ⟨hg.set0 _, ?_⟩⟩, Pn.set_ g 0 w _⟩
    rw [ByteArray.size_append]
    exact Nat.add_le_add hs (Nat.le_refl 1)

set_option maxRecDepth 100000 in
theorem dig_any (g N : Nat) (s : ByteArray) (far odd : Bool) (d : Int) (w : World) (h : Pt w g N s far odd) (hN : N ≤ 65536) :
    Calls Tryz.prog 69 #[.pointer (some ⟨g, 0, none⟩), .int .u64 d] w fun e w' => e = .returned (.tuple #[]) ∧ (∃ s', Pt w' g (N + 8) s' far odd) ∧ Pn g w w' := by
  obtain ⟨hg, hs⟩ := h
  have gl := hg.lt
  go_enter Tryz.func69, Tryz.ntmps69
  go_wp2_with (go_at_call 85; refine (eightR_any d _).mono ?_; rintro e w1 ⟨⟨t, rfl, ht⟩, hb1⟩
               have hg1 := hg.below hb1 gl
               have c0 := hg1.cell 0; have f0 := hg1.frozen 0
               simp at c0
               have ht8 : t.size ≤ 8 := by omega
               clear ht)
  go_end0
  refine ⟨rfl, ⟨_, ⟨hg1.set0 _, ?_⟩⟩, (Pn.below hb1).trans (Pn.set_ g 0 w1 _)⟩
  rw [ByteArray.size_append]
  omega

set_option maxRecDepth 100000 in
theorem odd_any (g N : Nat) (s : ByteArray) (far odd f : Bool) (w : World) (h : Pt w g N s far odd) :
    Calls Tryz.prog 70 #[.pointer (some ⟨g, 0, none⟩), .bool f] w fun e w' => e = .returned (.tuple #[]) ∧ Pt w' g N s far (odd || f) ∧ Pn g w w' := by
  obtain ⟨hg, hs⟩ := h
  have c0 := hg.cell 2; have f0 := hg.frozen 2
  simp at c0
  cases f
  · go_enter Tryz.func70, Tryz.ntmps70
    go_wp2
    go_end0
    exact ⟨rfl, ⟨by simpa using hg, hs⟩, Pn.refl _ _⟩
  · go_enter Tryz.func70, Tryz.ntmps70
    go_wp2
    go_end0
    exact ⟨rfl, ⟨by have := hg.set_ 2 (.bool true); simpa using this, hs⟩, Pn.set_ g 2 w _⟩

set_option maxRecDepth 100000 in
set_option maxHeartbeats 1600000 in
theorem voteR_any (g N : Nat) (s : ByteArray) (far odd : Bool) (v : V) (w : World) (h : Pt w g N s far odd) (hN : N ≤ 50000) :
    Calls Tryz.prog 49 #[.pointer (some ⟨g, 0, none⟩), .agg #[.int .i64 v.h, .int .i64 v.r, .int .i64 v.s, .bool v.has, .int .u64 v.blk, .int .i64 v.fr]] w fun e w' => e = .returned (.tuple #[]) ∧
      (∃ s', Pt w' g (N + 37) s' (far || farV v) (odd || !fineV v)) ∧ Pn g w w' := by
  obtain ⟨vh, vr, vs, vhas, vblk, vfr⟩ := v
  have hg := h.1.lt
  have hb0 : Below w.heap.size w (w.alloc (.cells #[.int .i64 vh, .int .i64 vr, .int .i64 vs, .bool vhas, .int .u64 vblk, .int .i64 vfr] 34)) := (Below.refl _ _).alloc (Nat.le_refl _) _
  have hx0 := Blk.new w 34 #[.int .i64 vh, .int .i64 vr, .int .i64 vs, .bool vhas, .int .u64 vblk, .int .i64 vfr]
  have hC0 := num_any g N s far odd vh _ (h.low _ hb0) (by omega)
  have HC0 := Lib.hid hC0; clear hC0
  have HB := Lib.hid hb0; clear hb0
  have hne : w.heap.size ≠ g := by omega
  have HN := Lib.hid hne; clear hne
  go_enter Tryz.func49, Tryz.ntmps49
  -- the three numbers, one call behind the other
  go_wp2_with fail
  refine HC0.out.mono ?_
  rintro e w1 ⟨rfl, ⟨s1, hp1⟩, hn1⟩
  have hx1 := hx0.pn hn1 HN.out
  have k1 := hx1.cell 1; simp at k1
  have HC1 := Lib.hid (num_any g _ s1 _ odd vr w1 hp1 (by omega))
  go_wp2_with fail
  refine HC1.out.mono ?_
  rintro e w2 ⟨rfl, ⟨s2, hp2⟩, hn2⟩
  have hx2 := hx1.pn hn2 HN.out
  have k2 := hx2.cell 2; simp at k2
  have HC2 := Lib.hid (num_any g _ s2 _ odd vs w2 hp2 (by omega))
  go_wp2_with fail
  refine HC2.out.mono ?_
  rintro e w3 ⟨rfl, ⟨s3, hp3⟩, hn3⟩
  have hx3 := hx2.pn hn3 HN.out
  have k3 := hx3.cell 3; simp at k3
  have HC3 := Lib.hid (flagR_any g _ s3 _ odd vhas w3 hp3 (by omega))
  go_wp2_with fail
  refine HC3.out.mono ?_
  rintro e w4 ⟨rfl, ⟨s4, hp4⟩, hn4⟩
  have hx4 := hx3.pn hn4 HN.out
  have k4 := hx4.cell 4; simp at k4
  have HC4 := Lib.hid (dig_any g _ s4 _ odd vblk w4 hp4 (by omega))
  go_wp2_with fail
  refine HC4.out.mono ?_
  rintro e w5 ⟨rfl, ⟨s5, hp5⟩, hn5⟩
  have hx5 := hx4.pn hn5 HN.out
  have k5 := hx5.cell 5; simp at k5
  have HC5 := Lib.hid (num_any g _ s5 _ odd vfr w5 hp5 (by omega))
  go_wp2_with fail
  refine HC5.out.mono ?_
  rintro e w6 ⟨rfl, ⟨s6, hp6⟩, hn6⟩
  have hx6 := hx5.pn hn6 HN.out
  have j2 := hx6.cell 2; have j5 := hx6.cell 5
  simp at j2 j5
  go_wp2_with fail
  all_goals
    refine (odd_any g _ s6 _ odd _ w6 hp6).mono ?_
    rintro e w7 ⟨rfl, hp7, hn7⟩
    have hx7 := hx6.pn hn7 HN.out
    have m2 := hx7.cell 2; have m3 := hx7.cell 3; have m4 := hx7.cell 4
    simp at m2 m3 m4
    go_wp2_with fail
    all_goals
      refine (odd_any g _ s6 _ _ _ w7 hp7).mono ?_
      rintro e w8 ⟨rfl, hp8, hn8⟩
      go_wp2
      go_end0
      refine ⟨rfl, ⟨s6, ?_⟩, ((((((((Pn.below HB.out).trans hn1).trans hn2).trans hn3).trans hn4).trans hn5).trans hn6).trans hn7).trans hn8⟩
      have e1 : (far || farV ⟨vh, vr, vs, vhas, vblk, vfr⟩) = (far || !inN vh || !inN vr || !inN vs || !inN vfr) := by simp [farV, bad3, Bool.or_assoc]
      have fin : ∀ o : Bool, (odd || !fineV ⟨vh, vr, vs, vhas, vblk, vfr⟩) = o → Pt w8 g (N + 7 + 7 + 7 + 1 + 8 + 7) s6 (far || !inN vh || !inN vr || !inN vs || !inN vfr) o → Pt w8 g (N + 37) s6 (far || farV ⟨vh, vr, vs, vhas, vblk, vfr⟩) (odd || !fineV ⟨vh, vr, vs, vhas, vblk, vfr⟩) := by
        intro o ho hh
        rw [ho, e1]
        exact ⟨hh.1, by have := hh.2; omega⟩
      refine fin _ ?_ hp8
      clear fin e1 hp8 hp7 hp6 hp5 hp4 hp3 hp2 hp1
      cases odd
      · simp [fineV, *]
        all_goals (rw [Bool.eq_iff_iff]; simp; omega)
      · simp

def errOf (far odd : Bool) : Int := if far then 3 else if odd then 2 else 0
theorem errV_eq (v : V) : errOf (false || farV v) (false || !fineV v) = errV v := by unfold errOf errV; cases farV v <;> cases fineV v <;> rfl

set_option maxRecDepth 100000 in
theorem out_any (g N : Nat) (s : ByteArray) (far odd : Bool) (w : World) (h : Pt w g N s far odd) :
    Calls Tryz.prog 50 #[.pointer (some ⟨g, 0, none⟩)] w fun e w' => (∃ t : ByteArray, e = .returned (.tuple #[.string t, .int .i64 (errOf far odd)])) ∧ w = w' := by
  have c0 := h.1.cell 0; have c1 := h.1.cell 1; have c2 := h.1.cell 2
  simp at c0 c1 c2
  cases far <;> cases odd
  all_goals
    go_enter Tryz.func50, Tryz.ntmps50
    go_wp2
    go_ret2
    exact ⟨⟨_, rfl⟩, rfl⟩

set_option maxRecDepth 100000 in
/-- the reference's PutVote. -/
theorem putVoteR_any (v : V) (w : World) :
    Calls Tryz.prog 26 #[.agg #[.int .i64 v.h, .int .i64 v.r, .int .i64 v.s, .bool v.has, .int .u64 v.blk, .int .i64 v.fr]] w fun e w' => (∃ s : ByteArray, e = .returned (.tuple #[.string s, .int .i64 (errV v)])) ∧ Below w.heap.size w w' := by
  have hb0 : Below w.heap.size w (w.alloc (.cells #[.int .i64 v.h, .int .i64 v.r, .int .i64 v.s, .bool v.has, .int .u64 v.blk, .int .i64 v.fr] 34)) := (Below.refl _ _).alloc (Nat.le_refl _) _
  have hb1 : Below w.heap.size w ((w.alloc (.cells #[.int .i64 v.h, .int .i64 v.r, .int .i64 v.s, .bool v.has, .int .u64 v.blk, .int .i64 v.fr] 34)).alloc (.cells #[.string ByteArray.empty, .bool false, .bool false] 88)) := hb0.alloc (by simp) _
  have hg : Pt ((w.alloc (.cells #[.int .i64 v.h, .int .i64 v.r, .int .i64 v.s, .bool v.has, .int .u64 v.blk, .int .i64 v.fr] 34)).alloc (.cells #[.string ByteArray.empty, .bool false, .bool false] 88)) (w.heap.size + 1) 0 ByteArray.empty false false :=
    ⟨by simpa using Blk.new (w.alloc (.cells #[.int .i64 v.h, .int .i64 v.r, .int .i64 v.s, .bool v.has, .int .u64 v.blk, .int .i64 v.fr] 34)) 88 #[.string ByteArray.empty, .bool false, .bool false], Nat.le_refl _⟩
  have HC := Lib.hid (voteR_any _ _ _ _ _ v _ hg (by omega))
  have HB := Lib.hid hb1; clear hb1 hb0 hg
  go_enter Tryz.func26, Tryz.ntmps26
  go_wp2_with fail
  refine HC.out.mono ?_
  rintro e w1 ⟨rfl, ⟨s1, hp1⟩, hn1⟩
  go_wp2_with fail
  refine (out_any _ _ _ _ _ _ hp1).mono ?_
  rintro e w2 ⟨⟨t, rfl⟩, rfl⟩
  go_wp2
  go_ret2
  refine ⟨⟨_, ret2_int (errV_eq v)⟩, HB.out.trans ?_⟩
  exact ⟨hn1.os, hn1.tape, hn1.output, hn1.size, fun k hk => hn1.block k (by simp; omega) (by simp; omega)⟩

end Go.Proofs.YtkjhacfmidmebaaGreat
