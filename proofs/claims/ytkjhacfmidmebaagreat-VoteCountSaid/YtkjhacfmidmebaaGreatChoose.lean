/- Walks: small ones; the reference's insert and Choose; the law's seated: some bench. -/
import Derived.Test.YtkjhacfmidmebaaGreatApp
namespace Go.Proofs.YtkjhacfmidmebaaGreat
open Go.RowKit

/-- an int of 64 bits. -/
def Fit (n : Int) : Prop := (Lit.int .i64 n).wf = true

theorem fit_bounds {n : Int} (h : Fit n) : -9223372036854775808 ≤ n ∧ n ≤ 9223372036854775807 := by
  unfold Fit at h
  simp [Lit.wf, IntKind.min, IntKind.max, IntKind.signed, IntKind.bits] at h
  omega

theorem below_drewN {B : Nat} {a w : World} (h : Below B a w) (q : Nat) : Below B a (w.drewN q) := ⟨h.os, h.tape, h.output, h.size, h.block⟩

/-- It returned a bool; it made memory alone. -/
def SomeBool (w : World) (e : Ending) (w' : World) : Prop := (∃ b : Bool, e = .returned (.bool b)) ∧ Below w.heap.size w w'
def SomeNat (w : World) (n : Int) (e : Ending) (w' : World) : Prop := (∃ r : Int, e = .returned (.int .i64 r) ∧ 0 ≤ r ∧ r < n) ∧ w = w'

set_option maxRecDepth 100000 in
theorem pick_any (c n : Int) (w : World) (hc : Fit c) (hn : 1 ≤ n) (hn2 : n ≤ 100) :
    Calls Tryz.prog 12 #[.int .i64 c, .int .i64 n] w (SomeNat w n) := by
  have hb := fit_bounds hc
  by_cases h0 : c < 0
  · have e1 : IntKind.i64.wrap (c + 1) = c + 1 := IntWalk.i64_in _ (by omega)
    have e2 : IntKind.i64.wrap (-(c + 1)) = -(c + 1) := IntWalk.i64_in _ (by omega)
    have e3 : wrap64 (c + 1) = c + 1 := IntWalk.wrap64_in _ (by constructor <;> omega)
    have e4 : wrap64 (-(c + 1)) = -(c + 1) := IntWalk.wrap64_in _ (by constructor <;> omega)
    have h1 : 0 ≤ -(c + 1) := by omega
    clear hb
    go_enter Tryz.func12, Tryz.ntmps12
    go_wp2
    go_ret
    have e5 := Int.emod_nonneg (-(c + 1)) (b := n) (by omega)
    have e6 := Int.emod_lt_of_pos (-(c + 1)) (b := n) (by omega)
    have e7 : (-(c + 1)).tmod n = -(c + 1) % n := Int.tmod_eq_emod_of_nonneg h1
    rw [Int.neg_tmod] at e7
    exact ⟨⟨_, rfl, by omega, by omega⟩, rfl⟩
  · have h1 : 0 ≤ c := by omega
    clear hb
    go_enter Tryz.func12, Tryz.ntmps12
    go_wp2
    go_ret
    exact ⟨⟨_, rfl, Int.emod_nonneg _ (by omega), Int.emod_lt_of_pos _ (by omega)⟩, rfl⟩

/-- One more seat; what held of each holds of each. -/
def InsPost (w : World) (n : Nat) (P : Seat → Prop) (e : Ending) (w' : World) : Prop :=
  (∃ A' c' l', e = .returned (.slice A' (n + 1) c') ∧ Own encS 2 53 w' w.heap.size A' (n + 1) c' l' ∧ ∀ x ∈ l', P x) ∧ Below w.heap.size w w'

set_option maxRecDepth 100000 in
theorem seatMay_any (s : Seat) (w : World) :
    Calls Tryz.prog 43 #[.agg #[.int .i64 s.1, .int .i64 s.2]] w (SomeBool w) := by
  go_enter Tryz.func43, Tryz.ntmps43
  go_wp2
  all_goals
    go_ret
    exact ⟨⟨_, rfl⟩, (Below.refl _ _).alloc (Nat.le_refl _) _⟩

/-- the reference's 'ahead': by round, stage and voter. -/
def aheadV (a b : V) : Bool := if a.r = b.r then (if a.s = b.s then decide (a.fr < b.fr) else decide (a.s < b.s)) else decide (a.r < b.r)

set_option maxRecDepth 100000 in
theorem ahead_any (a b : V) (w : World) :
    Calls Tryz.prog 28 #[.agg #[.int .i64 a.h, .int .i64 a.r, .int .i64 a.s, .bool a.has, .int .u64 a.blk, .int .i64 a.fr], .agg #[.int .i64 b.h, .int .i64 b.r, .int .i64 b.s, .bool b.has, .int .u64 b.blk, .int .i64 b.fr]] w
      fun e w' => e = .returned (.bool (aheadV a b)) ∧ Below w.heap.size w w' := by
  by_cases h1 : a.r = b.r
  · by_cases h2 : a.s = b.s
    · have E : Hid (aheadV a b = decide (a.fr < b.fr)) := by show _ = _; simp [aheadV, h1, h2]
      have b1 : (a.r != b.r) = false := by simp [h1]
      have b2 : (a.s != b.s) = false := by simp [h2]
      clear h1 h2
      go_enter Tryz.func28, Tryz.ntmps28
      go_wp2
      all_goals go_ret
      all_goals exact ⟨by rw [E.out]; rfl, ((Below.refl _ _).alloc (Nat.le_refl _) _).alloc (by simp) _⟩
    · have E : Hid (aheadV a b = decide (a.s < b.s)) := by show _ = _; simp [aheadV, h1, h2]
      have b1 : (a.r != b.r) = false := by simp [h1]
      have b2 : (a.s != b.s) = true := by simp [h2]
      clear h1 h2
      go_enter Tryz.func28, Tryz.ntmps28
      go_wp2
      all_goals go_ret
      all_goals exact ⟨by rw [E.out]; rfl, ((Below.refl _ _).alloc (Nat.le_refl _) _).alloc (by simp) _⟩
  · have E : Hid (aheadV a b = decide (a.r < b.r)) := by show _ = _; simp [aheadV, h1]
    have b1 : (a.r != b.r) = true := by simp [h1]
    clear h1
    go_enter Tryz.func28, Tryz.ntmps28
    go_wp2
    all_goals go_ret
    all_goals exact ⟨by rw [E.out]; rfl, ((Below.refl _ _).alloc (Nat.le_refl _) _).alloc (by simp) _⟩

theorem rd_drop_all {w : World} {B g n : Nat} {l : List Seat} (h : Rd encS 2 w B (some ⟨g, 0, none⟩) n l) (k c : Nat) (hk : k ≤ n) (hc : n ≤ c) (A : Option Addr) (hA : c ≠ k → A = some ⟨g, k * 2, none⟩) : Rd encS 2 w B A (n - k) (l.drop k) := by
  have hd := h.drop k c hk hc
  by_cases hck : c = k
  · have h0 : n - k = 0 := by omega
    have h1 : l.drop k = [] := List.drop_eq_nil_of_le (by rw [h.1]; omega)
    rw [h0, h1]
    exact Rd.nil _ _ _
  · rw [hA hck]
    rwa [if_neg hck, Nat.zero_add] at hd

theorem app_facts {w0 wb w1 : World} {cs : Array Value} (h : Below w0.heap.size w0 wb) (hx : Blk wb w0.heap.size 53 cs) (hg : (wb.alloc (.cells #[] 53)).grownBy w1 (Value.slice (some ⟨wb.heap.size, 0, none⟩) 0 0).ownBlock) :
    Blk w1 w0.heap.size 53 cs ∧ Below w0.heap.size w0 w1 := by
  have hl := hx.lt
  have hs := h.size
  exact ⟨(hx.alloc _).grown hg (by simp [Value.ownBlock]; omega), Below.app (h.alloc hs _) (Own.made (α := Seat) (enc := encS) (k := 2) (e := 53) wb _ hs) hg (by simp; omega)⟩

set_option maxRecDepth 100000 in
set_option maxHeartbeats 1600000 in
theorem insert_some (g n c : Nat) (l : List Seat) (s : Seat) (w : World) (h : Rd encS 2 w w.heap.size (some ⟨g, 0, none⟩) n l) (hn : n ≤ 10000) (hc : n ≤ c) (P : Seat → Prop) (hP : ∀ x ∈ l, P x) (hs : P s) :
    Calls Tryz.prog 44 #[.slice (some ⟨g, 0, none⟩) n c, .agg #[.int .i64 s.1, .int .i64 s.2]] w (InsPost w n P) := by
  obtain rfl := h.1
  have hb0 : Below w.heap.size w (w.alloc (.cells #[.int .i64 s.1, .int .i64 s.2] 53)) := (Below.refl _ _).alloc (Nat.le_refl _) _
  have h0 := h.below hb0
  have hx := Blk.new w 53 #[.int .i64 s.1, .int .i64 s.2]
  obtain ⟨i0, hi, hz0, hz1, hz2⟩ := info_parts Tryz.info53
  go_enter Tryz.func44, Tryz.ntmps44
  go_wp2
  generalize w.alloc (.cells #[.int .i64 s.1, .int .i64 s.2] 53) = wa at *
  have x0 := hx.cell 0; have x1 := hx.cell 1
  have xl := hx.lt
  simp at x0 x1
  have HB := Lib.hid hb0; clear hb0
  have HP := Lib.hid hP; clear hP
  have H0 := Lib.hid h0
  go_loopw [5] (fun i wr => (∃ k : Nat, i = .int .i64 k ∧ k ≤ l.length) ∧ ∃ q, wr = wa.drewN q) (fun i _ => l.length - (intOf i).toNat)
  case atStart => exact ⟨⟨0, rfl, by omega⟩, 0, rfl⟩
  case round =>
    obtain ⟨⟨k, rfl, hk⟩, q, rfl⟩ := hrel
    have hd := rd_drop_all H0.out k c hk hc
    have ht := H0.out.take k hk
    have HD := Lib.hid hd; have HT := Lib.hid ht; clear hd ht
    by_cases hlt : k < l.length
    · obtain ⟨b, off, hA, hb, c0, c1⟩ := rd_seat h0 hlt
      injection hA with hA
      injection hA with hA1 hA2
      subst hA1 hA2
      clear hb
      simp only [Nat.zero_add] at c0 c1
      have g1 : decide ((k : Int) < (l.length : Int)) = true := by simp; omega
      have g2 : (k : Int) < (l.length : Int) := by omega
      by_cases hw : (l[k]).1 < s.1
      · have g3 : decide ((l[k]).1 < s.1) = true := by simpa using hw
        go_wp2_with fail
        go_quiet (fail)
        go_wp2
        go_roundw
        case rel => exact ⟨⟨k + 1, by go_num, by omega⟩, _, rfl⟩
        case measure => simp [intOf]; omega
      · have g3 : decide ((l[k]).1 < s.1) = false := by simpa using hw
        go_wp2_with fail
        go_quiet (fail)
        obtain ⟨wb, hwb⟩ : ∃ wb, (wa.drewN q).drewN nq = wb := ⟨_, rfl⟩
        rw [hwb]
        have hbb : Below w.heap.size w wb := by rw [← hwb]; exact below_drewN (below_drewN HB.out q) nq
        have X0 : Blk wb w.heap.size 53 #[.int .i64 s.1, .int .i64 s.2] := by rw [← hwb]; exact hx
        have TT : Rd encS 2 wb w.heap.size (some ⟨g, 0, none⟩) k (l.take k) := by rw [← hwb]; exact HT.out
        have DD : ∀ A : Option Addr, (c ≠ k → A = some ⟨g, k * 2, none⟩) → Rd encS 2 wb w.heap.size A (l.length - k) (l.drop k) := by rw [← hwb]; exact HD.out
        clear hwb
        have HBB := Lib.hid hbb; have HX := Lib.hid X0; have HTT := Lib.hid TT; have HDD := Lib.hid DD
        clear hbb X0 TT DD
        go_wp2_with (at_builtin; first
          | (refine wpList_app rfl (.tmp 23) (.tmp 26) 22 rfl 53 i0 _ 16 Tryz.underlying22 hi hz0 hz1 hz2 rfl (by decide) lenS oneS w.heap.size _ 0 0 [] rfl (Own.made _ _ HBB.out.size) w.heap.size k _ _ _ rfl (HTT.out.alloc HBB.out.size _) (by simp only [maxLen]; omega) (by omega) (by have := HBB.out.size; simp; omega) ?_; intro A1 c1 w1 hown1 hg1 hat1; obtain ⟨X1, B1⟩ := app_facts HBB.out HX.out hg1; have l0 := X1.cell 0; have l1 := X1.cell 1; simp at l0 l1; have HB1 := Lib.hid B1; rw [Nat.zero_add, List.nil_append] at hown1; have HO1 := Lib.hid hown1; clear B1 hg1 hat1 hown1 X1)
          | (refine wpList_app rfl (.tmp 28) (.tmp 30) 22 rfl 53 i0 _ 16 Tryz.underlying22 hi hz0 hz1 hz2 rfl (by decide) lenS oneS w.heap.size _ k c1 _ rfl (HO1.out.alloc _) (w1.heap.size + 1) 1 1 _ [s] rfl (rd_new w1 53 s _ rfl) (by simp only [maxLen]; omega) (by omega) (by have := HB1.out.size; simp; omega) ?_; intro A2 c2 w2 hown2 hg2 hat2; have B2 := Below.app (HB1.out.alloc HB1.out.size _) (HO1.out.alloc _) hg2 (by have := HB1.out.size; simp; omega); have HD2 := Lib.hid (fun A hA => (HDD.out A hA).keep (w' := w2) (fun p hp => (B2.cell hp).trans (HBB.out.cell hp).symm)); have HB2 := Lib.hid B2; have HO2 := Lib.hid hown2; clear B2 hg2 hat2 hown2 l0 l1)
          | (refine wpList_app rfl (.tmp 32) (.tmp 35) 22 rfl 53 i0 _ 16 Tryz.underlying22 hi hz0 hz1 hz2 rfl (by decide) lenS oneS w.heap.size _ (k + 1) c2 _ rfl HO2.out w.heap.size (l.length - k) _ _ _ rfl (HD2.out _ (by first | (intro _; rfl) | (intro hh; exact absurd ‹c = k› hh) | (intro hh; exact absurd rfl hh))) (by simp only [maxLen]; omega) (by omega) HB2.out.size ?_; intro A4 c4 w4 hown4 hg4 hat4; have B4 := Below.app HB2.out HO2.out hg4 HB2.out.size; have HB4 := Lib.hid B4; have HO4 := Lib.hid hown4; clear B4 hg4 hat4 hown4))
        all_goals
          go_ret
          have e0 : k + 1 + (l.length - k) = l.length + 1 := by omega
          have HO := HO4.out
          rw [e0] at HO
          rw [e0]
          refine ⟨⟨A4, c4, _, rfl, HO, fun x hx => ?_⟩, HB4.out⟩
          rcases List.mem_append.1 hx with hx | hx
          · rcases List.mem_append.1 hx with hx | hx
            · exact HP.out x (List.mem_of_mem_take hx)
            · rw [List.mem_singleton.1 hx]; exact hs
          · exact HP.out x (List.mem_of_mem_drop hx)
    · have g1 : decide ((k : Int) < (l.length : Int)) = false := by simp; omega
      go_wp2_with fail
      go_quiet (fail)
      by_cases hck : c = k
      · skip
        obtain ⟨wb, hwb⟩ : ∃ wb, (wa.drewN q).drewN nq = wb := ⟨_, rfl⟩
        rw [hwb]
        have hbb : Below w.heap.size w wb := by rw [← hwb]; exact below_drewN (below_drewN HB.out q) nq
        have X0 : Blk wb w.heap.size 53 #[.int .i64 s.1, .int .i64 s.2] := by rw [← hwb]; exact hx
        have TT : Rd encS 2 wb w.heap.size (some ⟨g, 0, none⟩) k (l.take k) := by rw [← hwb]; exact HT.out
        have DD : ∀ A : Option Addr, (c ≠ k → A = some ⟨g, k * 2, none⟩) → Rd encS 2 wb w.heap.size A (l.length - k) (l.drop k) := by rw [← hwb]; exact HD.out
        clear hwb
        have HBB := Lib.hid hbb; have HX := Lib.hid X0; have HTT := Lib.hid TT; have HDD := Lib.hid DD
        clear hbb X0 TT DD
        go_wp2_with (at_builtin; first
          | (refine wpList_app rfl (.tmp 23) (.tmp 26) 22 rfl 53 i0 _ 16 Tryz.underlying22 hi hz0 hz1 hz2 rfl (by decide) lenS oneS w.heap.size _ 0 0 [] rfl (Own.made _ _ HBB.out.size) w.heap.size k _ _ _ rfl (HTT.out.alloc HBB.out.size _) (by simp only [maxLen]; omega) (by omega) (by have := HBB.out.size; simp; omega) ?_; intro A1 c1 w1 hown1 hg1 hat1; obtain ⟨X1, B1⟩ := app_facts HBB.out HX.out hg1; have l0 := X1.cell 0; have l1 := X1.cell 1; simp at l0 l1; have HB1 := Lib.hid B1; rw [Nat.zero_add, List.nil_append] at hown1; have HO1 := Lib.hid hown1; clear B1 hg1 hat1 hown1 X1)
          | (refine wpList_app rfl (.tmp 28) (.tmp 30) 22 rfl 53 i0 _ 16 Tryz.underlying22 hi hz0 hz1 hz2 rfl (by decide) lenS oneS w.heap.size _ k c1 _ rfl (HO1.out.alloc _) (w1.heap.size + 1) 1 1 _ [s] rfl (rd_new w1 53 s _ rfl) (by simp only [maxLen]; omega) (by omega) (by have := HB1.out.size; simp; omega) ?_; intro A2 c2 w2 hown2 hg2 hat2; have B2 := Below.app (HB1.out.alloc HB1.out.size _) (HO1.out.alloc _) hg2 (by have := HB1.out.size; simp; omega); have HD2 := Lib.hid (fun A hA => (HDD.out A hA).keep (w' := w2) (fun p hp => (B2.cell hp).trans (HBB.out.cell hp).symm)); have HB2 := Lib.hid B2; have HO2 := Lib.hid hown2; clear B2 hg2 hat2 hown2 l0 l1)
          | (refine wpList_app rfl (.tmp 32) (.tmp 35) 22 rfl 53 i0 _ 16 Tryz.underlying22 hi hz0 hz1 hz2 rfl (by decide) lenS oneS w.heap.size _ (k + 1) c2 _ rfl HO2.out w.heap.size (l.length - k) _ _ _ rfl (HD2.out _ (by first | (intro _; rfl) | (intro hh; exact absurd ‹c = k› hh) | (intro hh; exact absurd rfl hh))) (by simp only [maxLen]; omega) (by omega) HB2.out.size ?_; intro A4 c4 w4 hown4 hg4 hat4; have B4 := Below.app HB2.out HO2.out hg4 HB2.out.size; have HB4 := Lib.hid B4; have HO4 := Lib.hid hown4; clear B4 hg4 hat4 hown4))
        all_goals
          go_ret
          have e0 : k + 1 + (l.length - k) = l.length + 1 := by omega
          have HO := HO4.out
          rw [e0] at HO
          rw [e0]
          refine ⟨⟨A4, c4, _, rfl, HO, fun x hx => ?_⟩, HB4.out⟩
          rcases List.mem_append.1 hx with hx | hx
          · rcases List.mem_append.1 hx with hx | hx
            · exact HP.out x (List.mem_of_mem_take hx)
            · rw [List.mem_singleton.1 hx]; exact hs
          · exact HP.out x (List.mem_of_mem_drop hx)
      · skip
        obtain ⟨wb, hwb⟩ : ∃ wb, (wa.drewN q).drewN nq = wb := ⟨_, rfl⟩
        rw [hwb]
        have hbb : Below w.heap.size w wb := by rw [← hwb]; exact below_drewN (below_drewN HB.out q) nq
        have X0 : Blk wb w.heap.size 53 #[.int .i64 s.1, .int .i64 s.2] := by rw [← hwb]; exact hx
        have TT : Rd encS 2 wb w.heap.size (some ⟨g, 0, none⟩) k (l.take k) := by rw [← hwb]; exact HT.out
        have DD : ∀ A : Option Addr, (c ≠ k → A = some ⟨g, k * 2, none⟩) → Rd encS 2 wb w.heap.size A (l.length - k) (l.drop k) := by rw [← hwb]; exact HD.out
        clear hwb
        have HBB := Lib.hid hbb; have HX := Lib.hid X0; have HTT := Lib.hid TT; have HDD := Lib.hid DD
        clear hbb X0 TT DD
        go_wp2_with (at_builtin; first
          | (refine wpList_app rfl (.tmp 23) (.tmp 26) 22 rfl 53 i0 _ 16 Tryz.underlying22 hi hz0 hz1 hz2 rfl (by decide) lenS oneS w.heap.size _ 0 0 [] rfl (Own.made _ _ HBB.out.size) w.heap.size k _ _ _ rfl (HTT.out.alloc HBB.out.size _) (by simp only [maxLen]; omega) (by omega) (by have := HBB.out.size; simp; omega) ?_; intro A1 c1 w1 hown1 hg1 hat1; obtain ⟨X1, B1⟩ := app_facts HBB.out HX.out hg1; have l0 := X1.cell 0; have l1 := X1.cell 1; simp at l0 l1; have HB1 := Lib.hid B1; rw [Nat.zero_add, List.nil_append] at hown1; have HO1 := Lib.hid hown1; clear B1 hg1 hat1 hown1 X1)
          | (refine wpList_app rfl (.tmp 28) (.tmp 30) 22 rfl 53 i0 _ 16 Tryz.underlying22 hi hz0 hz1 hz2 rfl (by decide) lenS oneS w.heap.size _ k c1 _ rfl (HO1.out.alloc _) (w1.heap.size + 1) 1 1 _ [s] rfl (rd_new w1 53 s _ rfl) (by simp only [maxLen]; omega) (by omega) (by have := HB1.out.size; simp; omega) ?_; intro A2 c2 w2 hown2 hg2 hat2; have B2 := Below.app (HB1.out.alloc HB1.out.size _) (HO1.out.alloc _) hg2 (by have := HB1.out.size; simp; omega); have HD2 := Lib.hid (fun A hA => (HDD.out A hA).keep (w' := w2) (fun p hp => (B2.cell hp).trans (HBB.out.cell hp).symm)); have HB2 := Lib.hid B2; have HO2 := Lib.hid hown2; clear B2 hg2 hat2 hown2 l0 l1)
          | (refine wpList_app rfl (.tmp 32) (.tmp 35) 22 rfl 53 i0 _ 16 Tryz.underlying22 hi hz0 hz1 hz2 rfl (by decide) lenS oneS w.heap.size _ (k + 1) c2 _ rfl HO2.out w.heap.size (l.length - k) _ _ _ rfl (HD2.out _ (by first | (intro _; rfl) | (intro hh; exact absurd ‹c = k› hh) | (intro hh; exact absurd rfl hh))) (by simp only [maxLen]; omega) (by omega) HB2.out.size ?_; intro A4 c4 w4 hown4 hg4 hat4; have B4 := Below.app HB2.out HO2.out hg4 HB2.out.size; have HB4 := Lib.hid B4; have HO4 := Lib.hid hown4; clear B4 hg4 hat4 hown4))
        all_goals
          go_ret
          have e0 : k + 1 + (l.length - k) = l.length + 1 := by omega
          have HO := HO4.out
          rw [e0] at HO
          rw [e0]
          refine ⟨⟨A4, c4, _, rfl, HO, fun x hx => ?_⟩, HB4.out⟩
          rcases List.mem_append.1 hx with hx | hx
          · rcases List.mem_append.1 hx with hx | hx
            · exact HP.out x (List.mem_of_mem_take hx)
            · rw [List.mem_singleton.1 hx]; exact hs
          · exact HP.out x (List.mem_of_mem_drop hx)

set_option maxRecDepth 100000 in
set_option maxHeartbeats 1600000 in
theorem insert_none (s : Seat) (w : World) (P : Seat → Prop) (hs : P s) :
    Calls Tryz.prog 44 #[.slice none 0 0, .agg #[.int .i64 s.1, .int .i64 s.2]] w (InsPost w 0 P) := by
  have hb0 : Below w.heap.size w (w.alloc (.cells #[.int .i64 s.1, .int .i64 s.2] 53)) := (Below.refl _ _).alloc (Nat.le_refl _) _
  have hx := Blk.new w 53 #[.int .i64 s.1, .int .i64 s.2]
  obtain ⟨i0, hi, hz0, hz1, hz2⟩ := info_parts Tryz.info53
  go_enter Tryz.func44, Tryz.ntmps44
  go_wp2
  generalize w.alloc (.cells #[.int .i64 s.1, .int .i64 s.2] 53) = wa at *
  have x0 := hx.cell 0; have x1 := hx.cell 1
  have xl := hx.lt
  simp at x0 x1
  have HB := Lib.hid hb0; clear hb0
  go_loopw [5] (fun i wr => i = .int .i64 0 ∧ ∃ q, wr = wa.drewN q) (fun i _ => 0)
  case atStart => exact ⟨rfl, 0, rfl⟩
  case round =>
    obtain ⟨rfl, q, rfl⟩ := hrel
    go_wp2_with fail
    go_quiet (fail)
    obtain ⟨wb, hwb⟩ : ∃ wb, (wa.drewN q).drewN nq = wb := ⟨_, rfl⟩
    rw [hwb]
    have hbb : Below w.heap.size w wb := by rw [← hwb]; exact below_drewN (below_drewN HB.out q) nq
    have X0 : Blk wb w.heap.size 53 #[.int .i64 s.1, .int .i64 s.2] := by rw [← hwb]; exact hx
    have TT : Rd encS 2 wb w.heap.size none 0 [] := Rd.nil _ _ _
    clear hwb
    have HBB := Lib.hid hbb; have HX := Lib.hid X0; have HTT := Lib.hid TT; skip
    clear hbb X0 TT
    go_wp2_with (at_builtin; first
      | (refine wpList_app rfl (.tmp 23) (.tmp 26) 22 rfl 53 i0 _ 16 Tryz.underlying22 hi hz0 hz1 hz2 rfl (by decide) lenS oneS w.heap.size _ 0 0 [] rfl (Own.made _ _ HBB.out.size) w.heap.size 0 0 _ _ rfl (HTT.out.alloc HBB.out.size _) (by simp only [maxLen]; omega) (by omega) (by have := HBB.out.size; simp; omega) ?_; intro A1 c1 w1 hown1 hg1 hat1; obtain ⟨X1, B1⟩ := app_facts HBB.out HX.out hg1; have l0 := X1.cell 0; have l1 := X1.cell 1; simp at l0 l1; have HB1 := Lib.hid B1; rw [Nat.zero_add, List.nil_append] at hown1; have HO1 := Lib.hid hown1; clear B1 hg1 hat1 hown1 X1)
      | (refine wpList_app rfl (.tmp 28) (.tmp 30) 22 rfl 53 i0 _ 16 Tryz.underlying22 hi hz0 hz1 hz2 rfl (by decide) lenS oneS w.heap.size _ 0 c1 _ rfl (HO1.out.alloc _) (w1.heap.size + 1) 1 1 _ [s] rfl (rd_new w1 53 s _ rfl) (by simp only [maxLen]; omega) (by omega) (by have := HB1.out.size; simp; omega) ?_; intro A2 c2 w2 hown2 hg2 hat2; have B2 := Below.app (HB1.out.alloc HB1.out.size _) (HO1.out.alloc _) hg2 (by have := HB1.out.size; simp; omega); have HB2 := Lib.hid B2; have HO2 := Lib.hid hown2; clear B2 hg2 hat2 hown2 l0 l1)
      | (refine wpList_app rfl (.tmp 32) (.tmp 35) 22 rfl 53 i0 _ 16 Tryz.underlying22 hi hz0 hz1 hz2 rfl (by decide) lenS oneS w.heap.size _ (0 + 1) c2 _ rfl HO2.out w.heap.size 0 _ none [] rfl (Rd.nil _ _ _) (by simp only [maxLen]; omega) (by omega) HB2.out.size ?_; intro A4 c4 w4 hown4 hg4 hat4; have B4 := Below.app HB2.out HO2.out hg4 HB2.out.size; have HB4 := Lib.hid B4; have HO4 := Lib.hid hown4; clear B4 hg4 hat4 hown4))
    all_goals
      go_ret
      have HO := HO4.out
      refine ⟨⟨A4, c4, _, rfl, HO, fun x hx => ?_⟩, HB4.out⟩
      have hx2 : x = s := by simpa using hx
      rw [hx2]; exact hs

theorem insert_any (A : Option Addr) (n c base : Nat) (l : List Seat) (s : Seat) (w : World) (h : Own encS 2 53 w base A n c l) (hn : n ≤ 10000) (P : Seat → Prop) (hP : ∀ x ∈ l, P x) (hs : P s) :
    Calls Tryz.prog 44 #[.slice A n c, .agg #[.int .i64 s.1, .int .i64 s.2]] w (InsPost w n P) := by
  have hr := h.rd lenS
  rcases h.cases_ with ⟨rfl, rfl, rfl, rfl⟩ | ⟨g, rfl, _, _, hc, _⟩
  · exact insert_none s w P hs
  · exact insert_some g n c l s w hr hn hc P hP hs

end Go.Proofs.YtkjhacfmidmebaaGreat
