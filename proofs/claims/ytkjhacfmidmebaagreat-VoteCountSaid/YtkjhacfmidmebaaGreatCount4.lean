/- The reference's Best. -/
import Derived.Test.YtkjhacfmidmebaaGreatCount3
namespace Go.Proofs.YtkjhacfmidmebaaGreat
open Go.RowKit

theorem revAt {α β : Type} {f : α → Option β} {L : List α} {m : Nat} (h : m < L.length) (hn : ∀ v ∈ L.drop (m + 1), f v = none) {o : β} (hp : f L[m] = some o) : L.reverse.findSome? f = some o := by
  have e : L.reverse = (L.drop (m + 1)).reverse ++ (L[m] :: (L.take m).reverse) := by
    have h2 := List.take_append_drop m L
    rw [List.drop_eq_getElem_cons h] at h2
    have h3 := congrArg List.reverse h2
    rw [← h3]
    simp
  rw [e, List.findSome?_append, someNone (fun v hv => hn v (List.mem_reverse.1 hv))]
  simp [List.findSome?_cons, hp]

set_option maxRecDepth 100000 in
set_option maxHeartbeats 3200000 in
theorem bestD_any (C : Nat) (S : List Seat) (H round : Int) (L : List V) (w : World) (h : DRep w C S H L) (hS : Bench S) (hL : L.length ≤ 4096) :
    Calls Tryz.prog 20 #[.pointer (some ⟨C, 0, none⟩), .int .i64 round] w fun e w' => CertIs w.heap.size H 1 (bestO S L round) e w' ∧ Below w.heap.size w w' := by
  have HD := Lib.hid h
  obtain ⟨As, ns, cs, Al, nl, cl, hblk, hseats, hvotes⟩ := h
  have hl := hvotes.1
  subst hl
  have HBk := Lib.hid hblk; have HVo := Lib.hid (hvotes.rd lenV)
  have HS := Lib.hid hS; clear hS
  have hC := hblk.lt
  clear hblk hseats hvotes
  have hb0 : Below w.heap.size w (w.alloc (.cells #[.int .i64 0, .int .i64 0, .int .i64 0, .bool false, .int .u64 0, .slice none 0 0] 42)) := (Below.refl _ _).alloc (Nat.le_refl _) _
  have hx := Blk.new w 42 #[.int .i64 0, .int .i64 0, .int .i64 0, .bool false, .int .u64 0, .slice none 0 0]
  have HB0 := Lib.hid hb0; have HX := Lib.hid hx
  clear hb0 hx
  have e0 : IntKind.i64.wrap ((L.length : Int) - 1) = (L.length : Int) - 1 := IntWalk.i64_in _ (by omega)
  have j0 := HBk.out.cell 0; have j1 := HBk.out.cell 1; have j2 := HBk.out.cell 2
  simp at j0 j1 j2
  go_enter Tryz.func20, Tryz.ntmps20
  go_wp2
  clear j0 j1 j2 e0
  go_loopw [6] (fun i wr => Hid (∃ k : Nat, i = .int .i64 ((k : Int) - 1) ∧ k ≤ L.length ∧ Blk wr w.heap.size 42 #[.int .i64 0, .int .i64 0, .int .i64 0, .bool false, .int .u64 0, .slice none 0 0] ∧ (∀ v ∈ L.drop k, bestF S L round v = none)) ∧ Hid (Below w.heap.size w wr)) (fun i _ => (intOf i + 1).toNat)
  case atStart => exact ⟨⟨L.length, by go_num, by omega, HX.out, by simp⟩, HB0.out⟩
  case round =>
    clear HX HB0
    obtain ⟨HE, HW⟩ := hrel
    obtain ⟨k, rfl, hk, hres, hno⟩ := HE.out
    clear HE
    have HR := Lib.hid hres; have HNo := Lib.hid hno; clear hres hno
    have hb := HBk.out.below HW.out hC
    have k0 := hb.cell 0; have k1 := hb.cell 1; have k2 := hb.cell 2
    simp at k0 k1 k2
    clear hb
    have HB := HW.out.size
    rcases k with _ | m
    rotate_left
    · have em : ((m + 1 : Nat) : Int) - 1 = (m : Int) := by omega
      rw [em]
      have hlt : m < L.length := by omega
      obtain ⟨b, off, rfl, hb, c0, c1, c2', c3, c4, c5⟩ := rd_vote (HVo.out.below HW.out) hlt
      have h1 : (m : Int) < (L.length : Int) := by omega
      have e1 : IntKind.i64.wrap ((m : Int) - 1) = (m : Int) - 1 := IntWalk.i64_in _ (by omega)
      have hnext : bestF S L round L[m] = none → ∀ v ∈ L.drop m, bestF S L round v = none := by
        intro hb v hv
        rw [List.drop_eq_getElem_cons hlt] at hv
        rcases List.mem_cons.1 hv with hv | hv
        · rw [hv, hb]
        · exact HNo.out v hv
      have HF := Lib.hid hnext; clear hnext
      generalize hv : L[m] = vk at *
      have hbw : b < wr.heap.size := by omega
      by_cases a2 : vk.s = 1 ∧ vk.r ≤ round
      · have HCC := leadD_any C S H vk.r 1 L wr (HD.out.below HW.out) HS.out hL
        have a2' : (vk.s == 1) = true := by simpa using a2.1
        have a3' : decide (vk.r ≤ round) = true := by simpa using a2.2
        have r0 := HR.out.cell 0; have r1 := HR.out.cell 1; have r2 := HR.out.cell 2; have r3 := HR.out.cell 3; have r4 := HR.out.cell 4; have r5 := HR.out.cell 5
        simp at r0 r1 r2 r3 r4 r5
        have rl := HR.out.lt
        rcases ho : leadO S L vk.r 1 with _ | ⟨r', has, blk, fr⟩
        · have hno : bestF S L round vk = none := by unfold bestF goodO; rw [if_pos a2, ho]
          rw [ho] at HCC
          have HC := Lib.hid HCC; clear HCC a2
          go_wp2_with (go_at_call 14; refine HC.out.mono ?_; rintro e w1 ⟨rfl, hb1⟩; have Z0 := Lib.hid (HW.out.trans (hb1.mono HB)); have Z1 := Lib.hid (HR.out.below hb1 rl); clear hb1)
          go_roundw
          case rel => exact ⟨⟨m, rfl, by omega, Z1.out.alloc _, HF.out hno⟩, Z0.out.alloc Z0.out.size _⟩
          case measure => simp [intOf] <;> omega
        · rw [ho] at HCC
          have HC := Lib.hid HCC; clear HCC
          rcases has with _ | _
          · have hno : bestF S L round vk = none := by unfold bestF goodO; rw [if_pos a2, ho]; rfl
            clear a2
            go_wp2_with (go_at_call 14; refine HC.out.mono ?_; rintro e w1 ⟨⟨A3, n3, c3, rfl, hr3⟩, hb1⟩; have Z0 := Lib.hid (HW.out.trans (hb1.mono HB)); have Z1 := Lib.hid (HR.out.below hb1 rl); clear hb1 hr3)
            go_roundw
            case rel => exact ⟨⟨m, rfl, by omega, Z1.out.alloc _, HF.out hno⟩, Z0.out.alloc Z0.out.size _⟩
            case measure => simp [intOf] <;> omega
          · have hyes : bestF S L round vk = some (r', true, blk, fr) := by unfold bestF goodO; rw [if_pos a2, ho]; rfl
            clear a2
            go_wp2_with (go_at_call 14; refine HC.out.mono ?_; rintro e w1 ⟨⟨A3, n3, c3, rfl, hr3⟩, hb1⟩; have Z0 := Lib.hid (HW.out.trans (hb1.mono HB)); have z1 := HR.out.below hb1 rl; have Z3 := Lib.hid hr3; have s0 := z1.cell 0; have s1 := z1.cell 1; have s2 := z1.cell 2; have s3 := z1.cell 3; have s4 := z1.cell 4; have s5 := z1.cell 5; have sf := z1.frozen; have sl := z1.lt; simp at s0 s1 s2 s3 s4 s5; have Z1 := Lib.hid z1; clear hb1 hr3 z1)
            have hb9 := (sixth_blk Z1.out (.int .i64 H) (.int .i64 r') (.int .i64 1) (.bool true) (.int .u64 blk) (.slice A3 n3 c3)).alloc (.cells #[.int .i64 H, .int .i64 r', .int .i64 1, .bool true, .int .u64 blk, .slice A3 n3 c3] 42)
            have ho9 := (sixth_own Z1.out (.int .i64 H) (.int .i64 r') (.int .i64 1) (.bool true) (.int .u64 blk) (.slice A3 n3 c3) (Z3.out.mono HB)).alloc (.cells #[.int .i64 H, .int .i64 r', .int .i64 1, .bool true, .int .u64 blk, .slice A3 n3 c3] 42)
            have hB8 := sixth_below (.int .i64 H) (.int .i64 r') (.int .i64 1) (.bool true) (.int .u64 blk) (.slice A3 n3 c3) (Nat.le_refl _) Z0.out
            have hB9 := hB8.alloc hB8.size (.cells #[.int .i64 H, .int .i64 r', .int .i64 1, .bool true, .int .u64 blk, .slice A3 n3 c3] 42)
            clear hB8
            unfold sixth at hb9 ho9 hB9
            generalize hwf : World.alloc _ (.cells #[.int .i64 H, .int .i64 r', .int .i64 1, .bool true, .int .u64 blk, .slice A3 n3 c3] 42) = wf at *
            clear hwf
            have f0 := hb9.cell 0; have f1 := hb9.cell 1; have f2 := hb9.cell 2; have f3 := hb9.cell 3; have f4 := hb9.cell 4; have f5 := hb9.cell 5
            simp at f0 f1 f2 f3 f4 f5
            refine bodyPost_ret (v := .tuple #[.agg #[.int .i64 H, .int .i64 r', .int .i64 1, .bool true, .int .u64 blk, .slice A3 n3 c3], .bool true]) (by simp [results, Tryz.results20, go_sem, f0, f1, f2, f3, f4, f5]; try rfl) rfl ?_
            have hL : bestO S L round = some (r', true, blk, fr) := revAt hlt HNo.out (by rw [hv]; exact hyes)
            exact ⟨by rw [hL]; exact ⟨A3, n3, c3, rfl, ho9⟩, hB9⟩
      · have hno : bestF S L round vk = none := by unfold bestF; rw [if_neg a2]
        by_cases a3 : vk.s = 1
        · have a3' : (vk.s == 1) = true := by simpa using a3
          have a4' : decide (vk.r ≤ round) = false := by simp; omega
          clear a2 a3
          go_wp2
          go_roundw
          case rel => exact ⟨⟨m, rfl, by omega, HR.out, HF.out hno⟩, HW.out⟩
          case measure => simp [intOf] <;> omega
        · have a3' : (vk.s == 1) = false := by simpa using a3
          clear a2 a3
          go_wp2
          go_roundw
          case rel => exact ⟨⟨m, rfl, by omega, HR.out, HF.out hno⟩, HW.out⟩
          case measure => simp [intOf] <;> omega
    · have em : ((0 : Nat) : Int) - 1 = -1 := by omega
      rw [em]
      have x0 := HR.out.cell 0; have x1 := HR.out.cell 1; have x2 := HR.out.cell 2; have x3 := HR.out.cell 3; have x4 := HR.out.cell 4; have x5 := HR.out.cell 5
      simp at x0 x1 x2 x3 x4 x5
      have xf := HR.out.frozen
      go_wp2
      have hb9 := sixth_blk HR.out (.int .i64 0) (.int .i64 0) (.int .i64 0) (.bool false) (.int .u64 0) (.slice none 0 0)
      have hB9 := sixth_below (.int .i64 0) (.int .i64 0) (.int .i64 0) (.bool false) (.int .u64 0) (.slice none 0 0) (Nat.le_refl _) HW.out
      unfold sixth at hb9 hB9
      generalize hwf : World.setCell _ ⟨_, 5, none⟩ _ = wf at *
      clear hwf
      have f0 := hb9.cell 0; have f1 := hb9.cell 1; have f2 := hb9.cell 2; have f3 := hb9.cell 3; have f4 := hb9.cell 4; have f5 := hb9.cell 5
      simp at f0 f1 f2 f3 f4 f5
      refine bodyPost_ret (v := .tuple #[.agg #[.int .i64 0, .int .i64 0, .int .i64 0, .bool false, .int .u64 0, .slice none 0 0], .bool false]) (by simp [results, Tryz.results20, go_sem, f0, f1, f2, f3, f4, f5]; try rfl) rfl ?_
      have hL : bestO S L round = none := by
        have := HNo.out
        rw [List.drop_zero] at this
        exact someNone (fun v hv => this v (List.mem_reverse.1 hv))
      exact ⟨by rw [hL]; rfl, hB9⟩

end Go.Proofs.YtkjhacfmidmebaaGreat
