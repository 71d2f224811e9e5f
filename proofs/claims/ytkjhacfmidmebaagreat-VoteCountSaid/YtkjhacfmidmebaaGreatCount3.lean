/- The reference's Closed and Best. -/
import Derived.Test.YtkjhacfmidmebaaGreatCount2
namespace Go.Proofs.YtkjhacfmidmebaaGreat
open Go.RowKit

abbrev Dec := Int × Bool × Int × List Int
def goodO (S : List Seat) (L : List V) (r s : Int) : Option Dec :=
  match leadO S L r s with
  | none => none
  | some o => if o.2.1 then some o else none
def closedF (S : List Seat) (L : List V) (v : V) : Option Dec := if v.s = 2 then goodO S L v.r 2 else none
def closedO (S : List Seat) (L : List V) : Option Dec := L.findSome? (closedF S L)
def bestF (S : List Seat) (L : List V) (round : Int) (v : V) : Option Dec := if v.s = 1 ∧ v.r ≤ round then goodO S L v.r 1 else none
def bestO (S : List Seat) (L : List V) (round : Int) : Option Dec := L.reverse.findSome? (bestF S L round)

theorem someAt {α β : Type} {f : α → Option β} : ∀ {L : List α} {k : Nat} (h : k < L.length), (∀ v ∈ L.take k, f v = none) → ∀ {o}, f L[k] = some o → L.findSome? f = some o
  | [], k, h, _, _, _ => absurd h (by simp)
  | x :: r, 0, _, _, o, hp => by
    have h0 : f x = some o := hp
    simp [List.findSome?_cons, h0]
  | x :: r, k + 1, h, hn, o, hp => by
    have h0 : f x = none := hn x (by simp)
    simp only [List.findSome?_cons, h0]
    exact someAt (by simpa using h) (fun v hv => hn v (by simp [hv])) hp
theorem someNone {α β : Type} {f : α → Option β} {L : List α} (hn : ∀ v ∈ L, f v = none) : L.findSome? f = none := by
  rw [List.findSome?_eq_none_iff]
  exact hn

set_option maxRecDepth 100000 in
set_option maxHeartbeats 3200000 in
theorem closedD_any (C : Nat) (S : List Seat) (H : Int) (L : List V) (w : World) (h : DRep w C S H L) (hS : Bench S) (hL : L.length ≤ 4096) :
    Calls Tryz.prog 10 #[.pointer (some ⟨C, 0, none⟩)] w fun e w' => CertIs w.heap.size H 2 (closedO S L) e w' ∧ Below w.heap.size w w' := by
  have HD := Lib.hid h
  obtain ⟨As, ns, cs, Al, nl, cl, hblk, hseats, hvotes⟩ := h
  have hl := hvotes.1
  subst hl
  have HBk := Lib.hid hblk; have HVo := Lib.hid (hvotes.rd lenV)
  have HS := Lib.hid hS; clear hS
  have hC := hblk.lt
  clear hblk hseats hvotes
  have hb0 : Below w.heap.size w (w.alloc (.cells #[.int .i64 0, .int .i64 0, .int .i64 0, .bool false, .int .u64 0, .slice none 0 0] 42)) := (Below.refl _ _).alloc (Nat.le_refl _) _
  have hx := Blk.new w 42 #[.int .i64 0, .int .i64 0, .int .i64 0, .bool false, .int .u64 0, .slice none 0 0]
  have HB0 := Lib.hid hb0; have HX := Lib.hid hx
  clear hb0 hx
  go_enter Tryz.func10, Tryz.ntmps10
  go_wp2
  go_loopw [4] (fun i wr => Hid (∃ k : Nat, i = .int .i64 k ∧ k ≤ L.length ∧ Blk wr w.heap.size 42 #[.int .i64 0, .int .i64 0, .int .i64 0, .bool false, .int .u64 0, .slice none 0 0] ∧ (∀ v ∈ L.take k, closedF S L v = none)) ∧ Hid (Below w.heap.size w wr)) (fun i _ => L.length - (intOf i).toNat)
  case atStart => exact ⟨⟨0, rfl, by omega, HX.out, by simp⟩, HB0.out⟩
  case round =>
    clear HX HB0
    obtain ⟨HE, HW⟩ := hrel
    obtain ⟨k, rfl, hk, hres, hno⟩ := HE.out
    clear HE
    have HR := Lib.hid hres; have HNo := Lib.hid hno; clear hres hno
    have hb := HBk.out.below HW.out hC
    have k0 := hb.cell 0; have k1 := hb.cell 1; have k2 := hb.cell 2
    simp at k0 k1 k2
    clear hb
    have HB := HW.out.size
    by_cases hlt : k < L.length
    · obtain ⟨b, off, rfl, hb, c0, c1, c2', c3, c4, c5⟩ := rd_vote (HVo.out.below HW.out) hlt
      have h1 : (k : Int) < (L.length : Int) := by omega
      have hnext : closedF S L L[k] = none → ∀ v ∈ L.take (k + 1), closedF S L v = none := by
        intro hb v hv
        rw [take_succ_of hlt] at hv
        rcases List.mem_append.1 hv with hv | hv
        · exact HNo.out v hv
        · rw [List.mem_singleton.1 hv, hb]
      have HF := Lib.hid hnext; clear hnext
      generalize hv : L[k] = vk at *
      have hbw : b < wr.heap.size := by omega
      by_cases a2 : vk.s = 2
      · have HCC := leadD_any C S H vk.r 2 L wr (HD.out.below HW.out) HS.out hL
        have a2' : (vk.s == 2) = true := by simpa using a2
        have r0 := HR.out.cell 0; have r1 := HR.out.cell 1; have r2 := HR.out.cell 2; have r3 := HR.out.cell 3; have r4 := HR.out.cell 4; have r5 := HR.out.cell 5
        simp at r0 r1 r2 r3 r4 r5
        have rl := HR.out.lt
        rcases ho : leadO S L vk.r 2 with _ | ⟨r', has, blk, fr⟩
        · have hno : closedF S L vk = none := by unfold closedF goodO; rw [if_pos a2, ho]
          rw [ho] at HCC
          have HC := Lib.hid HCC; clear HCC a2
          go_wp2_with (go_at_call 14; refine HC.out.mono ?_; rintro e w1 ⟨rfl, hb1⟩; have Z0 := Lib.hid (HW.out.trans (hb1.mono HB)); have Z1 := Lib.hid (HR.out.below hb1 rl); clear hb1)
          go_roundw
          case rel => exact ⟨⟨k + 1, by go_num, by omega, Z1.out.alloc _, HF.out hno⟩, Z0.out.alloc Z0.out.size _⟩
          case measure => simp [intOf]; omega
        · rw [ho] at HCC
          have HC := Lib.hid HCC; clear HCC
          rcases has with _ | _
          · have hno : closedF S L vk = none := by unfold closedF goodO; rw [if_pos a2, ho]; rfl
            clear a2
            go_wp2_with (go_at_call 14; refine HC.out.mono ?_; rintro e w1 ⟨⟨A3, n3, c3, rfl, hr3⟩, hb1⟩; have Z0 := Lib.hid (HW.out.trans (hb1.mono HB)); have Z1 := Lib.hid (HR.out.below hb1 rl); clear hb1 hr3)
            go_roundw
            case rel => exact ⟨⟨k + 1, by go_num, by omega, Z1.out.alloc _, HF.out hno⟩, Z0.out.alloc Z0.out.size _⟩
            case measure => simp [intOf]; omega
          · have hyes : closedF S L vk = some (r', true, blk, fr) := by unfold closedF goodO; rw [if_pos a2, ho]; rfl
            clear a2
            go_wp2_with (go_at_call 14; refine HC.out.mono ?_; rintro e w1 ⟨⟨A3, n3, c3, rfl, hr3⟩, hb1⟩; have Z0 := Lib.hid (HW.out.trans (hb1.mono HB)); have z1 := HR.out.below hb1 rl; have Z3 := Lib.hid hr3; have s0 := z1.cell 0; have s1 := z1.cell 1; have s2 := z1.cell 2; have s3 := z1.cell 3; have s4 := z1.cell 4; have s5 := z1.cell 5; have sf := z1.frozen; have sl := z1.lt; simp at s0 s1 s2 s3 s4 s5; have Z1 := Lib.hid z1; clear hb1 hr3 z1)
            have hb9 := (sixth_blk Z1.out (.int .i64 H) (.int .i64 r') (.int .i64 2) (.bool true) (.int .u64 blk) (.slice A3 n3 c3)).alloc (.cells #[.int .i64 H, .int .i64 r', .int .i64 2, .bool true, .int .u64 blk, .slice A3 n3 c3] 42)
            have ho9 := (sixth_own Z1.out (.int .i64 H) (.int .i64 r') (.int .i64 2) (.bool true) (.int .u64 blk) (.slice A3 n3 c3) (Z3.out.mono HB)).alloc (.cells #[.int .i64 H, .int .i64 r', .int .i64 2, .bool true, .int .u64 blk, .slice A3 n3 c3] 42)
            have hB8 := sixth_below (.int .i64 H) (.int .i64 r') (.int .i64 2) (.bool true) (.int .u64 blk) (.slice A3 n3 c3) (Nat.le_refl _) Z0.out
            have hB9 := hB8.alloc hB8.size (.cells #[.int .i64 H, .int .i64 r', .int .i64 2, .bool true, .int .u64 blk, .slice A3 n3 c3] 42)
            clear hB8
            unfold sixth at hb9 ho9 hB9
            generalize hwf : World.alloc _ (.cells #[.int .i64 H, .int .i64 r', .int .i64 2, .bool true, .int .u64 blk, .slice A3 n3 c3] 42) = wf at *
            clear hwf
            have f0 := hb9.cell 0; have f1 := hb9.cell 1; have f2 := hb9.cell 2; have f3 := hb9.cell 3; have f4 := hb9.cell 4; have f5 := hb9.cell 5
            simp at f0 f1 f2 f3 f4 f5
            refine bodyPost_ret (v := .tuple #[.agg #[.int .i64 H, .int .i64 r', .int .i64 2, .bool true, .int .u64 blk, .slice A3 n3 c3], .bool true]) (by simp [results, Tryz.results10, go_sem, f0, f1, f2, f3, f4, f5]; try rfl) rfl ?_
            have hL : closedO S L = some (r', true, blk, fr) := someAt hlt HNo.out (by rw [hv]; exact hyes)
            exact ⟨by rw [hL]; exact ⟨A3, n3, c3, rfl, ho9⟩, hB9⟩
      · have a2' : (vk.s == 2) = false := by simpa using a2
        have hno : closedF S L vk = none := by unfold closedF; rw [if_neg a2]
        clear a2
        go_wp2
        go_roundw
        case rel => exact ⟨⟨k + 1, by go_num, by omega, HR.out, HF.out hno⟩, HW.out⟩
        case measure => simp [intOf]; omega
    · have h1 : ¬ (k : Int) < (L.length : Int) := by omega
      have x0 := HR.out.cell 0; have x1 := HR.out.cell 1; have x2 := HR.out.cell 2; have x3 := HR.out.cell 3; have x4 := HR.out.cell 4; have x5 := HR.out.cell 5
      simp at x0 x1 x2 x3 x4 x5
      have xf := HR.out.frozen
      go_wp2
      have hb9 := sixth_blk HR.out (.int .i64 0) (.int .i64 0) (.int .i64 0) (.bool false) (.int .u64 0) (.slice none 0 0)
      have hB9 := sixth_below (.int .i64 0) (.int .i64 0) (.int .i64 0) (.bool false) (.int .u64 0) (.slice none 0 0) (Nat.le_refl _) HW.out
      unfold sixth at hb9 hB9
      generalize hwf : World.setCell _ ⟨_, 5, none⟩ _ = wf at *
      clear hwf
      have f0 := hb9.cell 0; have f1 := hb9.cell 1; have f2 := hb9.cell 2; have f3 := hb9.cell 3; have f4 := hb9.cell 4; have f5 := hb9.cell 5
      simp at f0 f1 f2 f3 f4 f5
      refine bodyPost_ret (v := .tuple #[.agg #[.int .i64 0, .int .i64 0, .int .i64 0, .bool false, .int .u64 0, .slice none 0 0], .bool false]) (by simp [results, Tryz.results10, go_sem, f0, f1, f2, f3, f4, f5]; try rfl) rfl ?_
      have hL : closedO S L = none := by
        obtain rfl : k = L.length := by omega
        have := HNo.out
        rw [List.take_length] at this
        exact someNone this
      exact ⟨by rw [hL]; rfl, hB9⟩

end Go.Proofs.YtkjhacfmidmebaaGreat
