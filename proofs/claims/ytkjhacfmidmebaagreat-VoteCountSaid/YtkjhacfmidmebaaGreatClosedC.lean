/- The program's Closed (9). -/
import Derived.Test.YtkjhacfmidmebaaGreatPlain3
import Derived.Test.YtkjhacfmidmebaaGreatLeadC
namespace Go.Proofs.YtkjhacfmidmebaaGreat
open Go.RowKit

theorem rounds_len {s : Int} {L : List V} {R : List Int} (h : IsRounds s L R) : R.length ≤ L.length := by
  have h1 : R.length ≤ (L.map (·.r)).length := nodup_len (h.1.imp fun {a b} h e => by omega) fun x hx => by
    obtain ⟨v, hv, _, e⟩ := (h.2 x).1 hx
    exact List.mem_map.2 ⟨v, hv, e⟩
  simpa using h1
theorem rounds_fit {S : List Seat} {H s : Int} {L : List V} {R : List Int} (hG : Good S H L) (h : IsRounds s L R) {r : Int} (hr : r ∈ R) : Fit r := by
  obtain ⟨v, hv, _, rfl⟩ := (h.2 r).1 hr
  exact (good_fit hG hv).1

set_option maxRecDepth 100000 in
set_option maxHeartbeats 6400000 in
theorem closedC_ (C : Nat) (S : List Seat) (H : Int) (L : List V) (w : World) (h : CRep w C S H L) (hS : Bench S) (hG : Good S H L) (hH : Fit H) (hL : L.length ≤ 4096) :
    Calls Tryz.prog 9 #[.pointer (some ⟨C, 0, none⟩)] w fun e w' => CertIs w.heap.size H 2 (closedO S L) e w' ∧ Below w.heap.size w w' := by
  have HCR := Lib.hid h; have HGd := Lib.hid hG; have HS := Lib.hid hS; have HH := Lib.hid hH
  have hb0 : Below w.heap.size w (w.alloc (.cells #[.int .i64 0, .int .i64 0, .int .i64 0, .bool false, .int .u64 0, .slice none 0 0] 42)) := (Below.refl _ _).alloc (Nat.le_refl _) _
  have hx := Blk.new w 42 #[.int .i64 0, .int .i64 0, .int .i64 0, .bool false, .int .u64 0, .slice none 0 0]
  have hRo := rounds_any C S H 2 L _ (h.below hb0) hH hL
  have HRo := Lib.hid hRo
  have HB0 := Lib.hid hb0; have HX := Lib.hid hx
  clear hb0 hx hRo h hS hG hH
  go_enter Tryz.func9, Tryz.ntmps9
  go_wp2_with (first
    | (go_at_call 33; refine HRo.out.mono ?_; rintro e w0 ⟨R, hR, ⟨Ar, nr, cr, rfl, hro⟩, hb0⟩
       have HR0 := Lib.hid hR; have HRd := Lib.hid (hro.rd lenI)
       have HBa := Lib.hid (HB0.out.trans (hb0.mono HB0.out.size))
       have HXa := Lib.hid (HX.out.below hb0 HX.out.lt)
       have hnr := hro.1
       clear hb0 hR hro))
  subst hnr
  have HE : Hid (closedO S L = R.findSome? (fun r => goodO S L r 2)) := closed_eq HGd.out HR0.out
  have hRl : R.length ≤ 4096 := by have := rounds_len HR0.out; omega
  clear HRo HX HB0
  go_loopw [11] (fun i wr => Hid (∃ k : Nat, i = .int .i64 k ∧ k ≤ R.length ∧ Blk wr w.heap.size 42 #[.int .i64 0, .int .i64 0, .int .i64 0, .bool false, .int .u64 0, .slice none 0 0] ∧ (∀ r ∈ R.take k, goodO S L r 2 = none) ∧ Below w0.heap.size w0 wr) ∧ Hid (Below w.heap.size w wr)) (fun i _ => R.length - (intOf i).toNat)
  case atStart => exact ⟨⟨0, rfl, by omega, HXa.out, by simp, Below.refl _ _⟩, HBa.out⟩
  case round =>
    have HBs := HBa.out.size
    clear HXa
    obtain ⟨HEx, HW⟩ := hrel
    obtain ⟨k, rfl, hk, hres, hno, hb0⟩ := HEx.out
    clear HEx
    have HR := Lib.hid hres; have HNo := Lib.hid hno; have HB0 := Lib.hid hb0; clear hres hno hb0
    have HB := HW.out.size
    by_cases hlt : k < R.length
    · obtain ⟨b, off, rfl, hb, c0⟩ := rd_int (HRd.out.below HB0.out) hlt
      have h1 : (k : Int) < (R.length : Int) := by omega
      have hnext : goodO S L R[k] 2 = none → ∀ v ∈ R.take (k + 1), goodO S L v 2 = none := by
        intro hb v hv
        rw [take_succ_of hlt] at hv
        rcases List.mem_append.1 hv with hv | hv
        · exact HNo.out v hv
        · rw [List.mem_singleton.1 hv, hb]
      have HF := Lib.hid hnext; clear hnext
      have hfit := rounds_fit HGd.out HR0.out (List.getElem_mem hlt)
      generalize hv : R[k] = rk at *
      have hbw : b < wr.heap.size := by have := HB0.out.size; omega
      have HCC := leadC_ C S H rk 2 L wr (HCR.out.below HW.out) HS.out HGd.out HH.out hfit (by unfold Fit; decide) hL
      clear hfit
      have r0 := HR.out.cell 0; have r1 := HR.out.cell 1; have r2 := HR.out.cell 2; have r3 := HR.out.cell 3; have r4 := HR.out.cell 4; have r5 := HR.out.cell 5
      simp at r0 r1 r2 r3 r4 r5
      have rl := HR.out.lt
      have HW0 : Hid (w0.heap.size ≤ wr.heap.size) := HB0.out.size
      rcases ho : leadO S L rk 2 with _ | ⟨r', has, blk, fr⟩
      · have hno : goodO S L rk 2 = none := by unfold goodO; rw [ho]
        rw [ho] at HCC
        have HC := Lib.hid HCC; have HNn := Lib.hid hno; clear HCC hno ho
        go_wp2_with (go_at_call 13; refine HC.out.mono ?_; rintro e w1 ⟨rfl, hb1⟩; have Z0 := Lib.hid (HW.out.trans (hb1.mono HB)); have Z1 := Lib.hid (HR.out.below hb1 rl); have Z2 := Lib.hid (HB0.out.trans (hb1.mono HW0.out)); clear hb1)
        go_roundw
        case rel => exact ⟨⟨k + 1, by go_num, by omega, Z1.out.alloc _, HF.out HNn.out, Z2.out.alloc Z2.out.size _⟩, Z0.out.alloc Z0.out.size _⟩
        case measure => simp [intOf]; omega
      · rw [ho] at HCC
        have HC := Lib.hid HCC; clear HCC
        rcases has with _ | _
        · have hno : goodO S L rk 2 = none := by unfold goodO; rw [ho]; rfl
          have HNn := Lib.hid hno; clear hno ho
          go_wp2_with (go_at_call 13; refine HC.out.mono ?_; rintro e w1 ⟨⟨A3, n3, c3, rfl, hr3⟩, hb1⟩; have Z0 := Lib.hid (HW.out.trans (hb1.mono HB)); have Z1 := Lib.hid (HR.out.below hb1 rl); have Z2 := Lib.hid (HB0.out.trans (hb1.mono HW0.out)); clear hb1 hr3)
          go_roundw
          case rel => exact ⟨⟨k + 1, by go_num, by omega, Z1.out.alloc _, HF.out HNn.out, Z2.out.alloc Z2.out.size _⟩, Z0.out.alloc Z0.out.size _⟩
          case measure => simp [intOf]; omega
        · have hyes : goodO S L rk 2 = some (r', true, blk, fr) := by unfold goodO; rw [ho]; rfl
          have HY := Lib.hid hyes; clear hyes ho
          go_wp2_with (go_at_call 13; refine HC.out.mono ?_; rintro e w1 ⟨⟨A3, n3, c3, rfl, hr3⟩, hb1⟩; have Z0 := Lib.hid (HW.out.trans (hb1.mono HB)); have z1 := HR.out.below hb1 rl; have Z3 := Lib.hid hr3; have s0 := z1.cell 0; have s1 := z1.cell 1; have s2 := z1.cell 2; have s3 := z1.cell 3; have s4 := z1.cell 4; have s5 := z1.cell 5; have sf := z1.frozen; have sl := z1.lt; simp at s0 s1 s2 s3 s4 s5; have Z1 := Lib.hid z1; clear hb1 hr3 z1)
          have hb9 := (sixth_blk Z1.out (.int .i64 H) (.int .i64 r') (.int .i64 2) (.bool true) (.int .u64 blk) (.slice A3 n3 c3)).alloc (.cells #[.int .i64 H, .int .i64 r', .int .i64 2, .bool true, .int .u64 blk, .slice A3 n3 c3] 42)
          have ho9 := (sixth_own Z1.out (.int .i64 H) (.int .i64 r') (.int .i64 2) (.bool true) (.int .u64 blk) (.slice A3 n3 c3) (Z3.out.mono HB)).alloc (.cells #[.int .i64 H, .int .i64 r', .int .i64 2, .bool true, .int .u64 blk, .slice A3 n3 c3] 42)
          have hB8 := sixth_below (.int .i64 H) (.int .i64 r') (.int .i64 2) (.bool true) (.int .u64 blk) (.slice A3 n3 c3) (Nat.le_refl _) Z0.out
          have hB9 := hB8.alloc hB8.size (.cells #[.int .i64 H, .int .i64 r', .int .i64 2, .bool true, .int .u64 blk, .slice A3 n3 c3] 42)
          clear hB8
          unfold sixth at hb9 ho9 hB9
          generalize hwf : World.alloc _ (.cells #[.int .i64 H, .int .i64 r', .int .i64 2, .bool true, .int .u64 blk, .slice A3 n3 c3] 42) = wf at *
          clear hwf
          have f0 := hb9.cell 0; have f1 := hb9.cell 1; have f2 := hb9.cell 2; have f3 := hb9.cell 3; have f4 := hb9.cell 4; have f5 := hb9.cell 5
          simp at f0 f1 f2 f3 f4 f5
          refine bodyPost_ret (v := .tuple #[.agg #[.int .i64 H, .int .i64 r', .int .i64 2, .bool true, .int .u64 blk, .slice A3 n3 c3], .bool true]) (by simp [results, Tryz.results9, go_sem, f0, f1, f2, f3, f4, f5]; try rfl) rfl ?_
          have hL : closedO S L = some (r', true, blk, fr) := by rw [HE.out]; exact someAt hlt HNo.out (by rw [hv]; exact HY.out)
          exact ⟨by rw [hL]; exact ⟨A3, n3, c3, rfl, ho9⟩, hB9⟩
    · have h1 : ¬ (k : Int) < (R.length : Int) := by omega
      have x0 := HR.out.cell 0; have x1 := HR.out.cell 1; have x2 := HR.out.cell 2; have x3 := HR.out.cell 3; have x4 := HR.out.cell 4; have x5 := HR.out.cell 5
      simp at x0 x1 x2 x3 x4 x5
      have xf := HR.out.frozen
      go_wp2
      have hb9 := sixth_blk HR.out (.int .i64 0) (.int .i64 0) (.int .i64 0) (.bool false) (.int .u64 0) (.slice none 0 0)
      have hB9 := sixth_below (.int .i64 0) (.int .i64 0) (.int .i64 0) (.bool false) (.int .u64 0) (.slice none 0 0) (Nat.le_refl _) HW.out
      unfold sixth at hb9 hB9
      generalize hwf : World.setCell _ ⟨_, 5, none⟩ _ = wf at *
      clear hwf
      have f0 := hb9.cell 0; have f1 := hb9.cell 1; have f2 := hb9.cell 2; have f3 := hb9.cell 3; have f4 := hb9.cell 4; have f5 := hb9.cell 5
      simp at f0 f1 f2 f3 f4 f5
      refine bodyPost_ret (v := .tuple #[.agg #[.int .i64 0, .int .i64 0, .int .i64 0, .bool false, .int .u64 0, .slice none 0 0], .bool false]) (by simp [results, Tryz.results9, go_sem, f0, f1, f2, f3, f4, f5]; try rfl) rfl ?_
      have hL : closedO S L = none := by
        obtain rfl : k = R.length := by omega
        have := HNo.out
        rw [List.take_length] at this
        rw [HE.out]; exact someNone this
      exact ⟨by rw [hL]; rfl, hB9⟩
end Go.Proofs.YtkjhacfmidmebaaGreat
