/- The program's Lead (13). -/
import Derived.Test.YtkjhacfmidmebaaGreatFromsL
import Derived.Test.YtkjhacfmidmebaaGreatPlain2
import Derived.Deep.RegionLaw
namespace Go.Proofs.YtkjhacfmidmebaaGreat
open Go.RowKit

set_option maxRecDepth 100000 in
set_option maxHeartbeats 6400000 in
theorem leadC_ (C : Nat) (S : List Seat) (H r s : Int) (L : List V) (w : World) (h : CRep w C S H L) (hS : Bench S) (hG : Good S H L) (hH : Fit H) (hr : Fit r) (hs : Fit s) (hL : L.length ≤ 4096) :
    Calls Tryz.prog 13 #[.pointer (some ⟨C, 0, none⟩), .int .i64 r, .int .i64 s] w fun e w' => CertIs w.heap.size H s (leadO S L r s) e w' ∧ Below w.heap.size w w' := by
  have HCR := Lib.hid h
  have HGd := Lib.hid hG
  have HSb := Lib.hid hS
  have hb0 : Below w.heap.size w (w.alloc (.cells #[.int .i64 0, .int .i64 0, .int .i64 0, .bool false, .int .u64 0, .slice none 0 0] 42)) := (Below.refl _ _).alloc (Nat.le_refl _) _
  have hx := Blk.new w 42 #[.int .i64 0, .int .i64 0, .int .i64 0, .bool false, .int .u64 0, .slice none 0 0]
  by_cases hst : s = 1 ∨ s = 2
  · have g0 : (s != 1) = false ∨ (s != 1) = true ∧ (s != 2) = false := by rcases hst with rfl | rfl <;> simp
    have HSt := Lib.hid hst; clear hst
    obtain ⟨As, ns, cs, M, O, hblk, hseats, hsp⟩ := h
    obtain ⟨n, D, hown, hn, hh⟩ := hsp.map
    have hkey := spot_key hH hr hs
    have hblk1 := hblk.below hb0 hblk.lt
    have HBk := Lib.hid hblk; have HSe := Lib.hid hseats
    have hCl := hblk.lt
    have c0 := hblk1.cell 0; have c1 := hblk1.cell 1; have c2 := hblk1.cell 2
    simp at c0 c1 c2
    have hown1 := hown.alloc (.cells #[.int .i64 0, .int .i64 0, .int .i64 0, .bool false, .int .u64 0, .slice none 0 0] 42)
    by_cases hin : ∃ v ∈ L, v.r = r ∧ v.s = s
    · have hdis : ∀ a ∈ L.filter (isAt r s), ∀ b ∈ L.filter (isAt r s), a.fr = b.fr → a = b := fun a ha b hb e => at_inj hG ha hb e
      have hndL := hG.nodup
      obtain ⟨v1, hv1, hvr, hvs⟩ := hin
      obtain ⟨o, ho, ho1, ho2⟩ := hsp.all v1 hv1
      have hat : ∀ zd, D.atKey (spotL H r s) zd = .held (.map (some o.2.2)) := by
        have := hh.vals o ho
        simp only [spKey, ho1, ho2, hvr, hvs, spVal] at this
        exact this
      obtain ⟨wa, hwa⟩ : ∃ wa, w.alloc (.cells #[.int .i64 0, .int .i64 0, .int .i64 0, .bool false, .int .u64 0, .slice none 0 0] 42) = wa := ⟨_, rfl⟩
      have hwz : w.heap.size + 1 = wa.heap.size := by rw [← hwa]; simp
      rw [hwa] at hb0 hx c0 c1 c2 hown1
      have hlook : ∀ q, (Instr.lookup 54 (.map (some M)) (spotV H r s) false).run Tryz.prog (wa.drewN q) = .ok (.map (some o.2.2)) (wa.drewN q) := by
        intro q
        obtain ⟨v, ps, hrun, hv⟩ := World.ownsMap.lookup (show (wa.drewN q).ownsMap Tryz.prog 61 R0 M n D from hown1) Tryz.keyed61 Tryz.mapOuter (Tryz.zeroM _) (rfl : R0 (.map none) = some (.held (.map none), [])) hkey
        rw [hat] at hv
        have := R0_inv hv
        simp at this
        rw [hrun, this]
      unfold spotV at hlook
      obtain ⟨hne, n', D', hin, hn', hh'⟩ := hsp.inner o ho
      have hin1 := hin.alloc (.cells #[.int .i64 0, .int .i64 0, .int .i64 0, .bool false, .int .u64 0, .slice none 0 0] 42)
      rw [hwa] at hin1
      rw [ho1, ho2, hvr, hvs] at hne hn' hh'
      have HB0 := Lib.hid hb0; have HX := Lib.hid hx; have HWa := Lib.hid hwa; have HWz := Lib.hid hwz
      clear hb0 hx hwz hblk1 hseats hown1 hown hblk
      go_enter Tryz.func13, Tryz.ntmps13
      rcases g0 with g1 | ⟨g1, g2⟩
      all_goals
        go_wp2_with fail
        clear hwa
        refine wp_region_still_tail 12 (by kernel_rfl) (by kernel_rfl) ?_
        simp only [List.take_succ_cons, List.take_zero, List.drop_succ_cons, List.drop_zero]
        obtain ⟨wd, hwd⟩ : ∃ wd, ({ heap := wa.heap, tape := wa.tape, drawn := wa.drawn + 1, os := wa.os, output := wa.output } : World) = wd := ⟨_, rfl⟩
        rw [hwd]
        have hl0 : (Instr.lookup 54 (.map (some M)) (.agg #[.int .i64 H, .int .i64 r, .int .i64 s]) false).run Tryz.prog wd = .ok (.map (some o.2.2)) wd := by rw [← hwd]; exact hlook 1
        have d1 : wd.cell? { block := C, off := 1 } = some (.int .i64 H) := by rw [← hwd]; exact c1
        have d2 : wd.cell? { block := C, off := 2 } = some (.map (some M)) := by rw [← hwd]; exact c2
        have hin' : wd.ownsMap Tryz.prog 3 R0 o.2.2 n' D' := by rw [← hwd]; exact hin1
        have hbd : Below w.heap.size w wd := by rw [← hwd]; exact HB0.out.drew
        have hxd : Blk wd w.heap.size 42 #[.int .i64 0, .int .i64 0, .int .i64 0, .bool false, .int .u64 0, .slice none 0 0] := by rw [← hwd]; exact HX.out
        clear hwd hlook
        repeat still_step
        refine wpStill_nil ?_
        refine wpList_range_own wd rfl (.tmp 29) 63 rfl 3 34 Tryz.keyed3 Tryz.mapInner R0 o.2.2 n' D' rfl hin' ?_
        intro w0 hrg0 hg0 hs0
        have HB1 : Hid (Below w.heap.size w w0) := hbd.trans ((Below.refl w.heap.size wd).grown hg0 hbd.size (by simp))
        have HX1 : Hid (Blk w0 w.heap.size 42 #[.int .i64 0, .int .i64 0, .int .i64 0, .bool false, .int .u64 0, .slice none 0 0]) := hxd.below ((Below.refl wd.heap.size wd).grown hg0 (Nat.le_refl _) (by simp)) hxd.lt
        have hr0c : w.heap.size < wd.heap.size := hxd.lt
        go_wp2
        generalize hr0 : wd.heap.size = r0 at *
        clear hr0
        have HC0 := Lib.hid (Course.start hh')
        have HH := Lib.hid hh'
        clear hh' hg0 hbd hin' d1 d2 hl0 c0 c1 c2 hat hkey hh hxd hin1 HX HB0 HWa HWz hsp hin
        have HNd : Hid (L.filter (isAt r s)).Nodup := hndL.filter _
        have HDi := Lib.hid hdis; clear hdis hndL
        go_frame
        go_loopw [9, 10] (fun _ _ wr => Hid (∃ (left : Lit → Bool) (cnt : Nat) (done : List V), wr.ranges Tryz.prog 3 R0 o.2.2 r0 n' D' left cnt ∧ Course left frKey (L.filter (isAt r s)) done ∧ Blk wr w.heap.size 42 #[.int .i64 0, .int .i64 0, .int .i64 0, .bool false, .int .u64 0, .slice none 0 0] ∧ ∀ v ∈ done, quorumS S (soFr r s v.has v.blk L) = false) ∧ Hid (Below w.heap.size w wr)) (fun _ _ wr => wr.rangeLeft o.2.2 r0)
        case atStart => exact ⟨⟨_, _, [], hrg0, HC0.out, HX1.out, by simp⟩, HB1.out⟩
        case round =>
          clear hrg0 hs0 HC0 HB1 HX1
          obtain ⟨HE, HW⟩ := hrel
          obtain ⟨left, cnt, done, hrg, hco, hres, hno⟩ := HE.out
          clear HE
          have HCo := Lib.hid hco; have HR := Lib.hid hres; have HNo := Lib.hid hno; clear hco hres hno
          go_wp2_with (at_next; refine wpList_next_ranges _ rfl _ rfl 3 Tryz.keyed3 R0 (Value.int .i64) (fun x : Value => x) (fun key kl hkey => by obtain ⟨x, rfl, _⟩ := Maps.keyOf_int_inv Tryz.underlying3 hkey; exact ⟨x, rfl⟩) (fun v y _ => ⟨v, rfl⟩) o.2.2 r0 n' D' left cnt rfl hrg ?_ ?_)
          · intro hc0 hl0
            have HN : Hid (leadO S L r s = none) := lead_none (fun v hv ha => HNo.out v ((HCo.out.done_perm HNd.out hl0).mem_iff.2 (List.mem_filter.2 ⟨hv, ha⟩)))
            have x0 := HR.out.cell 0; have x1 := HR.out.cell 1; have x2 := HR.out.cell 2; have x3 := HR.out.cell 3; have x4 := HR.out.cell 4; have x5 := HR.out.cell 5
            simp at x0 x1 x2 x3 x4 x5
            have xf := HR.out.frozen
            clear hl0 hc0
            go_wp2
            have hb9 := sixth_blk HR.out (.int .i64 0) (.int .i64 0) (.int .i64 0) (.bool false) (.int .u64 0) (.slice none 0 0)
            have hB9 := sixth_below (.int .i64 0) (.int .i64 0) (.int .i64 0) (.bool false) (.int .u64 0) (.slice none 0 0) (Nat.le_refl _) HW.out
            unfold sixth at hb9 hB9
            generalize hwf : World.setCell _ ⟨_, 5, none⟩ _ = wf at *
            clear hwf
            have f0 := hb9.cell 0; have f1 := hb9.cell 1; have f2 := hb9.cell 2; have f3 := hb9.cell 3; have f4 := hb9.cell 4; have f5 := hb9.cell 5
            simp at f0 f1 f2 f3 f4 f5
            refine bodyPost_ret (v := .tuple #[.agg #[.int .i64 0, .int .i64 0, .int .i64 0, .bool false, .int .u64 0, .slice none 0 0], .bool false]) (by simp [results, Tryz.results13, go_sem, f0, f1, f2, f3, f4, f5]; try rfl) rfl ?_
            exact ⟨by rw [HN.out]; rfl, hB9⟩
          · intro x cv kl yd yp w1 cnt1 hkx hlx hR hat hrg1 hlt1 hg1 hs1 hen
            obtain ⟨v, hv, hkv, hnv, hco2⟩ := HCo.out.more (fun a ha b hb e => HDi.out a ha b hb (by simpa [frKey] using e)) (fun a b => WideAt.sameKey_iff (frKey_lit b)) hlx
            obtain ⟨x', ex, ekl, _⟩ := Maps.keyOf_int_inv Tryz.underlying3 hkx
            injection ex with _ ex
            subst ex
            have hxv : x = v.fr := by rw [ekl] at hkv; simpa [frKey] using hkv
            have hcv : cv = vagg v := by
              have h1 := R0_inv hR
              have h2 := hat (.held cv)
              simp only at h1
              rw [hkv, HH.out.vals v hv, h1] at h2
              injection h2 with h2
              exact h2.symm
            subst hxv hcv
            have hvL := (List.mem_filter.1 hv)
            have HB1 : Hid (Below w.heap.size w w1) := HW.out.grown hg1 HW.out.size (fun i hi => by injection hi with hi; omega)
            have HR1 : Hid (Blk w1 w.heap.size 42 #[.int .i64 0, .int .i64 0, .int .i64 0, .bool false, .int .u64 0, .slice none 0 0]) := (hg1.block _ HR.out.lt (fun e => by injection e with e; omega)).trans HR.out
            have hr1 := HB1.out.size
            have HRg := Lib.hid hrg1
            have HVL := Lib.hid hvL
            have HCo2 := Lib.hid hco2
            clear hat hR hkx hlx hs1 hg1 hvL hrg1 hkv hco2 hnv hv
            have HBv := Lib.hid (HB1.out.alloc hr1 (.cells #[.int .i64 v.h, .int .i64 v.r, .int .i64 v.s, .bool v.has, .int .u64 v.blk, .int .i64 v.fr] 34))
            have HBl := Lib.hid (Blk.new w1 34 #[.int .i64 v.h, .int .i64 v.r, .int .i64 v.s, .bool v.has, .int .u64 v.blk, .int .i64 v.fr])
            have HRv := Lib.hid (HR1.out.alloc (.cells #[.int .i64 v.h, .int .i64 v.r, .int .i64 v.s, .bool v.has, .int .u64 v.blk, .int .i64 v.fr] 34))
            have HRgv := Lib.hid (HRg.out.alloc (.cells #[.int .i64 v.h, .int .i64 v.r, .int .i64 v.s, .bool v.has, .int .u64 v.blk, .int .i64 v.fr] 34))
            have hFl := fromsL_any C S H r s L _ (HCR.out.below HBv.out) HGd.out hH hr hs hL w1.heap.size v HBl.out
            rw [soFr_eq] at hFl
            have HFl := Lib.hid hFl; clear hFl
            have hlen := soFr_len r s v.has v.blk L
            have hQ : ∀ (A1 : Option Addr) (n1 c1 : Nat) (W : World) (bs : Nat), Own encI 1 3 W bs A1 n1 c1 (soFr r s v.has v.blk L) → Below w.heap.size w W → Calls Tryz.prog 36 #[.slice As ns cs, .slice A1 n1 c1] W fun e w' => e = .returned (.bool (quorumS S (soFr r s v.has v.blk L))) ∧ Below W.heap.size W w' := by
              intro A1 n1 c1 W bs ho hb
              exact quorum_any _ _ _ _ _ _ _ _ W ((HSe.out.below hb).more hb.size) HSb.out (ho.rd lenI) (by have := ho.1; omega)
            unfold vagg at hen
            rcases hq : quorumS S (soFr r s v.has v.blk L) with _ | _
            · rw [hq] at hQ
              have HQ := Lib.hid hQ; have HQq := Lib.hid hq; clear hQ hq
              go_wp2_with (first
                | (go_at_call 34; refine HFl.out.mono ?_; rintro e w3 ⟨⟨A1, n1, c1, rfl, ho1⟩, hb3⟩
                   have Z0 := Lib.hid (HBv.out.trans (hb3.mono HBv.out.size))
                   have Z1 := Lib.hid (HRv.out.below hb3 HRv.out.lt)
                   have Z2 := Lib.hid (HRgv.out.kept (below_grown hb3 (B := 0)) (by simp) (by simp))
                   have ZO := Lib.hid ho1
                   have d0 := (HBk.out.below Z0.out hCl).cell 0
                   simp at d0
                   clear hb3 ho1)
                | (go_at_call 36; refine (HQ.out _ _ _ _ _ ZO.out Z0.out).mono ?_; rintro e w4 ⟨rfl, hb4⟩
                   have Y0 := Lib.hid (Z0.out.trans (hb4.mono Z0.out.size))
                   have Y1 := Lib.hid (Z1.out.below hb4 Z1.out.lt)
                   have Y2 := Lib.hid (Z2.out.kept (below_grown hb4 (B := 0)) (by simp) (by simp))
                   clear hb4))
              go_roundw
              case rel => exact ⟨⟨_, cnt1, done ++ [v], Y2.out, HCo2.out, Y1.out, fun u hu => by
                rcases List.mem_append.1 hu with hu | hu
                · exact HNo.out u hu
                · rw [List.mem_singleton.1 hu]; exact HQq.out⟩, Y0.out⟩
              case measure => rw [Y2.out.left_eq, hrg.left_eq]; omega
            · rw [hq] at hQ
              have HQ := Lib.hid hQ
              have HLd : Hid (leadO S L r s = some (r, v.has, v.blk, soFr r s v.has v.blk L)) := lead_some HSb.out HGd.out HSt.out HVL.out.1 HVL.out.2 hq
              clear hQ hq
              go_wp2_with (first
                | (go_at_call 34; refine HFl.out.mono ?_; rintro e w3 ⟨⟨A1, n1, c1, rfl, ho1⟩, hb3⟩
                   have Z0 := Lib.hid (HBv.out.trans (hb3.mono HBv.out.size))
                   have Z1 := Lib.hid (HRv.out.below hb3 HRv.out.lt)
                   have Z3 := Lib.hid (HBl.out.below hb3 HBl.out.lt)
                   have ZO := Lib.hid ho1
                   have d0 := (HBk.out.below Z0.out hCl).cell 0
                   simp at d0
                   clear hb3 ho1)
                | (go_at_call 36; refine (HQ.out _ _ _ _ _ ZO.out Z0.out).mono ?_; rintro e w4 ⟨rfl, hb4⟩
                   have Y0 := Lib.hid (Z0.out.trans (hb4.mono Z0.out.size))
                   have Y1 := Lib.hid (Z1.out.below hb4 Z1.out.lt)
                   have Y3 := Lib.hid (Z3.out.below hb4 Z3.out.lt)
                   have YO := Lib.hid (ZO.out.below hb4)
                   clear hb4 d0))
              have x0 := Y1.out.cell 0; have x1 := Y1.out.cell 1; have x2 := Y1.out.cell 2; have x3 := Y1.out.cell 3; have x4 := Y1.out.cell 4; have x5 := Y1.out.cell 5
              have y3 := Y3.out.cell 3; have y4 := Y3.out.cell 4
              have d1 := (HBk.out.below Y0.out hCl).cell 1
              simp at x0 x1 x2 x3 x4 x5 y3 y4 d1
              have xf := Y1.out.frozen
              clear hen
              go_region
              all_goals
                go_wp2
                have hb9 := (sixth_blk Y1.out (.int .i64 H) (.int .i64 r) (.int .i64 s) (.bool v.has) (.int .u64 v.blk) (.slice A1 n1 c1)).drew
                have ho9 := (sixth_own Y1.out (.int .i64 H) (.int .i64 r) (.int .i64 s) (.bool v.has) (.int .u64 v.blk) (.slice A1 n1 c1) (YO.out.mono HBv.out.size)).drew
                have hB9 := (sixth_below (.int .i64 H) (.int .i64 r) (.int .i64 s) (.bool v.has) (.int .u64 v.blk) (.slice A1 n1 c1) (Nat.le_refl _) Y0.out).drew
                unfold sixth at hb9 ho9 hB9
                generalize hwf : World.drew _ = wf at *
                clear hwf
                have f0 := hb9.cell 0; have f1 := hb9.cell 1; have f2 := hb9.cell 2; have f3 := hb9.cell 3; have f4 := hb9.cell 4; have f5 := hb9.cell 5
                simp at f0 f1 f2 f3 f4 f5
                refine bodyPost_ret (v := .tuple #[.agg #[.int .i64 H, .int .i64 r, .int .i64 s, .bool v.has, .int .u64 v.blk, .slice A1 n1 c1], .bool true]) (by simp [results, Tryz.results13, go_sem, f0, f1, f2, f3, f4, f5]; try rfl) rfl ?_
                exact ⟨by rw [HLd.out]; exact ⟨A1, n1, c1, rfl, ho9⟩, hB9⟩
    · have hno : ∀ v ∈ L, isAt r s v = false := fun v hv => by
        simp only [isAt, Bool.and_eq_false_iff, beq_eq_false_iff_ne]
        by_cases e : v.r = r
        · exact .inr fun e2 => hin ⟨v, hv, e, e2⟩
        · exact .inl e
      have HN : Hid (leadO S L r s = none) := lead_none (fun v hv ha => by rw [hno v hv] at ha; cases ha)
      have hat : Maps.has D (spotL H r s) = false := by
        rcases hb : Maps.has D (spotL H r s) with _ | _
        · rfl
        · obtain ⟨o, ho, e⟩ := hh.only _ hb
          obtain ⟨f1, f2⟩ := hsp.fit o ho
          obtain ⟨_, e1, e2⟩ := spot_inj hH hr hs hH f1 f2 e
          obtain ⟨hne, _⟩ := hsp.inner o ho
          exact absurd (List.filter_eq_nil_iff.2 fun v hv => by rw [← e1, ← e2, hno v hv]; simp) hne
      obtain ⟨wa, hwa⟩ : ∃ wa, w.alloc (.cells #[.int .i64 0, .int .i64 0, .int .i64 0, .bool false, .int .u64 0, .slice none 0 0] 42) = wa := ⟨_, rfl⟩
      rw [hwa] at hb0 hx c0 c1 c2 hown1
      have hlook : ∀ q, (Instr.lookup 54 (.map (some M)) (spotV H r s) false).run Tryz.prog (wa.drewN q) = .ok (.map none) (wa.drewN q) := by
        intro q
        obtain ⟨v, ps, hrun, hv⟩ := World.ownsMap.lookup (show (wa.drewN q).ownsMap Tryz.prog 61 R0 M n D from hown1) Tryz.keyed61 Tryz.mapOuter (Tryz.zeroM _) (rfl : R0 (.map none) = some (.held (.map none), [])) hkey
        rw [Maps.atKey_of_not_has hat] at hv
        have := R0_inv hv
        simp at this
        rw [hrun, this]
      unfold spotV at hlook
      have hrn : ∀ w : World, (Instr.range 63 (.map none)).run Tryz.prog w = .ok (.pointer (some ⟨w.heap.size, 0, none⟩)) (w.alloc (.mapIter none 0 #[] 0)) := fun w => run_range_nilMap w 63 3 34 Tryz.mapInner
      have hnx : ∀ (w : World) (ty : TypeId), (Instr.next (.pointer (some ⟨w.heap.size, 0, none⟩)) false ty).run Tryz.prog (w.alloc (.mapIter none 0 #[] 0)) = .ok (.tuple #[.bool false]) (w.alloc (.mapIter none 0 #[] 0)) := fun w ty => run_next_nilMap w ty 0 0 #[]
      have HB0 := Lib.hid hb0; have HX := Lib.hid hx
      clear hno hat hin hh hown hown1 hsp hkey hb0 hx hblk1 hblk hseats hG hS
      go_enter Tryz.func13, Tryz.ntmps13
      rcases g0 with g1 | ⟨g1, g2⟩
      all_goals
        go_wp2_with fail
        clear hwa
        refine wp_region_still_tail 12 (by kernel_rfl) (by kernel_rfl) ?_
        simp only [List.take_succ_cons, List.take_zero, List.drop_succ_cons, List.drop_zero]
        obtain ⟨wd, hwd⟩ : ∃ wd, ({ heap := wa.heap, tape := wa.tape, drawn := wa.drawn + 1, os := wa.os, output := wa.output } : World) = wd := ⟨_, rfl⟩
        rw [hwd]
        have hl0 : (Instr.lookup 54 (.map (some M)) (.agg #[.int .i64 H, .int .i64 r, .int .i64 s]) false).run Tryz.prog wd = .ok (.map none) wd := by rw [← hwd]; exact hlook 1
        have d1 : wd.cell? { block := C, off := 1 } = some (.int .i64 H) := by rw [← hwd]; exact c1
        have d2 : wd.cell? { block := C, off := 2 } = some (.map (some M)) := by rw [← hwd]; exact c2
        have hbd : Below w.heap.size w wd := by rw [← hwd]; exact HB0.out.drew
        have hxd : Blk wd w.heap.size 42 #[.int .i64 0, .int .i64 0, .int .i64 0, .bool false, .int .u64 0, .slice none 0 0] := by rw [← hwd]; exact HX.out
        have HBd := Lib.hid (hbd.alloc hbd.size (.mapIter none 0 #[] 0))
        have HXd := Lib.hid (hxd.alloc (.mapIter none 0 #[] 0))
        have x0 := HXd.out.cell 0; have x1 := HXd.out.cell 1; have x2 := HXd.out.cell 2; have x3 := HXd.out.cell 3; have x4 := HXd.out.cell 4; have x5 := HXd.out.cell 5
        simp at x0 x1 x2 x3 x4 x5
        have xf := HXd.out.frozen
        clear hwd hlook hbd hxd
        repeat still_step
        refine wpStill_nil ?_
        go_wp2
        refine wp_loop_rounds 1 ?_
        rw [rounds_succ]
        go_wp2
        have hb9 := sixth_blk HXd.out (.int .i64 0) (.int .i64 0) (.int .i64 0) (.bool false) (.int .u64 0) (.slice none 0 0)
        have hB9 := sixth_below (.int .i64 0) (.int .i64 0) (.int .i64 0) (.bool false) (.int .u64 0) (.slice none 0 0) (Nat.le_refl _) HBd.out
        unfold sixth at hb9 hB9
        generalize hwf : World.setCell _ ⟨_, 5, none⟩ _ = wf at *
        clear hwf
        have f0 := hb9.cell 0; have f1 := hb9.cell 1; have f2 := hb9.cell 2; have f3 := hb9.cell 3; have f4 := hb9.cell 4; have f5 := hb9.cell 5
        simp at f0 f1 f2 f3 f4 f5
        refine bodyPost_ret (v := .tuple #[.agg #[.int .i64 0, .int .i64 0, .int .i64 0, .bool false, .int .u64 0, .slice none 0 0], .bool false]) (by simp [results, Tryz.results13, go_sem, f0, f1, f2, f3, f4, f5]; try rfl) rfl ?_
        exact ⟨by rw [HN.out]; rfl, hB9⟩
  · have g1 : (s != 1) = true := by simp; omega
    have g2 : (s != 2) = true := by simp; omega
    have HN : Hid (leadO S L r s = none) := lead_off hst
    clear hst h hS hG
    go_enter Tryz.func13, Tryz.ntmps13
    go_wp2
    refine bodyPost_ret (by simp [results, Tryz.results13, go_sem]; try rfl) rfl ?_
    exact ⟨by rw [HN.out]; rfl, hb0⟩
end Go.Proofs.YtkjhacfmidmebaaGreat
