/- The program's froms (34), with closure 38. -/
import Derived.Test.YtkjhacfmidmebaaGreatFroms2
namespace Go.Proofs.YtkjhacfmidmebaaGreat
open Go.RowKit
set_option maxRecDepth 100000 in
set_option maxHeartbeats 3200000 in
theorem fromsA_any (C : Nat) (S : List Seat) (H r s : Int) (L : List V) (w : World) (h : CRep w C S H L) (hG : Good S H L) (hH : Fit H) (hr : Fit r) (hs : Fit s) (hL : L.length ≤ 4096) :
    Calls Tryz.prog 34 #[.pointer (some ⟨C, 0, none⟩), .int .i64 r, .int .i64 s, .func (.func 38) #[] #[]] w (IntsAre w ((L.filter (fun v => isAt r s v && (fun _ : V => true) v)).map (·.fr))) := by
  have hmf : ∀ {α : Type} (a : α), a = a := fun _ => rfl
  clear hmf
  obtain ⟨As, ns, cs, M, O, hblk, hseats, hsp⟩ := h
  obtain ⟨i0, hi, hz0, hz1, hz2⟩ := info_parts Tryz.info3
  obtain ⟨n, D, hown, hn, hh⟩ := hsp.map
  have hkey := spot_key hH hr hs
  have hfin : ∀ done : List V, done.Perm (L.filter (isAt r s)) → sortL ((done.filter (fun _ : V => true)).map (·.fr)) = (L.filter (fun v => isAt r s v && (fun _ : V => true) v)).map (·.fr) := fun done hp => froms_eq hG (fun _ : V => true) hp
  have HFin := Lib.hid hfin; clear hfin
  have c0 := hblk.cell 0; have c1 := hblk.cell 1; have c2 := hblk.cell 2
  simp at c0 c1 c2
  by_cases hin : ∃ v ∈ L, v.r = r ∧ v.s = s
  · have hdis : ∀ a ∈ L.filter (isAt r s), ∀ b ∈ L.filter (isAt r s), a.fr = b.fr → a = b := fun a ha b hb e => at_inj hG ha hb e
    have hndL := hG.nodup
    clear hG
    obtain ⟨v1, hv1, hvr, hvs⟩ := hin
    obtain ⟨o, ho, ho1, ho2⟩ := hsp.all v1 hv1
    have hat : ∀ zd, D.atKey (spotL H r s) zd = .held (.map (some o.2.2)) := by
      have := hh.vals o ho
      simp only [spKey, ho1, ho2, hvr, hvs, spVal] at this
      exact this
    have hlook : ∀ q, (Instr.lookup 54 (.map (some M)) (spotV H r s) false).run Tryz.prog (w.drewN q) = .ok (.map (some o.2.2)) (w.drewN q) := by
      intro q
      obtain ⟨v, ps, hrun, hv⟩ := World.ownsMap.lookup (show (w.drewN q).ownsMap Tryz.prog 61 R0 M n D from hown) Tryz.keyed61 Tryz.mapOuter (Tryz.zeroM _) (rfl : R0 (.map none) = some (.held (.map none), [])) hkey
      rw [hat] at hv
      have := R0_inv hv
      simp at this
      rw [hrun, this]
    unfold spotV at hlook
    go_enter Tryz.func34, Tryz.ntmps34
    go_wp2_with fail
    refine wp_region_still_tail 12 (by kernel_rfl) (by kernel_rfl) ?_
    simp only [List.take_succ_cons, List.take_zero, List.drop_succ_cons, List.drop_zero]
    obtain ⟨wd, hwd⟩ : ∃ wd, ({ heap := w.heap, tape := w.tape, drawn := w.drawn + 1, os := w.os, output := w.output } : World) = wd := ⟨_, rfl⟩
    rw [hwd]
    have hl0 : (Instr.lookup 54 (.map (some M)) (.agg #[.int .i64 H, .int .i64 r, .int .i64 s]) false).run Tryz.prog wd = .ok (.map (some o.2.2)) wd := by rw [← hwd]; exact hlook 1
    have d1 : wd.cell? { block := C, off := 1 } = some (.int .i64 H) := by rw [← hwd]; exact c1
    have d2 : wd.cell? { block := C, off := 2 } = some (.map (some M)) := by rw [← hwd]; exact c2
    obtain ⟨hne, n', D', hin, hn', hh'⟩ := hsp.inner o ho
    rw [ho1, ho2, hvr, hvs] at hne hn' hh'
    have hin' : wd.ownsMap Tryz.prog 3 R0 o.2.2 n' D' := by rw [← hwd]; exact hin
    have hbd : Below w.heap.size w wd := by rw [← hwd]; exact ⟨rfl, rfl, rfl, Nat.le_refl _, fun _ _ => rfl⟩
    clear hwd hlook
    repeat still_step
    refine wpStill_nil ?_
    refine wpList_range_own wd rfl (.tmp 23) 63 rfl 3 34 Tryz.keyed3 Tryz.mapInner R0 o.2.2 n' D' rfl hin' ?_
    intro w0 hrg0 hg0 hs0
    have HB0 : Hid (Below w.heap.size w w0) := hbd.trans ((Below.refl w.heap.size wd).grown hg0 hbd.size (by simp))
    go_wp2
    have hsz : Maps.size D' ≤ 4096 := Nat.le_trans (size_le hin) (Nat.le_trans hn' (Nat.le_trans (List.length_filter_le _ _) hL))
    have HFn := HFin
    clear HFin
    generalize hl : L.filter (isAt r s) = l at *
    generalize hr0 : wd.heap.size = r0 at *
    have hr0b : w.heap.size ≤ r0 := by rw [← hr0]; exact hbd.size
    clear hr0
    have HC0 := Lib.hid (Course.start hh')
    have HH := Lib.hid hh'
    clear hh' hg0 hbd hin' d1 d2 hl0 c0 c1 c2 hat hkey hh hown
    have hnd : l.Nodup := by rw [← hl]; exact hndL.filter _
    clear hl
    go_frame
    go_loopw [9] (fun v wr => Hid (∃ (left : Lit → Bool) (cnt : Nat) (done : List V) (A2 : Option Addr) (n2 c2 : Nat), wr.ranges Tryz.prog 3 R0 o.2.2 r0 n' D' left cnt ∧ Course left frKey l done ∧ v = .slice A2 n2 c2 ∧ n2 + cnt ≤ 4096 ∧ Own encI 1 3 wr w.heap.size A2 n2 c2 ((done.filter (fun _ : V => true)).map (·.fr))) ∧ Hid (Below w.heap.size w wr)) (fun _ wr => wr.rangeLeft o.2.2 r0)
    case atStart => exact ⟨⟨_, _, [], none, 0, 0, hrg0, HC0.out, rfl, by omega, Own.nil _ _⟩, HB0.out⟩
    case round =>
      clear hrg0 hs0 HC0 HB0
      obtain ⟨HE, HW⟩ := hrel
      obtain ⟨left, cnt, done, A2, n2, c2, hrg, hco, rfl, hcnt, hown⟩ := HE.out
      clear HE
      have HO := Lib.hid hown; have HCo := Lib.hid hco; clear hown hco
      go_wp2_with (at_next; refine wpList_next_ranges _ rfl _ rfl 3 Tryz.keyed3 R0 (Value.int .i64) (fun x : Value => x) (fun key kl hkey => by obtain ⟨x, rfl, _⟩ := Maps.keyOf_int_inv Tryz.underlying3 hkey; exact ⟨x, rfl⟩) (fun v y _ => ⟨v, rfl⟩) o.2.2 r0 n' D' left cnt rfl hrg ?_ ?_)
      · intro hc0 hl0
        have HE := Lib.hid (HFn.out _ (HCo.out.done_perm hnd hl0))
        have hwz := HW.out.size
        have HS := Lib.hid (sortI_any A2 n2 c2 _ _ wr HO.out (by omega))
        clear hl0 hdis hnd hc0
        go_wp2_with (go_at_call 54; refine HS.out.mono ?_; rintro e w1 ⟨rfl, ho1', hg1'⟩; have HO1 := Lib.hid ho1'; have HB1 := Lib.hid (Below.app HW.out HO.out hg1' hwz); clear ho1' hg1')
        go_ret
        exact ⟨⟨A2, n2, c2, rfl, by rw [← HE.out]; exact HO1.out⟩, HB1.out⟩
      · intro x cv kl yd yp w1 cnt1 hkx hlx hR hat hrg1 hlt1 hg1 hs1 hen
        obtain ⟨v, hv, hkv, hnv, hco2⟩ := HCo.out.more (fun a ha b hb e => hdis a ha b hb (by simpa [frKey] using e)) (fun a b => WideAt.sameKey_iff (frKey_lit b)) hlx
        obtain ⟨x', ex, ekl, _⟩ := Maps.keyOf_int_inv Tryz.underlying3 hkx
        injection ex with _ ex
        subst ex
        have hxv : x = v.fr := by rw [ekl] at hkv; simpa [frKey] using hkv
        have hcv : cv = vagg v := by
          have h1 := R0_inv hR
          have h2 := hat (.held cv)
          simp only at h1
          rw [hkv, HH.out.vals v hv, h1] at h2
          injection h2 with h2
          exact h2.symm
        subst hxv hcv
        have HB1 : Hid (Below w.heap.size w w1) := HW.out.grown hg1 HW.out.size (fun i hi => by injection hi with hi; omega)
        have HO1 : Hid (Own encI 1 3 w1 w.heap.size A2 n2 c2 ((done.filter (fun _ : V => true)).map (·.fr))) := ⟨HO.out.1, HO.out.2.kept hg1 (.inr (own_ne_ranges HO.out.2 hrg))⟩
        have hr1 := HB1.out.size
        have HRg := Lib.hid hrg1
        clear hat hR hkx hlx
        have HAn := Lib.hid (fun W => anyC_any v W)
        unfold vagg at hen HAn
        unfold vagg
        go_wp2_with (first
          | (go_at_call 38; refine (HAn.out _).mono ?_; rintro e w2 ⟨rfl, hb2⟩
             have Z0 := Lib.hid ((HB1.out.alloc hr1 _).trans (hb2.mono (HB1.out.alloc hr1 _).size))
             have Z1 := Lib.hid ((HO1.out.alloc _).below hb2)
             have Z2 := Lib.hid ((HRg.out.alloc _).kept (below_grown hb2 (B := 0)) (by simp) (by simp))
             clear hb2)
          | (at_builtin; refine wpList_app rfl (.tmp 33) (.tmp 35) 24 rfl 3 i0 _ 8 Tryz.underlying24 hi hz0 hz1 hz2 rfl (by decide) lenI oneI w.heap.size _ n2 c2 _ rfl (Z1.out.alloc _) (w2.heap.size + 1) 1 1 _ [v.fr] rfl (rd_new w2 3 v.fr _ rfl) (by simp only [maxLen]; omega) (by omega) (Z0.out.alloc Z0.out.size _).size ?_; skip; intro A5 c5 w5 hown5 hg5 hat5
             have B5 := Lib.hid (Below.app (Z0.out.alloc Z0.out.size _) (Z1.out.alloc _) hg5 (Z0.out.alloc Z0.out.size _).size)
             have R5 := Lib.hid ((Z2.out.alloc _).kept hg5 (fun e => own_ne_rmap (Z1.out.alloc (.cells #[.int .i64 v.fr] 3)).2 (Z2.out.alloc _) e.symm) (fun e => own_ne_ranges (Z1.out.alloc (.cells #[.int .i64 v.fr] 3)).2 (Z2.out.alloc _) e.symm))
             have O5 := Lib.hid hown5
             clear hown5 hg5 hat5))
        go_roundw
        case rel => exact ⟨⟨_, cnt1, done ++ [v], A5, n2 + 1, c5, R5.out, hco2, rfl, by omega, by rw [List.filter_append, List.map_append, filter_one rfl]; exact O5.out⟩, B5.out⟩
        case measure => rw [R5.out.left_eq, hrg.left_eq]; omega
  · have hno : ∀ v ∈ L, isAt r s v = false := fun v hv => by
      simp only [isAt, Bool.and_eq_false_iff, beq_eq_false_iff_ne]
      by_cases e : v.r = r
      · exact .inr fun e2 => hin ⟨v, hv, e, e2⟩
      · exact .inl e
    have HEm : Hid ((L.filter (fun v => isAt r s v && (fun _ : V => true) v)).map (·.fr) = []) := by
      show _ = _
      rw [List.filter_eq_nil_iff.2 (fun v hv => by simp [hno v hv])]; rfl
    have hat : Maps.has D (spotL H r s) = false := by
      rcases hb : Maps.has D (spotL H r s) with _ | _
      · rfl
      · obtain ⟨o, ho, e⟩ := hh.only _ hb
        obtain ⟨f1, f2⟩ := hsp.fit o ho
        obtain ⟨_, e1, e2⟩ := spot_inj hH hr hs hH f1 f2 e
        obtain ⟨hne, _⟩ := hsp.inner o ho
        exact absurd (List.filter_eq_nil_iff.2 fun v hv => by rw [← e1, ← e2, hno v hv]; simp) hne
    have hlook : ∀ q, (Instr.lookup 54 (.map (some M)) (spotV H r s) false).run Tryz.prog (w.drewN q) = .ok (.map none) (w.drewN q) := by
      intro q
      obtain ⟨v, ps, hrun, hv⟩ := World.ownsMap.lookup (show (w.drewN q).ownsMap Tryz.prog 61 R0 M n D from hown) Tryz.keyed61 Tryz.mapOuter (Tryz.zeroM _) (rfl : R0 (.map none) = some (.held (.map none), [])) hkey
      rw [Maps.atKey_of_not_has hat] at hv
      have := R0_inv hv
      simp at this
      rw [hrun, this]
    unfold spotV at hlook
    have hrn : ∀ w : World, (Instr.range 63 (.map none)).run Tryz.prog w = .ok (.pointer (some ⟨w.heap.size, 0, none⟩)) (w.alloc (.mapIter none 0 #[] 0)) := fun w => run_range_nilMap w 63 3 34 Tryz.mapInner
    have hnx : ∀ (w : World) (ty : TypeId), (Instr.next (.pointer (some ⟨w.heap.size, 0, none⟩)) false ty).run Tryz.prog (w.alloc (.mapIter none 0 #[] 0)) = .ok (.tuple #[.bool false]) (w.alloc (.mapIter none 0 #[] 0)) := fun w ty => run_next_nilMap w ty 0 0 #[]
    have HNo := Lib.hid (fun W => sortI_any none 0 0 w.heap.size [] W (Own.nil W w.heap.size) (by omega))
    clear hno hat hin hh hown hsp hkey HFin
    go_enter Tryz.func34, Tryz.ntmps34
    go_wp2_with fail
    refine wp_region_still_tail 12 (by kernel_rfl) (by kernel_rfl) ?_
    simp only [List.take_succ_cons, List.take_zero, List.drop_succ_cons, List.drop_zero]
    obtain ⟨wd, hwd⟩ : ∃ wd, ({ heap := w.heap, tape := w.tape, drawn := w.drawn + 1, os := w.os, output := w.output } : World) = wd := ⟨_, rfl⟩
    rw [hwd]
    have hl0 : (Instr.lookup 54 (.map (some M)) (.agg #[.int .i64 H, .int .i64 r, .int .i64 s]) false).run Tryz.prog wd = .ok (.map none) wd := by rw [← hwd]; exact hlook 1
    have d1 : wd.cell? { block := C, off := 1 } = some (.int .i64 H) := by rw [← hwd]; exact c1
    have d2 : wd.cell? { block := C, off := 2 } = some (.map (some M)) := by rw [← hwd]; exact c2
    have hbd : Below w.heap.size w wd := by rw [← hwd]; exact ⟨rfl, rfl, rfl, Nat.le_refl _, fun _ _ => rfl⟩
    have HBd := Lib.hid (hbd.alloc hbd.size (.mapIter none 0 #[] 0))
    clear hwd hlook hbd
    repeat still_step
    refine wpStill_nil ?_
    go_wp2
    refine wp_loop_rounds 1 ?_
    rw [rounds_succ]
    go_wp2_with (go_at_call 54; refine (HNo.out _).mono ?_; rintro e w1 ⟨rfl, ho1', hg1'⟩; have HO1 := Lib.hid ho1'; have HB1 := Lib.hid (Below.app HBd.out (Own.nil (α := Int) (enc := encI) (k := 1) (e := 3) _ w.heap.size) hg1' HBd.out.size); clear ho1' hg1')
    go_ret
    exact ⟨⟨none, 0, 0, rfl, by rw [HEm.out]; simpa [sortL] using HO1.out⟩, HB1.out⟩
end Go.Proofs.YtkjhacfmidmebaaGreat
