/- The program's rounds (33): those of the votes of a stage, rising. -/
import Derived.Test.YtkjhacfmidmebaaGreatFroms2
namespace Go.Proofs.YtkjhacfmidmebaaGreat
open Go.RowKit

/-- the rounds of a stage, rising. -/
def IsRounds (s : Int) (L : List V) (R : List Int) : Prop := R.Pairwise (· < ·) ∧ ∀ r, r ∈ R ↔ ∃ v ∈ L, v.s = s ∧ v.r = r
def RoundsAre (w : World) (s : Int) (L : List V) (e : Ending) (w' : World) : Prop := ∃ R, IsRounds s L R ∧ IntsAre w R e w'

def spSo (s : Int) (o : Sp) : Bool := o.2.1 == s
theorem sortL_lt {l : List Int} (h : l.Nodup) : (sortL l).Pairwise (· < ·) := by
  have h1 : (sortL l).Pairwise (fun a b => decide (a ≤ b) = true) := List.pairwise_mergeSort (by intro a b c h1 h2; simp at *; omega) (by intro a b; simp; omega) l
  have h2 : (sortL l).Nodup := (List.mergeSort_perm l _).nodup_iff.2 h
  exact (h1.and h2).imp fun {a b} h => by
    have := h.1; have := h.2
    simp at *; omega
theorem rounds_ok {w : World} {M : Nat} {H s : Int} {L : List V} {O done : List Sp} (h : Spots w M H L O) (hp : done.Perm O) : IsRounds s L (sortL ((done.filter (spSo s)).map (·.1))) := by
  have hn : (done.map (fun o => (o.1, o.2.1))).Nodup := (hp.map _).nodup_iff.2 h.spots
  refine ⟨sortL_lt ?_, fun r => ?_⟩
  · have h1 : ((done.filter (spSo s)).map (fun o => (o.1, o.2.1))).Nodup := hn.sublist (List.filter_sublist.map _)
    rw [List.Nodup, List.pairwise_map] at h1 ⊢
    refine h1.imp_of_mem fun {a b} ha hb hab e => hab ?_
    rw [List.mem_filter] at ha hb
    simp only [spSo, beq_iff_eq] at ha hb
    rw [e, ha.2, hb.2]
  · unfold sortL
    rw [(List.mergeSort_perm _ _).mem_iff, List.mem_map]
    constructor
    · rintro ⟨o, ho, rfl⟩
      rw [List.mem_filter] at ho
      have ho2 : o.2.1 = s := by simpa [spSo] using ho.2
      have hi := (h.inner o (hp.mem_iff.1 ho.1)).1
      obtain ⟨v, hv⟩ := List.exists_mem_of_ne_nil _ hi
      rw [List.mem_filter] at hv
      simp only [isAt, Bool.and_eq_true, beq_iff_eq] at hv
      exact ⟨v, hv.1, by rw [hv.2.2, ho2], hv.2.1⟩
    · rintro ⟨v, hv, h1, h2⟩
      obtain ⟨o, ho, e1, e2⟩ := h.all v hv
      exact ⟨o, List.mem_filter.2 ⟨hp.mem_iff.2 ho, by simp [spSo, e2, h1]⟩, by rw [e1, h2]⟩

theorem spfilter_one {so : Sp → Bool} {v : Sp} (h : so v = true) : [v].filter so = [v] := by simp [h]
theorem spfilter_zero {so : Sp → Bool} {v : Sp} (h : so v = false) : [v].filter so = [] := by simp [h]
theorem sp_inj {w : World} {M : Nat} {H : Int} {L : List V} {O : List Sp} (h : Spots w M H L O) (hH : Fit H) : ∀ a ∈ O, ∀ b ∈ O, spKey H a = spKey H b → a = b := by
  intro a ha b hb e
  obtain ⟨f1, f2⟩ := h.fit a ha
  obtain ⟨g1, g2⟩ := h.fit b hb
  obtain ⟨_, e1, e2⟩ := spot_inj hH f1 f2 hH g1 g2 e
  have h1 := h.spots
  rw [List.Nodup, List.pairwise_map] at h1
  rcases pw_cases h1 ha hb with h2 | h2 | h2
  · exact h2
  · exact absurd (by rw [e1, e2]) h2
  · exact absurd (by rw [e1, e2]) h2

def spot3 (x : Int × Int × Int) : Value := spotV x.1 x.2.1 x.2.2
theorem nodup_len {α : Type} [BEq α] [LawfulBEq α] : ∀ {l m : List α}, l.Nodup → (∀ x ∈ l, x ∈ m) → l.length ≤ m.length
  | [], _, _, _ => by simp
  | x :: t, m, hn, hs => by
    obtain ⟨h1, h2⟩ := List.nodup_cons.1 hn
    have h3 := nodup_len (m := m.erase x) h2 fun y hy => by
      have hne : y ≠ x := fun e => h1 (e ▸ hy)
      exact (List.mem_erase_of_ne hne).2 (hs y (by simp [hy]))
    have hx := hs x (by simp)
    have h4 := List.length_erase_of_mem hx
    have h5 := List.length_pos_of_mem hx
    simp only [List.length_cons]; omega
theorem sp_len {w : World} {M : Nat} {H : Int} {L : List V} {O : List Sp} (h : Spots w M H L O) : O.length ≤ L.length := by
  have h1 : (O.map (fun o => (o.1, o.2.1))).length ≤ (L.map (fun v => (v.r, v.s))).length := by
    refine nodup_len h.spots fun x hx => ?_
    obtain ⟨o, ho, rfl⟩ := List.mem_map.1 hx
    obtain ⟨v, hv⟩ := List.exists_mem_of_ne_nil _ (h.inner o ho).1
    rw [List.mem_filter] at hv
    simp only [isAt, Bool.and_eq_true, beq_iff_eq] at hv
    exact List.mem_map.2 ⟨v, hv.1, by rw [hv.2.1, hv.2.2]⟩
  simpa using h1

set_option maxRecDepth 100000 in
set_option maxHeartbeats 3200000 in
theorem rounds_any (C : Nat) (S : List Seat) (H s : Int) (L : List V) (w : World) (h : CRep w C S H L) (hH : Fit H) (hL : L.length ≤ 4096) :
    Calls Tryz.prog 33 #[.pointer (some ⟨C, 0, none⟩), .int .i64 s] w (RoundsAre w s L) := by
  obtain ⟨As, ns, cs, M, O, hblk, hseats, hsp⟩ := h
  obtain ⟨i0, hi, hz0, hz1, hz2⟩ := info_parts Tryz.info3
  obtain ⟨n, D, hown, hn, hh⟩ := hsp.map
  have hOl := sp_len hsp
  have hfin : ∀ done : List Sp, done.Perm O → IsRounds s L (sortL ((done.filter (spSo s)).map (·.1))) := fun done hp => rounds_ok hsp hp
  have HFin := Lib.hid hfin; clear hfin
  have hinj := sp_inj hsp hH
  have HIn := Lib.hid hinj; clear hinj
  have hnd : O.Nodup := by
    have h1 := hsp.spots
    rw [List.Nodup, List.pairwise_map] at h1
    exact h1.imp fun {a b} hab e => hab (by rw [e])
  have HNd := Lib.hid hnd; clear hnd
  have HFi := Lib.hid hsp.fit
  have c0 := hblk.cell 0; have c1 := hblk.cell 1; have c2 := hblk.cell 2
  simp at c0 c1 c2
  have hsz : Maps.size D ≤ 4096 := by have := size_le hown; omega
  have HC0 := Lib.hid (Course.start hh)
  have HH := Lib.hid hh
  have HOwn := Lib.hid hown
  clear hh hown hsp
  go_enter Tryz.func33, Tryz.ntmps33
  go_wp2_with (at_range; refine wpList_range_own _ rfl _ 54 rfl 61 63 Tryz.keyed61 Tryz.mapOuter R0 M n D rfl HOwn.out ?_; intro w0 hrg0 hg0 hs0)
  have HB0 : Hid (Below w.heap.size w w0) := (Below.refl w.heap.size w).grown hg0 (Nat.le_refl _) (by simp)
  clear hg0 c0 c1 c2
  go_frame
  go_loopw [5] (fun v wr => Hid (∃ (left : Lit → Bool) (cnt : Nat) (done : List Sp) (A2 : Option Addr) (n2 c2 : Nat), wr.ranges Tryz.prog 61 R0 M w.heap.size n D left cnt ∧ Course left (spKey H) O done ∧ v = .slice A2 n2 c2 ∧ n2 + cnt ≤ 4096 ∧ Own encI 1 3 wr w.heap.size A2 n2 c2 ((done.filter (spSo s)).map (·.1))) ∧ Hid (Below w.heap.size w wr)) (fun _ wr => wr.rangeLeft M w.heap.size)
  case atStart => exact ⟨⟨_, _, [], none, 0, 0, hrg0, HC0.out, rfl, by omega, Own.nil _ _⟩, HB0.out⟩
  case round =>
    clear hrg0 hs0 HC0 HB0
    obtain ⟨HE, HW⟩ := hrel
    obtain ⟨left, cnt, done, A2, n2, c2, hrg, hco, rfl, hcnt, hown⟩ := HE.out
    clear HE
    have HO := Lib.hid hown; have HCo := Lib.hid hco; clear hown hco
    go_wp2_with (at_next; refine wpList_next_ranges _ rfl _ rfl 61 Tryz.keyed61 R0 spot3 (fun x : Value => x) (fun key kl hkey => by obtain ⟨a, b, c, rfl, _⟩ := spot_inv hkey; exact ⟨(a, b, c), rfl⟩) (fun v y _ => ⟨v, rfl⟩) M w.heap.size n D left cnt rfl hrg ?_ ?_)
    · intro hc0 hl0
      have HE := Lib.hid (HFin.out _ (HCo.out.done_perm HNd.out hl0))
      have hwz := HW.out.size
      have HS := Lib.hid (sortI_any A2 n2 c2 _ _ wr HO.out (by omega))
      clear hl0 hc0
      go_wp2_with (go_at_call 54; refine HS.out.mono ?_; rintro e w1 ⟨rfl, ho1', hg1'⟩; have HO1 := Lib.hid ho1'; have HB1 := Lib.hid (Below.app HW.out HO.out hg1' hwz); clear ho1' hg1')
      go_ret
      exact ⟨_, HE.out, ⟨A2, n2, c2, rfl, HO1.out⟩, HB1.out⟩
    · intro xh xr xs cv kl yd yp w1 cnt1 hkx hlx hR hat hrg1 hlt1 hg1 hs1 hen
      obtain ⟨o, ho, hkv, hnv, hco2⟩ := HCo.out.more HIn.out (fun a b => WideAt.sameKey_iff (spKey_lit H b)) hlx
      have hx : H = xh ∧ xr = o.1 ∧ xs = o.2.1 := by
        obtain ⟨a, b, c, e, fa, fb, fc, ek⟩ := spot_inv hkx
        obtain ⟨f1, f2⟩ := HFi.out o ho
        injection e with e
        rw [ek] at hkv
        obtain ⟨e0, e1, e2⟩ := spot_inj fa fb fc hH f1 f2 hkv
        simp at e
        omega
      obtain ⟨rfl, rfl, rfl⟩ := hx
      have HB1 : Hid (Below w.heap.size w w1) := HW.out.grown hg1 HW.out.size (fun i hi => by injection hi with hi; omega)
      have HO1 : Hid (Own encI 1 3 w1 w.heap.size A2 n2 c2 ((done.filter (spSo s)).map (·.1))) := ⟨HO.out.1, HO.out.2.kept hg1 (.inr (own_ne_ranges HO.out.2 hrg))⟩
      have hr1 := HB1.out.size
      have HRg := Lib.hid hrg1
      clear hat hR hkx hlx hkv hs1 hg1
      unfold spot3 spotV at hen
      rcases hso : spSo s o with _ | _
      · have a1 : (o.2.1 == s) = false := hso
        have HSo := Lib.hid hso; clear hso
        go_wp2
        go_roundw
        case rel => exact ⟨⟨_, cnt1, done ++ [o], A2, n2, c2, HRg.out.alloc _, hco2, rfl, by omega, by rw [List.filter_append, spfilter_zero HSo.out, List.append_nil]; exact HO1.out.alloc _⟩, HB1.out.alloc hr1 _⟩
        case measure => rw [(HRg.out.alloc _).left_eq, hrg.left_eq]; omega
      · have a1 : (o.2.1 == s) = true := hso
        have HSo := Lib.hid hso; clear hso
        have Z0 := Lib.hid (HB1.out.alloc hr1 (.cells #[.int .i64 H, .int .i64 o.1, .int .i64 o.2.1] 61))
        have Z1 := Lib.hid (HO1.out.alloc (.cells #[.int .i64 H, .int .i64 o.1, .int .i64 o.2.1] 61))
        have Z2 := Lib.hid (HRg.out.alloc (.cells #[.int .i64 H, .int .i64 o.1, .int .i64 o.2.1] 61))
        have hZ3 := rd_new (α := Int) (enc := encI) (k := 1) (w1.alloc (.cells #[.int .i64 H, .int .i64 o.1, .int .i64 o.2.1] 61)) 3 o.1 #[.int .i64 o.1] rfl
        rw [World.size_alloc] at hZ3
        have Z3 := Lib.hid hZ3; clear hZ3
        go_wp2_with (at_builtin; first
          | (refine wpList_app rfl (.tmp 20) (.tmp 23) 24 rfl 3 i0 _ 8 Tryz.underlying24 hi hz0 hz1 hz2 rfl (by decide) lenI oneI w.heap.size _ n2 c2 _ rfl (Z1.out.alloc _) (w1.heap.size + 1 + 1) 1 1 _ [o.1] rfl Z3.out (by simp only [maxLen]; omega) (by omega) (Z0.out.alloc Z0.out.size _).size ?_; skip; intro A5 c5 w5 hown5 hg5 hat5
             have B5 := Lib.hid (Below.app (Z0.out.alloc Z0.out.size _) (Z1.out.alloc _) hg5 (Z0.out.alloc Z0.out.size _).size)
             have R5 := Lib.hid ((Z2.out.alloc _).kept hg5 (fun e => own_ne_rmap (Z1.out.alloc (.cells #[.int .i64 o.1] 3)).2 (Z2.out.alloc _) e.symm) (fun e => own_ne_ranges (Z1.out.alloc (.cells #[.int .i64 o.1] 3)).2 (Z2.out.alloc _) e.symm))
             have O5 := Lib.hid hown5
             clear hown5 hg5 hat5))
        go_roundw
        case rel => exact ⟨⟨_, cnt1, done ++ [o], A5, n2 + 1, c5, R5.out, hco2, rfl, by omega, by rw [List.filter_append, List.map_append, spfilter_one HSo.out]; exact O5.out⟩, B5.out⟩
        case measure => rw [R5.out.left_eq, hrg.left_eq]; omega
end Go.Proofs.YtkjhacfmidmebaaGreat
