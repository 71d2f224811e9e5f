/- The program's Votes (8): all that were counted, in their order. -/
import Derived.Test.YtkjhacfmidmebaaGreatSortV2
import Derived.Test.YtkjhacfmidmebaaGreatRounds
namespace Go.Proofs.YtkjhacfmidmebaaGreat
open Go.RowKit

/-- Of the spots that have been gone through all votes, once each. -/
structure Got (L : List V) (done : List Sp) (acc : List V) : Prop where
  nodup : acc.Nodup
  mem : ∀ v, v ∈ acc ↔ v ∈ L ∧ ∃ o ∈ done, o.1 = v.r ∧ o.2.1 = v.s

theorem Got.nil (L : List V) : Got L [] [] := ⟨List.nodup_nil, fun v => by simp⟩
theorem Got.len {L : List V} {done : List Sp} {acc : List V} (h : Got L done acc) : acc.length ≤ L.length :=
  nodup_len h.nodup fun x hx => ((h.mem x).1 hx).1
theorem Got.more {L : List V} {done : List Sp} {acc di : List V} {o : Sp} (h : Got L done acc) (hn : ∀ p ∈ done, (p.1, p.2.1) ≠ (o.1, o.2.1)) (hp : di.Perm (L.filter (isAt o.1 o.2.1))) (hL : L.Nodup) : Got L (done ++ [o]) (acc ++ di) := by
  have hmem : ∀ v, v ∈ di ↔ v ∈ L ∧ v.r = o.1 ∧ v.s = o.2.1 := fun v => by
    rw [hp.mem_iff, List.mem_filter]; simp [isAt]
  refine ⟨?_, fun v => ?_⟩
  · rw [List.nodup_append]
    refine ⟨h.nodup, hp.nodup_iff.2 (hL.filter _), fun a ha b hb e => ?_⟩
    subst e
    obtain ⟨_, p, hpd, e1, e2⟩ := (h.mem a).1 ha
    obtain ⟨_, e3, e4⟩ := (hmem a).1 hb
    exact hn p hpd (by rw [e1, e2, e3, e4])
  · rw [List.mem_append, h.mem, hmem]
    constructor
    · rintro (⟨h1, p, hp, h2⟩ | ⟨h1, h2, h3⟩)
      · exact ⟨h1, p, by simp [hp], h2⟩
      · exact ⟨h1, o, by simp, h2.symm, h3.symm⟩
    · rintro ⟨h1, p, hp, h2⟩
      rcases List.mem_append.1 hp with hp | hp
      · exact .inl ⟨h1, p, hp, h2⟩
      · rw [List.mem_singleton.1 hp] at h2
        exact .inr ⟨h1, h2.1.symm, h2.2.symm⟩

/-- sorted, and of just those votes: it is the list. -/
theorem sorted_is {S : List Seat} {H : Int} {L l' : List V} (hG : Good S H L) (hp : l'.Perm L) (hs : l'.Pairwise fun a b => aheadV b a = false) : l' = L := by
  refine List.Perm.eq_of_pairwise (le := fun a b => aheadV b a = false) (fun a b ha hb h1 h2 => ?_) hs (hG.srt.imp fun {a b} h => ?_) hp
  · refine hG.inj (hp.mem_iff.1 ha) hb ((same_iff _ _).2 ?_)
    rw [ahead_not] at h1 h2
    omega
  · rw [ahead_iff] at h
    rw [ahead_not]; omega

def VotesAre (w : World) (L : List V) (e : Ending) (w' : World) : Prop := (∃ A n c, e = .returned (.slice A n c) ∧ Own encV 6 34 w' w.heap.size A n c L) ∧ Below w.heap.size w w'

theorem ranges_ne {w : World} {k b r n cnt k1 b1 r1 n1 cnt1 : Nat} {D D1 : DataW Value} {left left1 : Lit → Bool} (h : w.ranges Tryz.prog k R0 b r n D left cnt) (h1 : w.ranges Tryz.prog k1 R0 b1 r1 n1 D1 left1 cnt1) : b ≠ r1 := by
  obtain ⟨es, clock, since, seen, c0, hb, _⟩ := h
  obtain ⟨es1, clock1, since1, seen1, c1, _, _, _, _, hr, _⟩ := h1
  intro e
  subst e
  rw [hb] at hr
  cases hr

theorem ranges_lt {w : World} {k b r n cnt : Nat} {D : DataW Value} {left : Lit → Bool} (h : w.ranges Tryz.prog k R0 b r n D left cnt) : r < w.heap.size := by
  obtain ⟨es, clock, since, seen, c0, _, _, _, _, hr, _⟩ := h
  exact (Array.getElem?_eq_some_iff.1 hr).1

set_option maxRecDepth 100000 in
set_option maxHeartbeats 6400000 in
theorem votes_any (C : Nat) (S : List Seat) (H : Int) (L : List V) (w : World) (h : CRep w C S H L) (hG : Good S H L) (hH : Fit H) (hL : L.length ≤ 4096) :
    Calls Tryz.prog 8 #[.pointer (some ⟨C, 0, none⟩)] w (VotesAre w L) := by
  obtain ⟨As, ns, cs, M, O, hblk, hseats, hsp⟩ := h
  obtain ⟨i0, hi, hz0, hz1, hz2⟩ := info_parts Tryz.info34
  obtain ⟨n, D, hown, hn, hh⟩ := hsp.map
  have hOl := sp_len hsp
  have HSp := Lib.hid hsp
  have HGd := Lib.hid hG
  have HIn := Lib.hid (sp_inj hsp hH)
  have hnd : O.Nodup := by
    have h1 := hsp.spots
    rw [List.Nodup, List.pairwise_map] at h1
    exact h1.imp fun {a b} hab e => hab (by rw [e])
  have HNd := Lib.hid hnd; clear hnd
  have c0 := hblk.cell 0; have c1 := hblk.cell 1; have c2 := hblk.cell 2
  simp at c0 c1 c2
  have hsz : Maps.size D ≤ 4096 := by have := size_le hown; omega
  have HC0 := Lib.hid (Course.start hh)
  have HH := Lib.hid hh
  have HOwn := Lib.hid hown
  clear hh hown hsp hG
  go_enter Tryz.func8, Tryz.ntmps8
  go_wp2_with (at_range; refine wpList_range_own _ rfl _ 54 rfl 61 63 Tryz.keyed61 Tryz.mapOuter R0 M n D rfl HOwn.out ?_; intro w0 hrg0 hg0 hs0)
  have HB0 : Hid (Below w.heap.size w w0) := (Below.refl w.heap.size w).grown hg0 (Nat.le_refl _) (by simp)
  clear hg0 c0 c1 c2
  go_frame
  go_loopw [3] (fun v wr => Hid (∃ (left : Lit → Bool) (cnt : Nat) (done : List Sp) (acc : List V) (A2 : Option Addr) (n2 c2 : Nat), wr.ranges Tryz.prog 61 R0 M w.heap.size n D left cnt ∧ Course left (spKey H) O done ∧ v = .slice A2 n2 c2 ∧ Got L done acc ∧ Own encV 6 34 wr w.heap.size A2 n2 c2 acc) ∧ Hid (Below w.heap.size w wr)) (fun _ wr => wr.rangeLeft M w.heap.size)
  case atStart => exact ⟨⟨_, _, [], [], none, 0, 0, hrg0, HC0.out, rfl, Got.nil L, Own.nil _ _⟩, HB0.out⟩
  case round =>
    clear hrg0 hs0 HC0 HB0
    obtain ⟨wo, rfl⟩ : ∃ wo : World, wo = wr := ⟨_, rfl⟩
    obtain ⟨HE, HW⟩ := hrel
    obtain ⟨left, cnt, done, acc, A2, n2, c2, hrg, hco, rfl, hgot, hown⟩ := HE.out
    clear HE
    have HO := Lib.hid hown; have HCo := Lib.hid hco; have HGt := Lib.hid hgot; clear hown hco hgot
    have hrgOut := hrg
    go_wp2_with (at_next; refine wpList_next_ranges _ rfl _ rfl 61 Tryz.keyed61 R0 spot3 (fun x : Value => x) (fun key kl hkey => by obtain ⟨a, b, c, rfl, _⟩ := spot_inv hkey; exact ⟨(a, b, c), rfl⟩) (fun v y _ => ⟨v, rfl⟩) M w.heap.size n D left cnt rfl hrg ?_ ?_)
    · intro hc0 hl0
      have HPm := Lib.hid (HCo.out.done_perm HNd.out hl0)
      have hwz := HW.out.size
      have HS := Lib.hid (sortV_any A2 n2 c2 _ _ wo HO.out (by have := HGt.out.len; have := HO.out.1; omega))
      clear hl0 hc0
      go_wp2_with (go_at_call 29; refine HS.out.mono ?_; rintro e w1 ⟨rfl, ⟨l', hp', hs', ho1'⟩, hg1'⟩; have HO1 := Lib.hid ho1'; have HP1 := Lib.hid hp'; have HS1 := Lib.hid hs'; have HB1 := Lib.hid (Below.app HW.out HO.out hg1' hwz); clear ho1' hg1' hp' hs')
      go_ret
      have hall : acc.Perm L := (List.perm_ext_iff_of_nodup HGt.out.nodup HGd.out.nodup).2 fun v => by
        rw [HGt.out.mem]
        refine ⟨fun h => h.1, fun h => ⟨h, ?_⟩⟩
        obtain ⟨o, ho, e⟩ := HSp.out.all v h
        exact ⟨o, HPm.out.mem_iff.2 ho, e⟩
      have he := sorted_is HGd.out (HP1.out.trans hall) HS1.out
      subst he
      exact ⟨⟨A2, n2, c2, rfl, HO1.out⟩, HB1.out⟩
    · intro xh xr xs cv kl yd yp w1 cnt1 hkx hlx hR hat hrg1 hlt1 hg1 hs1 hen
      obtain ⟨o, ho, hkv, hnv, hco2⟩ := HCo.out.more HIn.out (fun a b => WideAt.sameKey_iff (spKey_lit H b)) hlx
      have hcv : cv = .map (some o.2.2) := by
        have h1 := R0_inv hR
        have h2 := hat (.held cv)
        simp only at h1
        rw [hkv, HH.out.vals o ho, h1] at h2
        injection h2 with h2
        exact h2.symm
      subst hcv
      have HB1 : Hid (Below w.heap.size w w1) := HW.out.grown hg1 HW.out.size (fun i hi => by injection hi with hi; omega)
      have HO1 : Hid (Own encV 6 34 w1 w.heap.size A2 n2 c2 acc) := ⟨HO.out.1, HO.out.2.kept hg1 (.inr (own_ne_ranges HO.out.2 hrg))⟩
      have hr1 := ranges_lt hrg1
      have HRg := Lib.hid hrg1
      have hdif : ∀ p ∈ done, (p.1, p.2.1) ≠ (o.1, o.2.1) := fun p hp e => by
        have hpO := HCo.out.sub p hp
        have h1 := HSp.out.spots
        rw [List.Nodup, List.pairwise_map] at h1
        rcases pw_cases h1 hpO ho with h2 | h2 | h2
        · exact hnv (h2 ▸ hp)
        · exact h2 e
        · exact h2 e.symm
      have HDf := Lib.hid hdif; have HCo2 := Lib.hid hco2; have HoO := Lib.hid ho
      obtain ⟨hne, n1, D1, hin, hn1, hh1⟩ := HSp.out.inner o ho
      have hin1 := hin.kept (below_grown HB1.out (B := 0)) (by simp)
      clear hat hR hkx hlx hkv hs1 hg1 hdif hco2 hnv hin hrg1
      unfold spot3 spotV at hen
      have HIn1 := Lib.hid hin1
      have HCi := Lib.hid (Course.start hh1); have HHi := Lib.hid hh1
      have hsz1 : Maps.size D1 ≤ 4096 := by have := size_le hin1; have := List.length_filter_le (isAt o.1 o.2.1) L; omega
      clear hin1 hh1 ho
      go_wp2_with (at_range; refine wpList_range_own _ rfl _ 63 rfl 3 34 Tryz.keyed3 Tryz.mapInner R0 o.2.2 n1 D1 rfl HIn1.out ?_; intro w2 hrg2 hg2 hs2)
      have HRg2 := Lib.hid hrg2
      have HB2 : Hid (Below w.heap.size w w2) := HB1.out.grown hg2 HB1.out.size (by simp)
      have HO2 : Hid (Own encV 6 34 w2 w.heap.size A2 n2 c2 acc) := HO1.out.below ((Below.refl _ _).grown hg2 (Nat.le_refl _) (by simp))
      have HRo2 := Lib.hid (HRg.out.kept hg2 (by simp) (by simp))
      clear hrg2 hg2 hs2 hen
      obtain ⟨r1, hr1e⟩ : ∃ r1, r1 = w1.heap.size := ⟨_, rfl⟩
      rw [← hr1e] at HRg2 ⊢
      have hr1b : w.heap.size < r1 := by omega
      clear hr1e hr1
      try go_frame
      go_loopw [3] (fun v wy => Hid (∃ (left1 left2 : Lit → Bool) (k1 k2 : Nat) (di : List V) (A3 : Option Addr) (n3 c3 : Nat), wy.ranges Tryz.prog 3 R0 o.2.2 r1 n1 D1 left1 k1 ∧ wy.ranges Tryz.prog 61 R0 M w.heap.size n D left2 k2 ∧ k2 ≤ cnt1 ∧ Course left2 (spKey H) O (done ++ [o]) ∧ Course left1 frKey (L.filter (isAt o.1 o.2.1)) di ∧ v = .slice A3 n3 c3 ∧ n3 + k1 ≤ 8192 ∧ Own encV 6 34 wy w.heap.size A3 n3 c3 (acc ++ di)) ∧ Hid (Below w.heap.size w wy)) (fun _ wy => wy.rangeLeft o.2.2 r1)
      case atStart => exact ⟨⟨_, _, _, _, [], A2, n2, c2, HRg2.out, HRo2.out, Nat.le_refl _, HCo2.out, HCi.out, rfl, by have := HO2.out.1; have := HGt.out.len; omega, by rw [List.append_nil]; exact HO2.out⟩, HB2.out⟩
      case round =>
        clear HRg2 HB2 HO2 HRo2 HRg HO1 HB1 HCi
        obtain ⟨HE, HW⟩ := hrel
        obtain ⟨left1, left2, k1, k2, di, A3, n3, c3, hrg, hrgo, hk2, hco2, hco1, rfl, hn3, hown⟩ := HE.out
        clear HE
        have HO := Lib.hid hown; have HCi := Lib.hid hco1; have HCo2 := Lib.hid hco2; have HRo := Lib.hid hrgo; clear hown hco1 hco2 hrgo
        have HNdi : Hid (L.filter (isAt o.1 o.2.1)).Nodup := HGd.out.nodup.filter _
        go_wp2_with (at_next; refine wpList_next_ranges _ rfl _ rfl 3 Tryz.keyed3 R0 (Value.int .i64) (fun x : Value => x) (fun key kl hkey => by obtain ⟨x, rfl, _⟩ := Maps.keyOf_int_inv Tryz.underlying3 hkey; exact ⟨x, rfl⟩) (fun v y _ => ⟨v, rfl⟩) o.2.2 r1 n1 D1 left1 k1 rfl hrg ?_ ?_)
        · intro hc0 hl0
          have HGm := Lib.hid (HGt.out.more HDf.out (HCi.out.done_perm HNdi.out hl0) HGd.out.nodup)
          clear hl0 hc0
          go_wp2
          go_roundw
          case rel => exact ⟨⟨left2, k2, done ++ [o], acc ++ di, A3, n3, c3, HRo.out, HCo2.out, rfl, HGm.out, HO.out⟩, HW.out⟩
          case measure => rw [HRo.out.left_eq, hrgOut.left_eq]; omega
        · intro x cv kl yd yp w1 cnt2 hkx hlx hR hat hrg1 hlt2 hg1 hs1 hen
          obtain ⟨v, hv, hkv, hnv, hco2⟩ := HCi.out.more (fun a ha b hb e => at_inj HGd.out ha hb (by simpa [frKey] using e)) (fun a b => WideAt.sameKey_iff (frKey_lit b)) hlx
          obtain ⟨x', ex, ekl, _⟩ := Maps.keyOf_int_inv Tryz.underlying3 hkx
          injection ex with _ ex
          subst ex
          have hxv : x = v.fr := by rw [ekl] at hkv; simpa [frKey] using hkv
          have hcv : cv = vagg v := by
            have h1 := R0_inv hR
            have h2 := hat (.held cv)
            simp only at h1
            rw [hkv, HHi.out.vals v hv, h1] at h2
            injection h2 with h2
            exact h2.symm
          subst hxv hcv
          have HB1 : Hid (Below w.heap.size w w1) := HW.out.grown hg1 HW.out.size (fun i hi => by injection hi with hi; omega)
          have HO1 : Hid (Own encV 6 34 w1 w.heap.size A3 n3 c3 (acc ++ di)) := ⟨HO.out.1, HO.out.2.kept hg1 (.inr (own_ne_ranges HO.out.2 hrg))⟩
          have HRo1 : Hid (w1.ranges Tryz.prog 61 R0 M w.heap.size n D left2 k2) := HRo.out.kept hg1 (fun e => ranges_ne HRo.out hrg (by injection e)) (fun e => by injection e with e; omega)
          have hr1 := HB1.out.size
          have HRg1 := Lib.hid hrg1
          have HCo3 := Lib.hid hco2
          clear hat hR hkx hlx hs1 hg1 hkv hrg1 hco2 hnv hv
          unfold vagg at hen
          have Z0 := Lib.hid (HB1.out.alloc hr1 (.cells #[.int .i64 v.h, .int .i64 v.r, .int .i64 v.s, .bool v.has, .int .u64 v.blk, .int .i64 v.fr] 34))
          have Z1 := Lib.hid (HO1.out.alloc (.cells #[.int .i64 v.h, .int .i64 v.r, .int .i64 v.s, .bool v.has, .int .u64 v.blk, .int .i64 v.fr] 34))
          have Z2 := Lib.hid (HRg1.out.alloc (.cells #[.int .i64 v.h, .int .i64 v.r, .int .i64 v.s, .bool v.has, .int .u64 v.blk, .int .i64 v.fr] 34))
          have Z4 := Lib.hid (HRo1.out.alloc (.cells #[.int .i64 v.h, .int .i64 v.r, .int .i64 v.s, .bool v.has, .int .u64 v.blk, .int .i64 v.fr] 34))
          have hZ3 := rd_new (α := V) (enc := encV) (k := 6) (w1.alloc (.cells #[.int .i64 v.h, .int .i64 v.r, .int .i64 v.s, .bool v.has, .int .u64 v.blk, .int .i64 v.fr] 34)) 34 v #[.int .i64 v.h, .int .i64 v.r, .int .i64 v.s, .bool v.has, .int .u64 v.blk, .int .i64 v.fr] rfl
          rw [World.size_alloc] at hZ3
          have Z3 := Lib.hid hZ3; clear hZ3
          go_wp2_with (at_builtin; first
            | (refine wpList_app rfl (.tmp 23) (.tmp 25) 23 rfl 34 i0 _ 48 Tryz.underlying23 hi hz0 hz1 hz2 rfl (by decide) lenV oneV w.heap.size _ n3 c3 _ rfl (Z1.out.alloc _) (w1.heap.size + 1 + 1) 1 1 _ [v] rfl Z3.out (by simp only [maxLen]; omega) (by omega) (Z0.out.alloc Z0.out.size _).size ?_; skip; intro A5 c5 w5 hown5 hg5 hat5
               have B5 := Lib.hid (Below.app (Z0.out.alloc Z0.out.size _) (Z1.out.alloc _) hg5 (Z0.out.alloc Z0.out.size _).size)
               have R5 := Lib.hid ((Z2.out.alloc _).kept hg5 (fun e => own_ne_rmap (Z1.out.alloc (.cells #[.int .i64 v.h, .int .i64 v.r, .int .i64 v.s, .bool v.has, .int .u64 v.blk, .int .i64 v.fr] 34)).2 (Z2.out.alloc _) e.symm) (fun e => own_ne_ranges (Z1.out.alloc (.cells #[.int .i64 v.h, .int .i64 v.r, .int .i64 v.s, .bool v.has, .int .u64 v.blk, .int .i64 v.fr] 34)).2 (Z2.out.alloc _) e.symm))
               have R6 := Lib.hid ((Z4.out.alloc _).kept hg5 (fun e => own_ne_rmap (Z1.out.alloc (.cells #[.int .i64 v.h, .int .i64 v.r, .int .i64 v.s, .bool v.has, .int .u64 v.blk, .int .i64 v.fr] 34)).2 (Z4.out.alloc _) e.symm) (fun e => own_ne_ranges (Z1.out.alloc (.cells #[.int .i64 v.h, .int .i64 v.r, .int .i64 v.s, .bool v.has, .int .u64 v.blk, .int .i64 v.fr] 34)).2 (Z4.out.alloc _) e.symm))
               have O5 := Lib.hid hown5
               clear hown5 hg5 hat5))
          go_roundw
          case rel => exact ⟨⟨_, left2, cnt2, k2, di ++ [v], A5, n3 + 1, c5, R5.out, R6.out, hk2, HCo2.out, HCo3.out, rfl, by omega, by rw [← List.append_assoc]; exact O5.out⟩, B5.out⟩
          case measure => rw [R5.out.left_eq, hrg.left_eq]; omega
end Go.Proofs.YtkjhacfmidmebaaGreat
