/- The program's Best (19). -/
import Derived.Test.YtkjhacfmidmebaaGreatBack
import Derived.Test.YtkjhacfmidmebaaGreatClosedC
import Derived.Test.YtkjhacfmidmebaaGreatCount4
namespace Go.Proofs.YtkjhacfmidmebaaGreat
open Go.RowKit Go.Shelf

attribute [local go_sem] Oper.semAt_some

theorem back42_in (F : Fence) (n : Nat) (h42 : F.fn 42) (hro : F.round = none) (a : Option Addr) (len cap : Nat) (w : World) :
    CallsIn F n Tryz.prog 42 #[.slice a len cap] w fun e w' => e = .returned (.func (.func 60) #[] #[.pointer (some ⟨w.heap.size, 0, none⟩)]) ∧ w' = w.alloc (.cells #[.slice a len cap] 24) := by
  refine callsIn_of_wp Tryz.func42 rfl h42 ?_ hro
  simp only [Tryz.ntmps42, List.size_toArray, List.length_cons, List.length_nil, Nat.reduceAdd, Nat.reduceSub, Array.replicate_succ, Array.replicate_zero, List.push_toArray, List.append_toArray, List.nil_append, List.cons_append]
  gi_wp2
  go_ret
  exact ⟨rfl, rfl⟩

theorem back60_stops (F : Fence) (n : Nat) (h60 : F.fn 60) (hro : F.round = none) (hn : 1 ≤ n) (Bs n₀ : Nat) (A : Option Addr) (cap : Nat) (zs : List FitI) (hlen : zs.length ≤ 65536) (w : World) (hB : Bs < n₀) (hn₀ : n₀ ≤ w.heap.size)
    (hBs : w.cell? ⟨Bs, 0, none⟩ = some (.slice A zs.length cap)) (hc : Rd encI 1 w n₀ A zs.length (zs.map (·.1))) :
    SeqStopsK F n Tryz.prog 60 #[.pointer (some ⟨Bs, 0, none⟩)] (fun x : FitI × Nat => #[.int .i64 (x.2 : Int), .int .i64 x.1.1]) (Below n₀) (fun ys => ys = rv zs) (fun pre => pre <+: rv zs) zs.length w := fun l J Jx W hW _ _ hY h0 => by
  have hW' := hW.mono hn₀
  exact back60_in F n h60 hro hn l Bs n₀ A cap zs hlen J Jx hY W ((hW'.cell (p := ⟨Bs, 0, none⟩) hB).trans hBs) hB (hc.below hW') h0

theorem blk_from {β : Type} (B g : Nat) (t : TypeId) (f : β → Array Value) : OwnFrom B (fun s W => Blk W g t (f s)) := fun s X Y row hs hg hr => by
  have hl : g < X.heap.size := (Array.getElem?_eq_some_iff.1 (show X.heap[g]? = some _ from hs)).1
  refine (hg.block g hl (fun e => ?_)).trans hs
  obtain ⟨_, o, ho, hc⟩ := hr g e.symm
  rw [show X.heap[g]? = _ from hs] at ho
  cases ho; cases hc

theorem own_from {β : Type} (B base n c : Nat) (A : Option Addr) (l : List Int) : OwnFrom B (fun (_ : β) W => Own encI 1 3 W base A n c l) := fun s X Y row hs hg hr => by
  refine ⟨hs.1, hs.2.kept hg ?_⟩
  rcases hs.2.2 with ⟨hv, _⟩ | ⟨g, cap, cur, hv, _, hh, _⟩
  · rw [hv]; exact .inl rfl
  · rw [hv]
    refine .inr fun e => ?_
    have e1 : some g = row := e
    obtain ⟨_, o, ho, hc⟩ := hr g e1.symm
    rw [hh] at ho
    cases ho; cases hc

theorem blk_other {w : World} {g g' : Nat} {t : TypeId} {cs : Array Value} (h : Blk w g t cs) (i : Nat) (u : Value) (hne : g ≠ g') : Blk (w.setCell ⟨g', i, none⟩ u) g t cs :=
  ((grown_setCell w g' i u).block g h.lt (fun e => hne (by injection e))).trans h
theorem blk_sixth {w : World} {g g' : Nat} {t : TypeId} {cs : Array Value} (h : Blk w g t cs) (b0 b1 b2 b3 b4 b5 : Value) (hne : g ≠ g') : Blk (sixth w g' b0 b1 b2 b3 b4 b5) g t cs :=
  blk_other (blk_other (blk_other (blk_other (blk_other (blk_other h 0 b0 hne) 1 b1 hne) 2 b2 hne) 3 b3 hne) 4 b4 hne) 5 b5 hne
theorem own_other {w : World} {base n c g : Nat} {A : Option Addr} {l : List Int} {cs : Array Value} (h : Own encI 1 3 w base A n c l) (hx : Blk w g 4 cs) (i : Nat) (u : Value) : Own encI 1 3 (w.setCell ⟨g, i, none⟩ u) base A n c l :=
  ⟨h.1, h.2.kept (grown_setCell w g i _) (.inr (own_ne h.2 hx (by decide)))⟩
theorem keeps_sixth (w : World) (g : Nat) (b0 b1 b2 b3 b4 b5 : Value) : KeepsOthers w (sixth w g b0 b1 b2 b3 b4 b5) :=
  (((((KeepsOthers.setCell _ _ _).trans (KeepsOthers.setCell _ _ _)).trans (KeepsOthers.setCell _ _ _)).trans (KeepsOthers.setCell _ _ _)).trans (KeepsOthers.setCell _ _ _)).trans (KeepsOthers.setCell _ _ _)
theorem blk_put {w : World} {g : Nat} {t : TypeId} {cs : Array Value} (h : Blk w g t cs) (D : Nat) (o : Obj) (hne : g ≠ D) : Blk (w.putObj D o) g t cs :=
  ((grownBy_putObj' w D o).block g h.lt (fun e => hne (by injection e))).trans h
/-- Best has found it. -/
def BestStop (S : List Seat) (L : List V) (round H : Int) (N : Nat) (c : Code) (pre : List (FitI × Nat)) (W : World) : Prop :=
  c = .ret ∧ ∃ ini x A3 n3 c3 r' blk fr, pre = ini ++ [x] ∧ (∀ y ∈ ini, upTo S L round y.1.1 = none) ∧ upTo S L round x.1.1 = some (r', true, blk, fr) ∧
    Blk W (N + 1 + 1) 42 #[.int .i64 H, .int .i64 r', .int .i64 1, .bool true, .int .u64 blk, .slice A3 n3 c3] ∧ Blk W (N + 1 + 1 + 1) 4 #[.bool true] ∧ Own encI 1 3 W N A3 n3 c3 fr
theorem bestStop_from (B : Nat) (S : List Seat) (L : List V) (round H : Int) (N : Nat) (c : Code) : OwnFrom B (BestStop S L round H N c) := fun s X Y row hs hg hr => by
  obtain ⟨hc, ini, x, A3, n3, c3, r', blk, fr, e1, e2, e3, h1, h2, h3⟩ := hs
  exact ⟨hc, ini, x, A3, n3, c3, r', blk, fr, e1, e2, e3, blk_from B _ _ (fun _ : Unit => _) () X Y row h1 hg hr, blk_from B _ _ (fun _ : Unit => _) () X Y row h2 hg hr, own_from B _ _ _ _ _ () X Y row h3 hg hr⟩

set_option maxRecDepth 100000 in
set_option maxHeartbeats 6400000 in
theorem bestC_ (C : Nat) (S : List Seat) (H round : Int) (L : List V) (w : World) (h : CRep w C S H L) (hS : Bench S) (hG : Good S H L) (hH : Fit H) (hL : L.length ≤ 4096) :
    Calls Tryz.prog 19 #[.pointer (some ⟨C, 0, none⟩), .int .i64 round] w fun e w' => CertIs w.heap.size H 1 (bestO S L round) e w' ∧ Below w.heap.size w w' := by
  have HCR := Lib.hid h; have HGd := Lib.hid hG; have HS := Lib.hid hS; have HH := Lib.hid hH
  obtain ⟨wa, hwa⟩ : ∃ wa, (((w.alloc (.cells #[.pointer (some ⟨C, 0, none⟩)] 26)).alloc (.cells #[.int .i64 round] 3)).alloc (.cells #[.int .i64 0, .int .i64 0, .int .i64 0, .bool false, .int .u64 0, .slice none 0 0] 42)).alloc (.cells #[.bool false] 4) = wa := ⟨_, rfl⟩
  have q0 := (((Blk.new w 26 #[.pointer (some ⟨C, 0, none⟩)]).alloc (.cells #[.int .i64 round] 3)).alloc (.cells #[.int .i64 0, .int .i64 0, .int .i64 0, .bool false, .int .u64 0, .slice none 0 0] 42)).alloc (.cells #[.bool false] 4)
  have q1 := ((Blk.new (w.alloc (.cells #[.pointer (some ⟨C, 0, none⟩)] 26)) 3 #[.int .i64 round]).alloc (.cells #[.int .i64 0, .int .i64 0, .int .i64 0, .bool false, .int .u64 0, .slice none 0 0] 42)).alloc (.cells #[.bool false] 4)
  have q2 := (Blk.new ((w.alloc (.cells #[.pointer (some ⟨C, 0, none⟩)] 26)).alloc (.cells #[.int .i64 round] 3)) 42 #[.int .i64 0, .int .i64 0, .int .i64 0, .bool false, .int .u64 0, .slice none 0 0]).alloc (.cells #[.bool false] 4)
  have q3 := Blk.new (((w.alloc (.cells #[.pointer (some ⟨C, 0, none⟩)] 26)).alloc (.cells #[.int .i64 round] 3)).alloc (.cells #[.int .i64 0, .int .i64 0, .int .i64 0, .bool false, .int .u64 0, .slice none 0 0] 42)) 4 #[.bool false]
  have qb : Below w.heap.size w ((((w.alloc (.cells #[.pointer (some ⟨C, 0, none⟩)] 26)).alloc (.cells #[.int .i64 round] 3)).alloc (.cells #[.int .i64 0, .int .i64 0, .int .i64 0, .bool false, .int .u64 0, .slice none 0 0] 42)).alloc (.cells #[.bool false] 4)) := ((((Below.refl _ _).alloc (Nat.le_refl _) _).alloc (by simp) _).alloc (by simp; omega) _).alloc (by simp; omega) _
  simp only [World.size_alloc] at q1 q2 q3
  rw [hwa] at q0 q1 q2 q3 qb
  have hwz : wa.heap.size = w.heap.size + 4 := by rw [← hwa]; simp
  have hRo := rounds_any C S H 1 L _ (h.below qb) hH hL
  have HRo := Lib.hid hRo
  have Q0 := Lib.hid q0; have Q1 := Lib.hid q1; have Q2 := Lib.hid q2; have Q3 := Lib.hid q3; have QB := Lib.hid qb; have QZ := Lib.hid hwz
  have p0 := q0.cell 0
  simp at p0
  clear q0 q1 q2 q3 qb hwz hRo h hS hG hH
  refine (callsIn_wide (n := 6)).1 ?_
  refine callsIn_of_wp_marks Tryz.func19 rfl trivial ?_ rfl
  simp only [Tryz.ntmps19, List.size_toArray, List.length_cons, List.length_nil, Nat.reduceAdd, Nat.reduceSub, Array.replicate_succ, Array.replicate_zero, List.push_toArray, List.append_toArray, List.nil_append, List.cons_append]
  gi_wp2_with (first
    | (refine ⟨trivial, ?_⟩; gi_at_call 33; refine (callsIn_wide.2 HRo.out).mono ?_; rintro e w0 ⟨R, hR, ⟨Ar, nr, cr, rfl, hro⟩, hb0⟩
       have HR0 := Lib.hid hR; have HRd := Lib.hid (hro.rd lenI)
       have HBa := Lib.hid (QB.out.trans (hb0.mono QB.out.size))
       have HX0 := Lib.hid (Q0.out.below hb0 Q0.out.lt); have HX1 := Lib.hid (Q1.out.below hb0 Q1.out.lt); have HX2 := Lib.hid (Q2.out.below hb0 Q2.out.lt); have HX3 := Lib.hid (Q3.out.below hb0 Q3.out.lt)
       have HZ0 : Hid (wa.heap.size ≤ w0.heap.size) := hb0.size
       have hnr := hro.1
       clear hb0 hR hro)
    | (refine ⟨trivial, ?_⟩; gi_at_call 42; refine (back42_in Fence.wide _ trivial rfl _ _ _ _).mono ?_; rintro e w' ⟨rfl, rfl⟩))
  subst hnr
  obtain ⟨zs, hzs⟩ : ∃ zs : List FitI, zs.map (·.1) = R := ⟨R.pmap Subtype.mk (fun x hx => rounds_fit HGd.out HR0.out hx), by simp [List.map_pmap]⟩
  have hzl : zs.length = R.length := by rw [← hzs]; simp
  have hRl : R.length ≤ 4096 := by have := rounds_len HR0.out; omega
  have HEq : Hid (bestO S L round = R.reverse.findSome? (upTo S L round)) := best_eq HGd.out HR0.out round
  have HMap : Hid ((rv zs).map (fun x => x.1.1) = R.reverse) := by
    show _ = _
    rw [← hzs, ← List.map_reverse, ← rv_map, List.map_map]; rfl
  have HZ1 : Hid (w.heap.size + 4 ≤ w0.heap.size) := by show _ ≤ _; have := HZ0.out; have := QZ.out; omega
  have HCa : Hid (Rd encI 1 (w0.alloc (.cells #[.slice Ar R.length cr] 24)) (w0.heap.size + 1) Ar zs.length (zs.map (·.1))) := by
    show Rd _ _ _ _ _ _ _
    rw [hzs, hzl]
    exact (HRd.out.alloc (Nat.le_refl _) _).more (by omega)
  have hbx : (w0.alloc (.cells #[.slice Ar zs.length cr] 24)).cell? ⟨w0.heap.size, 0, none⟩ = some (.slice Ar zs.length cr) := by simp
  clear HRo p0 hwa
  rw [← hzl]
  have HI0 : Hid ((Blk (w0.alloc (.cells #[.slice Ar R.length cr] 24)) w.heap.size 26 #[.pointer (some ⟨C, 0, none⟩)] ∧ Blk (w0.alloc (.cells #[.slice Ar R.length cr] 24)) (w.heap.size + 1) 3 #[.int .i64 round] ∧ Blk (w0.alloc (.cells #[.slice Ar R.length cr] 24)) (w.heap.size + 1 + 1) 42 #[.int .i64 0, .int .i64 0, .int .i64 0, .bool false, .int .u64 0, .slice none 0 0] ∧ Blk (w0.alloc (.cells #[.slice Ar R.length cr] 24)) (w.heap.size + 1 + 1 + 1) 4 #[.bool false]) ∧ Below w.heap.size w (w0.alloc (.cells #[.slice Ar R.length cr] 24))) :=
    ⟨⟨HX0.out.alloc _, HX1.out.alloc _, HX2.out.alloc _, HX3.out.alloc _⟩, HBa.out.alloc HBa.out.size _⟩
  rw [← hzl] at HCa HI0
  refine wpIn_rangeFunc_ownG rfl (by omega) (gf := 60) (lb := #[.pointer (some ⟨w0.heap.size, 0, none⟩)]) rfl trivial (enters_of Tryz.func60 (by kernel_rfl) rfl)
    (back60_stops Fence.wide _ trivial rfl (by omega) w0.heap.size (w0.heap.size + 1) Ar cr zs (by omega) (w0.alloc (.cells #[.slice Ar zs.length cr] 24)) (by omega) (by simp) hbx HCa.out) belowK_t (belowK_b (by simp)) (Below.refl _ _) (fun _ => rfl)
    (fun pre W => (Blk W w.heap.size 26 #[.pointer (some ⟨C, 0, none⟩)] ∧ Blk W (w.heap.size + 1) 3 #[.int .i64 round] ∧ Blk W (w.heap.size + 1 + 1) 42 #[.int .i64 0, .int .i64 0, .int .i64 0, .bool false, .int .u64 0, .slice none 0 0] ∧ Blk W (w.heap.size + 1 + 1 + 1) 4 #[.bool false]) ∧ (∀ x ∈ pre, upTo S L round x.1.1 = none) ∧ Below (w0.heap.size + 1) (w0.alloc (.cells #[.slice Ar zs.length cr] 24)) W)
    (fun c pre W => BestStop S L round H w.heap.size c pre W ∧ Below w.heap.size w W)
    (OwnFrom.and (OwnFrom.and (blk_from _ _ _ _) (OwnFrom.and (blk_from _ _ _ _) (OwnFrom.and (blk_from _ _ _ _) (blk_from _ _ _ _)))) (OwnFrom.and (ownFrom_pure _ (fun pre : List (FitI × Nat) => ∀ x ∈ pre, upTo S L round x.1.1 = none)) (ownFrom_below (by simp) (by simp))))
    (fun c => OwnFrom.and (bestStop_from _ _ _ _ _ _ _) (ownFrom_below (Nat.le_refl _) (by simp; have := HZ1.out; omega)))
    ⟨HI0.out.1, by simp, Below.refl _ _⟩
    (fun x => { tmps := #[.pointer (some ⟨C, 0, none⟩), .int .i64 round, .pointer (some ⟨w.heap.size, 0, none⟩), .pointer (some ⟨w.heap.size + 1, 0, none⟩), .pointer (some ⟨w.heap.size + 1 + 1, 0, none⟩), .pointer (some ⟨w.heap.size + 1 + 1 + 1, 0, none⟩), undef, .int .i64 x.1.1, undef, undef, .pointer (some ⟨C, 0, none⟩), .slice Ar R.length cr, .func (.func 60) #[] #[.pointer (some ⟨w0.heap.size, 0, none⟩)], .int .i64 (x.2 : Int), .int .i64 x.1.1, undef, undef, undef, undef, undef, undef, undef, undef, undef, undef, undef, undef, undef, undef, undef, undef, undef, undef], defers := [] }) ?assign ?body ?done ?stop
  case assign =>
    intro l x W K hK
    gi_wp2
    exact hK
  case body =>
    rintro l pre ⟨⟨r, hr⟩, j⟩ W ⟨⟨hx0, hx1, hx2, hx3⟩, hno, hB⟩ hlt
    clear hbx HCa HRd hlt
    have HNo := Lib.hid hno; clear hno
    have HBs := hB.size
    rw [World.size_alloc] at HBs
    have HK := Lib.hid hB
    have HW : Hid (Below w.heap.size w W) := HI0.out.2.trans (hB.mono (by have := HZ1.out; omega))
    have HB : w.heap.size ≤ W.heap.size := by have := HZ1.out; omega
    clear hB
    have r0 := hx2.cell 0; have r1 := hx2.cell 1; have r2 := hx2.cell 2; have r3 := hx2.cell 3; have r4 := hx2.cell 4; have r5 := hx2.cell 5
    have b0 := hx0.cell 0; have b1 := hx1.cell 0; have b2 := hx3.cell 0
    simp at r0 r1 r2 r3 r4 r5 b0 b1 b2
    have R0 := Lib.hid hx0; have R1 := Lib.hid hx1; have R2 := Lib.hid hx2; have R3 := Lib.hid hx3
    have l0 := hx0.lt; have l1 := hx1.lt; have l2 := hx2.lt; have l3 := hx3.lt
    clear hx0 hx1 hx2 hx3
    have HCC := leadC_ C S H r 1 L W (HCR.out.below HW.out) HS.out HGd.out HH.out hr (by unfold Fit; decide) hL
    have hw0 : w0.heap.size + 1 ≤ (w0.alloc (.cells #[.slice Ar zs.length cr] 24)).heap.size := by simp
    rcases ho : leadO S L r 1 with _ | ⟨r', has, blk, fr⟩
    · have hno : upTo S L round r = none := by unfold upTo goodO; rw [ho]; simp
      rw [ho] at HCC
      have HC := Lib.hid HCC; have HNn := Lib.hid hno; clear HCC hno ho
      gi_wp2_with (refine ⟨trivial, ?_⟩; gi_at_call 13; refine (CallsIn.inRound l (callsIn_wide.2 HC.out)).mono ?_; rintro e w1 ⟨rfl, hb1⟩; have ZB := Lib.hid hb1; have Z0 := Lib.hid (R0.out.below hb1 l0); have Z1 := Lib.hid (R1.out.below hb1 l1); have Z2 := Lib.hid (R2.out.below hb1 l2); have Z3 := Lib.hid (R3.out.below hb1 l3); clear hb1)
      exact ⟨(KeepsOthers.of_grownBy (below_grown (B := 0) ZB.out) (by simp)).trans (KeepsOthers.alloc _ _) |>.from _, (ZB.out.mono HBs).alloc (by have := ZB.out.size; omega) _, ⟨Z0.out.alloc _, Z1.out.alloc _, Z2.out.alloc _, Z3.out.alloc _⟩, fun x hx => by
        rcases List.mem_append.1 hx with hx | hx
        · exact HNo.out x hx
        · rw [List.mem_singleton.1 hx]; exact HNn.out, (HK.out.trans (ZB.out.mono HBs)).alloc (by have := ZB.out.size; omega) _⟩
    · rw [ho] at HCC
      have HC := Lib.hid HCC; clear HCC
      rcases has with _ | _
      · have hno : upTo S L round r = none := by unfold upTo goodO; rw [ho]; simp
        have HNn := Lib.hid hno; clear hno ho
        gi_wp2_with (refine ⟨trivial, ?_⟩; gi_at_call 13; refine (CallsIn.inRound l (callsIn_wide.2 HC.out)).mono ?_; rintro e w1 ⟨⟨A3, n3, c3, rfl, hr3⟩, hb1⟩; have ZB := Lib.hid hb1; have Z0 := Lib.hid (R0.out.below hb1 l0); have Z1 := Lib.hid (R1.out.below hb1 l1); have Z2 := Lib.hid (R2.out.below hb1 l2); have Z3 := Lib.hid (R3.out.below hb1 l3); have u1 := Z1.out.cell 0; have u2 := Z1.out.lt; simp at u1; clear hr3; clear hb1)
        exact ⟨(KeepsOthers.of_grownBy (below_grown (B := 0) ZB.out) (by simp)).trans (KeepsOthers.alloc _ _) |>.from _, (ZB.out.mono HBs).alloc (by have := ZB.out.size; omega) _, ⟨Z0.out.alloc _, Z1.out.alloc _, Z2.out.alloc _, Z3.out.alloc _⟩, fun x hx => by
          rcases List.mem_append.1 hx with hx | hx
          · exact HNo.out x hx
          · rw [List.mem_singleton.1 hx]; exact HNn.out, (HK.out.trans (ZB.out.mono HBs)).alloc (by have := ZB.out.size; omega) _⟩
      · by_cases hle : r ≤ round
        · have hyes : upTo S L round r = some (r', true, blk, fr) := by unfold upTo goodO; rw [if_pos hle, ho]; rfl
          have hle' : decide (r ≤ round) = true := by simpa using hle
          have HYs := Lib.hid hyes; clear hyes ho hle
          gi_wp2_with (refine ⟨trivial, ?_⟩; gi_at_call 13; refine (CallsIn.inRound l (callsIn_wide.2 HC.out)).mono ?_; rintro e w1 ⟨⟨A3, n3, c3, rfl, hr3⟩, hb1⟩; have ZB := Lib.hid hb1; have Z0 := Lib.hid (R0.out.below hb1 l0); have Z1 := Lib.hid (R1.out.below hb1 l1); have Z2 := Lib.hid (R2.out.below hb1 l2); have Z3 := Lib.hid (R3.out.below hb1 l3); have Z4 := Lib.hid hr3; have Z5 := Lib.hid ((Z2.out.alloc (.cells #[.int .i64 H, .int .i64 r', .int .i64 1, .bool true, .int .u64 blk, .slice A3 n3 c3] 42))); have s0 := Z5.out.cell 0; have s1 := Z5.out.cell 1; have s2 := Z5.out.cell 2; have s3 := Z5.out.cell 3; have s4 := Z5.out.cell 4; have s5 := Z5.out.cell 5; have sf := Z5.out.frozen; have sl := Z5.out.lt; have t0 := (Z3.out.alloc (.cells #[.int .i64 H, .int .i64 r', .int .i64 1, .bool true, .int .u64 blk, .slice A3 n3 c3] 42)).cell 0; have tf := (Z3.out.alloc (.cells #[.int .i64 H, .int .i64 r', .int .i64 1, .bool true, .int .u64 blk, .slice A3 n3 c3] 42)).frozen; have u1 := Z1.out.cell 0; have u2 := Z1.out.lt; simp at s0 s1 s2 s3 s4 s5 t0 u1; clear hr3; clear hb1)
          have Z6 := Lib.hid (Z3.out.alloc (.cells #[.int .i64 H, .int .i64 r', .int .i64 1, .bool true, .int .u64 blk, .slice A3 n3 c3] 42))
          have hb9 := blk_other (sixth_blk Z5.out (.int .i64 H) (.int .i64 r') (.int .i64 1) (.bool true) (.int .u64 blk) (.slice A3 n3 c3)) 0 (.bool true) (g' := w.heap.size + 1 + 1 + 1) (by omega)
          have h39 := Blk.set_ (blk_sixth Z6.out (.int .i64 H) (.int .i64 r') (.int .i64 1) (.bool true) (.int .u64 blk) (.slice A3 n3 c3) (g' := w.heap.size + 1 + 1) (by omega)) 0 (.bool true)
          have ho9 := own_other (sixth_own Z5.out (.int .i64 H) (.int .i64 r') (.int .i64 1) (.bool true) (.int .u64 blk) (.slice A3 n3 c3) ((Z4.out.mono HB).alloc (.cells #[.int .i64 H, .int .i64 r', .int .i64 1, .bool true, .int .u64 blk, .slice A3 n3 c3] 42))) (blk_sixth Z6.out (.int .i64 H) (.int .i64 r') (.int .i64 1) (.bool true) (.int .u64 blk) (.slice A3 n3 c3) (g' := w.heap.size + 1 + 1) (by omega)) 0 (.bool true)
          have hB8 := (HW.out.trans (ZB.out.mono HB)).alloc (by have := ZB.out.size; omega) (.cells #[.int .i64 H, .int .i64 r', .int .i64 1, .bool true, .int .u64 blk, .slice A3 n3 c3] 42)
          have hB9 := (sixth_below (g := w.heap.size + 1 + 1) (.int .i64 H) (.int .i64 r') (.int .i64 1) (.bool true) (.int .u64 blk) (.slice A3 n3 c3) (by omega) hB8).setCell (p := ⟨w.heap.size + 1 + 1 + 1, 0, none⟩) (by show _ ≤ w.heap.size + 1 + 1 + 1; omega) (.bool true)
          have hk9 := (((KeepsOthers.of_grownBy (below_grown (B := 0) ZB.out) (by simp)).trans (KeepsOthers.alloc w1 (.cells #[.int .i64 H, .int .i64 r', .int .i64 1, .bool true, .int .u64 blk, .slice A3 n3 c3] 42))).trans (keeps_sixth _ (w.heap.size + 1 + 1) (.int .i64 H) (.int .i64 r') (.int .i64 1) (.bool true) (.int .u64 blk) (.slice A3 n3 c3))).trans (KeepsOthers.setCell _ ⟨w.heap.size + 1 + 1 + 1, 0, none⟩ (.bool true))
          exact ⟨hk9.from _, ⟨rfl, pre, (⟨r, hr⟩, j), A3, n3, c3, r', blk, fr, rfl, HNo.out, HYs.out, hb9, h39, ho9⟩, hB9⟩
        · have hno : upTo S L round r = none := by unfold upTo; rw [if_neg hle]
          have hle' : decide (r ≤ round) = false := by simpa using hle
          have HNn := Lib.hid hno; clear hno ho hle
          gi_wp2_with (refine ⟨trivial, ?_⟩; gi_at_call 13; refine (CallsIn.inRound l (callsIn_wide.2 HC.out)).mono ?_; rintro e w1 ⟨⟨A3, n3, c3, rfl, hr3⟩, hb1⟩; have ZB := Lib.hid hb1; have Z0 := Lib.hid (R0.out.below hb1 l0); have Z1 := Lib.hid (R1.out.below hb1 l1); have Z2 := Lib.hid (R2.out.below hb1 l2); have Z3 := Lib.hid (R3.out.below hb1 l3); have u1 := Z1.out.cell 0; have u2 := Z1.out.lt; simp at u1; clear hr3; clear hb1)
          exact ⟨(KeepsOthers.of_grownBy (below_grown (B := 0) ZB.out) (by simp)).trans (KeepsOthers.alloc _ _) |>.from _, (ZB.out.mono HBs).alloc (by have := ZB.out.size; omega) _, ⟨Z0.out.alloc _, Z1.out.alloc _, Z2.out.alloc _, Z3.out.alloc _⟩, fun x hx => by
            rcases List.mem_append.1 hx with hx | hx
            · exact HNo.out x hx
            · rw [List.mem_singleton.1 hx]; exact HNn.out, (HK.out.trans (ZB.out.mono HBs)).alloc (by have := ZB.out.size; omega) _⟩
  case done =>
    rintro D ys W hD rfl ⟨⟨hx0, hx1, hx2, hx3⟩, hno, hB⟩ hK
    have HN : Hid (bestO S L round = none) := by
      show _ = _
      rw [HEq.out, ← HMap.out]
      refine someNone fun x hx => ?_
      obtain ⟨y, hy, rfl⟩ := List.mem_map.1 hx
      exact hno y hy
    have HW : Hid (Below w.heap.size w W) := HI0.out.2.trans (hB.mono (by have := HZ1.out; omega))
    have R2 := Lib.hid hx2; have R3 := Lib.hid hx3
    have s0 := hx2.cell 0; have s1 := hx2.cell 1; have s2 := hx2.cell 2; have s3 := hx2.cell 3; have s4 := hx2.cell 4; have s5 := hx2.cell 5; have t0 := hx3.cell 0
    have sf := hx2.frozen; have tf := hx3.frozen
    simp at s0 s1 s2 s3 s4 s5 t0
    have HD : Hid (w.heap.size + 4 < D) := by show _ < _; have := HZ1.out; simp at hD; omega
    clear hno hB hx0 hx1 hx2 hx3 hD hbx HCa HRd
    gi_wp2
    have hK' := ((keeps_sixth W (w.heap.size + 1 + 1) (.int .i64 0) (.int .i64 0) (.int .i64 0) (.bool false) (.int .u64 0) (.slice none 0 0)).trans (KeepsOthers.setCell _ ⟨w.heap.size + 1 + 1 + 1, 0, none⟩ (.bool false))).same D _ hK rfl
    refine ⟨by simp, .inl ⟨_, _, rfl, run_takeDeferred hK', ?_⟩⟩
    have hb9 := blk_put (blk_other (sixth_blk R2.out (.int .i64 0) (.int .i64 0) (.int .i64 0) (.bool false) (.int .u64 0) (.slice none 0 0)) 0 (.bool false) (g' := w.heap.size + 1 + 1 + 1) (by omega)) D (.deferred none) (by have := HD.out; omega)
    have h39 := blk_put (Blk.set_ (blk_sixth R3.out (.int .i64 0) (.int .i64 0) (.int .i64 0) (.bool false) (.int .u64 0) (.slice none 0 0) (g' := w.heap.size + 1 + 1) (by omega)) 0 (.bool false)) D (.deferred none) (by have := HD.out; omega)
    have hB9 := ((sixth_below (g := w.heap.size + 1 + 1) (.int .i64 0) (.int .i64 0) (.int .i64 0) (.bool false) (.int .u64 0) (.slice none 0 0) (by omega) HW.out).setCell (p := ⟨w.heap.size + 1 + 1 + 1, 0, none⟩) (by show _ ≤ w.heap.size + 1 + 1 + 1; omega) (.bool false)).trans (belowK_b (w := w) (Nat.le_refl _) _ D _ (.deferred none) (by have := HD.out; omega) hK' rfl rfl)
    unfold sixth at hb9 h39 hB9
    generalize hwf : World.putObj _ D _ = wf at *
    clear hwf hK' hK
    have f0 := hb9.cell 0; have f1 := hb9.cell 1; have f2 := hb9.cell 2; have f3 := hb9.cell 3; have f4 := hb9.cell 4; have f5 := hb9.cell 5; have g0 := h39.cell 0
    simp at f0 f1 f2 f3 f4 f5 g0
    refine ⟨.tuple #[.agg #[.int .i64 0, .int .i64 0, .int .i64 0, .bool false, .int .u64 0, .slice none 0 0], .bool false], ?_, by rw [HN.out]; rfl, hB9⟩
    simp [results, Tryz.results19, go_sem, f0, f1, f2, f3, f4, f5, g0]
    try rfl
  case stop =>
    rintro D c pre W hD hpre ⟨⟨rfl, ini, x, A3, n3, c3, r', blk, fr, rfl, hno, hyes, hx2, hx3, hown⟩, hB⟩ hK
    have HN : Hid (bestO S L round = some (r', true, blk, fr)) := by
      show _ = _
      rw [HEq.out, ← HMap.out]
      obtain ⟨t, ht⟩ := hpre
      rw [← ht, List.append_assoc, List.map_append, List.map_append]
      refine List.findSome?_eq_some_iff.2 ⟨ini.map (fun x => x.1.1), x.1.1, t.map (fun x => x.1.1), by simp, hyes, fun y hy => ?_⟩
      obtain ⟨z, hz, rfl⟩ := List.mem_map.1 hy
      exact hno z hz
    have HD : Hid (w.heap.size + 4 < D) := by show _ < _; have := HZ1.out; simp at hD; omega
    have R2 := Lib.hid hx2; have R3 := Lib.hid hx3; have HO := Lib.hid hown; have HB := Lib.hid hB
    clear hno hyes hx2 hx3 hown hB hpre hD hbx HCa HRd
    gi_wp2
    refine ⟨by simp, .inl ⟨_, _, rfl, run_takeDeferred hK, ?_⟩⟩
    have hb9 := blk_put R2.out D (.deferred none) (by have := HD.out; omega)
    have h39 := blk_put R3.out D (.deferred none) (by have := HD.out; omega)
    have ho9 := own_from 0 _ _ _ _ _ () W _ (some D) HO.out (grownBy_putObj' W D (.deferred none)) (fun r e => by cases e; exact ⟨Nat.zero_le _, _, hK, rfl⟩)
    have hB9 := HB.out.trans (belowK_b (w := w) (Nat.le_refl _) W D _ (.deferred none) (by have := HD.out; omega) hK rfl rfl)
    generalize hwf : World.putObj _ D _ = wf at *
    clear hwf hK
    have f0 := hb9.cell 0; have f1 := hb9.cell 1; have f2 := hb9.cell 2; have f3 := hb9.cell 3; have f4 := hb9.cell 4; have f5 := hb9.cell 5; have g0 := h39.cell 0
    simp at f0 f1 f2 f3 f4 f5 g0
    refine ⟨.tuple #[.agg #[.int .i64 H, .int .i64 r', .int .i64 1, .bool true, .int .u64 blk, .slice A3 n3 c3], .bool true], ?_, by rw [HN.out]; exact ⟨A3, n3, c3, rfl, ho9⟩, hB9⟩
    simp [results, Tryz.results19, go_sem, f0, f1, f2, f3, f4, f5, g0]
    try rfl
end Go.Proofs.YtkjhacfmidmebaaGreat
