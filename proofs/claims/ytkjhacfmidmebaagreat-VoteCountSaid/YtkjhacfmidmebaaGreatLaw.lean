/- The law's walk. -/
import Derived.Test.YtkjhacfmidmebaaGreatLaw0
namespace Go.Proofs.YtkjhacfmidmebaaGreat
open Go.RowKit

theorem addC_for (N C : Nat) (S : List Seat) (H : Int) (L : List V) (v ga gb : V) (w : World) (h : CRepN w N C S H L) (hN : N ≤ w.heap.size) (hS : Bench S) (hG : Good S H L) (hH : Fit H) (hL : L.length ≤ 4096) (hg : guiltOf v (addO S H L v).1 = .agg (gcells ga gb)) :
    Calls Tryz.prog 6 #[.pointer (some ⟨C, 0, none⟩), vagg v] w fun e w' => e = .returned (.tuple #[.agg (gcells ga gb), .int .i64 (addO S H L v).2.1]) ∧ CRepN w' N C S H (addO S H L v).2.2 ∧ MapsOnly w w' ∧ Below N w w' := by
  have := addC_ N C S H L v w h hN hS hG hH hL
  unfold AddIs at this
  rwa [hg] at this
theorem addD_for (C : Nat) (S : List Seat) (H : Int) (L : List V) (v ga gb : V) (w : World) (h : DRepN w C S H L) (hS : Bench S) (hG : Good S H L) (hL : L.length ≤ 4096) (hg : guiltOf v (addO S H L v).1 = .agg (gcells ga gb)) :
    Calls Tryz.prog 7 #[.pointer (some ⟨C, 0, none⟩), vagg v] w fun e w' => e = .returned (.tuple #[.agg (gcells ga gb), .int .i64 (addO S H L v).2.1]) ∧ DRepN w' C S H (addO S H L v).2.2 ∧ w.grownBy w' (some C) := by
  have := addD_ C S H L v w h hS hG hL
  unfold AddDIs at this
  rwa [hg] at this
theorem DRepN.alloc {w : World} {C : Nat} {S : List Seat} {H : Int} {L : List V} (h : DRepN w C S H L) (o : Obj) : DRepN (w.alloc o) C S H L := h.below ((Below.refl _ _).alloc (Nat.le_refl _) o)
theorem CRepN.alloc {w : World} {N C : Nat} {S : List Seat} {H : Int} {L : List V} (h : CRepN w N C S H L) (o : Obj) : CRepN (w.alloc o) N C S H L := h.below ((Below.refl _ _).alloc (Nat.le_refl _) o)
theorem DRepN.blk {w : World} {C : Nat} {S : List Seat} {H : Int} {L : List V} (h : DRepN w C S H L) : ∃ cs, Blk w C 30 cs := by
  obtain ⟨As, ns, cs, Al, nl, cl, h1, _⟩ := h
  exact ⟨_, h1⟩

/-- Between two questions. -/
structure LSt (w0 w : World) (N C D T U : Nat) (S : List Seat) (H : Int) (L : List V) : Prop where
  c : CRepN w N C S H L
  d : DRepN w D S H L
  b : Below w0.heap.size w0 w
  t : ∃ a0 a1 a2 a3 a4 a5, Blk w T 42 #[a0, a1, a2, a3, a4, a5]
  u : ∃ a0 a1 a2 a3 a4 a5, Blk w U 42 #[a0, a1, a2, a3, a4, a5]
theorem LSt.below {w0 w w' : World} {N C D T U : Nat} {S : List Seat} {H : Int} {L : List V} (h : LSt w0 w N C D T U S H L) (hb : Below w.heap.size w w') : LSt w0 w' N C D T U S H L := by
  obtain ⟨a0, a1, a2, a3, a4, a5, ht⟩ := h.t
  obtain ⟨b0, b1, b2, b3, b4, b5, hu⟩ := h.u
  exact ⟨h.c.below hb, h.d.below hb, h.b.trans (hb.mono h.b.size), ⟨a0, a1, a2, a3, a4, a5, ht.below hb ht.lt⟩, ⟨b0, b1, b2, b3, b4, b5, hu.below hb hu.lt⟩⟩
theorem DRepN.setCell {w : World} {C : Nat} {S : List Seat} {H : Int} {L : List V} (h : DRepN w C S H L) {g : Nat} {t : TypeId} {cs : Array Value} (hx : Blk w g t cs) (ht : t ≠ 30 ∧ t ≠ 53 ∧ t ≠ 34) (i : Nat) (u : Value) : DRepN (w.setCell ⟨g, i, none⟩ u) C S H L := by
  obtain ⟨As, ns, c, Al, nl, cl, h1, h2, h3⟩ := h
  have hne : C ≠ g := fun e => by
    subst e
    have := h1.symm.trans hx
    injection this with this; injection this with _ this; exact ht.1 this.symm
  exact ⟨As, ns, c, Al, nl, cl, blk_other h1 i u hne, own_set h2 hx (fun e => ht.2.1 e.symm) i u, own_set h3 hx (fun e => ht.2.2 e.symm) i u⟩
theorem LSt.setT {w0 w : World} {N C D T U : Nat} {S : List Seat} {H : Int} {L : List V} (h : LSt w0 w N C D T U S H L) (hT : w0.heap.size ≤ T) (hne : U ≠ T) (b0 b1 b2 b3 b4 b5 : Value) : LSt w0 (sixth w T b0 b1 b2 b3 b4 b5) N C D T U S H L ∧ Blk (sixth w T b0 b1 b2 b3 b4 b5) T 42 #[b0, b1, b2, b3, b4, b5] := by
  obtain ⟨a0, a1, a2, a3, a4, a5, ht⟩ := h.t
  obtain ⟨u0, u1, u2, u3, u4, u5, hu⟩ := h.u
  have hb := sixth_blk ht b0 b1 b2 b3 b4 b5
  have k : ∀ {w : World} {cs : Array Value} (_ : CRepN w N C S H L ∧ DRepN w D S H L) (_ : Blk w T 42 cs) (i : Nat) (u : Value), (CRepN (w.setCell ⟨T, i, none⟩ u) N C S H L ∧ DRepN (w.setCell ⟨T, i, none⟩ u) D S H L) ∧ ∃ cs', Blk (w.setCell ⟨T, i, none⟩ u) T 42 cs' := fun h hx i u => ⟨⟨h.1.setCell hx (by decide) i u, h.2.setCell hx (by decide) i u⟩, _, hx.set_ i u⟩
  obtain ⟨k0, _, x0⟩ := k ⟨h.c, h.d⟩ ht 0 b0
  obtain ⟨k1, _, x1⟩ := k k0 x0 1 b1
  obtain ⟨k2, _, x2⟩ := k k1 x1 2 b2
  obtain ⟨k3, _, x3⟩ := k k2 x2 3 b3
  obtain ⟨k4, _, x4⟩ := k k3 x3 4 b4
  obtain ⟨k5, _, x5⟩ := k k4 x4 5 b5
  exact ⟨⟨k5.1, k5.2, sixth_below b0 b1 b2 b3 b4 b5 hT h.b, ⟨b0, b1, b2, b3, b4, b5, hb⟩, ⟨u0, u1, u2, u3, u4, u5, blk_sixth hu b0 b1 b2 b3 b4 b5 hne⟩⟩, hb⟩
theorem LSt.swap {w0 w : World} {N C D T U : Nat} {S : List Seat} {H : Int} {L : List V} (h : LSt w0 w N C D T U S H L) : LSt w0 w N C D U T S H L := ⟨h.c, h.d, h.b, h.u, h.t⟩
theorem fit_small {n : Int} (h : -1 ≤ n) (h' : n ≤ 100) : Fit n := by
  unfold Fit
  simp [Lit.wf, IntKind.min, IntKind.max, IntKind.signed, IntKind.bits]
  omega

theorem fit_div {n : Int} (h : Fit n) : Fit (n.tdiv 9) := by
  have hb := fit_bounds h
  have h1 : n.tdiv 9 ≤ 9223372036854775807 ∧ -9223372036854775808 ≤ n.tdiv 9 := by
    rcases Int.le_total 0 n with h0 | h0
    · rw [Int.tdiv_eq_ediv_of_nonneg h0]; omega
    · have := Int.neg_tdiv (a := -n) (b := 9)
      rw [Int.neg_neg] at this
      rw [this, Int.tdiv_eq_ediv_of_nonneg (by omega)]; omega
  unfold Fit
  simp [Lit.wf, IntKind.min, IntKind.max, IntKind.signed, IntKind.bits]
  omega

def TrueIs (w : World) (e : Ending) (w' : World) : Prop := e = .returned (.bool true) ∧ Below w.heap.size w w'

set_option maxRecDepth 100000 in
set_option maxHeartbeats 25600000 in
theorem law_any (l : List Seat) (H : Int) (votes : List V) (ask : List Int) (A1 A2 A3 : Option Addr) (n1 n2 n3 c1 c2 c3 : Nat) (w : World) (h1 : Rd encS 2 w w.heap.size A1 n1 l) (h2 : Rd encV 6 w w.heap.size A2 n2 votes) (h3 : Rd encI 1 w w.heap.size A3 n3 ask)
    (hf1 : ∀ x ∈ l, Fit x.1 ∧ Fit x.2) (hH : Fit H) (hf3 : ∀ x ∈ ask, Fit x) (hm1 : n1 ≤ 9223372036854775807) (hm2 : n2 ≤ 9223372036854775807) (hm3 : n3 ≤ 9223372036854775807) :
    Calls Tryz.prog 3 #[.slice A1 n1 c1, .int .i64 H, .slice A2 n2 c2, .slice A3 n3 c3] w (TrueIs w) := by
  obtain rfl := h1.1
  obtain rfl := h2.1
  obtain rfl := h3.1
  have HH := Lib.hid hH; have HF3 := Lib.hid hf3
  have H1 := Lib.hid h1; have H2 := Lib.hid h2; have H3 := Lib.hid h3
  by_cases g1 : l.length ≤ 4096
  · by_cases g2 : votes.length ≤ 512
    · by_cases g3 : ask.length ≤ 64
      · have g1' : decide ((4096 : Int) < (l.length : Int)) = false := by simp; omega
        have g2' : decide ((512 : Int) < (votes.length : Int)) = false := by simp; omega
        have g3' : decide ((64 : Int) < (ask.length : Int)) = false := by simp; omega
        have hSe := seated_any A1 l.length c1 l w h1 hf1 hm1
        have HSe := Lib.hid hSe
        clear hSe h1 h2 h3 hf1 hH hf3
        go_enter Tryz.func3, Tryz.ntmps3
        go_wp2_with (first
          | (go_at_call 4; refine HSe.out.mono ?_; rintro e w1 ⟨⟨As, ns, cs, S, rfl, hos, hns, hwg⟩, hb1⟩
             have OS1 := Lib.hid hos; have HB : Hid (Bench S) := ⟨by have := hos.1; omega, hwg⟩; have B1 := Lib.hid hb1
             have HNw := Lib.hid (newN_any As ns cs _ S H w1 hos (by omega))
             clear hos hb1 hwg)
          | (go_at_call 5; refine HNw.out.mono ?_; rintro e w2 ⟨C, rfl, hC, hb2⟩
             have CR2 := Lib.hid hC; have OS2 := Lib.hid (OS1.out.below hb2); have B2 := Lib.hid (B1.out.trans (hb2.mono B1.out.size))
             clear hC hb2))
        obtain ⟨N, hNe⟩ : ∃ N, N = w1.heap.size := ⟨_, rfl⟩
        rw [← hNe] at CR2
        have hNw : w.heap.size ≤ N := by have := B1.out.size; omega
        have hN2 : N ≤ w2.heap.size := by obtain ⟨As', ns', cs', M', O', k1, k2, k3, k4, k5⟩ := CR2.out; obtain ⟨n', D', k6, _⟩ := k3.map; have := k6.lt; omega
        obtain ⟨w3, hw3⟩ : ∃ w3, w2.alloc (.cells #[.slice As ns cs, .int .i64 H, .slice none 0 0] 30) = w3 := ⟨_, rfl⟩
        have hDb := Blk.new w2 30 #[.slice As ns cs, .int .i64 H, .slice none 0 0]
        have hD3 : DRepN (w2.alloc (.cells #[.slice As ns cs, .int .i64 H, .slice none 0 0] 30)) w2.heap.size S H [] := ⟨As, ns, cs, none, 0, 0, hDb, (OS2.out.alloc _).mono (Nat.zero_le _), Own.nil _ _⟩
        have hC3 := CR2.out.alloc (.cells #[.slice As ns cs, .int .i64 H, .slice none 0 0] 30)
        have hB3 := B2.out.alloc B2.out.size (.cells #[.slice As ns cs, .int .i64 H, .slice none 0 0] 30)
        rw [hw3] at hD3 hC3 hB3 ⊢
        obtain ⟨D, hDe⟩ : ∃ D, D = w2.heap.size := ⟨_, rfl⟩
        rw [← hDe] at hD3 ⊢
        have hDw : w.heap.size ≤ D := by have := B2.out.size; omega
        have hN3 : N ≤ w3.heap.size := by rw [← hw3]; simp; omega
        have D3 := Lib.hid hD3; have C3 := Lib.hid hC3; have B3 := Lib.hid hB3; have HN3 := Lib.hid hN3
        clear hD3 hC3 hB3 hw3 hDe hNe hDb CR2 OS2 B2 OS1 B1 HNw HSe hN2 hN3
        go_loopw [12] (fun i wr => (∃ k : Nat, i = .int .i64 k ∧ k ≤ votes.length ∧ Hid (∃ L : List V, L.length ≤ k ∧ CRepN wr N C S H L ∧ DRepN wr D S H L ∧ Good S H L)) ∧ Hid (Below w.heap.size w wr) ∧ Hid (N ≤ wr.heap.size)) (fun i _ => votes.length - (intOf i).toNat)
        case atStart => exact ⟨⟨0, rfl, by omega, ⟨[], by simp, C3.out, D3.out, Good.nil S H⟩⟩, B3, HN3⟩
        case round =>
          clear C3 D3 B3 HN3
          obtain ⟨⟨k, rfl, hk, HL⟩, BW, HNr⟩ := hrel
          obtain ⟨L, hLk, hC, hD, hG⟩ := HL.out
          clear HL
          have CW := Lib.hid hC; have DW := Lib.hid hD; have HG := Lib.hid hG
          clear hC hD hG
          by_cases hlt : k < votes.length
          · have k1 : (k : Int) < (votes.length : Int) := by omega
            obtain ⟨b, off, rfl, hb, d0, d1, d2, d3, d4, d5⟩ := rd_vote (H2.out.below BW.out) hlt
            generalize hvk : votes[k] = vk at *
            obtain ⟨ga, gb, hg⟩ := guilt_is vk (addO S H L vk).1
            have hLen := addO_len S H L vk
            have hA := addC_for N C S H L vk ga gb wr CW.out HNr.out HB.out HG.out HH.out (by omega) hg
            have hAd : ∀ W, DRepN W D S H L → Calls Tryz.prog 7 #[.pointer (some ⟨D, 0, none⟩), vagg vk] W fun e w' => e = .returned (.tuple #[.agg (gcells ga gb), .int .i64 (addO S H L vk).2.1]) ∧ DRepN w' D S H (addO S H L vk).2.2 ∧ W.grownBy w' (some D) := fun W hW => addD_for D S H L vk ga gb W hW HB.out HG.out (by omega) hg
            have hGd := HG.out.add vk
            obtain ⟨er, her⟩ : ∃ er, er = (addO S H L vk).2.1 := ⟨_, rfl⟩
            obtain ⟨L2, hL2⟩ : ∃ L2, L2 = (addO S H L vk).2.2 := ⟨_, rfl⟩
            rw [← her, ← hL2] at hA
            rw [← hL2] at hLen hGd
            have hAd2 : ∀ W, DRepN W D S H L → Calls Tryz.prog 7 #[.pointer (some ⟨D, 0, none⟩), vagg vk] W fun e w' => e = .returned (.tuple #[.agg (gcells ga gb), .int .i64 er]) ∧ DRepN w' D S H L2 ∧ W.grownBy w' (some D) := by rw [her, hL2]; exact hAd
            have hE := neqG_run ga gb
            have hgd := Tryz.guard36
            unfold vagg gcells at hA hAd2
            unfold gcells at hE
            have HA := Lib.hid hA; have HAd := Lib.hid hAd2; have HGd := Lib.hid hGd
            have hbw : b < wr.heap.size := by have := BW.out.size; omega
            have hbW := BW.out.size
            clear hA hAd hAd2 hGd her hL2 hg hvk
            go_wp2_with (first
              | (go_at_call 6; refine HA.out.mono ?_; rintro e wA ⟨rfl, hcA, hmA, hbA⟩
                 have CA := Lib.hid hcA; have DA := Lib.hid (DW.out.maps hmA); have BA := Lib.hid (BW.out.trans (hbA.mono hNw)); have HNA : Hid (N ≤ wA.heap.size) := Nat.le_trans HNr.out hmA.size
                 have hbA2 : b < wA.heap.size := by have := hmA.size; omega
                 have a0 := (hbA.cell (p := ⟨b, off + k * 6, none⟩) (by show b < N; omega)).trans d0; have a1 := (hbA.cell (p := ⟨b, off + k * 6 + 1, none⟩) (by show b < N; omega)).trans d1; have a2 := (hbA.cell (p := ⟨b, off + k * 6 + 2, none⟩) (by show b < N; omega)).trans d2
                 have a3 := (hbA.cell (p := ⟨b, off + k * 6 + 3, none⟩) (by show b < N; omega)).trans d3; have a4 := (hbA.cell (p := ⟨b, off + k * 6 + 4, none⟩) (by show b < N; omega)).trans d4; have a5 := (hbA.cell (p := ⟨b, off + k * 6 + 5, none⟩) (by show b < N; omega)).trans d5
                 clear hcA hmA hbA d0 d1 d2 d3 d4 d5)
              | (go_at_call 7; refine (HAd.out _ (DA.out.alloc _)).mono ?_; rintro e wB ⟨rfl, hdB, hgB⟩
                 have DB := Lib.hid hdB
                 obtain ⟨csD, hblD⟩ := (DA.out.alloc (.cells #[.int .i64 ga.h, .int .i64 ga.r, .int .i64 ga.s, .bool ga.has, .int .u64 ga.blk, .int .i64 ga.fr, .int .i64 gb.h, .int .i64 gb.r, .int .i64 gb.s, .bool gb.has, .int .u64 gb.blk, .int .i64 gb.fr] 36)).blk
                 have CB := Lib.hid ((CA.out.alloc (.cells #[.int .i64 ga.h, .int .i64 ga.r, .int .i64 ga.s, .bool ga.has, .int .u64 ga.blk, .int .i64 ga.fr, .int .i64 gb.h, .int .i64 gb.r, .int .i64 gb.s, .bool gb.has, .int .u64 gb.blk, .int .i64 gb.fr] 36)).kept hblD (by decide) hgB)
                 have BB := Lib.hid ((BA.out.alloc BA.out.size (.cells #[.int .i64 ga.h, .int .i64 ga.r, .int .i64 ga.s, .bool ga.has, .int .u64 ga.blk, .int .i64 ga.fr, .int .i64 gb.h, .int .i64 gb.r, .int .i64 gb.s, .bool gb.has, .int .u64 gb.blk, .int .i64 gb.fr] 36)).grown hgB (by have := BA.out.size; simp; omega) (fun r e => by injection e with e; omega))
                 have HNB : Hid (N ≤ wB.heap.size) := by have h1 := hgB.size; rw [World.size_alloc] at h1; have := HNA.out; show N ≤ _; omega
                 obtain ⟨csE, hblE⟩ := DA.out.blk
                 have hDA : D < wA.heap.size := hblE.lt
                 have XB : Hid (Blk wB wA.heap.size 36 #[.int .i64 ga.h, .int .i64 ga.r, .int .i64 ga.s, .bool ga.has, .int .u64 ga.blk, .int .i64 ga.fr, .int .i64 gb.h, .int .i64 gb.r, .int .i64 gb.s, .bool gb.has, .int .u64 gb.blk, .int .i64 gb.fr]) := (hgB.block _ (Blk.new wA 36 #[.int .i64 ga.h, .int .i64 ga.r, .int .i64 ga.s, .bool ga.has, .int .u64 ga.blk, .int .i64 ga.fr, .int .i64 gb.h, .int .i64 gb.r, .int .i64 gb.s, .bool gb.has, .int .u64 gb.blk, .int .i64 gb.fr]).lt (fun e => by injection e with e; omega)).trans (Blk.new wA 36 #[.int .i64 ga.h, .int .i64 ga.r, .int .i64 ga.s, .bool ga.has, .int .u64 ga.blk, .int .i64 ga.fr, .int .i64 gb.h, .int .i64 gb.r, .int .i64 gb.s, .bool gb.has, .int .u64 gb.blk, .int .i64 gb.fr])
                 have y0 := XB.out.cell 0; have y1 := XB.out.cell 1; have y2 := XB.out.cell 2; have y3 := XB.out.cell 3; have y4 := XB.out.cell 4; have y5 := XB.out.cell 5
                 have y6 := XB.out.cell 6; have y7 := XB.out.cell 7; have y8 := XB.out.cell 8; have y9 := XB.out.cell 9; have y10 := XB.out.cell 10; have y11 := XB.out.cell 11
                 simp at y0 y1 y2 y3 y4 y5 y6 y7 y8 y9 y10 y11
                 have yl := XB.out.lt
                 clear hdB hgB hblD hblE a0 a1 a2 a3 a4 a5))
            go_roundw
            case rel => exact ⟨⟨k + 1, by go_num, by omega, ⟨L2, by omega, CB.out.alloc _, DB.out.alloc _, HGd.out⟩⟩, BB.out.alloc BB.out.size _, by have := HNB.out; show N ≤ _; simp; omega⟩
            case measure => simp [intOf]; omega
          · have k1 : ¬ (k : Int) < (votes.length : Int) := by omega
            go_wp2_with fail
            have hL4 : L.length ≤ 4096 := by omega
            obtain ⟨As2, ns2, cs2, Al, nl, cl, kD1, kD2, kD3⟩ := id DW.out
            have hnl := kD3.1
            subst hnl
            have KD1 := Lib.hid kD1; have KD3 := Lib.hid (kD3.rd lenV)
            clear kD1 kD2 kD3
            refine (votes_any C S H L wr CW.out.rep HG.out HH.out hL4).mono ?_
            rintro e wV ⟨⟨Am, nm, cm, rfl, hom⟩, hbV⟩
            have hnm := hom.1
            subst hnm
            have RM := Lib.hid (hom.rd lenV); have RL := Lib.hid (KD3.out.below hbV); have CV := Lib.hid (CW.out.below hbV); have DV := Lib.hid (DW.out.below hbV); have BV := Lib.hid (BW.out.trans (hbV.mono BW.out.size))
            have kd := (KD1.out.below hbV KD1.out.lt).cell 2
            simp at kd
            have hDl : D < wV.heap.size := by have := KD1.out.lt; have := hbV.size; omega
            have hsV := hbV.size
            clear hom hbV KD1 KD3
            go_wp2_with fail
            go_loopw [18] (fun i wx => (∃ k : Nat, i = .int .i64 k ∧ k ≤ L.length) ∧ ∃ q, wx = wV.drewN q) (fun i _ => L.length - (intOf i).toNat)
            case atStart => exact ⟨⟨0, rfl, by omega⟩, 0, rfl⟩
            case round =>
              obtain ⟨⟨j, rfl, hj⟩, q, rfl⟩ := hrel
              by_cases hlt2 : j < L.length
              · obtain ⟨b, off, rfl, hb, c0, c1, c2, c3, c4, c5⟩ := rd_vote RM.out hlt2
                obtain ⟨b', off', rfl, hb', d0, d1, d2, d3, d4, d5⟩ := rd_vote RL.out hlt2
                have j1 : (j : Int) < (L.length : Int) := by omega
                have hE := fun w => neqV_run L[j] L[j] w
                unfold vagg at hE
                simp only [decide_true, Bool.not_true] at hE
                have hgd := Tryz.guard34
                go_wp2_with fail
                go_quiet (fail)
                go_wp2
                go_roundw
                case rel => exact ⟨⟨j + 1, by go_num, by omega⟩, _, rfl⟩
                case measure => simp [intOf]; omega
              · have j1 : ¬ (j : Int) < (L.length : Int) := by omega
                go_wp2_with fail
                obtain ⟨wX, hwX⟩ : ∃ wX, wV.drewN q = wX := ⟨_, rfl⟩
                rw [hwX]
                have CX : Hid (CRepN wX N C S H L) := by show CRepN _ _ _ _ _ _; rw [← hwX]; exact CV.out.below (below_drewN (Below.refl _ _) q)
                have DX : Hid (DRepN wX D S H L) := by show DRepN _ _ _ _ _; rw [← hwX]; exact DV.out.below (below_drewN (Below.refl _ _) q)
                have BX : Hid (Below w.heap.size w wX) := by show Below _ _ _; rw [← hwX]; exact below_drewN BV.out q
                clear hwX CV DV BV RM RL kd hDl hsV CW DW BW HNr j1 k1
                have q9 := closedC_ C S H L wX CX.out.rep HB.out HG.out HH.out hL4
                have hl9 := closed_len S L
                obtain ⟨o9, ho9⟩ : ∃ o, o = closedO S L := ⟨_, rfl⟩
                rw [← ho9] at q9 hl9
                have Hq10 : ∀ W, DRep W D S H L → Calls Tryz.prog 10 #[.pointer (some ⟨D, 0, none⟩)] W (fun e w' => CertIs W.heap.size H 2 o9 e w' ∧ Below W.heap.size W w') := fun W hW => by rw [ho9]; exact closedD_any D S H L W hW HB.out hL4
                have HQ10 := Lib.hid Hq10; have HL9 := Lib.hid hl9; clear Hq10 ho9 hl9
                refine q9.mono ?_
                clear q9
                rintro e w9 ⟨hce, hb9⟩
                obtain ⟨A9, n9, c9, rfl, hO9⟩ := certAt hce
                have C9 := Lib.hid (CX.out.below hb9); have D9 := Lib.hid (DX.out.below hb9); have B9 := Lib.hid (BX.out.trans (hb9.mono BX.out.size)); have O9 := Lib.hid hO9
                clear hce hb9 hO9 CX DX BX
                go_wp2_with fail
                obtain ⟨T, hT⟩ : ∃ T, T = w9.heap.size := ⟨_, rfl⟩
                have hTb := Blk.new w9 42 #[.int .i64 (cH H o9), .int .i64 (cR o9), .int .i64 (cS 2 o9), .bool (cHas o9), .int .u64 (cBlk o9), .slice A9 n9 c9]
                rw [← hT] at hTb ⊢
                have hTw : w.heap.size ≤ T := by rw [hT]; exact B9.out.size
                refine (HQ10.out _ (D9.out.alloc _).rep).mono ?_
                rintro e w10 ⟨hce, hb10⟩
                obtain ⟨A10, n10, c10, rfl, hO10⟩ := certAt hce
                have C10 := Lib.hid ((C9.out.alloc (.cells #[.int .i64 (cH H o9), .int .i64 (cR o9), .int .i64 (cS 2 o9), .bool (cHas o9), .int .u64 (cBlk o9), .slice A9 n9 c9] 42)).below hb10); have D10 := Lib.hid ((D9.out.alloc (.cells #[.int .i64 (cH H o9), .int .i64 (cR o9), .int .i64 (cS 2 o9), .bool (cHas o9), .int .u64 (cBlk o9), .slice A9 n9 c9] 42)).below hb10); have B10 := Lib.hid ((B9.out.alloc B9.out.size (.cells #[.int .i64 (cH H o9), .int .i64 (cR o9), .int .i64 (cS 2 o9), .bool (cHas o9), .int .u64 (cBlk o9), .slice A9 n9 c9] 42)).trans (hb10.mono (by have := B9.out.size; simp; omega)))
                have O9b := Lib.hid ((O9.out.alloc (.cells #[.int .i64 (cH H o9), .int .i64 (cR o9), .int .i64 (cS 2 o9), .bool (cHas o9), .int .u64 (cBlk o9), .slice A9 n9 c9] 42)).below hb10); have O10 := Lib.hid hO10; have T10 := Lib.hid (hTb.below hb10 hTb.lt)
                have x0 := T10.out.cell 0; have x1 := T10.out.cell 1; have x2 := T10.out.cell 2; have x3 := T10.out.cell 3; have x4 := T10.out.cell 4; have x5 := T10.out.cell 5
                simp at x0 x1 x2 x3 x4 x5
                have xl := T10.out.lt
                clear hce hb10 hO10 hTb C9 D9 B9 O9 HQ10 hT
                go_wp2_with fail
                have hsc := sameCert_any (cH H o9) (cR o9) (cS 2 o9) (cHas o9) (cBlk o9) A9 A10 n9 n10 c9 c10 (cFr o9) (w10.alloc (.cells #[.int .i64 (cH H o9), .int .i64 (cR o9), .int .i64 (cS 2 o9), .bool (cHas o9), .int .u64 (cBlk o9), .slice A10 n10 c10] 42)) ((O9b.out.alloc _).rd lenI) ((O10.out.alloc _).rd lenI) (by have := O9b.out.1; have := HL9.out; omega)
                refine hsc.mono ?_
                clear hsc x0 x1 x2 x3 x4 x5
                rintro e w12 ⟨rfl, hb12⟩
                obtain ⟨U, hU⟩ : ∃ U, U = w10.heap.size := ⟨_, rfl⟩
                have hUb := Blk.new w10 42 #[.int .i64 (cH H o9), .int .i64 (cR o9), .int .i64 (cS 2 o9), .bool (cHas o9), .int .u64 (cBlk o9), .slice A10 n10 c10]
                rw [← hU] at hUb ⊢
                have hUT : T < U := by rw [hU]; exact xl
                have hS12 : LSt w (w10.alloc (.cells #[.int .i64 (cH H o9), .int .i64 (cR o9), .int .i64 (cS 2 o9), .bool (cHas o9), .int .u64 (cBlk o9), .slice A10 n10 c10] 42)) N C D T U S H L := ⟨C10.out.alloc _, D10.out.alloc _, B10.out.alloc B10.out.size _, ⟨_, _, _, _, _, _, T10.out.alloc _⟩, ⟨_, _, _, _, _, _, hUb⟩⟩
                have HS := Lib.hid (hS12.below hb12)
                clear hS12 hUb hb12 hU xl C10 D10 B10 O9b O10 T10 HL9
                go_wp2_with fail
                go_loopw [23] (fun i wr3 => (∃ k3 : Nat, i = .int .i64 k3 ∧ k3 ≤ ask.length) ∧ Hid (LSt w wr3 N C D T U S H L)) (fun i _ => ask.length - (intOf i).toNat)
                case atStart => exact ⟨⟨0, rfl, by omega⟩, HS⟩
                case round =>
                  clear HS
                  obtain ⟨⟨k3, rfl, hk3⟩, HS⟩ := hrel
                  have hUw : w.heap.size ≤ U := by omega
                  by_cases hlt3 : k3 < ask.length
                  · have z1 : (k3 : Int) < (ask.length : Int) := by omega
                    obtain ⟨b, off, rfl, hb, d0⟩ := rd_int (H3.out.below HS.out.b) hlt3
                    have hfx := HF3.out _ (List.getElem_mem hlt3)
                    generalize hxk : ask[k3] = xk at *
                    have hfq : Fit (xk.tdiv 9) := fit_div hfx
                    have PP : Hid (∀ (c n : Int) (w : World), (c = xk ∧ n = 9) ∨ (c = xk.tdiv 9 ∧ n = 4) → Calls Tryz.prog 12 #[.int .i64 c, .int .i64 n] w (SomeNat w n)) := fun c n w h => by
                      rcases h with ⟨rfl, rfl⟩ | ⟨rfl, rfl⟩
                      · exact pick_any _ _ w hfx (by omega) (by omega)
                      · exact pick_any _ _ w hfq (by omega) (by omega)
                    clear hfx hfq
                    have hxf := fit_bounds (HF3.out _ (List.getElem_mem hlt3))
                    rw [hxk] at hxf
                    go_wp2_with fail
                    refine (PP.out _ _ _ (.inl ⟨rfl, rfl⟩)).mono ?_
                    rintro e w' ⟨⟨r0, rfl, hr0, hr1⟩, rfl⟩
                    go_wp2_with fail
                    refine (PP.out _ _ _ (.inr ⟨rfl, rfl⟩)).mono ?_
                    rintro e w' ⟨⟨s0, rfl, hs0, hs1⟩, rfl⟩
                    go_wp2_with fail
                    have hFr : Fit (r0 - 1) := fit_small (by omega) (by omega)
                    have hFs : Fit s0 := fit_small (by omega) (by omega)
                    obtain ⟨rr, hrr⟩ : ∃ rr, rr = r0 - 1 := ⟨_, rfl⟩
                    rw [← hrr] at hFr ⊢
                    have HFr := Lib.hid hFr; have HFs := Lib.hid hFs
                    clear hFr hFs hrr hr0 hr1 hs0 hs1 d0 PP hxf
                    have q13 := leadC_ C S H rr s0 L wr HS.out.c.rep HB.out HG.out HH.out HFr.out HFs.out hL4
                    obtain ⟨o1, hoo⟩ : ∃ o, o = leadO S L rr s0 := ⟨_, rfl⟩
                    have hl13 := lead_len S L rr s0
                    rw [← hoo] at q13 hl13
                    have Hq14 : ∀ W, DRepN W D S H L → Calls Tryz.prog 14 #[.pointer (some ⟨D, 0, none⟩), .int .i64 rr, .int .i64 s0] W (fun e w' => CertIs W.heap.size H s0 o1 e w' ∧ Below W.heap.size W w') := fun W hW => by rw [hoo]; exact leadD_any D S H rr s0 L W hW.rep HB.out hL4
                    have HQ14 := Lib.hid Hq14; have HL13 := Lib.hid hl13; clear Hq14 hl13 hoo
                    refine q13.mono ?_
                    clear q13
                    rintro e w13 ⟨hce, hb13⟩
                    obtain ⟨A13, n13, c13, rfl, hO13⟩ := certAt hce
                    have S13 := Lib.hid (HS.out.below hb13); have O13 := Lib.hid hO13
                    clear hce hb13 hO13 HS
                    obtain ⟨a0, a1, a2, a3, a4, a5, hTT⟩ := S13.out.t
                    have x0 := hTT.cell 0; have x1 := hTT.cell 1; have x2 := hTT.cell 2; have x3 := hTT.cell 3; have x4 := hTT.cell 4; have x5 := hTT.cell 5
                    simp at x0 x1 x2 x3 x4 x5
                    have xf := hTT.frozen
                    have HTT := Lib.hid hTT; clear hTT
                    go_wp2_with fail
                    clear x0 x1 x2 x3 x4 x5 xf
                    obtain ⟨hSs, hBs⟩ := (S13.out).setT (by omega) (by omega) (.int .i64 (cH H o1)) (.int .i64 (cR o1)) (.int .i64 (cS s0 o1)) (.bool (cHas o1)) (.int .u64 (cBlk o1)) (.slice A13 n13 c13)
                    have hO13 := sixth_own HTT.out (.int .i64 (cH H o1)) (.int .i64 (cR o1)) (.int .i64 (cS s0 o1)) (.bool (cHas o1)) (.int .u64 (cBlk o1)) (.slice A13 n13 c13) O13.out
                    unfold sixth at hSs hBs hO13
                    generalize hwf : World.setCell _ ⟨_, 5, none⟩ _ = w14 at *
                    clear hwf
                    have Sw14 := Lib.hid (hSs); have Bw14 := Lib.hid hBs
                    have O13' := Lib.hid hO13
                    clear hSs hBs hO13 HTT
                    refine (HQ14.out _ Sw14.out.d).mono ?_
                    rintro e w15 ⟨hce, hb15⟩
                    obtain ⟨A15, n15, c15, rfl, hO15⟩ := certAt hce
                    have S15 := Lib.hid (Sw14.out.below hb15); have O15 := Lib.hid hO15; have O13b := Lib.hid (O13'.out.below hb15); have T15 := Lib.hid (Bw14.out.below hb15 Bw14.out.lt)
                    have t0 := T15.out.cell 0; have t1 := T15.out.cell 1; have t2 := T15.out.cell 2; have t3 := T15.out.cell 3; have t4 := T15.out.cell 4; have t5 := T15.out.cell 5
                    simp at t0 t1 t2 t3 t4 t5
                    clear hce hb15 hO15 Sw14 Bw14 O13' O13 S13 HQ14
                    obtain ⟨a0, a1, a2, a3, a4, a5, hTT⟩ := S15.out.u
                    have x0 := hTT.cell 0; have x1 := hTT.cell 1; have x2 := hTT.cell 2; have x3 := hTT.cell 3; have x4 := hTT.cell 4; have x5 := hTT.cell 5
                    simp at x0 x1 x2 x3 x4 x5
                    have xf := hTT.frozen
                    have HTT := Lib.hid hTT; clear hTT
                    go_wp2_with fail
                    clear x0 x1 x2 x3 x4 x5 xf
                    obtain ⟨hSs, hBs⟩ := (S15.out.swap).setT (by omega) (by omega) (.int .i64 (cH H o1)) (.int .i64 (cR o1)) (.int .i64 (cS s0 o1)) (.bool (cHas o1)) (.int .u64 (cBlk o1)) (.slice A15 n15 c15)
                    have hO13b := sixth_own HTT.out (.int .i64 (cH H o1)) (.int .i64 (cR o1)) (.int .i64 (cS s0 o1)) (.bool (cHas o1)) (.int .u64 (cBlk o1)) (.slice A15 n15 c15) O13b.out
                    have hO15 := sixth_own HTT.out (.int .i64 (cH H o1)) (.int .i64 (cR o1)) (.int .i64 (cS s0 o1)) (.bool (cHas o1)) (.int .u64 (cBlk o1)) (.slice A15 n15 c15) O15.out
                    have hkeep := blk_sixth T15.out (.int .i64 (cH H o1)) (.int .i64 (cR o1)) (.int .i64 (cS s0 o1)) (.bool (cHas o1)) (.int .u64 (cBlk o1)) (.slice A15 n15 c15) (show T ≠ U by omega)
                    unfold sixth at hSs hBs hO13b hO15 hkeep
                    generalize hwf : World.setCell _ ⟨_, 5, none⟩ _ = w16 at *
                    clear hwf
                    have Sw16 := Lib.hid (hSs.swap); have Bw16 := Lib.hid hBs
                    have O13b' := Lib.hid hO13b
                    have O15' := Lib.hid hO15
                    have T15' := Lib.hid hkeep
                    clear hSs hBs hO13b hO15 hkeep HTT
                    clear t0 t1 t2 t3 t4 t5 S15 O13b O15 T15
                    have hsc := sameCert_any (cH H o1) (cR o1) (cS s0 o1) (cHas o1) (cBlk o1) A13 A15 n13 n15 c13 c15 (cFr o1) w16 (O13b'.out.rd lenI) (O15'.out.rd lenI) (by have := O13b'.out.1; have := HL13.out; omega)
                    refine hsc.mono ?_
                    clear hsc
                    rintro e w17 ⟨rfl, hb17⟩
                    have S17 := Lib.hid (Sw16.out.below hb17)
                    clear hb17 Sw16 Bw16 O13b' O15' T15' HL13
                    go_wp2_with fail
                    refine (anyC_ C S H rr s0 L w17 S17.out.c.rep HB.out HG.out HH.out HFr.out HFs.out hL4).mono ?_
                    rintro e w18 ⟨rfl, hb18⟩
                    have S18 := Lib.hid (S17.out.below hb18)
                    clear hb18 S17
                    go_wp2_with fail
                    refine (anyD_any D S H rr s0 L w18 S18.out.d.rep HB.out hL4).mono ?_
                    rintro e w19 ⟨rfl, hb19⟩
                    have S19 := Lib.hid (S18.out.below hb19)
                    clear hb19 S18
                    go_wp2_with fail
                    refine (aheadC_ C S H rr L w19 S19.out.c.rep HB.out HG.out HH.out hL4).mono ?_
                    rintro e w20 ⟨rfl, hb20⟩
                    have S20 := Lib.hid (S19.out.below hb20)
                    clear hb20 S19
                    go_wp2_with fail
                    refine (aheadD_any D S H rr L w20 S20.out.d.rep HB.out hL4).mono ?_
                    rintro e w21 ⟨rfl, hb21⟩
                    have S21 := Lib.hid (S20.out.below hb21)
                    clear hb21 S20
                    go_wp2_with fail
                    have q13 := bestC_ C S H rr L w21 S21.out.c.rep HB.out HG.out HH.out hL4
                    obtain ⟨o2, hoo⟩ : ∃ o, o = bestO S L rr := ⟨_, rfl⟩
                    have hl13 := best_len S L rr
                    rw [← hoo] at q13 hl13
                    have Hq14 : ∀ W, DRepN W D S H L → Calls Tryz.prog 20 #[.pointer (some ⟨D, 0, none⟩), .int .i64 rr] W (fun e w' => CertIs W.heap.size H 1 o2 e w' ∧ Below W.heap.size W w') := fun W hW => by rw [hoo]; exact bestD_any D S H rr L W hW.rep HB.out hL4
                    have HQ14 := Lib.hid Hq14; have HL13 := Lib.hid hl13; clear Hq14 hl13 hoo
                    refine q13.mono ?_
                    clear q13
                    rintro e w13 ⟨hce, hb13⟩
                    obtain ⟨A13, n13, c13, rfl, hO13⟩ := certAt hce
                    have S13 := Lib.hid (S21.out.below hb13); have O13 := Lib.hid hO13
                    clear hce hb13 hO13 S21
                    obtain ⟨a0, a1, a2, a3, a4, a5, hTT⟩ := S13.out.t
                    have x0 := hTT.cell 0; have x1 := hTT.cell 1; have x2 := hTT.cell 2; have x3 := hTT.cell 3; have x4 := hTT.cell 4; have x5 := hTT.cell 5
                    simp at x0 x1 x2 x3 x4 x5
                    have xf := hTT.frozen
                    have HTT := Lib.hid hTT; clear hTT
                    go_wp2_with fail
                    clear x0 x1 x2 x3 x4 x5 xf
                    obtain ⟨hSs, hBs⟩ := (S13.out).setT (by omega) (by omega) (.int .i64 (cH H o2)) (.int .i64 (cR o2)) (.int .i64 (cS 1 o2)) (.bool (cHas o2)) (.int .u64 (cBlk o2)) (.slice A13 n13 c13)
                    have hO13 := sixth_own HTT.out (.int .i64 (cH H o2)) (.int .i64 (cR o2)) (.int .i64 (cS 1 o2)) (.bool (cHas o2)) (.int .u64 (cBlk o2)) (.slice A13 n13 c13) O13.out
                    unfold sixth at hSs hBs hO13
                    generalize hwf : World.setCell _ ⟨_, 5, none⟩ _ = w14 at *
                    clear hwf
                    have Sw14 := Lib.hid (hSs); have Bw14 := Lib.hid hBs
                    have O13' := Lib.hid hO13
                    clear hSs hBs hO13 HTT
                    refine (HQ14.out _ Sw14.out.d).mono ?_
                    rintro e w15 ⟨hce, hb15⟩
                    obtain ⟨A15, n15, c15, rfl, hO15⟩ := certAt hce
                    have S15 := Lib.hid (Sw14.out.below hb15); have O15 := Lib.hid hO15; have O13b := Lib.hid (O13'.out.below hb15); have T15 := Lib.hid (Bw14.out.below hb15 Bw14.out.lt)
                    have t0 := T15.out.cell 0; have t1 := T15.out.cell 1; have t2 := T15.out.cell 2; have t3 := T15.out.cell 3; have t4 := T15.out.cell 4; have t5 := T15.out.cell 5
                    simp at t0 t1 t2 t3 t4 t5
                    clear hce hb15 hO15 Sw14 Bw14 O13' O13 S13 HQ14
                    obtain ⟨a0, a1, a2, a3, a4, a5, hTT⟩ := S15.out.u
                    have x0 := hTT.cell 0; have x1 := hTT.cell 1; have x2 := hTT.cell 2; have x3 := hTT.cell 3; have x4 := hTT.cell 4; have x5 := hTT.cell 5
                    simp at x0 x1 x2 x3 x4 x5
                    have xf := hTT.frozen
                    have HTT := Lib.hid hTT; clear hTT
                    go_wp2_with fail
                    clear x0 x1 x2 x3 x4 x5 xf
                    obtain ⟨hSs, hBs⟩ := (S15.out.swap).setT (by omega) (by omega) (.int .i64 (cH H o2)) (.int .i64 (cR o2)) (.int .i64 (cS 1 o2)) (.bool (cHas o2)) (.int .u64 (cBlk o2)) (.slice A15 n15 c15)
                    have hO13b := sixth_own HTT.out (.int .i64 (cH H o2)) (.int .i64 (cR o2)) (.int .i64 (cS 1 o2)) (.bool (cHas o2)) (.int .u64 (cBlk o2)) (.slice A15 n15 c15) O13b.out
                    have hO15 := sixth_own HTT.out (.int .i64 (cH H o2)) (.int .i64 (cR o2)) (.int .i64 (cS 1 o2)) (.bool (cHas o2)) (.int .u64 (cBlk o2)) (.slice A15 n15 c15) O15.out
                    have hkeep := blk_sixth T15.out (.int .i64 (cH H o2)) (.int .i64 (cR o2)) (.int .i64 (cS 1 o2)) (.bool (cHas o2)) (.int .u64 (cBlk o2)) (.slice A15 n15 c15) (show T ≠ U by omega)
                    unfold sixth at hSs hBs hO13b hO15 hkeep
                    generalize hwf : World.setCell _ ⟨_, 5, none⟩ _ = w16 at *
                    clear hwf
                    have Sw16 := Lib.hid (hSs.swap); have Bw16 := Lib.hid hBs
                    have O13b' := Lib.hid hO13b
                    have O15' := Lib.hid hO15
                    have T15' := Lib.hid hkeep
                    clear hSs hBs hO13b hO15 hkeep HTT
                    clear t0 t1 t2 t3 t4 t5 S15 O13b O15 T15
                    have hsc := sameCert_any (cH H o2) (cR o2) (cS 1 o2) (cHas o2) (cBlk o2) A13 A15 n13 n15 c13 c15 (cFr o2) w16 (O13b'.out.rd lenI) (O15'.out.rd lenI) (by have := O13b'.out.1; have := HL13.out; omega)
                    refine hsc.mono ?_
                    clear hsc
                    rintro e w17 ⟨rfl, hb17⟩
                    have S17 := Lib.hid (Sw16.out.below hb17)
                    clear hb17 Sw16 Bw16 O13b' O15' T15' HL13
                    go_wp2_with fail


                    exact ⟨⟨⟨k3+1, by go_num, by omega⟩, S17⟩, by simp [intOf]; omega⟩

                  · have z1 : ¬ (k3 : Int) < (ask.length : Int) := by omega
                    go_wp2_with fail
                    go_ret
                    exact ⟨rfl, HS.out.b⟩
      · have g1' : decide ((4096 : Int) < (l.length : Int)) = false := by simp; omega
        have g2' : decide ((512 : Int) < (votes.length : Int)) = false := by simp; omega
        have g3' : decide ((64 : Int) < (ask.length : Int)) = true := by simp; omega
        go_enter Tryz.func3, Tryz.ntmps3
        go_wp2
        go_ret
        exact ⟨rfl, Below.refl _ _⟩
    · have g1' : decide ((4096 : Int) < (l.length : Int)) = false := by simp; omega
      have g2' : decide ((512 : Int) < (votes.length : Int)) = true := by simp; omega
      go_enter Tryz.func3, Tryz.ntmps3
      go_wp2
      go_ret
      exact ⟨rfl, Below.refl _ _⟩
  · have g1' : decide ((4096 : Int) < (l.length : Int)) = true := by simp; omega
    go_enter Tryz.func3, Tryz.ntmps3
    go_wp2
    go_ret
    exact ⟨rfl, Below.refl _ _⟩
end Go.Proofs.YtkjhacfmidmebaaGreat
