/- The reference's Lead. -/
import Derived.Test.YtkjhacfmidmebaaGreatCount1
namespace Go.Proofs.YtkjhacfmidmebaaGreat
open Go.RowKit

def leadB (S : List Seat) (L : List V) (r s : Int) (v : V) : Bool := isAt r s v && quorumS S (soFr r s v.has v.blk L)
def leadO (S : List Seat) (L : List V) (r s : Int) : Option (Int × Bool × Int × List Int) :=
  if s = 1 ∨ s = 2 then (L.find? (leadB S L r s)).map (fun v => (r, v.has, v.blk, soFr r s v.has v.blk L)) else none

/-- A decision, or none. -/
def CertIs (base : Nat) (H s : Int) (o : Option (Int × Bool × Int × List Int)) (e : Ending) (w' : World) : Prop :=
  match o with
  | none => e = .returned (.tuple #[.agg #[.int .i64 0, .int .i64 0, .int .i64 0, .bool false, .int .u64 0, .slice none 0 0], .bool false])
  | some (r, has, blk, fr) => ∃ A n c, e = .returned (.tuple #[.agg #[.int .i64 H, .int .i64 r, .int .i64 s, .bool has, .int .u64 blk, .slice A n c], .bool true]) ∧ Own encI 1 3 w' base A n c fr

theorem soFr_take {r s : Int} {has : Bool} {blk : Int} {L : List V} {k : Nat} (h : k < L.length) : soFr r s has blk (L.take (k + 1)) = soFr r s has blk (L.take k) ++ (if isSo r s has blk L[k] then [L[k].fr] else []) := by
  rw [take_succ_of h]
  exact filt_snoc _ _ _
theorem soFr_len (r s : Int) (has : Bool) (blk : Int) (L : List V) : (soFr r s has blk L).length ≤ L.length := by unfold soFr; rw [List.length_map]; exact List.length_filter_le _ _

theorem find_at {α : Type} {p : α → Bool} : ∀ {L : List α} {k : Nat} (h : k < L.length), (∀ v ∈ L.take k, p v = false) → p L[k] = true → L.find? p = some L[k]
  | [], k, h, _, _ => absurd h (by simp)
  | x :: r, 0, _, _, hp => by
    have h0 : p x = true := hp
    simp [List.find?_cons, h0]
  | x :: r, k + 1, h, hn, hp => by
    have h0 : p x = false := hn x (by simp)
    simp only [List.find?_cons, h0, List.getElem_cons_succ]
    exact find_at (by simpa using h) (fun v hv => hn v (by simp [hv])) hp
theorem find_none {α : Type} {p : α → Bool} {L : List α} (hn : ∀ v ∈ L, p v = false) : L.find? p = none := by
  rw [List.find?_eq_none]
  intro x hx
  simp [hn x hx]

/-- six stores into a decision's row. -/
def sixth (w : World) (g : Nat) (b0 b1 b2 b3 b4 b5 : Value) : World :=
  (((((w.setCell ⟨g, 0, none⟩ b0).setCell ⟨g, 1, none⟩ b1).setCell ⟨g, 2, none⟩ b2).setCell ⟨g, 3, none⟩ b3).setCell ⟨g, 4, none⟩ b4).setCell ⟨g, 5, none⟩ b5

theorem Own.set_ {w : World} {base n c g : Nat} {A : Option Addr} {l : List Int} {cs : Array Value} (h : Own encI 1 3 w base A n c l) (hx : Blk w g 42 cs) (i : Nat) (u : Value) : Own encI 1 3 (w.setCell ⟨g, i, none⟩ u) base A n c l :=
  ⟨h.1, h.2.kept (grown_setCell w g i _) (.inr (own_ne h.2 hx (by decide)))⟩

theorem sixth_blk {w : World} {g : Nat} {a0 a1 a2 a3 a4 a5 : Value} (h : Blk w g 42 #[a0, a1, a2, a3, a4, a5]) (b0 b1 b2 b3 b4 b5 : Value) : Blk (sixth w g b0 b1 b2 b3 b4 b5) g 42 #[b0, b1, b2, b3, b4, b5] :=
  (((((h.set_ 0 b0).set_ 1 b1).set_ 2 b2).set_ 3 b3).set_ 4 b4).set_ 5 b5
theorem sixth_own {w : World} {g base n c : Nat} {A : Option Addr} {l : List Int} {a0 a1 a2 a3 a4 a5 : Value} (h : Blk w g 42 #[a0, a1, a2, a3, a4, a5]) (b0 b1 b2 b3 b4 b5 : Value) (ho : Own encI 1 3 w base A n c l) : Own encI 1 3 (sixth w g b0 b1 b2 b3 b4 b5) base A n c l :=
  have h0 := h.set_ 0 b0; have h1 := h0.set_ 1 b1; have h2 := h1.set_ 2 b2; have h3 := h2.set_ 3 b3; have h4 := h3.set_ 4 b4
  (((((ho.set_ h 0 b0).set_ h0 1 b1).set_ h1 2 b2).set_ h2 3 b3).set_ h3 4 b4).set_ h4 5 b5
theorem sixth_below {w0 w : World} {g base : Nat} (b0 b1 b2 b3 b4 b5 : Value) (hg : base ≤ g) (h : Below base w0 w) : Below base w0 (sixth w g b0 b1 b2 b3 b4 b5) :=
  (((((h.setCell (p := ⟨g, 0, none⟩) hg b0).setCell (p := ⟨g, 1, none⟩) hg b1).setCell (p := ⟨g, 2, none⟩) hg b2).setCell (p := ⟨g, 3, none⟩) hg b3).setCell (p := ⟨g, 4, none⟩) hg b4).setCell (p := ⟨g, 5, none⟩) hg b5

set_option maxRecDepth 100000 in
set_option maxHeartbeats 12800000 in
theorem leadD_any (C : Nat) (S : List Seat) (H r s : Int) (L : List V) (w : World) (h : DRep w C S H L) (hS : Bench S) (hL : L.length ≤ 4096) :
    Calls Tryz.prog 14 #[.pointer (some ⟨C, 0, none⟩), .int .i64 r, .int .i64 s] w fun e w' => CertIs w.heap.size H s (leadO S L r s) e w' ∧ Below w.heap.size w w' := by
  obtain ⟨As, ns, cs, Al, nl, cl, hblk, hseats, hvotes⟩ := h
  have hl := hvotes.1
  subst hl
  have HBk := Lib.hid hblk; have HSe := Lib.hid hseats; have HVo := Lib.hid (hvotes.rd lenV)
  have HS := Lib.hid hS; clear hS
  have hC := hblk.lt
  clear hblk hseats hvotes
  obtain ⟨i0, hi, hz0, hz1, hz2⟩ := info_parts Tryz.info3
  have hb0 : Below w.heap.size w (w.alloc (.cells #[.int .i64 0, .int .i64 0, .int .i64 0, .bool false, .int .u64 0, .slice none 0 0] 42)) := (Below.refl _ _).alloc (Nat.le_refl _) _
  have hx := Blk.new w 42 #[.int .i64 0, .int .i64 0, .int .i64 0, .bool false, .int .u64 0, .slice none 0 0]
  go_enter Tryz.func14, Tryz.ntmps14
  by_cases hst : s = 1 ∨ s = 2
  · have HY : Hid (leadO S L r s = (L.find? (leadB S L r s)).map (fun v => (r, v.has, v.blk, soFr r s v.has v.blk L))) := by show _ = _; unfold leadO; rw [if_pos hst]
    have g0 : (s != 1) = false ∨ (s != 1) = true ∧ (s != 2) = false := by rcases hst with rfl | rfl <;> simp
    clear hst
    have HB0 := Lib.hid hb0; have HX := Lib.hid hx
    clear hb0 hx
    rcases g0 with g1 | ⟨g1, g2⟩
    all_goals
      go_wp2
      go_loopw [8] (fun i wr => Hid (∃ k : Nat, i = .int .i64 k ∧ k ≤ L.length ∧ Blk wr w.heap.size 42 #[.int .i64 0, .int .i64 0, .int .i64 0, .bool false, .int .u64 0, .slice none 0 0] ∧ (∀ v ∈ L.take k, leadB S L r s v = false)) ∧ Hid (Below w.heap.size w wr)) (fun i _ => L.length - (intOf i).toNat)
      case atStart => exact ⟨⟨0, rfl, by omega, HX.out, by simp⟩, HB0.out⟩
      case round =>
        clear HX HB0
        obtain ⟨HE, HW⟩ := hrel
        obtain ⟨k, rfl, hk, hres, hno⟩ := HE.out
        clear HE
        have HR := Lib.hid hres; have HNo := Lib.hid hno; clear hres hno
        have hb := HBk.out.below HW.out hC
        have k0 := hb.cell 0; have k1 := hb.cell 1; have k2 := hb.cell 2
        simp at k0 k1 k2
        clear hb
        have HB := HW.out.size
        by_cases hlt : k < L.length
        · obtain ⟨b, off, rfl, hb, c0, c1, c2', c3, c4, c5⟩ := rd_vote (HVo.out.below HW.out) hlt
          have h1 : (k : Int) < (L.length : Int) := by omega
          have hfind : ∀ b : Bool, leadB S L r s L[k] = b → ∀ v ∈ L.take (k + 1), b = false → leadB S L r s v = false := by
            intro b hb v hv hbf
            rw [take_succ_of hlt] at hv
            rcases List.mem_append.1 hv with hv | hv
            · exact HNo.out v hv
            · rw [List.mem_singleton.1 hv, hb, hbf]
          have HF := Lib.hid hfind; clear hfind
          generalize hv : L[k] = vk at *
          obtain ⟨vh, vr, vs, vhas, vblk, vfr⟩ := vk
          simp only at c0 c1 c2' c3 c4 c5
          have hbw : b < wr.heap.size := by omega
          by_cases a1 : vr = r
          · by_cases a2 : vs = s
            · subst a1 a2
              have q0 := Blk.new wr 34 #[.int .i64 vh, .int .i64 vr, .int .i64 vs, .bool vhas, .int .u64 vblk, .int .i64 vfr]
              have q1 := HR.out.alloc (.cells #[.int .i64 vh, .int .i64 vr, .int .i64 vs, .bool vhas, .int .u64 vblk, .int .i64 vfr] 34)
              have q2 := HW.out.alloc HB (.cells #[.int .i64 vh, .int .i64 vr, .int .i64 vs, .bool vhas, .int .u64 vblk, .int .i64 vfr] 34)
              have hvb : w.heap.size ≤ wr.heap.size := HB
              go_wp2_with fail
              generalize wr.alloc (.cells #[.int .i64 vh, .int .i64 vr, .int .i64 vs, .bool vhas, .int .u64 vblk, .int .i64 vfr] 34) = wv at *
              have d0 := q0.cell 0; have d1 := q0.cell 1; have d2 := q0.cell 2; have d3 := q0.cell 3; have d4 := q0.cell 4; have d5 := q0.cell 5
              simp at d0 d1 d2 d3 d4 d5
              have hb := HBk.out.below q2 hC
              clear k0 k1 k2
              have k0 := hb.cell 0; have k1 := hb.cell 1; have k2 := hb.cell 2
              simp at k0 k1 k2
              have e1 := q0.lt
              have e2 := hb.lt
              have e3 := q1.lt
              go_region
              have z0 := (Blk.new wv 42 #[.int .i64 H, .int .i64 vr, .int .i64 vs, .bool vhas, .int .u64 vblk, .slice none 0 0]).drew
              have z1 := (q0.alloc (.cells #[.int .i64 H, .int .i64 vr, .int .i64 vs, .bool vhas, .int .u64 vblk, .slice none 0 0] 42)).drew
              have z2 := (q1.alloc (.cells #[.int .i64 H, .int .i64 vr, .int .i64 vs, .bool vhas, .int .u64 vblk, .slice none 0 0] 42)).drew
              have z3 := (q2.alloc q2.size (.cells #[.int .i64 H, .int .i64 vr, .int .i64 vs, .bool vhas, .int .u64 vblk, .slice none 0 0] 42)).drew
              have z4 : w.heap.size ≤ wv.heap.size := q2.size
              clear d0 d1 d2 d3 d4 d5 c0 c1 c2' c3 c4 c5 k0 k1 k2 hb q0 q1 q2 e2 e3
              generalize (wv.alloc (.cells #[.int .i64 H, .int .i64 vr, .int .i64 vs, .bool vhas, .int .u64 vblk, .slice none 0 0] 42)).drew = wx at *
              have Z0 := Lib.hid z0; have Z1 := Lib.hid z1; have Z2 := Lib.hid z2; have Z3 := Lib.hid z3
              clear z0 z1 z2 z3
              generalize hX : wv.heap.size = X at *
              generalize hVb : wr.heap.size = Vb at *
              clear hX hVb
              go_wp2
              go_loopw [11] (fun i wy => Hid (∃ (A2 : Option Addr) (n2 c2 k2 : Nat), i = .int .i64 k2 ∧ k2 ≤ L.length ∧ Blk wy X 42 #[.int .i64 H, .int .i64 vr, .int .i64 vs, .bool vhas, .int .u64 vblk, .slice A2 n2 c2] ∧ Own encI 1 3 wy w.heap.size A2 n2 c2 (soFr vr vs vhas vblk (L.take k2))) ∧
                Hid (Blk wy Vb 34 #[.int .i64 vh, .int .i64 vr, .int .i64 vs, .bool vhas, .int .u64 vblk, .int .i64 vfr]) ∧
                Hid (Blk wy w.heap.size 42 #[.int .i64 0, .int .i64 0, .int .i64 0, .bool false, .int .u64 0, .slice none 0 0]) ∧ Hid (Below w.heap.size w wy)) (fun i _ => L.length - (intOf i).toNat)
              case atStart => exact ⟨⟨none, 0, 0, 0, rfl, by omega, Z0.out, Own.nil _ _⟩, Z1, Z2, Z3⟩
              case round =>
                clear Z0 Z1 Z2 Z3
                obtain ⟨HE, G1, G2, G3⟩ := hrel
                obtain ⟨A2, n2, c2, j, rfl, hj, hX, hown⟩ := HE.out
                clear HE
                have HO := Lib.hid hown; clear hown
                have HXx := Lib.hid hX
                have hn2 : n2 ≤ L.length := by have h1 := HO.out.1; have h2 := soFr_len vr vs vhas vblk (L.take j); have h3 := List.length_take_le' j L; omega
                have hbC := HBk.out.below G3.out hC
                have k0 := hbC.cell 0; have k1 := hbC.cell 1; have k2 := hbC.cell 2
                have m0 := G1.out.cell 0; have m1 := G1.out.cell 1; have m2 := G1.out.cell 2; have m3 := G1.out.cell 3; have m4 := G1.out.cell 4; have m5 := G1.out.cell 5
                have p0 := hX.cell 0; have p1 := hX.cell 1; have p2 := hX.cell 2; have p3 := hX.cell 3; have p4 := hX.cell 4; have p5 := hX.cell 5
                have pf := hX.frozen 5
                simp at k0 k1 k2 m0 m1 m2 m3 m4 m5 p0 p1 p2 p3 p4 p5
                have l1 := hbC.lt; have l2 := G1.out.lt; have l3 := hX.lt
                have GB := G3.out.size
                by_cases hlt2 : j < L.length
                · obtain ⟨b', off', hA', hb', c0, c1, c2', c3, c4, c5⟩ := rd_vote (HVo.out.below G3.out) hlt2
                  injection hA' with hA'
                  injection hA' with hA1 hA2
                  subst hA1 hA2
                  have hj1 : (j : Int) < (L.length : Int) := by omega
                  have hbw2 : b < wr.heap.size := by omega
                  have hstep := soFr_take (r := vr) (s := vs) (has := vhas) (blk := vblk) hlt2
                  generalize hyy : L[j] = y at *
                  have HSt := Lib.hid hstep; clear hstep
                  obtain ⟨yh, yr, ys, yhas, yblk, yfr⟩ := y
                  simp only at c0 c1 c2' c3 c4 c5
                  by_cases d1 : vr = yr
                  · subst d1
                    by_cases d2 : vs = ys
                    · subst d2
                      by_cases d3 : vhas = yhas
                      · subst d3
                        by_cases d4 : vblk = yblk
                        · subst d4
                          have rn := rd_new (enc := encI) (k := 1) (wr.alloc (.cells #[.int .i64 yh, .int .i64 vr, .int .i64 vs, .bool vhas, .int .u64 vblk, .int .i64 yfr] 34)) 3 yfr #[.int .i64 yfr] rfl
                          rw [World.size_alloc] at rn
                          have oa := (HO.out.alloc (.cells #[.int .i64 yh, .int .i64 vr, .int .i64 vs, .bool vhas, .int .u64 vblk, .int .i64 yfr] 34)).alloc (.cells #[.int .i64 yfr] 3)
                          have xa := (hX.alloc (.cells #[.int .i64 yh, .int .i64 vr, .int .i64 vs, .bool vhas, .int .u64 vblk, .int .i64 yfr] 34)).alloc (.cells #[.int .i64 yfr] 3)
                          have va := (G1.out.alloc (.cells #[.int .i64 yh, .int .i64 vr, .int .i64 vs, .bool vhas, .int .u64 vblk, .int .i64 yfr] 34)).alloc (.cells #[.int .i64 yfr] 3)
                          have ra := (G2.out.alloc (.cells #[.int .i64 yh, .int .i64 vr, .int .i64 vs, .bool vhas, .int .u64 vblk, .int .i64 yfr] 34)).alloc (.cells #[.int .i64 yfr] 3)
                          have ba := (G3.out.alloc GB (.cells #[.int .i64 yh, .int .i64 vr, .int .i64 vs, .bool vhas, .int .u64 vblk, .int .i64 yfr] 34)).alloc (by simp; omega) (.cells #[.int .i64 yfr] 3)
                          have RN := Lib.hid rn; have OA := Lib.hid oa; have XA := Lib.hid xa; have VA := Lib.hid va; have RA := Lib.hid ra; have BA := Lib.hid ba
                          clear rn oa xa va ra ba
                          go_wp2_with (at_builtin; first
                            | (refine wpList_app rfl (.tmp 99) (.tmp 102) 24 rfl 3 i0 _ 8 Tryz.underlying24 hi hz0 hz1 hz2 rfl (by decide) lenI oneI w.heap.size _ n2 c2 _ rfl OA.out (wr.heap.size + 1 + 1) 1 1 _ [yfr] rfl RN.out (by simp only [maxLen]; omega) (by omega) BA.out.size ?_; intro A5 c5 w5 hown5 hg5 hat5; have X5 := XA.out.grown hg5 (own_ne OA.out.2 XA.out (by decide)); have V5 := Lib.hid (VA.out.grown hg5 (own_ne OA.out.2 VA.out (by decide))); have R5 := Lib.hid (RA.out.grown hg5 (own_ne OA.out.2 RA.out (by decide))); have B5 := Lib.hid (Below.app BA.out OA.out hg5 BA.out.size); have HO5 := Lib.hid hown5; have n5 := X5.cell 5; have nf := X5.frozen 5; simp at n5; clear hown5 hg5 hat5))
                          have O6 : Hid (Own encI 1 3 (w5.setCell ⟨X, 5, none⟩ (.slice A5 (n2 + 1) c5)) w.heap.size A5 (n2 + 1) c5 (soFr vr vs vhas vblk (L.take j) ++ [yfr])) := ⟨HO5.out.1, HO5.out.2.kept (grown_setCell w5 X 5 _) (.inr (own_ne HO5.out.2 X5 (by decide)))⟩
                          have X6 : Hid (Blk (w5.setCell ⟨X, 5, none⟩ (.slice A5 (n2 + 1) c5)) X 42 #[.int .i64 H, .int .i64 vr, .int .i64 vs, .bool vhas, .int .u64 vblk, .slice A5 (n2 + 1) c5]) := X5.set_ 5 (.slice A5 (n2 + 1) c5)
                          have V6 : Hid (Blk (w5.setCell ⟨X, 5, none⟩ (.slice A5 (n2 + 1) c5)) Vb 34 _) := V5.out.far (p := ⟨X, 5, none⟩) (by simp; omega) _
                          have R6 : Hid (Blk (w5.setCell ⟨X, 5, none⟩ (.slice A5 (n2 + 1) c5)) w.heap.size 42 _) := R5.out.far (p := ⟨X, 5, none⟩) (by simp; omega) _
                          have B6 : Hid (Below w.heap.size w (w5.setCell ⟨X, 5, none⟩ (.slice A5 (n2 + 1) c5))) := B5.out.setCell (p := ⟨X, 5, none⟩) (by simp; omega) _
                          clear X5 V5 R5 B5 HO5 OA XA VA RA BA RN
                          go_wp2
                          go_roundw
                          case rel =>
                            refine ⟨⟨A5, _, c5, j + 1, by go_num, by omega, X6.out, ?_⟩, V6.out, R6.out, B6.out⟩
                            rw [HSt.out]
                            have hso : isSo vr vs vhas vblk ⟨yh, vr, vs, vhas, vblk, yfr⟩ = true := by simp [isSo]
                            rw [hso]
                            simpa using O6.out
                          case measure => simp [intOf]; omega
                        · have d0 : (yblk == vblk) = false := by simpa using fun h => d4 h.symm
                          clear d4
                          go_wp2
                          go_roundw
                          case rel =>
                            refine ⟨⟨A2, n2, c2, j + 1, by go_num, by omega, hX.alloc _, ?_⟩, G1.out.alloc _, G2.out.alloc _, G3.out.alloc G3.out.size _⟩
                            rw [HSt.out]
                            have hso : isSo vr vs vhas vblk ⟨yh, vr, vs, vhas, yblk, yfr⟩ = false := by simp [isSo, d0]
                            rw [hso]
                            simpa using HO.out.alloc _
                          case measure => simp [intOf]; omega
                      · have d0 : (yhas == vhas) = false := by simpa using fun h => d3 h.symm
                        clear d3
                        go_wp2
                        go_roundw
                        case rel =>
                          refine ⟨⟨A2, n2, c2, j + 1, by go_num, by omega, hX.alloc _, ?_⟩, G1.out.alloc _, G2.out.alloc _, G3.out.alloc G3.out.size _⟩
                          rw [HSt.out]
                          have hso : isSo vr vs vhas vblk ⟨yh, vr, vs, yhas, yblk, yfr⟩ = false := by simp [isSo, d0]
                          rw [hso]
                          simpa using HO.out.alloc _
                        case measure => simp [intOf]; omega
                    · have d0 : (ys == vs) = false := by simpa using fun h => d2 h.symm
                      clear d2
                      go_wp2
                      go_roundw
                      case rel =>
                        refine ⟨⟨A2, n2, c2, j + 1, by go_num, by omega, hX.alloc _, ?_⟩, G1.out.alloc _, G2.out.alloc _, G3.out.alloc G3.out.size _⟩
                        rw [HSt.out]
                        have hso : isSo vr vs vhas vblk ⟨yh, vr, ys, yhas, yblk, yfr⟩ = false := by simp [isSo, d0]
                        rw [hso]
                        simpa using HO.out.alloc _
                      case measure => simp [intOf]; omega
                  · have d0 : (yr == vr) = false := by simpa using fun h => d1 h.symm
                    clear d1
                    go_wp2
                    go_roundw
                    case rel =>
                      refine ⟨⟨A2, n2, c2, j + 1, by go_num, by omega, hX.alloc _, ?_⟩, G1.out.alloc _, G2.out.alloc _, G3.out.alloc G3.out.size _⟩
                      rw [HSt.out]
                      have hso : isSo vr vs vhas vblk ⟨yh, yr, ys, yhas, yblk, yfr⟩ = false := by simp [isSo, d0]
                      rw [hso]
                      simpa using HO.out.alloc _
                    case measure => simp [intOf]; omega
                · obtain rfl : j = L.length := by omega
                  have hj1 : ¬ (L.length : Int) < (L.length : Int) := by omega
                  have hown2 := HO.out
                  rw [List.take_length] at hown2
                  have HC := Lib.hid (quorumR_any As A2 ns cs n2 c2 S _ wr.drew w.heap.size wr.heap.size (Rd.drew (HSe.out.below G3.out)) HS.out (Rd.drew (hown2.rd lenI)) (by omega))
                  have HO2 := Lib.hid hown2; clear hown2
                  have rf := G2.out.frozen
                  have r0 := G2.out.cell 0; have r1 := G2.out.cell 1; have r2 := G2.out.cell 2; have r3 := G2.out.cell 3; have r4 := G2.out.cell 4; have r5 := G2.out.cell 5
                  simp at r0 r1 r2 r3 r4 r5
                  by_cases hq : quorumS S (soFr vr vs vhas vblk L) = true
                  · go_wp2_with fail
                    go_region_law (go_simp; go_at_call 37; refine HC.out.mono ?_; rintro e w1 ⟨rfl, rfl⟩)
                    all_goals
                      go_wp2
                      have hb9 := (sixth_blk G2.out (.int .i64 H) (.int .i64 vr) (.int .i64 vs) (.bool vhas) (.int .u64 vblk) (.slice A2 n2 c2)).drew
                      have ho9 := (sixth_own G2.out (.int .i64 H) (.int .i64 vr) (.int .i64 vs) (.bool vhas) (.int .u64 vblk) (.slice A2 n2 c2) HO2.out).drew
                      have hB9 := (sixth_below (.int .i64 H) (.int .i64 vr) (.int .i64 vs) (.bool vhas) (.int .u64 vblk) (.slice A2 n2 c2) (Nat.le_refl _) G3.out).drew
                      unfold sixth at hb9 ho9 hB9
                      generalize hwf : World.drew _ = wf at *
                      clear hwf
                      have f0 := hb9.cell 0; have f1 := hb9.cell 1; have f2 := hb9.cell 2; have f3 := hb9.cell 3; have f4 := hb9.cell 4; have f5 := hb9.cell 5
                      simp at f0 f1 f2 f3 f4 f5
                      refine bodyPost_ret (v := .tuple #[.agg #[.int .i64 H, .int .i64 vr, .int .i64 vs, .bool vhas, .int .u64 vblk, .slice A2 n2 c2], .bool true]) (by simp [results, Tryz.results14, go_sem, f0, f1, f2, f3, f4, f5]; try rfl) rfl ?_
                      have hL : leadO S L vr vs = some (vr, vhas, vblk, soFr vr vs vhas vblk L) := by
                        rw [HY.out, find_at hlt HNo.out (by rw [hv]; simp [leadB, isAt, hq]), hv]; rfl
                      exact ⟨by rw [hL]; exact ⟨A2, n2, c2, rfl, ho9⟩, hB9⟩
                  · have hq' : quorumS S (soFr vr vs vhas vblk L) = false := by simpa using hq
                    go_wp2_with fail
                    go_region_law (go_simp; go_at_call 37; refine HC.out.mono ?_; rintro e w1 ⟨rfl, rfl⟩)
                    all_goals
                      have hno : leadB S L vr vs ⟨vh, vr, vs, vhas, vblk, vfr⟩ = false := by simp [leadB, isAt, hq']
                      go_wp2
                      go_roundw
                      case rel => exact ⟨⟨k + 1, by go_num, by omega, G2.out.drew, fun v hv => HF.out _ hno v hv rfl⟩, G3.out.drew⟩
                      case measure => simp [intOf]; omega
            · have a2' : (vs != s) = true := by simpa using a2
              have a1' : (vr != r) = false := by simpa using a1
              have hno : leadB S L r s ⟨vh, vr, vs, vhas, vblk, vfr⟩ = false := by simp [leadB, isAt]; intro _ h; exact absurd h a2
              clear a1 a2
              go_wp2
              go_roundw
              case rel => exact ⟨⟨k + 1, by go_num, by omega, HR.out.alloc _, fun v hv => HF.out _ hno v hv rfl⟩, HW.out.alloc HB _⟩
              case measure => simp [intOf]; omega
          · have a1' : (vr != r) = true := by simpa using a1
            have hno : leadB S L r s ⟨vh, vr, vs, vhas, vblk, vfr⟩ = false := by simp [leadB, isAt]; intro h; exact absurd h a1
            clear a1
            go_wp2
            go_roundw
            case rel => exact ⟨⟨k + 1, by go_num, by omega, HR.out.alloc _, fun v hv => HF.out _ hno v hv rfl⟩, HW.out.alloc HB _⟩
            case measure => simp [intOf]; omega
        · have h1 : ¬ (k : Int) < (L.length : Int) := by omega
          have x0 := HR.out.cell 0; have x1 := HR.out.cell 1; have x2 := HR.out.cell 2; have x3 := HR.out.cell 3; have x4 := HR.out.cell 4; have x5 := HR.out.cell 5
          simp at x0 x1 x2 x3 x4 x5
          have xf := HR.out.frozen
          go_wp2
          have hb9 := sixth_blk HR.out (.int .i64 0) (.int .i64 0) (.int .i64 0) (.bool false) (.int .u64 0) (.slice none 0 0)
          have hB9 := sixth_below (.int .i64 0) (.int .i64 0) (.int .i64 0) (.bool false) (.int .u64 0) (.slice none 0 0) (Nat.le_refl _) HW.out
          unfold sixth at hb9 hB9
          generalize hwf : World.setCell _ ⟨_, 5, none⟩ _ = wf at *
          clear hwf
          have f0 := hb9.cell 0; have f1 := hb9.cell 1; have f2 := hb9.cell 2; have f3 := hb9.cell 3; have f4 := hb9.cell 4; have f5 := hb9.cell 5
          simp at f0 f1 f2 f3 f4 f5
          refine bodyPost_ret (v := .tuple #[.agg #[.int .i64 0, .int .i64 0, .int .i64 0, .bool false, .int .u64 0, .slice none 0 0], .bool false]) (by simp [results, Tryz.results14, go_sem, f0, f1, f2, f3, f4, f5]; try rfl) rfl ?_
          have hL : leadO S L r s = none := by
            obtain rfl : k = L.length := by omega
            have := HNo.out
            rw [List.take_length] at this
            rw [HY.out, find_none this]; rfl
          exact ⟨by rw [hL]; rfl, hB9⟩
  · have g1 : (s != 1) = true := by simp; omega
    have g2 : (s != 2) = true := by simp; omega
    have HN : Hid (leadO S L r s = none) := by show _ = _; unfold leadO; rw [if_neg hst]
    clear hst
    go_wp2
    refine bodyPost_ret (by simp [results, Tryz.results14, go_sem]; try rfl) rfl ?_
    exact ⟨by rw [HN.out]; rfl, hb0⟩

end Go.Proofs.YtkjhacfmidmebaaGreat
