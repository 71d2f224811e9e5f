/- The program's Ahead (17). -/
import Derived.Test.YtkjhacfmidmebaaGreatBackV
import Derived.Test.YtkjhacfmidmebaaGreatBestC
import Derived.Test.YtkjhacfmidmebaaGreatVotesC
import Derived.Test.YtkjhacfmidmebaaGreatPlain4
namespace Go.Proofs.YtkjhacfmidmebaaGreat
open Go.RowKit Go.Shelf

attribute [local go_sem] Oper.semAt_some

theorem wpListIn_app {α : Type} {enc : α → List Value} {k : Nat} {F : Fence} {nf : Nat} {P : Program} {w : World} {ops : Array Oper} {rest : List Oper} {o : Oper} {a : Act} {Q : Exit → Act → World → Prop} (hgd : o.guard = none) (s x : Operand) (t : TypeId)
    (ho : o.op = .call { callee := .builtin .append, args := #[s, x], argTypes := #[t, t] })
    (e : TypeId) (i : TypeInfo) (z : Value) (bytes : Nat) (ht : P.underlying t = some (.slice e)) (hi : P.info? e = some i) (hz : i.zero = some z)
    (hsize : i.size = k) (hby : i.bytes = bytes) (hzs : z.cells.size = k) (hk0 : 0 < k) (hk : ∀ x, (enc x).length = k) (h1 : ∀ x, ∀ u ∈ enc x, u.oneCell' = true)
    (base : Nat) (A : Option Addr) (n c : Nat) (l : List α) (hs : a.eval s = .slice A n c) (hown : Own enc k e w base A n c l) (B m cc : Nat) (A2 : Option Addr) (l2 : List α) (hx : a.eval x = .slice A2 m cc) (hr : Rd enc k w B A2 m l2)
    (h63 : n + m ≤ maxLen) (hbytes : (n + m) * bytes ≤ 140737488355328) (hbase : base ≤ w.heap.size)
    (h : ∀ A' c' w', Own enc k e w' base A' (n + m) c' (l ++ l2) → w.grownBy w' (Value.slice A n c).ownBlock → ((Value.slice A' (n + m) c').ownBlock = (Value.slice A n c).ownBlock ∨ (Value.slice A' (n + m) c').ownBlock = some w.heap.size) →
      wpListIn F nf P ops Q rest (a.put o.dst (.slice A' (n + m) c')) w') : wpListIn F nf P ops Q (o :: rest) a w := by
  refine wpListIn_plain hgd fun K hK' => ?_
  obtain ⟨A', c', w', hrun, h2, h3, h4⟩ := run_app (P := P) t o.type e i z bytes ht hi hz hsize hby hzs hk0 hk h1 base A n c l hown B m cc A2 l2 hr h63 hbytes hbase
  unfold Oper.wpIn
  refine ⟨?_, ?_⟩
  · simp [Oper.about, ho, resolve, Target.leads, Sem.run_pure]
  · rw [Oper.semAt_plain F _ _ (by rw [ho]; intro c hc'; cases hc')]
    simp [execOp, ho, resolve, invoke, builtin, hs, hx, hrun, Result.andThen]
    exact hK' _ _ (h A' c' w' h2 h3 h4)

/-- What a round keeps: all below block P, and block P + 1. -/
def KpA (P : Nat) (W W' : World) : Prop := ∀ k, k < P ∨ k = P + 1 → W'.heap[k]? = W.heap[k]?
theorem KpA.refl (P : Nat) (W : World) : KpA P W W := fun _ _ => rfl
theorem KpA.trans {P : Nat} {A B C : World} (h : KpA P A B) (k : KpA P B C) : KpA P A C := fun i hp => (k i hp).trans (h i hp)
theorem KpA.grown {P : Nat} {A B : World} {row : Option Nat} (hg : A.grownBy B row) (hs : P + 1 < A.heap.size) (hr : ∀ r, row = some r → P ≤ r ∧ r ≠ P + 1) : KpA P A B :=
  fun k hp => hg.block k (by omega) (fun e => by have := hr k e.symm; omega)
theorem KpA.cell {P : Nat} {A B : World} (h : KpA P A B) (p : Addr) (hp : p.block < P ∨ p.block = P + 1) : B.cell? p = A.cell? p :=
  World.cell?_of_block (h p.block hp)

theorem own_cells {w : World} {base : Nat} {e : TypeId} {size n : Nat} {v : Value} {xs : List Value} (h : w.ownsRow base e size v n xs) {j : Nat} {o : Obj} (hj : v.ownBlock = some j) (ho : w.heap[j]? = some o) : o.isCells = true := by
  rcases h.2 with ⟨rfl, _⟩ | ⟨g, cap, cur, rfl, _, hh, _⟩
  · cases hj
  · have e1 : g = j := by simpa [Value.ownBlock] using hj
    subst e1
    rw [hh] at ho
    cases ho; rfl
/-- Between two rounds. -/
structure AheadI (S : List Seat) (L : List V) (round : Int) (C N P Z : Nat) (w : World) (pre : List (V × Nat)) (W : World) : Prop where
  b2 : Blk W N 26 #[.pointer (some ⟨C, 0, none⟩)]
  b3 : Blk W (N + 1) 3 #[.int .i64 round]
  b4 : Blk W (N + 1 + 1) 3 #[.int .i64 0]
  row : ∃ A2 n2 c2, Blk W P 24 #[.slice A2 n2 c2] ∧ Own encI 1 3 W Z A2 n2 c2 (pre.map (fun x => x.1.fr))
  go : ∀ t, L.reverse = pre.map (·.1) ++ t → aheadO S L round = progA S round (pre.map (fun x => x.1.fr)) t
  size : Z ≤ W.heap.size
  below : Below N w W
theorem aheadI_from (B : Nat) (S : List Seat) (L : List V) (round : Int) (C N P Z : Nat) (w : World) (hN : N ≤ w.heap.size) (hB : N ≤ B) : OwnFrom B (AheadI S L round C N P Z w) := fun s X Y row hs hg hr => by
  obtain ⟨A2, n2, c2, h1, h2⟩ := hs.row
  exact ⟨blk_from B _ _ (fun _ : Unit => _) () X Y row hs.b2 hg hr, blk_from B _ _ (fun _ : Unit => _) () X Y row hs.b3 hg hr, blk_from B _ _ (fun _ : Unit => _) () X Y row hs.b4 hg hr,
    ⟨A2, n2, c2, blk_from B _ _ (fun _ : Unit => _) () X Y row h1 hg hr, own_from B _ _ _ _ _ () X Y row h2 hg hr⟩, hs.go, Nat.le_trans hs.size hg.size,
    ownFrom_below hN hB () X Y row hs.below hg hr⟩

/-- A round has ended the loop. -/
def AheadX (S : List Seat) (L : List V) (round : Int) (N : Nat) (w : World) (c : Code) (pre : List (V × Nat)) (W : World) : Prop :=
  ((c = .ret ∧ ∃ ini x, pre = ini ++ [x] ∧ Blk W (N + 1 + 1) 3 #[.int .i64 x.1.r] ∧ ∀ t, L.reverse = pre.map (·.1) ++ t → aheadO S L round = x.1.r) ∨
   (c = .exit 0 ∧ Blk W (N + 1) 3 #[.int .i64 round] ∧ Blk W (N + 1 + 1) 3 #[.int .i64 0] ∧ ∀ t, L.reverse = pre.map (·.1) ++ t → aheadO S L round = round)) ∧ Below N w W
theorem aheadX_from (B : Nat) (S : List Seat) (L : List V) (round : Int) (N : Nat) (w : World) (c : Code) (hN : N ≤ w.heap.size) (hB : N ≤ B) : OwnFrom B (AheadX S L round N w c) := fun s X Y row hs hg hr => by
  obtain ⟨h, hb⟩ := hs
  refine ⟨?_, ownFrom_below hN hB () X Y row hb hg hr⟩
  rcases h with ⟨hc, ini, x, e, h1, h2⟩ | ⟨hc, h1, h2, h3⟩
  · exact .inl ⟨hc, ini, x, e, blk_from B _ _ (fun _ : Unit => _) () X Y row h1 hg hr, h2⟩
  · exact .inr ⟨hc, blk_from B _ _ (fun _ : Unit => _) () X Y row h1 hg hr, blk_from B _ _ (fun _ : Unit => _) () X Y row h2 hg hr, h3⟩

set_option maxRecDepth 100000 in
set_option maxHeartbeats 6400000 in
theorem aheadC_ (C : Nat) (S : List Seat) (H round : Int) (L : List V) (w : World) (h : CRep w C S H L) (hS : Bench S) (hG : Good S H L) (hH : Fit H) (hL : L.length ≤ 4096) :
    Calls Tryz.prog 17 #[.pointer (some ⟨C, 0, none⟩), .int .i64 round] w fun e w' => e = .returned (.int .i64 (aheadO S L round)) ∧ Below w.heap.size w w' := by
  have HCR := Lib.hid h; have HGd := Lib.hid hG; have HS := Lib.hid hS
  obtain ⟨i0, hi, hz0, hz1, hz2⟩ := info_parts Tryz.info3
  obtain ⟨As, ns, cs, M, O, hblk, hseats, hsp⟩ := id h
  have HSe := Lib.hid hseats; have HBk := Lib.hid hblk; have hCl := hblk.lt
  clear hseats hsp hblk
  obtain ⟨wa, hwa⟩ : ∃ wa, ((w.alloc (.cells #[.pointer (some ⟨C, 0, none⟩)] 26)).alloc (.cells #[.int .i64 round] 3)).alloc (.cells #[.int .i64 0] 3) = wa := ⟨_, rfl⟩
  have q0 := ((Blk.new w 26 #[.pointer (some ⟨C, 0, none⟩)]).alloc (.cells #[.int .i64 round] 3)).alloc (.cells #[.int .i64 0] 3)
  have q1 := (Blk.new (w.alloc (.cells #[.pointer (some ⟨C, 0, none⟩)] 26)) 3 #[.int .i64 round]).alloc (.cells #[.int .i64 0] 3)
  have q2 := Blk.new ((w.alloc (.cells #[.pointer (some ⟨C, 0, none⟩)] 26)).alloc (.cells #[.int .i64 round] 3)) 3 #[.int .i64 0]
  have qb : Below w.heap.size w (((w.alloc (.cells #[.pointer (some ⟨C, 0, none⟩)] 26)).alloc (.cells #[.int .i64 round] 3)).alloc (.cells #[.int .i64 0] 3)) := (((Below.refl _ _).alloc (Nat.le_refl _) _).alloc (by simp) _).alloc (by simp; omega) _
  simp only [World.size_alloc] at q1 q2
  rw [hwa] at q0 q1 q2 qb
  have hwz : wa.heap.size = w.heap.size + 3 := by rw [← hwa]; simp
  have hVo := votes_any C S H L _ (h.below qb) hG hH hL
  have HVo := Lib.hid hVo
  have Q0 := Lib.hid q0; have Q1 := Lib.hid q1; have Q2 := Lib.hid q2; have QB := Lib.hid qb; have QZ := Lib.hid hwz
  have p0 := q0.cell 0
  simp at p0
  clear q0 q1 q2 qb hwz hVo h hS hG hH
  refine (callsIn_wide (n := 6)).1 ?_
  refine callsIn_of_wp_marks Tryz.func17 rfl trivial ?_ rfl
  simp only [Tryz.ntmps17, List.size_toArray, List.length_cons, List.length_nil, Nat.reduceAdd, Nat.reduceSub, Array.replicate_succ, Array.replicate_zero, List.push_toArray, List.append_toArray, List.nil_append, List.cons_append]
  gi_wp2_with (first
    | (refine ⟨trivial, ?_⟩; gi_at_call 8; refine (callsIn_wide.2 HVo.out).mono ?_; rintro e w0 ⟨⟨Av, nv, cv, rfl, hvo⟩, hb0⟩
       have HV := Lib.hid (hvo.rd lenV)
       have HBa := Lib.hid (QB.out.trans (hb0.mono QB.out.size))
       have HX0 := Lib.hid (Q0.out.below hb0 Q0.out.lt); have HX1 := Lib.hid (Q1.out.below hb0 Q1.out.lt); have HX2 := Lib.hid (Q2.out.below hb0 Q2.out.lt)
       have HZ0 : Hid (wa.heap.size ≤ w0.heap.size) := hb0.size
       have hnv := hvo.1
       clear hb0 hvo)
    | (refine ⟨trivial, ?_⟩; gi_at_call 39; refine (back39_in Fence.wide _ trivial rfl _ _ _ _).mono ?_; rintro e w' ⟨rfl, rfl⟩))
  subst hnv
  clear HVo p0 hwa
  obtain ⟨wl, hwl⟩ : ∃ wl, (w0.alloc (.cells #[.slice none 0 0] 24)).alloc (.cells #[.slice Av L.length cv] 23) = wl := ⟨_, rfl⟩
  have hwlz : wl.heap.size = w0.heap.size + 2 := by rw [← hwl]; simp
  have hP1 := Blk.new (w0.alloc (.cells #[.slice none 0 0] 24)) 23 #[.slice Av L.length cv]
  have hP0 := (Blk.new w0 24 #[.slice none 0 0]).alloc (.cells #[.slice Av L.length cv] 23)
  rw [World.size_alloc, hwl] at hP1
  rw [hwl] at hP0
  have hbx := hP1.cell 0
  simp at hbx
  have HN : Hid (w.heap.size + 3 ≤ w0.heap.size) := by show _ ≤ _; have := HZ0.out; have := QZ.out; omega
  have HI0 : Hid (AheadI S L round C w.heap.size w0.heap.size wl.heap.size w [] wl) := by
    have hlift : Below w0.heap.size w0 wl := by rw [← hwl]; exact ((Below.refl _ _).alloc (Nat.le_refl _) _).alloc (by simp) _
    exact ⟨HX0.out.below hlift HX0.out.lt, HX1.out.below hlift HX1.out.lt, HX2.out.below hlift HX2.out.lt, ⟨none, 0, 0, hP0, Own.nil _ _⟩, fun t ht => by rw [ahead_eq HS.out HGd.out, ht]; rfl, Nat.le_refl _, HBa.out.trans (hlift.mono HBa.out.size)⟩
  have HVl : Hid (Rd encV 6 wl w0.heap.size Av L.length L) := by
    show Rd _ _ _ _ _ _ _
    rw [← hwl]
    exact (HV.out.alloc (Nat.le_refl _) _).alloc (by simp) _
  have HWz := Lib.hid hwlz
  rw [hwl]
  clear hwl hP0 hP1 hwlz
  refine wpIn_rangeFunc_ownH rfl (by omega) (gf := 59) (lb := #[.pointer (some ⟨w0.heap.size + 1, 0, none⟩)]) rfl trivial (enters_of Tryz.func59 (by kernel_rfl) rfl)
    (back59_stops Fence.wide _ trivial rfl (by omega) (KpA w0.heap.size) (KpA.refl _) KpA.trans (w0.heap.size + 1) w0.heap.size (fun h p hp => h.cell p hp) Av cv L (by omega) wl (by have := HWz.out; omega) (by have := HWz.out; omega) hbx HVl.out) KpA.trans
    (fun W l o o' hl h1 h2 h3 => fun k hk => World.putObj_heap_other (fun e => by subst e; have := HWz.out; omega)) (Below.refl _ _) (fun _ => rfl)
    (AheadI S L round C w.heap.size w0.heap.size wl.heap.size w) (AheadX S L round w.heap.size w)
    (aheadI_from _ _ _ _ _ _ _ _ _ (Nat.le_refl _) (by have := HWz.out; have := HN.out; omega)) (fun c => aheadX_from _ _ _ _ _ _ _ (Nat.le_refl _) (by have := HWz.out; have := HN.out; omega)) HI0.out
    (fun x a' W => ∃ Bx, wl.heap.size ≤ Bx ∧ Blk W Bx 34 #[.int .i64 x.1.h, .int .i64 x.1.r, .int .i64 x.1.s, .bool x.1.has, .int .u64 x.1.blk, .int .i64 x.1.fr] ∧ a' = { tmps := #[.pointer (some ⟨C, 0, none⟩), .int .i64 round, .pointer (some ⟨w.heap.size, 0, none⟩), .pointer (some ⟨w.heap.size + 1, 0, none⟩), .pointer (some ⟨w.heap.size + 1 + 1, 0, none⟩), .slice Av L.length cv, .pointer (some ⟨w0.heap.size, 0, none⟩), undef, .pointer (some ⟨Bx, 0, none⟩), .pointer (some ⟨C, 0, none⟩), .slice Av L.length cv, .slice Av L.length cv, .func (.func 59) #[] #[.pointer (some ⟨w0.heap.size + 1, 0, none⟩)], .int .i64 (x.2 : Int), .agg #[.int .i64 x.1.h, .int .i64 x.1.r, .int .i64 x.1.s, .bool x.1.has, .int .u64 x.1.blk, .int .i64 x.1.fr], undef, undef, undef, undef, undef, undef, undef, undef, undef, undef, undef, undef, undef, undef, undef, undef, undef, undef], defers := [] }) ?ax ?assign ?body ?done ?stop
  case ax => exact fun x a' s X Y row ⟨Bx, h1, h2, h3⟩ hg hr => ⟨Bx, h1, blk_from _ _ _ (fun _ : Unit => _) () X Y row h2 hg hr, h3⟩
  case assign =>
    intro l pre x W K hI hK
    have hz := hI.size
    have hsz : w0.heap.size + 2 ≤ wl.heap.size := by have := HWz.out; omega
    gi_wp2
    exact hK _ _ ((KeepsOthers.alloc _ _).from _) (KpA.grown (World.grownBy_alloc W _ none) (by omega) (by simp)) ((aheadI_from wl.heap.size S L round C w.heap.size w0.heap.size wl.heap.size w (Nat.le_refl _) (by have := HN.out; omega)).alloc _ hI) ⟨W.heap.size, hz, Blk.new W 34 #[.int .i64 x.1.h, .int .i64 x.1.r, .int .i64 x.1.s, .bool x.1.has, .int .u64 x.1.blk, .int .i64 x.1.fr], rfl⟩
  case body =>
    rintro l pre x a' W hl ⟨rec, hrec⟩ hI ⟨Bx, hBx, bX, rfl⟩ hlt
    have hZ : w0.heap.size + 2 ≤ wl.heap.size := by have := HWz.out; omega
    have hN : w.heap.size + 3 ≤ w0.heap.size := HN.out
    have hZW := hI.size
    have HIa := Lib.hid hI
    have n2 := hI.b2.cell 0; have n3 := hI.b3.cell 0; have n4 := hI.b4.cell 0; have y1 := bX.cell 1; have y5 := bX.cell 5
    simp at n2 n3 n4 y1 y5
    have hstep : ∀ t, L.reverse = (pre ++ [x]).map (·.1) ++ t → aheadO S L round = if round < x.1.r then (if moreS S (pre.map (fun x => x.1.fr) ++ [x.1.fr]) then x.1.r else progA S round (pre.map (fun x => x.1.fr) ++ [x.1.fr]) t) else round := fun t ht => by
      rw [hI.go (x.1 :: t) (by rw [ht]; simp)]; rfl
    have HSt := Lib.hid hstep; clear hstep
    have HbX := Lib.hid bX
    by_cases hle : x.1.r ≤ round
    · have hle' : decide (x.1.r ≤ round) = true := by simpa using hle
      have HLe := Lib.hid hle
      clear hle bX hbx hI
      gi_wp2
      exact ⟨KeepsFrom.refl _ _, ⟨.inr ⟨rfl, HIa.out.b3, HIa.out.b4, fun t ht => by rw [HSt.out t ht, if_neg (by have := HLe.out; omega)]⟩, HIa.out.below⟩⟩
    · have hle' : decide (x.1.r ≤ round) = false := by simpa using hle
      have HLe : Hid (round < x.1.r) := by show _ < _; omega
      obtain ⟨A2, m2, c2, hbP, hown⟩ := hI.row
      have hm2 : m2 ≤ 4096 := by have := hown.1; simp at this; omega
      have pc := hbP.cell 0
      simp at pc
      have pf := hbP.frozen
      have HO := Lib.hid hown; have HP := Lib.hid hbP
      have HRn := Lib.hid (rd_new (α := Int) (enc := encI) (k := 1) W 3 x.1.fr #[.int .i64 x.1.fr] rfl)
      have ZB := Lib.hid ((Below.refl wl.heap.size W).alloc hZW (.cells #[.int .i64 x.1.fr] 3))
      have ZO := Lib.hid (hown.alloc (.cells #[.int .i64 x.1.fr] 3))
      clear hle bX hbx hI hown hbP
      have hq : moreS S (pre.map (fun x => x.1.fr) ++ [x.1.fr]) = true ∨ moreS S (pre.map (fun x => x.1.fr) ++ [x.1.fr]) = false := by cases moreS S (pre.map (fun x => x.1.fr) ++ [x.1.fr]) <;> simp
      rcases hq with hq | hq
      · have HQ := Lib.hid hq; clear hq
        gi_wp2_with (gi_at_builtin; first
          | (refine wpListIn_app rfl (.tmp 19) (.tmp 22) 24 rfl 3 i0 _ 8 Tryz.underlying24 hi hz0 hz1 hz2 rfl (by decide) lenI oneI wl.heap.size _ m2 c2 _ rfl ZO.out (W.heap.size + 1) 1 1 _ [x.1.fr] rfl HRn.out (by simp only [maxLen]; omega) (by omega) (Nat.le_trans hZW ZB.out.size) ?_; skip; intro A5 c5 w5 hown5 hg5 hat5
             have B5 := Lib.hid (Below.app ZB.out ZO.out hg5 (Nat.le_trans hZW ZB.out.size))
             have O5 := Lib.hid hown5; have G5 := Lib.hid hg5
             have P5 := Lib.hid (HP.out.below B5.out (by omega))
             have pc5 := P5.out.cell 0
             have pf5 := P5.out.frozen
             simp at pc5
             clear hown5 hg5 hat5))
        have hx5 : Blk w5 Bx 34 #[.int .i64 x.1.h, .int .i64 x.1.r, .int .i64 x.1.s, .bool x.1.has, .int .u64 x.1.blk, .int .i64 x.1.fr] := (G5.out.block Bx (HbX.out.alloc _).lt (fun e => own_ne ZO.out.2 (HbX.out.alloc _) (by decide) e.symm)).trans (HbX.out.alloc _)
        have hK2 := blk_other (HIa.out.b2.below B5.out (by omega)) 0 (.slice A5 (m2 + 1) c5) (g' := w0.heap.size) (by omega)
        have hK3 := blk_other (HIa.out.b3.below B5.out (by omega)) 0 (.slice A5 (m2 + 1) c5) (g' := w0.heap.size) (by omega)
        have hK4 := blk_other (HIa.out.b4.below B5.out (by omega)) 0 (.slice A5 (m2 + 1) c5) (g' := w0.heap.size) (by omega)
        have hKP := Blk.set_ P5.out 0 (.slice A5 (m2 + 1) c5)
        have hKX := blk_other hx5 0 (.slice A5 (m2 + 1) c5) (g' := w0.heap.size) (by omega)
        have hKO : Own encI 1 3 (w5.setCell ⟨w0.heap.size, 0, none⟩ (.slice A5 (m2 + 1) c5)) wl.heap.size A5 (m2 + 1) c5 ((pre ++ [x]).map (fun x => x.1.fr)) := by
          rw [List.map_append]
          exact ⟨O5.out.1, O5.out.2.kept (grown_setCell w5 w0.heap.size 0 _) (.inr (own_ne O5.out.2 P5.out (by decide)))⟩
        have hKB := (HIa.out.below.trans (B5.out.mono (by omega))).setCell (p := ⟨w0.heap.size, 0, none⟩) (by show _ ≤ w0.heap.size; omega) (.slice A5 (m2 + 1) c5)
        have hKK := ((KeepsOthers.alloc W (.cells #[.int .i64 x.1.fr] 3)).trans (KeepsOthers.of_grownBy G5.out (fun j o e ho => own_cells ZO.out.2 e ho))).trans (KeepsOthers.setCell w5 ⟨w0.heap.size, 0, none⟩ (.slice A5 (m2 + 1) c5))
        have hKA : KpA w0.heap.size W (w5.setCell ⟨w0.heap.size, 0, none⟩ (.slice A5 (m2 + 1) c5)) := ((KpA.grown (World.grownBy_alloc W (.cells #[.int .i64 x.1.fr] 3) none) (by omega) (by simp)).trans (KpA.grown G5.out (by simp; omega) (fun r e => by have := (ZO.out.2.lt r e).1; omega))).trans (KpA.grown (grown_setCell w5 w0.heap.size 0 _) (by have := B5.out.size; omega) (fun r e => by injection e with e; omega))
        have hKS : wl.heap.size ≤ (w5.setCell ⟨w0.heap.size, 0, none⟩ (.slice A5 (m2 + 1) c5)).heap.size := Nat.le_trans hZW (Nat.le_trans B5.out.size (grown_setCell w5 w0.heap.size 0 _).size)
        generalize w5.setCell ⟨w0.heap.size, 0, none⟩ (.slice A5 (m2 + 1) c5) = w6 at *
        have HC6 := (HBk.out.below hKB hCl).cell 0
        have k2 := hK2.cell 0; have kp := hKP.cell 0
        simp at HC6 k2 kp
        have K2 := Lib.hid hK2; have K3 := Lib.hid hK3; have K4 := Lib.hid hK4; have KP := Lib.hid hKP; have KX := Lib.hid hKX; have KO := Lib.hid hKO; have KB := Lib.hid hKB; have KK := Lib.hid hKK; have KA := Lib.hid hKA; have KS := Lib.hid hKS
        have hSo : ∀ Wd, Below w6.heap.size w6 Wd → Calls Tryz.prog 40 #[.slice As ns cs, .slice A5 (m2 + 1) c5] Wd fun e w' => e = .returned (.bool true) ∧ Below Wd.heap.size Wd w' := by
          intro Wd hb
          have hb' := hKB.trans (hb.mono hKB.size)
          have hq' : moreS S ((pre ++ [x]).map (fun x => x.1.fr)) = true := by rw [List.map_append]; exact HQ.out
          rw [← hq']
          exact some_any _ _ _ _ _ _ _ _ Wd ((HSe.out.below hb').more hb'.size) HS.out ((hKO.below hb).rd lenI) (by omega)
        have HSo := Lib.hid hSo
        have Hdr : Hid (Below w6.heap.size w6 w6.drew) := (Below.refl _ _).drew
        clear hSo hK2 hK3 hK4 hKP hKX hKO hKB hKK hKA hKS hx5 pc5 pf5 P5 B5 O5 G5 pc pf
        have mixed : Tryz.prog.follows Departure.mixedOrders = true := by kernel_rfl
        gi_region_with_o (refine ⟨trivial, ?_⟩; gi_at_call 40; refine (CallsIn.inRound l (callsIn_wide.2 (HSo.out _ Hdr.out))).mono ?_; rintro e w7 ⟨rfl, hb7⟩; have W7 := Lib.hid hb7; clear hb7)
        all_goals
          have D7 := Lib.hid (Hdr.out.trans (W7.out.mono Hdr.out.size))
          have J4 := KX.out.below D7.out KX.out.lt
          have j4 := J4.cell 1
          simp at j4
          have hR4 := K4.out.below D7.out K4.out.lt
          have r4 := hR4.cell 0
          simp at r4
          have rf := hR4.frozen
          have R4 := Lib.hid hR4
          have E6 := Lib.hid (KeepsOthers.of_grownBy (below_grown (B := 0) D7.out) (by simp))
          have A6 : Hid (KpA w0.heap.size w6 w7) := KpA.grown (below_grown (B := 0) D7.out) (by have := KS.out; omega) (by simp)
          clear J4 hR4
          gi_wp2
          have hb9 := Blk.set_ R4.out 0 (.int .i64 x.1.r)
          have hB9 := (KB.out.trans (D7.out.mono KB.out.size)).setCell (p := ⟨w.heap.size + 1 + 1, 0, none⟩) (by show _ ≤ w.heap.size + 1 + 1; omega) (.int .i64 x.1.r)
          exact ⟨((KK.out.trans E6.out).trans (KeepsOthers.setCell _ _ _)).from _, ⟨.inl ⟨rfl, pre, x, rfl, hb9, fun t ht => by rw [HSt.out t ht, if_pos HLe.out, if_pos HQ.out]⟩, hB9⟩⟩
      · have HQ := Lib.hid hq; clear hq
        gi_wp2_with (gi_at_builtin; first
          | (refine wpListIn_app rfl (.tmp 19) (.tmp 22) 24 rfl 3 i0 _ 8 Tryz.underlying24 hi hz0 hz1 hz2 rfl (by decide) lenI oneI wl.heap.size _ m2 c2 _ rfl ZO.out (W.heap.size + 1) 1 1 _ [x.1.fr] rfl HRn.out (by simp only [maxLen]; omega) (by omega) (Nat.le_trans hZW ZB.out.size) ?_; skip; intro A5 c5 w5 hown5 hg5 hat5
             have B5 := Lib.hid (Below.app ZB.out ZO.out hg5 (Nat.le_trans hZW ZB.out.size))
             have O5 := Lib.hid hown5; have G5 := Lib.hid hg5
             have P5 := Lib.hid (HP.out.below B5.out (by omega))
             have pc5 := P5.out.cell 0
             have pf5 := P5.out.frozen
             simp at pc5
             clear hown5 hg5 hat5))
        have hx5 : Blk w5 Bx 34 #[.int .i64 x.1.h, .int .i64 x.1.r, .int .i64 x.1.s, .bool x.1.has, .int .u64 x.1.blk, .int .i64 x.1.fr] := (G5.out.block Bx (HbX.out.alloc _).lt (fun e => own_ne ZO.out.2 (HbX.out.alloc _) (by decide) e.symm)).trans (HbX.out.alloc _)
        have hK2 := blk_other (HIa.out.b2.below B5.out (by omega)) 0 (.slice A5 (m2 + 1) c5) (g' := w0.heap.size) (by omega)
        have hK3 := blk_other (HIa.out.b3.below B5.out (by omega)) 0 (.slice A5 (m2 + 1) c5) (g' := w0.heap.size) (by omega)
        have hK4 := blk_other (HIa.out.b4.below B5.out (by omega)) 0 (.slice A5 (m2 + 1) c5) (g' := w0.heap.size) (by omega)
        have hKP := Blk.set_ P5.out 0 (.slice A5 (m2 + 1) c5)
        have hKX := blk_other hx5 0 (.slice A5 (m2 + 1) c5) (g' := w0.heap.size) (by omega)
        have hKO : Own encI 1 3 (w5.setCell ⟨w0.heap.size, 0, none⟩ (.slice A5 (m2 + 1) c5)) wl.heap.size A5 (m2 + 1) c5 ((pre ++ [x]).map (fun x => x.1.fr)) := by
          rw [List.map_append]
          exact ⟨O5.out.1, O5.out.2.kept (grown_setCell w5 w0.heap.size 0 _) (.inr (own_ne O5.out.2 P5.out (by decide)))⟩
        have hKB := (HIa.out.below.trans (B5.out.mono (by omega))).setCell (p := ⟨w0.heap.size, 0, none⟩) (by show _ ≤ w0.heap.size; omega) (.slice A5 (m2 + 1) c5)
        have hKK := ((KeepsOthers.alloc W (.cells #[.int .i64 x.1.fr] 3)).trans (KeepsOthers.of_grownBy G5.out (fun j o e ho => own_cells ZO.out.2 e ho))).trans (KeepsOthers.setCell w5 ⟨w0.heap.size, 0, none⟩ (.slice A5 (m2 + 1) c5))
        have hKA : KpA w0.heap.size W (w5.setCell ⟨w0.heap.size, 0, none⟩ (.slice A5 (m2 + 1) c5)) := ((KpA.grown (World.grownBy_alloc W (.cells #[.int .i64 x.1.fr] 3) none) (by omega) (by simp)).trans (KpA.grown G5.out (by simp; omega) (fun r e => by have := (ZO.out.2.lt r e).1; omega))).trans (KpA.grown (grown_setCell w5 w0.heap.size 0 _) (by have := B5.out.size; omega) (fun r e => by injection e with e; omega))
        have hKS : wl.heap.size ≤ (w5.setCell ⟨w0.heap.size, 0, none⟩ (.slice A5 (m2 + 1) c5)).heap.size := Nat.le_trans hZW (Nat.le_trans B5.out.size (grown_setCell w5 w0.heap.size 0 _).size)
        generalize w5.setCell ⟨w0.heap.size, 0, none⟩ (.slice A5 (m2 + 1) c5) = w6 at *
        have HC6 := (HBk.out.below hKB hCl).cell 0
        have k2 := hK2.cell 0; have kp := hKP.cell 0
        simp at HC6 k2 kp
        have K2 := Lib.hid hK2; have K3 := Lib.hid hK3; have K4 := Lib.hid hK4; have KP := Lib.hid hKP; have KX := Lib.hid hKX; have KO := Lib.hid hKO; have KB := Lib.hid hKB; have KK := Lib.hid hKK; have KA := Lib.hid hKA; have KS := Lib.hid hKS
        have hSo : ∀ Wd, Below w6.heap.size w6 Wd → Calls Tryz.prog 40 #[.slice As ns cs, .slice A5 (m2 + 1) c5] Wd fun e w' => e = .returned (.bool false) ∧ Below Wd.heap.size Wd w' := by
          intro Wd hb
          have hb' := hKB.trans (hb.mono hKB.size)
          have hq' : moreS S ((pre ++ [x]).map (fun x => x.1.fr)) = false := by rw [List.map_append]; exact HQ.out
          rw [← hq']
          exact some_any _ _ _ _ _ _ _ _ Wd ((HSe.out.below hb').more hb'.size) HS.out ((hKO.below hb).rd lenI) (by omega)
        have HSo := Lib.hid hSo
        have Hdr : Hid (Below w6.heap.size w6 w6.drew) := (Below.refl _ _).drew
        clear hSo hK2 hK3 hK4 hKP hKX hKO hKB hKK hKA hKS hx5 pc5 pf5 P5 B5 O5 G5 pc pf
        have mixed : Tryz.prog.follows Departure.mixedOrders = true := by kernel_rfl
        gi_region_with_o (refine ⟨trivial, ?_⟩; gi_at_call 40; refine (CallsIn.inRound l (callsIn_wide.2 (HSo.out _ Hdr.out))).mono ?_; rintro e w7 ⟨rfl, hb7⟩; have W7 := Lib.hid hb7; clear hb7)
        all_goals
          have D7 := Lib.hid (Hdr.out.trans (W7.out.mono Hdr.out.size))
          have J4 := KX.out.below D7.out KX.out.lt
          have j4 := J4.cell 1
          simp at j4
          have hR4 := K4.out.below D7.out K4.out.lt
          have r4 := hR4.cell 0
          simp at r4
          have rf := hR4.frozen
          have R4 := Lib.hid hR4
          have E6 := Lib.hid (KeepsOthers.of_grownBy (below_grown (B := 0) D7.out) (by simp))
          have A6 : Hid (KpA w0.heap.size w6 w7) := KpA.grown (below_grown (B := 0) D7.out) (by have := KS.out; omega) (by simp)
          clear J4 hR4
          gi_wp2
          exact ⟨(KK.out.trans E6.out).from _, KA.out.trans A6.out, ⟨K2.out.below D7.out K2.out.lt, K3.out.below D7.out K3.out.lt, R4.out, ⟨A5, m2 + 1, c5, KP.out.below D7.out KP.out.lt, KO.out.below D7.out⟩, fun t ht => by rw [HSt.out t ht, if_pos HLe.out, if_neg (by rw [HQ.out]; simp), List.map_append]; rfl, Nat.le_trans KS.out D7.out.size, KB.out.trans (D7.out.mono KB.out.size)⟩⟩
  case done =>
    rintro D ys W hD rfl hI hK
    have HE : Hid (aheadO S L round = round) := by
      show _ = _
      rw [hI.go [] (by rw [rv_map]; simp)]; rfl
    have HD : Hid (w.heap.size + 3 < D) := by show _ < _; have := HWz.out; have := HN.out; omega
    have R4 := Lib.hid hI.b4; have HB := Lib.hid hI.below
    have s3 := hI.b3.cell 0; have s4 := hI.b4.cell 0
    have sf := hI.b4.frozen
    simp at s3 s4
    clear hI hbx hD
    gi_wp2
    have hK' := (KeepsOthers.setCell W ⟨w.heap.size + 1 + 1, 0, none⟩ (.int .i64 round)).same D _ hK rfl
    refine ⟨by simp, .inl ⟨_, _, rfl, run_takeDeferred hK', ?_⟩⟩
    have hb9 := blk_put (Blk.set_ R4.out 0 (.int .i64 round)) D (.deferred none) (by have := HD.out; omega)
    have hB9 := (HB.out.setCell (p := ⟨w.heap.size + 1 + 1, 0, none⟩) (by show _ ≤ w.heap.size + 1 + 1; omega) (.int .i64 round)).trans (belowK_b (w := w) (Nat.le_refl _) _ D _ (.deferred none) (by have := HD.out; omega) hK' rfl rfl)
    generalize hwf : World.putObj _ D _ = wf at *
    clear hwf hK' hK
    have f0 := hb9.cell 0
    simp at f0
    refine ⟨.int .i64 round, ?_, by rw [HE.out], hB9⟩
    simp [results, Tryz.results17, go_sem, f0]
    try rfl
  case stop =>
    rintro D c pre W hD ⟨t, ht⟩ ⟨hst, hB⟩ hK
    have hlr : L.reverse = pre.map (·.1) ++ t.map (·.1) := by rw [← rv_map, ← ht, List.map_append]
    have HD : Hid (w.heap.size + 3 < D) := by show _ < _; have := HWz.out; have := HN.out; omega
    have HB := Lib.hid hB; clear hB hD hbx ht
    rcases hst with ⟨rfl, ini, x, rfl, hb, hans⟩ | ⟨rfl, hb3, hb4, hans⟩
    · have HE : Hid (aheadO S L round = x.1.r) := hans _ hlr
      have R4 := Lib.hid hb
      clear hb hans hlr
      gi_wp2
      refine ⟨by simp, .inl ⟨_, _, rfl, run_takeDeferred hK, ?_⟩⟩
      have hb9 := blk_put R4.out D (.deferred none) (by have := HD.out; omega)
      have hB9 := HB.out.trans (belowK_b (w := w) (Nat.le_refl _) W D _ (.deferred none) (by have := HD.out; omega) hK rfl rfl)
      generalize hwf : World.putObj _ D _ = wf at *
      clear hwf hK
      have f0 := hb9.cell 0
      simp at f0
      refine ⟨.int .i64 x.1.r, ?_, by rw [HE.out], hB9⟩
      simp [results, Tryz.results17, go_sem, f0]
      try rfl
    · have HE : Hid (aheadO S L round = round) := hans _ hlr
      have R4 := Lib.hid hb4
      have s3 := hb3.cell 0; have s4 := hb4.cell 0
      have sf := hb4.frozen
      simp at s3 s4
      clear hb3 hb4 hans hlr
      gi_wp2
      have hK' := (KeepsOthers.setCell W ⟨w.heap.size + 1 + 1, 0, none⟩ (.int .i64 round)).same D _ hK rfl
      refine ⟨by simp, .inl ⟨_, _, rfl, run_takeDeferred hK', ?_⟩⟩
      have hb9 := blk_put (Blk.set_ R4.out 0 (.int .i64 round)) D (.deferred none) (by have := HD.out; omega)
      have hB9 := (HB.out.setCell (p := ⟨w.heap.size + 1 + 1, 0, none⟩) (by show _ ≤ w.heap.size + 1 + 1; omega) (.int .i64 round)).trans (belowK_b (w := w) (Nat.le_refl _) _ D _ (.deferred none) (by have := HD.out; omega) hK' rfl rfl)
      generalize hwf : World.putObj _ D _ = wf at *
      clear hwf hK' hK
      have f0 := hb9.cell 0
      simp at f0
      refine ⟨.int .i64 round, ?_, by rw [HE.out], hB9⟩
      simp [results, Tryz.results17, go_sem, f0]
      try rfl
end Go.Proofs.YtkjhacfmidmebaaGreat
