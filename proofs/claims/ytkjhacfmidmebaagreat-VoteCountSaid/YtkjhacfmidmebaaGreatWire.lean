/- Walks: the program's writer: what it says of a vote: the error. (Of the bytes nothing is asked.) -/
import Derived.Test.YtkjhacfmidmebaaGreatBench2
import Derived.Deep.AppendLies
import Derived.StillTailTactics
import Derived.Deep.RegionLaw
namespace Go.Proofs.YtkjhacfmidmebaaGreat
open Go.RowKit

/-- A row that is known whole. -/
def Blk (w : World) (g : Nat) (t : TypeId) (cs : Array Value) : Prop := w.heap[g]? = some (.cells cs t (0, 0))

section
variable {w w' : World} {g : Nat} {t : TypeId} {cs : Array Value}
theorem Blk.lt (h : Blk w g t cs) : g < w.heap.size := by
  unfold Blk at h
  exact (Array.getElem?_eq_some_iff.1 h).1
theorem Blk.cell (h : Blk w g t cs) (i : Nat) : w.cell? ⟨g, i, none⟩ = cs[i]? := by unfold Blk at h; simp [World.cell?, h]
theorem Blk.frozen (h : Blk w g t cs) (i : Nat) : w.frozen? ⟨g, i, none⟩ = false := by unfold Blk at h; simp [World.frozen?, h]
theorem Blk.new (w : World) (t : TypeId) (cs : Array Value) : Blk (w.alloc (.cells cs t)) w.heap.size t cs := heap_alloc_new w _
theorem Blk.alloc (h : Blk w g t cs) (o : Obj) : Blk (w.alloc o) g t cs := (Below.heap_alloc w o g h.lt).trans h
theorem Blk.drew (h : Blk w g t cs) : Blk w.drew g t cs := h
theorem Blk.set_ (h : Blk w g t cs) (i : Nat) (u : Value) : Blk (w.setCell ⟨g, i, none⟩ u) g t (cs.setIfInBounds i u) := by
  unfold Blk at h ⊢
  simp [World.setCell, Array.getElem?_modify, h]
theorem Blk.far (h : Blk w g t cs) {p : Addr} (hp : g ≠ p.block) (u : Value) : Blk (w.setCell p u) g t cs := (Below.heap_setCell w p u g hp).trans h
theorem Blk.below {B : Nat} (h : Blk w g t cs) (hb : Below B w w') (hg : g < B) : Blk w' g t cs := (hb.block g hg).trans h
theorem Blk.grown {row : Option Nat} (h : Blk w g t cs) (hb : w.grownBy w' row) (hg : row ≠ some g) : Blk w' g t cs := (hb.block g h.lt (fun e => hg e.symm)).trans h
end

/-- A row of one element type is no row of another. -/
theorem own_ne {w : World} {g : Nat} {t : TypeId} {cs : Array Value} {base : Nat} {e : TypeId} {size n : Nat} {v : Value} {xs : List Value} (h : w.ownsRow base e size v n xs) (hg : Blk w g t cs) (hne : e ≠ t) : v.ownBlock ≠ some g := by
  rcases h.2 with ⟨rfl, _⟩ | ⟨g', cap, cur, rfl, _, hh, _⟩
  · simp [Value.ownBlock]
  · intro he
    have e1 : g' = g := by simpa [Value.ownBlock] using he
    subst e1
    unfold Blk at hg
    rw [hh] at hg
    injection hg with hg
    injection hg with _ ht
    exact hne ht

/-- append of ONE element, which lies in a new block of its own: for the walk, behind 'at_builtin'. -/
theorem wpList_push {P : Program} {W : World} {cs : Array Value} {ops : Array Oper} {rest : List Oper} {o : Oper} {a : Act} {Q : Exit → Act → World → Prop} (hgd : o.guard = none) (s x : Operand) (t : TypeId)
    (ho : o.op = .call { callee := .builtin .append, args := #[s, x], argTypes := #[t, t] })
    (base : Nat) (e : TypeId) (i : TypeInfo) (z : Value) (size bytes : Nat) (ht : P.underlying t = some (.slice e)) (hi : P.info? e = some i) (hz : i.zero = some z)
    (hsize : i.size = size) (hby : i.bytes = bytes) (hzs : z.cells.size = size) (hsz : 0 < size)
    (v : Value) (n : Nat) (xs : List Value) (hs : a.eval s = v) (hown : W.ownsRow base e size v n xs) (hx : a.eval x = .slice (some ⟨W.heap.size, 0, none⟩) 1 1) (hl : cs.size = size) (h1 : ∀ u ∈ cs.toList, u.oneCell' = true)
    (h63 : n + 1 ≤ maxLen) (hbytes : (n + 1) * bytes ≤ 140737488355328) (hbase : base ≤ W.heap.size)
    (h : ∀ g cap w', w'.ownsRow base e size (.slice (some ⟨g, 0, none⟩) (n + 1) cap) (n + 1) (xs ++ cs.toList) → W.grownBy w' v.ownBlock → W.heap.size < w'.heap.size → (v.ownBlock = some g ∨ W.heap.size ≤ g) →
      wpList P ops Q rest (a.put o.dst (.slice (some ⟨g, 0, none⟩) (n + 1) cap)) w') : wpList P ops Q (o :: rest) a (W.alloc (.cells cs e)) := by
  have hnews : ∀ j u, cs.toList[j]? = some u → (W.alloc (.cells cs e)).cell? ((⟨W.heap.size, 0, none⟩ : Addr).add j) = some u := by
    intro j u hj
    have hb := Blk.new W e cs
    have : (⟨W.heap.size, 0, none⟩ : Addr).add j = ⟨W.heap.size, j, none⟩ := by unfold Addr.add; split <;> simp_all
    rw [this, hb.cell]
    simpa using hj
  refine wpList_append_lies _ hgd s x t ho base e i z size bytes ht hi hz hsize hby hzs hsz v n xs hs (hown.alloc _) ⟨W.heap.size, 0, none⟩ 1 1 cs.toList hx (by simpa using hl) hnews h1 (by omega) h63 hbytes (by simp; omega) _ rfl ?_
  intro g cap w' h2 h3 h4 h5
  have hg : W.grownBy w' v.ownBlock := (World.grownBy_alloc W (.cells cs e) v.ownBlock).trans h3
  refine h g cap w' h2 hg (by have := h3.size; simp at this; omega) ?_
  rcases h4 with h4 | h4
  · exact .inl h4
  · exact .inr (by rw [h4]; simp)

/-- The same, at a step of a region that draws its order. -/
theorem step_push {P : Program} {W : World} {cs : Array Value} {ops : Array Oper} {o : Oper} {a : Act} {K : Act → World → Prop} {Q : Exit → Act → World → Prop} {E : Prop} (hgd : o.guard = none) (s x : Operand) (t : TypeId)
    (ho : o.op = .call { callee := .builtin .append, args := #[s, x], argTypes := #[t, t] })
    (base : Nat) (e : TypeId) (i : TypeInfo) (z : Value) (size bytes : Nat) (ht : P.underlying t = some (.slice e)) (hi : P.info? e = some i) (hz : i.zero = some z)
    (hsize : i.size = size) (hby : i.bytes = bytes) (hzs : z.cells.size = size) (hsz : 0 < size)
    (v : Value) (n : Nat) (xs : List Value) (hs : a.eval s = v) (hown : W.ownsRow base e size v n xs) (hx : a.eval x = .slice (some ⟨W.heap.size, 0, none⟩) 1 1) (hl : cs.size = size) (h1 : ∀ u ∈ cs.toList, u.oneCell' = true)
    (h63 : n + 1 ≤ maxLen) (hbytes : (n + 1) * bytes ≤ 140737488355328) (hbase : base ≤ W.heap.size)
    (h : ∀ g cap w', w'.ownsRow base e size (.slice (some ⟨g, 0, none⟩) (n + 1) cap) (n + 1) (xs ++ cs.toList) → W.grownBy w' v.ownBlock → W.heap.size < w'.heap.size → (v.ownBlock = some g ∨ W.heap.size ≤ g) →
      K (a.put o.dst (.slice (some ⟨g, 0, none⟩) (n + 1) cap)) w') : if Region.wanted o (yielded ops a.tmps) = true then Oper.wp P o a (W.alloc (.cells cs e)) K Q else E := by
  have hnews : ∀ j u, cs.toList[j]? = some u → (W.alloc (.cells cs e)).cell? ((⟨W.heap.size, 0, none⟩ : Addr).add j) = some u := by
    intro j u hj
    have hb := Blk.new W e cs
    have : (⟨W.heap.size, 0, none⟩ : Addr).add j = ⟨W.heap.size, j, none⟩ := by unfold Addr.add; split <;> simp_all
    rw [this, hb.cell]
    simpa using hj
  refine step_append_lies _ hgd s x t ho base e i z size bytes ht hi hz hsize hby hzs hsz v n xs hs (hown.alloc _) ⟨W.heap.size, 0, none⟩ 1 1 cs.toList hx (by simpa using hl) hnews h1 (by omega) h63 hbytes (by simp; omega) _ rfl ?_
  intro g cap w' h2 h3 h4 h5
  have hg : W.grownBy w' v.ownBlock := (World.grownBy_alloc W (.cells cs e) v.ownBlock).trans h3
  refine h g cap w' h2 hg (by have := h3.size; simp at this; omega) ?_
  rcases h4 with h4 | h4
  · exact .inl h4
  · exact .inr (by rw [h4]; simp)

theorem grown_setCell (w : World) (g i : Nat) (u : Value) : w.grownBy (w.setCell ⟨g, i, none⟩ u) (some g) :=
  ⟨rfl, rfl, rfl, by simp [World.setCell], fun k _ hne => Below.heap_setCell _ _ _ _ (fun e => hne (by rw [e]))⟩

/-- The writer: its bytes are its own; at most N of them. -/
def Bytes (xs : List Value) : Prop := ∀ u ∈ xs, ∃ n : Int, u = .int .u8 n
theorem bytes_snoc {xs : List Value} (h : Bytes xs) (n : Int) : Bytes (xs ++ #[Value.int .u8 n].toList) := by
  intro u hu
  rcases List.mem_append.1 hu with hu | hu
  · exact h u hu
  · simp at hu; exact ⟨n, hu⟩

def Wr (w : World) (B g N : Nat) (v : Value) (lim frm : Bool) : Prop :=
  B ≤ g ∧ Blk w g 100 #[v, .bool lim, .bool frm] ∧ ∃ n xs, w.ownsRow B 5 1 v n xs ∧ n ≤ N ∧ Bytes xs

/-- What the writer's calls leave: below B nothing has turned, nor has a row of another type than its own. -/
structure Wt (B : Nat) (w w' : World) : Prop where
  low : Below B w w'
  rows : ∀ (k : Nat) (t : TypeId) (cs : Array Value), t ≠ 5 → t ≠ 100 → Blk w k t cs → Blk w' k t cs
theorem Wt.refl (B : Nat) (w : World) : Wt B w w := ⟨Below.refl _ _, fun _ _ _ _ _ h => h⟩
theorem Wt.trans {B : Nat} {a b c : World} (h : Wt B a b) (k : Wt B b c) : Wt B a c := ⟨h.low.trans k.low, fun i t cs h1 h2 hb => k.rows i t cs h1 h2 (h.rows i t cs h1 h2 hb)⟩
theorem Wt.drew (B : Nat) (w : World) : Wt B w w.drew := ⟨(Below.refl _ _).drew, fun _ _ _ _ _ h => h⟩
theorem Wt.set_ {B g : Nat} {w : World} {cs : Array Value} (hB : B ≤ g) (hg : Blk w g 100 cs) (i : Nat) (u : Value) : Wt B w (w.setCell ⟨g, i, none⟩ u) :=
  ⟨(Below.refl _ _).setCell (p := ⟨g, i, none⟩) hB _, fun k t cs' _ h2 hb => hb.far (p := ⟨g, i, none⟩) (fun e => by
    have e' : k = g := e
    subst e'
    unfold Blk at hb hg
    rw [hg] at hb
    injection hb with hb
    injection hb with _ ht
    exact h2 ht.symm) u⟩
theorem Wt.grown {B : Nat} {w w' : World} {v : Value} {n : Nat} {xs : List Value} (hown : w.ownsRow B 5 1 v n xs) (hg : w.grownBy w' v.ownBlock) (hB : B ≤ w.heap.size) : Wt B w w' :=
  ⟨(Below.refl B w).grown hg hB (fun k hk => (hown.lt k hk).1), fun k t cs h1 _ hb => hb.grown hg (own_ne hown hb (fun e => h1 e.symm))⟩
theorem Wt.below {B : Nat} {w w' : World} (h : Below w.heap.size w w') (hB : B ≤ w.heap.size) : Wt B w w' := ⟨h.mono hB, fun _ _ _ _ _ hb => hb.below h hb.lt⟩

/-- Behind an append whose value goes into the writer's first cell. -/
theorem wr_push {W w1 : World} {B g g1 cap m n' : Nat} {v : Value} {lim frm : Bool} {xs ys : List Value} (hB : B ≤ g) (hg : Blk W g 100 #[v, .bool lim, .bool frm]) (hown : W.ownsRow B 5 1 v m xs)
    (hown2 : w1.ownsRow B 5 1 (.slice (some ⟨g1, 0, none⟩) n' cap) n' ys) (hgrow : W.grownBy w1 v.ownBlock) (hBW : B ≤ W.heap.size) (hby : Bytes ys) :
    Wr (w1.setCell ⟨g, 0, none⟩ (.slice (some ⟨g1, 0, none⟩) n' cap)) B g n' (.slice (some ⟨g1, 0, none⟩) n' cap) lim frm ∧ Wt B W (w1.setCell ⟨g, 0, none⟩ (.slice (some ⟨g1, 0, none⟩) n' cap)) := by
  have hg1 := hg.grown hgrow (own_ne hown hg (by decide))
  have hne := own_ne hown2 hg1 (by decide)
  refine ⟨⟨hB, ?_, n', ys, hown2.kept (grown_setCell w1 g 0 _) (.inr hne), Nat.le_refl _, hby⟩, ?_⟩
  · have := hg1.set_ 0 (.slice (some ⟨g1, 0, none⟩) n' cap)
    simpa using this
  · exact (Wt.grown hown hgrow hBW).trans (Wt.set_ hB hg1 0 _)

theorem Wr.more {w : World} {B g N N' : Nat} {v : Value} {lim frm : Bool} (h : Wr w B g N v lim frm) (hN : N ≤ N') : Wr w B g N' v lim frm := by
  obtain ⟨h1, h2, n, xs, h3, h4, h5⟩ := h
  exact ⟨h1, h2, n, xs, h3, by omega, h5⟩
theorem Wr.size {w : World} {B g N : Nat} {v : Value} {lim frm : Bool} (h : Wr w B g N v lim frm) : B ≤ w.heap.size := by have := h.2.1.lt; have := h.1; omega

def inN (n : Int) : Bool := decide (0 ≤ n) && decide (n ≤ 1099511627775)

theorem Tryz.info5 : (Tryz.prog.info? 5).map (fun i => (i.zero, i.size, i.bytes)) = some (some (.int .u8 0), 1, 1) := by kernel_rfl

set_option maxHeartbeats 800000 in
theorem number_any (g N : Nat) (v : Value) (lim frm : Bool) (n : Int) (w : World) (B : Nat) (h : Wr w B g N v lim frm) (hN : N ≤ 65536) :
    Calls Tryz.prog 64 #[.pointer (some ⟨g, 0, none⟩), .int .i64 n] w fun e w' => e = .returned (.tuple #[]) ∧ (∃ v', Wr w' B g (N + 6) v' (lim || !inN n) frm) ∧ Wt B w w' := by
  obtain ⟨hB, hg, m, xs, hown, hm, hby⟩ := h
  have HBy := Lib.hid hby; clear hby
  have hc0 := hg.cell 0; have hc1 := hg.cell 1; have hc2 := hg.cell 2
  have hf0 := hg.frozen 0; have hf1 := hg.frozen 1; have hf2 := hg.frozen 2
  simp at hc0 hc1 hc2
  obtain ⟨i0, hi, hz0, hz1, hz2⟩ := info_parts Tryz.info5
  by_cases hin : inN n = true
  · have e1 : decide (n < 0) = false := by simp [inN] at hin; simp; omega
    have e2 : decide (1099511627775 < n) = false := by simp [inN] at hin; simp; omega
    have HI := Lib.hid hin; clear hin
    obtain ⟨q, rfl⟩ : ∃ q : Nat, n = q := ⟨n.toNat, by simp at e1; omega⟩
    have hq : q < 256 ^ 5 := by simp at e2; omega
    have Hq := Lib.hid hq; clear hq
    go_enter Tryz.func64, Tryz.ntmps64
    go_wp2
    clear e1 e2
    go_loop [4, 5] (fun c s => ∃ k r : Nat, c = .int .i64 k ∧ s = .int .i64 r ∧ k ≤ 5 ∧ Hid (r < 256 ^ (5 - k))) (fun _ s => (intOf s).toNat)
    case atStart => exact ⟨0, q, rfl, rfl, by omega, Hq⟩
    case round =>
      obtain ⟨k, r, rfl, rfl, hk, Hr⟩ := hrel
      by_cases hr : 0 < r
      · go_wp2
        go_round
        case rel =>
          refine ⟨k + 1, r / 256, by go_num, by go_num, ?_, ?_⟩
          · have := Hr.out
            rcases Nat.lt_or_ge k 5 with h5 | h5
            · omega
            · rw [show 5 - k = 0 by omega] at this; simp at this; omega
          · have := Hr.out
            show r / 256 < 256 ^ (5 - (k + 1))
            rcases Nat.lt_or_ge k 5 with h5 | h5
            · rw [show 5 - k = (5 - (k + 1)) + 1 by omega, Nat.pow_succ] at this; omega
            · rw [show 5 - k = 0 by omega] at this; simp at this; omega
        case measure => simp [intOf]; omega
      · obtain rfl : r = 0 := by omega
        have hsz : B ≤ w.heap.size := by have := hg.lt; omega
        have HS := Lib.hid hsz; clear hsz
        go_wp2_with (at_builtin; refine wpList_push rfl (.tmp 26) (.tmp 29) 98 rfl B 5 i0 (.int .u8 0) 1 1 Tryz.underlying98 hi hz0 hz1 hz2 rfl (by decide) v m xs rfl hown rfl rfl (by simp [Value.oneCell']) (by simp only [maxLen]; omega) (by omega) HS.out ?_; intro g1 cap1 w1 hown2 hgrow hlt hat; have hg1 := hg.grown hgrow (own_ne hown hg (by decide)); have k0 := hg1.cell 0; have k1 := hg1.cell 1; have k2 := hg1.cell 2; simp at k0 k1 k2; have l0 := hg1.frozen 0)
        have hW := wr_push hB hg hown hown2 hgrow HS.out (bytes_snoc HBy.out _)
        generalize w1.setCell ⟨g, 0, none⟩ (.slice (some ⟨g1, 0, none⟩) (m + 1) cap1) = w2 at *
        clear k0 k1 k2 l0 hg1 hown2 hgrow hlt hat
        obtain ⟨hw2, hb2⟩ := hW
        go_loopw [4] (fun c wr => (∃ k : Nat, c = .int .i64 k ∧ k ≤ 5 ∧ ∃ v', Wr wr B g (m + 6 - k) v' lim frm) ∧ Wt B w wr) (fun c _ => (intOf c).toNat)
        case atStart => exact ⟨⟨k, rfl, hk, _, hw2.more (by omega)⟩, hb2⟩
        case round =>
          obtain ⟨⟨k2, rfl, hk2, v', hB3, hg3, m3, xs3, hown3, hm3, hby3⟩, hb3⟩ := hrel
          have HBy3 := Lib.hid hby3; clear hby3
          have c0 := hg3.cell 0; have c1 := hg3.cell 1; have c2 := hg3.cell 2; have d0 := hg3.frozen 0
          simp at c0 c1 c2
          by_cases hpos : 0 < k2
          · have hBw : B ≤ wr.heap.size := by have := hg3.lt; omega
            have HB := Lib.hid hBw; clear hBw
            have gl := hg3.lt
            obtain ⟨j, rfl⟩ : ∃ j : Nat, k2 = j + 1 := ⟨k2 - 1, by omega⟩
            have a1 : IntKind.i64.wrap (j : Int) = (j : Int) := IntWalk.i64_in _ (by omega)
            have a2 : IntKind.i64.wrap (8 * (j : Int)) = 8 * (j : Int) := IntWalk.i64_in _ (by omega)
            obtain ⟨X, hX⟩ : ∃ X, ∀ W : World, (Op.shift .shr .i64 (q : Int) .i64 (8 * (j : Int))).run Tryz.prog W = .ok (.int .i64 X) W :=
              ⟨_, fun W => by unfold Op.shift; rw [if_neg (by omega)]; rfl⟩
            go_wp2_with fail
            go_region_law (refine step_push (W := wr.drew) rfl (.tmp 41) (.tmp 48) 98 rfl B 5 i0 (.int .u8 0) 1 1 Tryz.underlying98 hi hz0 hz1 hz2 rfl (by decide) v' m3 xs3 (by simp [Act.eval, Act.put]) hown3.drew (by simp [Act.eval, Act.put]) rfl (by simp [Value.oneCell']) (by simp only [maxLen]; omega) (by omega) HB.out ?_; intro g2 cap2 w3 hown4 hgrow4 hlt4 hat4; have hg4 := hg3.drew.grown hgrow4 (own_ne hown3.drew hg3.drew (by decide)); have k0 := hg4.cell 0; have k1 := hg4.cell 1; have k2 := hg4.cell 2; simp at k0 k1 k2; have l0 := hg4.frozen 0)
            all_goals
              have hW := wr_push hB3 hg3.drew hown3.drew hown4 hgrow4 HB.out (bytes_snoc HBy3.out _)
              clear hown4 hgrow4 hlt4 hat4 hg4 k0 k1 k2 l0
              have HW := Lib.hid hW; clear hW
              go_wp2
              go_roundw
              case rel => exact ⟨⟨j, by go_num, by omega, _, HW.out.1.more (by omega)⟩, hb3.trans ((Wt.drew B wr).trans HW.out.2)⟩
              case measure => simp [intOf]
          · obtain rfl : k2 = 0 := by omega
            go_wp2
            go_end0
            exact ⟨rfl, ⟨v', by rw [show inN (q : Int) = true from HI.out]; simpa using (show Wr wr B g (N + 6) v' lim frm from ⟨hB3, hg3, m3, xs3, hown3, by omega, HBy3.out⟩)⟩, hb3⟩
  · have hin' : inN n = false := by simpa using hin
    have hS := hg.set_ 1 (.bool true)
    have hS' : Blk (w.setCell ⟨g, 1, none⟩ (.bool true)) g 100 #[v, .bool true, .bool frm] := by simpa using hS
    have hownS : (w.setCell ⟨g, 1, none⟩ (.bool true)).ownsRow B 5 1 v m xs := hown.kept (grown_setCell w g 1 _) (.inr (own_ne hown hg (by decide)))
    have hsz : B ≤ (w.setCell ⟨g, 1, none⟩ (.bool true)).heap.size := by have := hS'.lt; omega
    have HS := Lib.hid hsz; have HI := Lib.hid hin'; clear hsz hS hin hin'
    have hneg : (n < 0) ∨ (¬ n < 0 ∧ decide (1099511627775 < n) = true) := by
      have h1 := HI.out
      simp [inN] at h1
      by_cases h0 : n < 0
      · exact .inl h0
      · exact .inr ⟨h0, by simp; exact h1 (by omega)⟩
    rcases hneg with e1 | ⟨e0, e1⟩
    all_goals
      go_enter Tryz.func64, Tryz.ntmps64
      go_wp2_with fail
      clear e1
      have q0 := hS'.cell 0; have q1 := hS'.cell 1; have q2 := hS'.cell 2
      simp only [List.getElem?_toArray, List.getElem?_cons_zero, List.getElem?_cons_succ] at q0 q1 q2
      have p0 := hS'.frozen 0
      have hbS : Wt B w (w.setCell ⟨g, 1, none⟩ (.bool true)) := Wt.set_ hB hg 1 _
      have HbS := Lib.hid hbS; clear hbS hc0 hc1 hc2 hf0 hf1 hf2
      generalize w.setCell ⟨g, 1, none⟩ (.bool true) = ws at *
      go_loop [4, 5] (fun c s => c = .int .i64 0 ∧ s = .int .i64 0) (fun _ _ => 0)
      case atStart => exact ⟨rfl, rfl⟩
      case round =>
        obtain ⟨rfl, rfl⟩ := hrel
        go_wp2_with (at_builtin; refine wpList_push rfl (.tmp 26) (.tmp 29) 98 rfl B 5 i0 (.int .u8 0) 1 1 Tryz.underlying98 hi hz0 hz1 hz2 rfl (by decide) v m xs rfl hownS rfl rfl (by simp [Value.oneCell']) (by simp only [maxLen]; omega) (by omega) HS.out ?_; intro g1 cap1 w1 hown2 hgrow hlt hat; have hg1 := hS'.grown hgrow (own_ne hownS hS' (by decide)); have k0 := hg1.cell 0; simp at k0; have l0 := hg1.frozen 0)
        have hW := wr_push hB hS' hownS hown2 hgrow HS.out (bytes_snoc HBy.out _)
        generalize w1.setCell ⟨g, 0, none⟩ (.slice (some ⟨g1, 0, none⟩) (m + 1) cap1) = w2 at *
        clear k0 l0 hg1 hown2 hgrow hlt hat
        have HW := Lib.hid hW; clear hW
        go_loop [4] (fun c => c = .int .i64 0) (fun _ => 0)
        case atStart => rfl
        case round =>
          obtain rfl := hrel
          go_wp2
          go_end0
          exact ⟨rfl, ⟨_, by rw [HI.out]; simpa using HW.out.1.more (by omega)⟩, HbS.out.trans HW.out.2⟩

end Go.Proofs.YtkjhacfmidmebaaGreat
