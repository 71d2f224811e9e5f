/- slices.Backward of votes. -/
import Derived.Test.YtkjhacfmidmebaaGreatBack
import Derived.RangeFuncNested
namespace Go.Proofs.YtkjhacfmidmebaaGreat
open Go.RowKit Go.Shelf

attribute [local go_sem] Oper.semAt_some

set_option maxRecDepth 100000 in
set_option maxHeartbeats 2000000 in
theorem back59_in (F : Fence) (n : Nat) (h59 : F.fn 59) (hro : F.round = none) (hn : 1 ≤ n) (Kp : World → World → Prop) (hKr : ∀ W, Kp W W) (hKt : ∀ {A B C : World}, Kp A B → Kp B C → Kp A C) (l Bs n₀ : Nat) (hKc : ∀ {A B : World}, Kp A B → ∀ p : Addr, p.block < n₀ ∨ p.block = Bs → B.cell? p = A.cell? p) (A : Option Addr) (cap : Nat) (zs : List V) (hlen : zs.length ≤ 65536) (J Jx : List (V × Nat) → World → Prop)
    (hY : ∀ pre x W, J pre W → pre.length < zs.length → YieldAt F (n - 1) Tryz.prog l #[.int .i64 (x.2 : Int), .agg #[.int .i64 x.1.h, .int .i64 x.1.r, .int .i64 x.1.s, .bool x.1.has, .int .u64 x.1.blk, .int .i64 x.1.fr]] W fun e W' =>
      (e = .returned (.bool true) ∧ J (pre ++ [x]) W' ∧ Kp W W') ∨ (e = .returned (.bool false) ∧ Jx (pre ++ [x]) W'))
    (W : World) (hBs : W.cell? ⟨Bs, 0, none⟩ = some (.slice A zs.length cap)) (hc : Rd encV 6 W n₀ A zs.length zs) (h0 : J [] W) :
    CallsIn F n Tryz.prog 59 #[.func (.yield l) #[] #[], .pointer (some ⟨Bs, 0, none⟩)] W fun e W' => (∃ v, e = .returned v) ∧
      ((∃ ys, ys = rv zs ∧ J ys W') ∨ (∃ pre, pre <+: rv zs ∧ Jx pre W')) := by
  have e0 : IntKind.i64.wrap ((zs.length : Int) - 1) = (zs.length : Int) - 1 := IntWalk.i64_in _ (by omega)
  refine callsIn_of_wp Tryz.func59 rfl h59 ?_ hro
  simp only [Tryz.ntmps59, List.size_toArray, List.length_cons, List.length_nil, Nat.reduceAdd, Nat.reduceSub, Array.replicate_succ, Array.replicate_zero, List.push_toArray, List.append_toArray, List.nil_append, List.cons_append]
  gi_wp2
  clear e0
  gi_loopw [3] (fun i wr => ∃ k : Nat, k ≤ zs.length ∧ i = .int .i64 ((k : Int) - 1) ∧ J ((rv zs).take (zs.length - k)) wr ∧ Kp W wr)
    (fun i _ => (intOf i + 1).toNat)
  case atStart => exact ⟨zs.length, Nat.le_refl _, by go_num, by simpa using h0, hKr _⟩
  case round =>
    obtain ⟨k, hk, rfl, hJs, hnx⟩ := hrel
    have hb1 : wr.cell? ⟨Bs, 0, none⟩ = some (.slice A zs.length cap) := (hKc hnx ⟨Bs, 0, none⟩ (.inr rfl)).trans hBs
    rcases k with _ | m
    · have em : ((0 : Nat) : Int) - 1 = -1 := by omega
      rw [em]
      gi_wp2
      go_end0
      exact ⟨⟨_, rfl⟩, .inl ⟨_, rfl, by rwa [Nat.sub_zero, List.take_of_length_le (by rw [rv_len]; omega)] at hJs⟩⟩
    · have em : ((m + 1 : Nat) : Int) - 1 = (m : Int) := by omega
      rw [em]
      have hlt : m < zs.length := by omega
      obtain ⟨b, off, rfl, hbl, z0, z1, z2, z3, z4, z5⟩ := rd_vote (hc.keep fun p hp => hKc hnx p (.inl hp)) (i := m) hlt
      have hst := rv_step zs hlt
      have HSt := Lib.hid hst; clear hst
      obtain ⟨fn, tmps, assign, body, hy, hR⟩ := hY _ (zs[m], m) wr hJs (by rw [List.length_take, rv_len]; omega)
      dsimp only at hy
      have h1 : (m : Int) < (zs.length : Int) := by omega
      have e1 : IntKind.i64.wrap ((m : Int) - 1) = (m : Int) - 1 := IntWalk.i64_in _ (by omega)
      gi_wp2
      refine hR.mono ?_
      rintro e W3 (⟨rfl, hJ3, hk3⟩ | ⟨rfl, hJx3⟩)
      · gi_wp2
        go_roundw
        case rel => exact ⟨m, by omega, rfl, by rw [HSt.out]; exact hJ3, hKt hnx hk3⟩
        case measure => simp [intOf] <;> omega
      · gi_wp2
        refine bodyPost_ret (results_none rfl _ _ _) rfl ?_
        exact ⟨⟨_, rfl⟩, .inr ⟨_, by rw [← HSt.out]; exact List.take_prefix _ _, hJx3⟩⟩

theorem back39_in (F : Fence) (n : Nat) (h39 : F.fn 39) (hro : F.round = none) (a : Option Addr) (len cap : Nat) (w : World) :
    CallsIn F n Tryz.prog 39 #[.slice a len cap] w fun e w' => e = .returned (.func (.func 59) #[] #[.pointer (some ⟨w.heap.size, 0, none⟩)]) ∧ w' = w.alloc (.cells #[.slice a len cap] 23) := by
  refine callsIn_of_wp Tryz.func39 rfl h39 ?_ hro
  simp only [Tryz.ntmps39, List.size_toArray, List.length_cons, List.length_nil, Nat.reduceAdd, Nat.reduceSub, Array.replicate_succ, Array.replicate_zero, List.push_toArray, List.append_toArray, List.nil_append, List.cons_append]
  gi_wp2
  go_ret
  exact ⟨rfl, rfl⟩

theorem back59_stops (F : Fence) (n : Nat) (h59 : F.fn 59) (hro : F.round = none) (hn : 1 ≤ n) (Kp : World → World → Prop) (hKr : ∀ W, Kp W W) (hKt : ∀ {A B C : World}, Kp A B → Kp B C → Kp A C) (Bs n₀ : Nat) (hKc : ∀ {A B : World}, Kp A B → ∀ p : Addr, p.block < n₀ ∨ p.block = Bs → B.cell? p = A.cell? p)
    (A : Option Addr) (cap : Nat) (zs : List V) (hlen : zs.length ≤ 65536) (w : World) (hB : Bs < w.heap.size) (hn₀ : n₀ ≤ w.heap.size)
    (hBs : w.cell? ⟨Bs, 0, none⟩ = some (.slice A zs.length cap)) (hc : Rd encV 6 w n₀ A zs.length zs) :
    SeqStopsK F n Tryz.prog 59 #[.pointer (some ⟨Bs, 0, none⟩)] (fun x : V × Nat => #[.int .i64 (x.2 : Int), .agg #[.int .i64 x.1.h, .int .i64 x.1.r, .int .i64 x.1.s, .bool x.1.has, .int .u64 x.1.blk, .int .i64 x.1.fr]]) Kp (fun ys => ys = rv zs) (fun pre => pre <+: rv zs) zs.length w := fun l J Jx W hW _ _ hY h0 =>
  back59_in F n h59 hro hn Kp hKr hKt l Bs n₀ hKc A cap zs hlen J Jx hY W ((hW.cell (p := ⟨Bs, 0, none⟩) hB).trans hBs) (hc.keep fun p hp => hW.cell (p := p) (by omega)) h0
end Go.Proofs.YtkjhacfmidmebaaGreat
