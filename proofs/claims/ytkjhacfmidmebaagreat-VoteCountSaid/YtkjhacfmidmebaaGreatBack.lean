/- slices.Backward: the iterator from the end. -/
import Derived.RangeFuncNested
import Derived.RangeFuncBox
import Derived.RangeFuncBound
import Derived.RangeFuncCalls
import Derived.RangeFuncLeaves
import Derived.Shelf.Abstract
import Derived.Shelf.RegionOpen
import Derived.WalkKit
import Derived.OwnWalkIn
import Derived.TacticsInMore
import Derived.LoopNIn
import Derived.LoopIn
import Derived.Test.YtkjhacfmidmebaaGreatChoose
namespace Go.Proofs.YtkjhacfmidmebaaGreat
open Go.RowKit Go.Shelf

attribute [local go_sem] Oper.semAt_some

/-- from the end: each with its place. -/
def rv {α : Type} (zs : List α) : List (α × Nat) := zs.zipIdx.reverse
theorem rv_len {α : Type} (zs : List α) : (rv zs).length = zs.length := by simp [rv]
theorem rv_get {α : Type} (zs : List α) {m : Nat} (h : m < zs.length) : (rv zs)[zs.length - (m + 1)]'(by rw [rv_len]; omega) = (zs[m], m) := by
  simp only [rv, List.getElem_reverse, List.length_zipIdx, List.getElem_zipIdx]
  have e : zs.length - 1 - (zs.length - (m + 1)) = m := by omega
  simp [e]
theorem rv_step {α : Type} (zs : List α) {m : Nat} (h : m < zs.length) : (rv zs).take (zs.length - m) = (rv zs).take (zs.length - (m + 1)) ++ [(zs[m], m)] := by
  have e : zs.length - m = (zs.length - (m + 1)) + 1 := by omega
  rw [e, List.take_succ_eq_append_getElem (by rw [rv_len]; omega), rv_get zs h]
theorem rv_map {α : Type} (zs : List α) : (rv zs).map (·.1) = zs.reverse := by
  simp [rv, List.map_reverse]

abbrev FitI := { x : Int // Fit x }

set_option maxRecDepth 100000 in
set_option maxHeartbeats 2000000 in
theorem back60_in (F : Fence) (n : Nat) (h60 : F.fn 60) (hro : F.round = none) (hn : 1 ≤ n) (l Bs n₀ : Nat) (A : Option Addr) (cap : Nat) (zs : List FitI) (hlen : zs.length ≤ 65536) (J Jx : List (FitI × Nat) → World → Prop)
    (hY : ∀ pre x W, J pre W → pre.length < zs.length → YieldAt F (n - 1) Tryz.prog l #[.int .i64 (x.2 : Int), .int .i64 x.1.1] W fun e W' =>
      (e = .returned (.bool true) ∧ J (pre ++ [x]) W' ∧ Below n₀ W W') ∨ (e = .returned (.bool false) ∧ Jx (pre ++ [x]) W'))
    (W : World) (hBs : W.cell? ⟨Bs, 0, none⟩ = some (.slice A zs.length cap)) (hB : Bs < n₀) (hc : Rd encI 1 W n₀ A zs.length (zs.map (·.1))) (h0 : J [] W) :
    CallsIn F n Tryz.prog 60 #[.func (.yield l) #[] #[], .pointer (some ⟨Bs, 0, none⟩)] W fun e W' => (∃ v, e = .returned v) ∧
      ((∃ ys, ys = rv zs ∧ J ys W') ∨ (∃ pre, pre <+: rv zs ∧ Jx pre W')) := by
  have e0 : IntKind.i64.wrap ((zs.length : Int) - 1) = (zs.length : Int) - 1 := IntWalk.i64_in _ (by omega)
  refine callsIn_of_wp Tryz.func60 rfl h60 ?_ hro
  simp only [Tryz.ntmps60, List.size_toArray, List.length_cons, List.length_nil, Nat.reduceAdd, Nat.reduceSub, Array.replicate_succ, Array.replicate_zero, List.push_toArray, List.append_toArray, List.nil_append, List.cons_append]
  gi_wp2
  clear e0
  gi_loopw [3] (fun i wr => ∃ k : Nat, k ≤ zs.length ∧ i = .int .i64 ((k : Int) - 1) ∧ J ((rv zs).take (zs.length - k)) wr ∧ Below n₀ W wr)
    (fun i _ => (intOf i + 1).toNat)
  case atStart => exact ⟨zs.length, Nat.le_refl _, by go_num, by simpa using h0, Below.refl _ _⟩
  case round =>
    obtain ⟨k, hk, rfl, hJs, hnx⟩ := hrel
    have hb1 : wr.cell? ⟨Bs, 0, none⟩ = some (.slice A zs.length cap) := (hnx.cell (p := ⟨Bs, 0, none⟩) hB).trans hBs
    rcases k with _ | m
    · have em : ((0 : Nat) : Int) - 1 = -1 := by omega
      rw [em]
      gi_wp2
      go_end0
      exact ⟨⟨_, rfl⟩, .inl ⟨_, rfl, by rwa [Nat.sub_zero, List.take_of_length_le (by rw [rv_len]; omega)] at hJs⟩⟩
    · have em : ((m + 1 : Nat) : Int) - 1 = (m : Int) := by omega
      rw [em]
      have hlt : m < zs.length := by omega
      obtain ⟨b, off, rfl, hbl, hcc⟩ := rd_int (hc.below hnx) (i := m) (by simpa using hlt)
      rw [List.getElem_map] at hcc
      have hst := rv_step zs hlt
      have HSt := Lib.hid hst; clear hst
      obtain ⟨fn, tmps, assign, body, hy, hR⟩ := hY _ (zs[m], m) wr hJs (by rw [List.length_take, rv_len]; omega)
      dsimp only at hy
      have h1 : (m : Int) < (zs.length : Int) := by omega
      have e1 : IntKind.i64.wrap ((m : Int) - 1) = (m : Int) - 1 := IntWalk.i64_in _ (by omega)
      gi_wp2
      refine hR.mono ?_
      rintro e W3 (⟨rfl, hJ3, hk3⟩ | ⟨rfl, hJx3⟩)
      · gi_wp2
        go_roundw
        case rel => exact ⟨m, by omega, rfl, by rw [HSt.out]; exact hJ3, hnx.trans hk3⟩
        case measure => simp [intOf] <;> omega
      · gi_wp2
        refine bodyPost_ret (results_none rfl _ _ _) rfl ?_
        exact ⟨⟨_, rfl⟩, .inr ⟨_, by rw [← HSt.out]; exact List.take_prefix _ _, hJx3⟩⟩
end Go.Proofs.YtkjhacfmidmebaaGreat
