/- Maps: a spot is a key; an int is a key; what a map holds is told value by value. -/
import Derived.Test.YtkjhacfmidmebaaGreatSeated
import Derived.DeepKeys5
import Derived.Maps.OwnSet
namespace Go.Proofs.YtkjhacfmidmebaaGreat
open Go.RowKit
open Go.Maps (Keyed)

theorem Tryz.laidOut : laidOutB Tryz.prog = true := by kernel_rfl
theorem Tryz.row61 : (61 : TypeId) < Tryz.prog.types.size := of_decide_eq_true (by kernel_rfl)
theorem Tryz.cells61 : Tryz.prog.cellsOf 61 = 3 := by kernel_rfl
theorem Tryz.wide61 : (match Tryz.prog.underlying 61 with | some (.array _ _) | some (.struct _) => true | _ => false) = true := by kernel_rfl
set_option maxRecDepth 100000 in
theorem Tryz.law61 : WideMaps.KeyLaw Tryz.prog 61 := deep_law_laid Tryz.laidOut (m := 2) (by omega) Tryz.row61 (by kernel_rfl) Tryz.wide61
theorem Tryz.keyed61 : Keyed Tryz.prog 61 := Keyed.of_law Tryz.law61
theorem Tryz.keyed3 : Keyed Tryz.prog 3 := Maps.int_keyed Tryz.underlying3
theorem Tryz.keyType61 : Tryz.prog.keyType 61 = true := by kernel_rfl

theorem Tryz.size155 : Tryz.prog.types.size = 155 := by kernel_rfl
def spotV (h r s : Int) : Value := .agg #[.int .i64 h, .int .i64 r, .int .i64 s]
theorem keyLits_int {P : Program} {t : TypeId} {d : Nat} {q : IntKind} {n : Int} (ht : P.underlying t = some (.int q)) (hw : (Lit.int q n).wf = true) : P.keyLits (d + 1) t [.int q n] = some [.int q n] := by
  unfold Program.keyLits
  simp [ht, hw]
theorem Tryz.cells3 : Tryz.prog.cellsOf 3 = 1 := by kernel_rfl
def spotL (h r s : Int) : Lit := .string (keyBytes [.int .i64 h, .int .i64 r, .int .i64 s])
set_option maxRecDepth 100000 in
theorem spot_key {h r s : Int} (hh : Fit h) (hr : Fit r) (hs : Fit s) : keyOf Tryz.prog 61 (spotV h r s) = some (spotL h r s) := by
  have hf : (spotV h r s).formed Tryz.prog 61 = true := by simp [spotV, Value.formed, Tryz.underlying61, Tryz.cells61]
  unfold Fit at hh hr hs
  have hc : (spotV h r s).cells.toList = [.int .i64 h, .int .i64 r, .int .i64 s] := rfl
  simp only [keyOf, Tryz.underlying61, Tryz.keyType61, hf, Bool.and_self, if_true]
  unfold Program.keyLits
  simp only [Tryz.underlying61]
  rw [if_pos ⟨by rw [hc, Tryz.cells61]; rfl, by simp⟩, hc, Tryz.size155]
  simp [Tryz.cells3, keyLits_int Tryz.underlying3 hh, keyLits_int Tryz.underlying3 hr, keyLits_int Tryz.underlying3 hs, spotL]

theorem keyLits_int_inv {P : Program} {t : TypeId} {d : Nat} {q : IntKind} {x : Value} {ls : List Lit} (ht : P.underlying t = some (.int q)) (h : P.keyLits (d + 1) t [x] = some ls) : ∃ n, x = .int q n ∧ (Lit.int q n).wf = true ∧ ls = [.int q n] := by
  unfold Program.keyLits at h
  cases x <;> simp [ht] at h
  obtain ⟨⟨rfl, hw⟩, rfl⟩ := h
  exact ⟨_, rfl, hw, rfl⟩

set_option maxRecDepth 100000 in
/-- What reads as a spot's key is a spot. -/
theorem spot_inv {v : Value} {kl : Lit} (h : keyOf Tryz.prog 61 v = some kl) : ∃ a b c, v = spotV a b c ∧ Fit a ∧ Fit b ∧ Fit c ∧ kl = spotL a b c := by
  simp only [keyOf, Tryz.underlying61, Tryz.keyType61, Bool.true_and] at h
  split at h
  · rename_i hf
    cases v with
    | agg cs =>
      have h3 : cs.size = 3 := by simpa [Value.formed, Tryz.underlying61, Tryz.cells61] using hf
      obtain ⟨x, y, z, rfl⟩ : ∃ x y z, cs = #[x, y, z] := by
        rcases cs with ⟨l⟩
        match l, h3 with
        | [x, y, z], _ => exact ⟨x, y, z, rfl⟩
      have hc : (Value.agg #[x, y, z]).cells.toList = [x, y, z] := rfl
      unfold Program.keyLits at h
      simp only [Tryz.underlying61] at h
      rw [if_pos ⟨by rw [hc, Tryz.cells61]; rfl, by simp⟩, hc, Tryz.size155] at h
      simp [Tryz.cells3] at h
      rcases hx : Tryz.prog.keyLits 155 3 [x] with _ | lx
      · rw [hx] at h; simp at h
      rcases hy : Tryz.prog.keyLits 155 3 [y] with _ | ly
      · rw [hx, hy] at h; simp at h
      rcases hz : Tryz.prog.keyLits 155 3 [z] with _ | lz
      · rw [hx, hy, hz] at h; simp at h
      obtain ⟨a, rfl, ha, rfl⟩ := keyLits_int_inv Tryz.underlying3 hx
      obtain ⟨b, rfl, hb, rfl⟩ := keyLits_int_inv Tryz.underlying3 hy
      obtain ⟨c, rfl, hcc, rfl⟩ := keyLits_int_inv Tryz.underlying3 hz
      rw [hx, hy, hz] at h
      simp at h
      exact ⟨a, b, c, rfl, ha, hb, hcc, h.symm⟩
    | _ => simp [Value.formed, Tryz.underlying61] at hf
  · cases h

theorem spot_inj {a b c a' b' c' : Int} (ha : Fit a) (hb : Fit b) (hc : Fit c) (ha' : Fit a') (hb' : Fit b') (hc' : Fit c') (h : spotL a b c = spotL a' b' c') : a = a' ∧ b = b' ∧ c = c' := by
  have h1 := spot_key ha hb hc
  have h2 := spot_key ha' hb' hc'
  rw [← h] at h2
  have h3 := Tryz.law61.inj h1 h2
  injection h3 with h3
  injection h3 with h3
  injection h3 with e1 h3
  injection h3 with e2 h3
  injection h3 with e3 h3
  injection e1 with _ e1
  injection e2 with _ e2
  injection e3 with _ e3
  exact ⟨e1, e2, e3⟩

/-- What a map holds, told value by value. -/
def R0 (v : Value) : Option (DataW Value × List MemPlace) := some (.held v, [])
theorem R0_inv {v : Value} {y : DataW Value × List MemPlace} (h : R0 v = some y) : y.1 = .held v := by
  unfold R0 at h
  injection h with h
  rw [← h]

theorem Tryz.zeroM (w : World) : (zeroValue 63).run Tryz.prog w = .ok (.map none) w := by kernel_rfl
def zeroVal : Value := .agg #[.int .i64 0, .int .i64 0, .int .i64 0, .bool false, .int .u64 0, .int .i64 0]
theorem Tryz.zeroVt (w : World) : (zeroValue 34).run Tryz.prog w = .ok zeroVal w := by kernel_rfl
theorem Tryz.mapOuter : Tryz.prog.underlying 54 = some (.map 61 63) := by kernel_rfl
theorem Tryz.mapInner : Tryz.prog.underlying 63 = some (.map 3 34) := by kernel_rfl

end Go.Proofs.YtkjhacfmidmebaaGreat
