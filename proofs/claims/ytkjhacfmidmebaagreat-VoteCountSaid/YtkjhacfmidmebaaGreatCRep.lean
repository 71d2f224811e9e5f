/- The program's count in memory. -/
import Derived.Test.YtkjhacfmidmebaaGreatHeld
import Derived.Test.YtkjhacfmidmebaaGreatCount1
namespace Go.Proofs.YtkjhacfmidmebaaGreat
open Go.RowKit

def vagg (v : V) : Value := .agg #[.int .i64 v.h, .int .i64 v.r, .int .i64 v.s, .bool v.has, .int .u64 v.blk, .int .i64 v.fr]
def fitV (v : V) : Prop := Fit v.h ∧ Fit v.r ∧ Fit v.s ∧ Fit v.fr
/-- a spot with its votes' block. -/
abbrev Sp := Int × Int × Nat
def spKey (H : Int) (o : Sp) : Lit := spotL H o.1 o.2.1
def spVal (o : Sp) : Value := .map (some o.2.2)
def frKey (v : V) : Lit := .int .i64 v.fr

theorem spKey_lit (H : Int) (o : Sp) : WideAt.IsKeyLit (spKey H o) := by simp [spKey, spotL, WideAt.IsKeyLit]
theorem frKey_lit (v : V) : WideAt.IsKeyLit (frKey v) := by simp [frKey, WideAt.IsKeyLit]

section
variable {α : Type} {D : DataW Value} {key : α → Lit} {val : α → Value} {l : List α}
theorem Holds.put (h : Holds D key val l) (hD : Maps.IsMap D) (v : α) (hk : WideAt.IsKeyLit (key v)) (hv : ∀ u ∈ l, key u ≠ key v) : Holds (D.put (key v) (.held (val v))) key val (l ++ [v]) := by
  refine ⟨fun kl hkl => ?_, fun u hu => ?_, fun u hu zd => ?_⟩
  · by_cases e : kl = key v
    · exact ⟨v, by simp, e⟩
    · rw [Maps.has_put_other e] at hkl
      obtain ⟨u, hu, hk⟩ := h.only kl hkl
      exact ⟨u, by simp [hu], hk⟩
  · rcases List.mem_append.1 hu with hu | hu
    · rw [Maps.has_put_other (hv u hu)]; exact h.all u hu
    · rw [List.mem_singleton.1 hu]; exact Maps.has_put_same hD hk _
  · rcases List.mem_append.1 hu with hu | hu
    · rw [Maps.atKey_put_other (hv u hu)]; exact h.vals u hu zd
    · rw [List.mem_singleton.1 hu]; exact Maps.atKey_put_same hD hk _ _
theorem Holds.perm {l' : List α} (h : Holds D key val l) (hp : l.Perm l') : Holds D key val l' :=
  ⟨fun kl hkl => by obtain ⟨v, hv, e⟩ := h.only kl hkl; exact ⟨v, hp.mem_iff.1 hv, e⟩, fun v hv => h.all v (hp.mem_iff.2 hv), fun v hv => h.vals v (hp.mem_iff.2 hv)⟩
end

/-- The votes of one spot, in a map of their own. -/
def InnerIs (w : World) (b : Nat) (l : List V) : Prop := ∃ n D, w.ownsMap Tryz.prog 3 R0 b n D ∧ n ≤ l.length ∧ Holds D frKey vagg l

theorem InnerIs.kept {w w' : World} {b : Nat} {l : List V} {row : Option Nat} (h : InnerIs w b l) (hg : w.grownBy w' row) (hne : some b ≠ row) : InnerIs w' b l := by
  obtain ⟨n, D, h1, h2, h3⟩ := h
  exact ⟨n, D, h1.kept hg hne, h2, h3⟩
theorem InnerIs.lt {w : World} {b : Nat} {l : List V} (h : InnerIs w b l) : b < w.heap.size := by
  obtain ⟨n, D, h1, _⟩ := h
  exact h1.lt

/-- The spots' map. -/
structure Spots (w : World) (M : Nat) (H : Int) (L : List V) (O : List Sp) : Prop where
  map : ∃ n D, w.ownsMap Tryz.prog 61 R0 M n D ∧ n ≤ O.length ∧ Holds D (spKey H) spVal O
  spots : (O.map (fun o => (o.1, o.2.1))).Nodup
  blocks : (O.map (fun o => o.2.2)).Nodup
  apart : ∀ o ∈ O, o.2.2 ≠ M
  fit : ∀ o ∈ O, Fit o.1 ∧ Fit o.2.1
  inner : ∀ o ∈ O, L.filter (isAt o.1 o.2.1) ≠ [] ∧ InnerIs w o.2.2 (L.filter (isAt o.1 o.2.1))
  all : ∀ v ∈ L, ∃ o ∈ O, o.1 = v.r ∧ o.2.1 = v.s

def CRep (w : World) (C : Nat) (S : List Seat) (H : Int) (L : List V) : Prop :=
  ∃ (As : Option Addr) (ns cs M : Nat) (O : List Sp), Blk w C 56 #[.slice As ns cs, .int .i64 H, .map (some M)] ∧ Rd encS 2 w w.heap.size As ns S ∧ Spots w M H L O

theorem below_grown {B : Nat} {w w' : World} (h : Below w.heap.size w w') : w.grownBy w' none := ⟨h.os, h.tape, h.output, h.size, fun k hk _ => h.block k hk⟩

theorem Spots.below {w w' : World} {M : Nat} {H : Int} {L : List V} {O : List Sp} (h : Spots w M H L O) (hb : Below w.heap.size w w') : Spots w' M H L O :=
  ⟨by
    obtain ⟨n, D, h1, h2, h3⟩ := h.map
    exact ⟨n, D, h1.kept (below_grown (B := 0) hb) (by simp), h2, h3⟩, h.spots, h.blocks, h.apart, h.fit,
   fun o ho => ⟨(h.inner o ho).1, (h.inner o ho).2.kept (below_grown (B := 0) hb) (by simp)⟩, h.all⟩

theorem CRep.below {w w' : World} {C : Nat} {S : List Seat} {H : Int} {L : List V} (h : CRep w C S H L) (hb : Below w.heap.size w w') : CRep w' C S H L := by
  obtain ⟨As, ns, cs, M, O, h1, h2, h3⟩ := h
  exact ⟨As, ns, cs, M, O, h1.below hb h1.lt, (h2.below hb).more hb.size, h3.below hb⟩

end Go.Proofs.YtkjhacfmidmebaaGreat
