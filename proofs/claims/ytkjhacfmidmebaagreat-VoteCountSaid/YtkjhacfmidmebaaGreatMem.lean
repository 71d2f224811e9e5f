/- What a slice holds, what a map block holds: words for memory, and the laws on maps that this proof uses. No premise of its own. -/
import Derived.Test.YtkjhacfmidmebaaGreatProg
import Derived.WalkKit
import Derived.LoopTactic
import Derived.Lib.Hide
import Derived.BigQuiet
import Derived.Deep.QuietTactic
import Derived.Outline
import Derived.Maps.AppendAt
import Derived.Maps.RangeWalk
import Derived.Deep.RegionWith
import Derived.Deep.RegionHeld3
import Derived.Deep.DeepCutAuto
import Derived.Deep.Draws
namespace Go.Proofs.YtkjhacfmidmebaaGreat
open Go.RowKit

/-- A seat: who, weight. -/
abbrev Seat := Int × Int

/-- A vote. -/
structure V where
  h : Int
  r : Int
  s : Int
  has : Bool
  blk : Int
  fr : Int
  deriving DecidableEq

def encI (n : Int) : List Value := [.int .i64 n]
def encS (s : Seat) : List Value := [.int .i64 s.1, .int .i64 s.2]
def encV (v : V) : List Value := [.int .i64 v.h, .int .i64 v.r, .int .i64 v.s, .bool v.has, .int .u64 v.blk, .int .i64 v.fr]

/-- The slice value '.slice A n c' holds the list l, k cells an element, below block B. -/
def Rd {α : Type} (enc : α → List Value) (k : Nat) (w : World) (B : Nat) (A : Option Addr) (n : Nat) (l : List α) : Prop :=
  l.length = n ∧ ∀ i x, l[i]? = some x → ∃ b off, A = some ⟨b, off, none⟩ ∧ b < B ∧ ∀ j u, (enc x)[j]? = some u → w.cell? ⟨b, off + i * k + j, none⟩ = some u

section
variable {α : Type} {enc : α → List Value} {k : Nat} {w w' : World} {B B' n : Nat} {A : Option Addr} {l : List α}

theorem Rd.keep (h : Rd enc k w B A n l) (hk : ∀ p : Addr, p.block < B → w'.cell? p = w.cell? p) : Rd enc k w' B A n l :=
  ⟨h.1, fun i x hx => by
    obtain ⟨b, off, hA, hb, hc⟩ := h.2 i x hx
    exact ⟨b, off, hA, hb, fun j u hu => (hk _ hb).trans (hc j u hu)⟩⟩
theorem Rd.more (h : Rd enc k w B A n l) (hB : B ≤ B') : Rd enc k w B' A n l :=
  ⟨h.1, fun i x hx => by
    obtain ⟨b, off, hA, hb, hc⟩ := h.2 i x hx
    exact ⟨b, off, hA, by omega, hc⟩⟩
theorem Rd.below (h : Rd enc k w B A n l) (hb : Below B w w') : Rd enc k w' B A n l := h.keep fun _ hp => hb.cell hp
theorem Rd.nil (w : World) (B : Nat) (A : Option Addr) : Rd enc k w B A 0 [] := ⟨rfl, fun i x hx => by simp at hx⟩

theorem rd_seat {A : Option Addr} {l : List Seat} (h : Rd encS 2 w B A n l) {i : Nat} (hi : i < l.length) :
    ∃ b off, A = some ⟨b, off, none⟩ ∧ b < B ∧ w.cell? ⟨b, off + i * 2, none⟩ = some (.int .i64 (l[i]).1) ∧ w.cell? ⟨b, off + i * 2 + 1, none⟩ = some (.int .i64 (l[i]).2) := by
  obtain ⟨b, off, hA, hb, hc⟩ := h.2 i _ (List.getElem?_eq_getElem hi)
  exact ⟨b, off, hA, hb, hc 0 _ rfl, hc 1 _ rfl⟩
theorem rd_int {A : Option Addr} {l : List Int} (h : Rd encI 1 w B A n l) {i : Nat} (hi : i < l.length) :
    ∃ b off, A = some ⟨b, off, none⟩ ∧ b < B ∧ w.cell? ⟨b, off + i, none⟩ = some (.int .i64 (l[i])) := by
  obtain ⟨b, off, hA, hb, hc⟩ := h.2 i _ (List.getElem?_eq_getElem hi)
  have := hc 0 _ rfl
  simp at this
  exact ⟨b, off, hA, hb, this⟩
theorem rd_vote {A : Option Addr} {l : List V} (h : Rd encV 6 w B A n l) {i : Nat} (hi : i < l.length) :
    ∃ b off, A = some ⟨b, off, none⟩ ∧ b < B ∧ w.cell? ⟨b, off + i * 6, none⟩ = some (.int .i64 (l[i]).h) ∧ w.cell? ⟨b, off + i * 6 + 1, none⟩ = some (.int .i64 (l[i]).r) ∧ w.cell? ⟨b, off + i * 6 + 2, none⟩ = some (.int .i64 (l[i]).s) ∧
      w.cell? ⟨b, off + i * 6 + 3, none⟩ = some (.bool (l[i]).has) ∧ w.cell? ⟨b, off + i * 6 + 4, none⟩ = some (.int .u64 (l[i]).blk) ∧ w.cell? ⟨b, off + i * 6 + 5, none⟩ = some (.int .i64 (l[i]).fr) := by
  obtain ⟨b, off, hA, hb, hc⟩ := h.2 i _ (List.getElem?_eq_getElem hi)
  exact ⟨b, off, hA, hb, hc 0 _ rfl, hc 1 _ rfl, hc 2 _ rfl, hc 3 _ rfl, hc 4 _ rfl, hc 5 _ rfl⟩
end

/-- The two rules that a callee that makes memory alone leaves behind. -/
theorem bcell {W w1 : World} {B : Nat} (hb : Below B W w1) : (∀ b o, b < B → w1.cell? ⟨b, o, none⟩ = W.cell? ⟨b, o, none⟩) ∧ (∀ b o, b < B → w1.frozen? ⟨b, o, none⟩ = W.frozen? ⟨b, o, none⟩) :=
  ⟨fun b o h => hb.cell (p := ⟨b, o, none⟩) h, fun b o h => hb.frozen (p := ⟨b, o, none⟩) h⟩

theorem ret_int {k : IntKind} {a b : Int} (h : a = b) : Ending.returned (.int k a) = .returned (.int k b) := by rw [h]
theorem ret_bool {a b : Bool} (h : a = b) : Ending.returned (.bool a) = .returned (.bool b) := by rw [h]

theorem take_succ_of {α : Type} {l : List α} {k : Nat} (h : k < l.length) : l.take (k + 1) = l.take k ++ [l[k]] := by
  rw [List.take_succ_eq_append_getElem h]

end Go.Proofs.YtkjhacfmidmebaaGreat
