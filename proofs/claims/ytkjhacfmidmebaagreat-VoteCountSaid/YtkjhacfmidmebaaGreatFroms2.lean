/- What the walks of froms lean on: plain lemmas, what an own row is apart from. -/
import Derived.Test.YtkjhacfmidmebaaGreatFroms
import Derived.Test.YtkjhacfmidmebaaGreatPlain1
import Derived.Test.YtkjhacfmidmebaaGreatSortI
import Derived.Laws.IdiomRangeMap
import Derived.StillTailTactics
namespace Go.Proofs.YtkjhacfmidmebaaGreat
open Go.RowKit

theorem own_ne_iter {w : World} {base : Nat} {e : TypeId} {size n : Nat} {v : Value} {xs : List Value} (h : w.ownsRow base e size v n xs) {r since c : Nat} {m : Option Nat} {seen : Array Nat} (hr : w.heap[r]? = some (.mapIter m since seen c)) : v.ownBlock ≠ some r := by
  rcases h.2 with ⟨rfl, _⟩ | ⟨g, cap, cur, rfl, _, hh, _⟩
  · simp [Value.ownBlock]
  · intro he
    have e1 : g = r := by simpa [Value.ownBlock] using he
    subst e1
    rw [hh] at hr
    cases hr
theorem own_ne_ranges {w : World} {base : Nat} {e : TypeId} {size n' : Nat} {v : Value} {xs : List Value} (h : w.ownsRow base e size v n' xs) {k b r n cnt : Nat} {D : DataW Value} {left : Lit → Bool} (hr : w.ranges Tryz.prog k R0 b r n D left cnt) : v.ownBlock ≠ some r := by
  obtain ⟨es, clock, since, seen, c0, _, _, _, _, hr, _⟩ := hr
  exact own_ne_iter h hr
theorem own_ne_rmap {w : World} {base : Nat} {e : TypeId} {size n' : Nat} {v : Value} {xs : List Value} (h : w.ownsRow base e size v n' xs) {k b r n cnt : Nat} {D : DataW Value} {left : Lit → Bool} (hr : w.ranges Tryz.prog k R0 b r n D left cnt) : v.ownBlock ≠ some b := by
  obtain ⟨es, clock, since, seen, c0, hb, _⟩ := hr
  rcases h.2 with ⟨rfl, _⟩ | ⟨g, cap, cur, rfl, _, hh, _⟩
  · simp [Value.ownBlock]
  · intro he
    have e1 : g = b := by simpa [Value.ownBlock] using he
    subst e1
    rw [hh] at hb
    cases hb
theorem size_le {w : World} {k b n : Nat} {D : DataW Value} (h : w.ownsMap Tryz.prog k R0 b n D) : Maps.size D ≤ n := by
  obtain ⟨es, clock, _, _, hs, rfl⟩ := h
  rw [Maps.size_eq, length_sorted]
  simpa using hs

def soB (v0 u : V) : Bool := u.has == v0.has && u.blk == v0.blk
/-- A slice of ints, the call's own. -/
def IntsAre (w : World) (l : List Int) (e : Ending) (w' : World) : Prop := (∃ A n c, e = .returned (.slice A n c) ∧ Own encI 1 3 w' w.heap.size A n c l) ∧ Below w.heap.size w w'

theorem filter_one {so : V → Bool} {v : V} (h : so v = true) : [v].filter so = [v] := by simp [h]
theorem filter_zero {so : V → Bool} {v : V} (h : so v = false) : [v].filter so = [] := by simp [h]

theorem at_inj {S : List Seat} {H : Int} {L : List V} (hG : Good S H L) {r s : Int} {a b : V} (ha : a ∈ L.filter (isAt r s)) (hb : b ∈ L.filter (isAt r s)) (e : a.fr = b.fr) : a = b := by
  rw [List.mem_filter] at ha hb
  simp only [isAt, Bool.and_eq_true, beq_iff_eq] at ha hb
  exact hG.inj ha.1 hb.1 ((same_iff _ _).2 ⟨by omega, by omega, e⟩)

theorem at_rising {S : List Seat} {H : Int} {L : List V} (hG : Good S H L) (r s : Int) (so : V → Bool) : ((L.filter (fun v => isAt r s v && so v)).map (·.fr)).Pairwise (· < ·) := by
  rw [List.pairwise_map]
  have h1 : (L.filter (fun v => isAt r s v && so v)).Pairwise fun a b => aheadV a b = true := hG.srt.filter _
  refine h1.imp_of_mem fun {a b} ha hb hab => ?_
  rw [List.mem_filter] at ha hb
  simp only [isAt, Bool.and_eq_true, beq_iff_eq] at ha hb
  rw [ahead_iff] at hab
  omega

theorem froms_eq {S : List Seat} {H : Int} {L : List V} (hG : Good S H L) {r s : Int} (so : V → Bool) {done : List V} (hp : done.Perm (L.filter (isAt r s))) : sortL ((done.filter so).map (·.fr)) = (L.filter (fun v => isAt r s v && so v)).map (·.fr) := by
  refine sortL_eq ?_ (at_rising hG r s so)
  have := (hp.filter so).map (·.fr)
  rw [List.filter_filter] at this
  have e : (fun a => so a && isAt r s a) = fun v => isAt r s v && so v := by funext a; rw [Bool.and_comm]
  rwa [e] at this
end Go.Proofs.YtkjhacfmidmebaaGreat
