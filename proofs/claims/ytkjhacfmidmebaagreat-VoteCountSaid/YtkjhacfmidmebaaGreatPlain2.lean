/- Plain: a quorum is one alone; what Lead answers. -/
import Derived.Test.YtkjhacfmidmebaaGreatFroms2
import Derived.Test.YtkjhacfmidmebaaGreatCount2
namespace Go.Proofs.YtkjhacfmidmebaaGreat

theorem weight_disj (m1 m2 : List Int) (hd : ∀ x, inL x m1 = true → inL x m2 = true → False) : ∀ {l : List Seat}, (∀ s ∈ l, 1 ≤ s.2 ∧ s.2 ≤ 40) → weightS l m1 + weightS l m2 ≤ totalS l
  | [], _ => by simp [weightS, totalS]
  | s :: r, h => by
    have h1 := h s (by simp)
    have h2 := weight_disj m1 m2 hd (l := r) (fun x hx => h x (by simp [hx]))
    simp only [weightS, totalS, List.map_cons, List.sum_cons] at *
    by_cases a : inL s.1 m1 = true
    · have b : ¬ inL s.1 m2 = true := fun b => hd _ a b
      rw [if_pos a, if_neg b]; omega
    · rw [if_neg a]
      split <;> omega

theorem in_soFr {r s : Int} {has : Bool} {blk : Int} {L : List V} {x : Int} (h : inL x (soFr r s has blk L) = true) : ∃ v ∈ L, v.r = r ∧ v.s = s ∧ v.has = has ∧ v.blk = blk ∧ v.fr = x := by
  unfold inL at h
  obtain ⟨y, hy, e⟩ := List.any_eq_true.1 h
  unfold soFr at hy
  obtain ⟨v, hv, rfl⟩ := List.mem_map.1 hy
  rw [List.mem_filter] at hv
  simp only [isSo, Bool.and_eq_true, beq_iff_eq] at hv
  exact ⟨v, hv.1, hv.2.1.1.1, hv.2.1.1.2, hv.2.1.2, hv.2.2, by simpa using e⟩

theorem quorum_one {S : List Seat} {H : Int} {L : List V} (hS : Bench S) (hG : Good S H L) {r s : Int} {h1 h2 : Bool} {b1 b2 : Int} (q1 : quorumS S (soFr r s h1 b1 L) = true) (q2 : quorumS S (soFr r s h2 b2 L) = true) : h1 = h2 ∧ b1 = b2 := by
  by_cases e : h1 = h2 ∧ b1 = b2
  · exact e
  · exfalso
    have hd := weight_disj (soFr r s h1 b1 L) (soFr r s h2 b2 L) (fun x a b => by
      obtain ⟨u, hu, u1, u2, u3, u4, u5⟩ := in_soFr a
      obtain ⟨v, hv, v1, v2, v3, v4, v5⟩ := in_soFr b
      have := hG.inj hu hv ((same_iff _ _).2 ⟨by omega, by omega, by omega⟩)
      subst this
      exact e ⟨by rw [← u3, ← v3], by rw [← u4, ← v4]⟩) (l := S) hS.2
    have := hS.total
    simp only [quorumS, decide_eq_true_eq] at q1 q2
    omega

theorem lead_some {S : List Seat} {H : Int} {L : List V} (hS : Bench S) (hG : Good S H L) {r s : Int} (hst : s = 1 ∨ s = 2) {v : V} (hv : v ∈ L) (ha : isAt r s v = true) (hq : quorumS S (soFr r s v.has v.blk L) = true) :
    leadO S L r s = some (r, v.has, v.blk, soFr r s v.has v.blk L) := by
  unfold leadO
  rw [if_pos hst]
  rcases hf : L.find? (leadB S L r s) with _ | u
  · have := List.find?_eq_none.1 hf v hv
    simp [leadB, ha, hq] at this
  · have h1 := List.find?_some hf
    simp only [leadB, Bool.and_eq_true] at h1
    obtain ⟨e1, e2⟩ := quorum_one hS hG h1.2 hq
    simp [e1, e2]
theorem lead_none {S : List Seat} {L : List V} {r s : Int} (hn : ∀ v ∈ L, isAt r s v = true → quorumS S (soFr r s v.has v.blk L) = false) : leadO S L r s = none := by
  unfold leadO
  split
  · rw [List.find?_eq_none.2 (fun v hv => by
      by_cases ha : isAt r s v = true
      · simp [leadB, hn v hv ha]
      · simp [leadB, ha])]
    rfl
  · rfl
theorem lead_off {S : List Seat} {L : List V} {r s : Int} (h : ¬ (s = 1 ∨ s = 2)) : leadO S L r s = none := by unfold leadO; rw [if_neg h]
theorem soFr_eq (r s : Int) (v : V) (L : List V) : (L.filter (fun u => isAt r s u && soB v u)).map (·.fr) = soFr r s v.has v.blk L := by
  unfold soFr
  congr 2
  funext u
  simp [isAt, soB, isSo, Bool.and_assoc]
end Go.Proofs.YtkjhacfmidmebaaGreat
