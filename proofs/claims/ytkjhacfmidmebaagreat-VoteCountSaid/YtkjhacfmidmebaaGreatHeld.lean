/- Maps: what a map of values holds, against a plain list; the course of a range over it. -/
import Derived.Test.YtkjhacfmidmebaaGreatSpot
import Derived.Maps.RangeWalk
namespace Go.Proofs.YtkjhacfmidmebaaGreat
open Go.RowKit

section
variable {α : Type}

/-- A map holds the list l: each under its key, nothing else. -/
structure Holds (D : DataW Value) (key : α → Lit) (val : α → Value) (l : List α) : Prop where
  only : ∀ kl, Maps.has D kl = true → ∃ v ∈ l, kl = key v
  all : ∀ v ∈ l, Maps.has D (key v) = true
  vals : ∀ v ∈ l, ∀ zd, D.atKey (key v) zd = .held (val v)

/-- A range under way: 'done' has been met; the rest is to come. -/
structure Course (left : Lit → Bool) (key : α → Lit) (l done : List α) : Prop where
  nodup : done.Nodup
  sub : ∀ v ∈ done, v ∈ l
  only : ∀ kl, left kl = true → ∃ v ∈ l, kl = key v
  all : ∀ v ∈ l, (left (key v) = true ↔ v ∉ done)

variable {D : DataW Value} {key : α → Lit} {val : α → Value} {l done : List α} {left : Lit → Bool}

theorem Course.start (h : Holds D key val l) : Course (Maps.has D) key l [] :=
  ⟨List.nodup_nil, by simp, h.only, fun v hv => by simp [h.all v hv]⟩

/-- One more. -/
theorem Course.more (h : Course left key l done) (hinj : ∀ a ∈ l, ∀ b ∈ l, key a = key b → a = b) (hsame : ∀ a b, Lit.sameKey (key a) (key b) = true ↔ key a = key b) {kl : Lit} (hk : left kl = true) :
    ∃ v ∈ l, kl = key v ∧ v ∉ done ∧ Course (fun z => left z && !z.sameKey kl) key l (done ++ [v]) := by
  obtain ⟨v, hv, rfl⟩ := h.only kl hk
  have hnd := (h.all v hv).1 hk
  refine ⟨v, hv, rfl, hnd, ⟨?_, ?_, ?_, ?_⟩⟩
  · rw [List.nodup_append]
    exact ⟨h.nodup, by simp, fun a ha b hb => by rw [List.mem_singleton.1 hb]; intro e; exact hnd (e ▸ ha)⟩
  · intro x hx
    rcases List.mem_append.1 hx with hx | hx
    · exact h.sub x hx
    · rw [List.mem_singleton.1 hx]; exact hv
  · intro kl hkl
    simp at hkl
    exact h.only kl hkl.1
  · intro x hx
    simp only [Bool.and_eq_true, Bool.not_eq_true', List.mem_append, List.mem_singleton, not_or]
    constructor
    · rintro ⟨h1, h2⟩
      refine ⟨(h.all x hx).1 h1, fun e => ?_⟩
      subst e
      rw [(hsame x x).2 rfl] at h2
      cases h2
    · rintro ⟨h1, h2⟩
      refine ⟨(h.all x hx).2 h1, ?_⟩
      cases hc : (key x).sameKey (key v)
      · rfl
      · exact absurd (hinj x hx v hv ((hsame x v).1 hc)) h2

/-- At the end all have been met. -/
theorem Course.done_perm [DecidableEq α] (h : Course left key l done) (hl : l.Nodup) (he : ∀ kl, left kl = false) : done.Perm l := by
  rw [List.perm_ext_iff_of_nodup h.nodup hl]
  intro x
  refine ⟨h.sub x, fun hx => ?_⟩
  have := h.all x hx
  rw [he] at this
  simpa using this
end

end Go.Proofs.YtkjhacfmidmebaaGreat
