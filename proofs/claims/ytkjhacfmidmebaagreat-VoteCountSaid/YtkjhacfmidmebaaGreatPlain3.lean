/- Plain: Closed and Best over the rounds. -/
import Derived.Test.YtkjhacfmidmebaaGreatPlain2
import Derived.Test.YtkjhacfmidmebaaGreatRounds
import Derived.Test.YtkjhacfmidmebaaGreatCount3
namespace Go.Proofs.YtkjhacfmidmebaaGreat

theorem first_same {β : Type} {le : Int → Int → Prop} (anti : ∀ a b, le a b → le b a → a = b) {f : V → Option β} {g : Int → Option β} {L : List V} {R : List Int}
    (hL : L.Pairwise fun a b => le a.r b.r) (hR : R.Pairwise fun a b => le a b ∧ a ≠ b) (h1 : ∀ v ∈ L, f v ≠ none → v.r ∈ R ∧ f v = g v.r) (h2 : ∀ r ∈ R, g r ≠ none → ∃ v ∈ L, v.r = r ∧ f v = g r) :
    L.findSome? f = R.findSome? g := by
  rcases hf : L.findSome? f with _ | b
  · symm
    rw [List.findSome?_eq_none_iff] at hf ⊢
    intro r hr
    by_cases e : g r = none
    · exact e
    · obtain ⟨v, hv, _, e2⟩ := h2 r hr e
      rw [← e2]
      exact hf v hv
  · symm
    obtain ⟨l1, v, l2, rfl, hv, hn⟩ := List.findSome?_eq_some_iff.1 hf
    obtain ⟨hvR, hvg⟩ := h1 v (by simp) (by rw [hv]; simp)
    obtain ⟨r1, r2, rfl⟩ := List.append_of_mem hvR
    refine List.findSome?_eq_some_iff.2 ⟨r1, v.r, r2, rfl, by rw [← hvg]; exact hv, fun x hx => ?_⟩
    by_cases e : g x = none
    · exact e
    · exfalso
      obtain ⟨u, hu, e1, e2⟩ := h2 x (by simp [hx]) e
      have h3 := (List.pairwise_append.1 hR).2.2 x hx v.r (by simp)
      have h4 := (List.pairwise_append.1 hL).2.1
      rcases List.mem_append.1 hu with hu | hu
      · exact e (by rw [← e2]; exact hn u hu)
      · rcases List.mem_cons.1 hu with hu | hu
        · subst hu; exact h3.2 e1.symm
        · have h5 := (List.pairwise_cons.1 h4).1 u hu
          rw [e1] at h5
          exact h3.2 (anti _ _ h3.1 h5)

theorem srt_le {L : List V} (h : Srt L) : L.Pairwise fun a b => a.r ≤ b.r := h.imp fun {a b} hab => by rw [ahead_iff] at hab; omega

theorem closed_eq {S : List Seat} {H : Int} {L : List V} {R : List Int} (hG : Good S H L) (hR : IsRounds 2 L R) : closedO S L = R.findSome? (fun r => goodO S L r 2) := by
  refine first_same (le := fun a b => a ≤ b) (fun a b h1 h2 => by omega) (srt_le hG.srt) (hR.1.imp fun {a b} h => ⟨by omega, by omega⟩) ?_ ?_
  · intro v hv hne
    unfold closedF at hne ⊢
    by_cases e : v.s = 2
    · rw [if_pos e]; exact ⟨(hR.2 v.r).2 ⟨v, hv, e, rfl⟩, rfl⟩
    · rw [if_neg e] at hne; exact absurd rfl hne
  · intro r hr _
    obtain ⟨v, hv, h1, h2⟩ := (hR.2 r).1 hr
    exact ⟨v, hv, h2, by unfold closedF; rw [if_pos h1, h2]⟩

def upTo (S : List Seat) (L : List V) (round r : Int) : Option Dec := if r ≤ round then goodO S L r 1 else none
theorem best_eq {S : List Seat} {H : Int} {L : List V} {R : List Int} (hG : Good S H L) (hR : IsRounds 1 L R) (round : Int) : bestO S L round = R.reverse.findSome? (upTo S L round) := by
  refine first_same (le := fun a b => b ≤ a) (fun a b h1 h2 => by omega) ?_ ?_ ?_ ?_
  · rw [List.pairwise_reverse]; exact srt_le hG.srt
  · rw [List.pairwise_reverse]; exact hR.1.imp fun {a b} h => ⟨by omega, by omega⟩
  · intro v hv hne
    rw [List.mem_reverse] at hv
    unfold bestF at hne ⊢
    by_cases e : v.s = 1 ∧ v.r ≤ round
    · rw [if_pos e]; exact ⟨List.mem_reverse.2 ((hR.2 v.r).2 ⟨v, hv, e.1, rfl⟩), by unfold upTo; rw [if_pos e.2]⟩
    · rw [if_neg e] at hne; exact absurd rfl hne
  · intro r hr hne
    rw [List.mem_reverse] at hr
    obtain ⟨v, hv, h1, h2⟩ := (hR.2 r).1 hr
    refine ⟨v, List.mem_reverse.2 hv, h2, ?_⟩
    unfold upTo at hne ⊢
    unfold bestF
    by_cases e : r ≤ round
    · rw [if_pos ⟨h1, by omega⟩, if_pos e, h2]
    · rw [if_neg e] at hne; exact absurd rfl hne

/-- What PutVote lets by are numbers of 64 bits. -/
theorem good_fit {S : List Seat} {H : Int} {L : List V} (hG : Good S H L) {v : V} (hv : v ∈ L) : Fit v.r ∧ Fit v.s ∧ Fit v.fr ∧ 0 ≤ v.r ∧ v.r ≤ 1099511627775 := by
  have h := (hG.ok v hv).1
  unfold errV at h
  split at h
  · cases h
  · rename_i hf
    simp only [farV, Bool.or_eq_true, not_or, Bool.not_eq_true] at hf
    have h1 := hf.1
    have h2 := hf.2
    simp [bad3, inN] at h1 h2
    unfold Fit
    simp [Lit.wf, IntKind.min, IntKind.max, IntKind.signed, IntKind.bits]
    omega
end Go.Proofs.YtkjhacfmidmebaaGreat
