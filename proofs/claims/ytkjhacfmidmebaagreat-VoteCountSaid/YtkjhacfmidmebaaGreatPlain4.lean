/- Plain: Ahead, voter by voter from the end. -/
import Derived.Test.YtkjhacfmidmebaaGreatPlain3
import Derived.Test.YtkjhacfmidmebaaGreatAheadR
namespace Go.Proofs.YtkjhacfmidmebaaGreat

def progA (S : List Seat) (round : Int) : List Int → List V → Int
  | _, [] => round
  | acc, v :: t => if round < v.r then (if moreS S (acc ++ [v.fr]) then v.r else progA S round (acc ++ [v.fr]) t) else round

theorem weight_mono (m1 m2 : List Int) (hd : ∀ x, inL x m1 = true → inL x m2 = true) : ∀ {l : List Seat}, (∀ s ∈ l, 1 ≤ s.2 ∧ s.2 ≤ 40) → weightS l m1 ≤ weightS l m2
  | [], _ => by simp [weightS]
  | s :: r, h => by
    have h1 := h s (by simp)
    have h2 := weight_mono m1 m2 hd (l := r) (fun x hx => h x (by simp [hx]))
    simp only [weightS, List.map_cons, List.sum_cons] at *
    by_cases a : inL s.1 m1 = true
    · rw [if_pos a, if_pos (hd _ a)]; omega
    · rw [if_neg a]
      split <;> omega
theorem more_mono {S : List Seat} (hS : Bench S) {m1 m2 : List Int} (hd : ∀ x ∈ m1, x ∈ m2) (h : moreS S m1 = true) : moreS S m2 = true := by
  have := weight_mono m1 m2 (fun x hx => by
    unfold inL at hx ⊢
    obtain ⟨y, hy, e⟩ := List.any_eq_true.1 hx
    exact List.any_eq_true.2 ⟨y, hd y hy, e⟩) (l := S) hS.2
  simp only [moreS, decide_eq_true_eq] at h ⊢
  omega

theorem since_mem {R x : Int} {L : List V} : x ∈ sinceFr R L ↔ ∃ v ∈ L, R ≤ v.r ∧ v.fr = x := by
  unfold sinceFr
  rw [List.mem_map]
  constructor
  · rintro ⟨v, hv, rfl⟩
    rw [List.mem_filter] at hv
    exact ⟨v, hv.1, by simpa [since] using hv.2, rfl⟩
  · rintro ⟨v, hv, h, rfl⟩
    exact ⟨v, List.mem_filter.2 ⟨hv, by simpa [since] using h⟩, rfl⟩

/-- in the round that suffices. -/
theorem prog_in {S : List Seat} (hS : Bench S) {L : List V} {round R : Int} (hR : round < R) (hm : moreS S (sinceFr R L) = true) : ∀ (t pre : List V), (∀ x, x ∈ L ↔ x ∈ pre ∨ x ∈ t) → t.Pairwise (fun a b => b.r ≤ a.r) → (∀ x ∈ t, x.r ≤ R) →
    moreS S (pre.map (·.fr)) = false → progA S round (pre.map (·.fr)) t = R
  | [], pre, hL, _, _, hn => by
    have := more_mono hS (m2 := pre.map (·.fr)) (fun x hx => by
      obtain ⟨v, hv, _, rfl⟩ := since_mem.1 hx
      rcases (hL v).1 hv with h | h
      · exact List.mem_map.2 ⟨v, h, rfl⟩
      · cases h) hm
    rw [this] at hn; cases hn
  | u :: t, pre, hL, hs, hle, hn => by
    obtain ⟨h1, h2⟩ := List.pairwise_cons.1 hs
    have hu := hle u (by simp)
    by_cases e : u.r = R
    · unfold progA
      rw [if_pos (by omega)]
      split
      · exact e
      · rename_i hf
        have := prog_in hS hR hm t (pre ++ [u]) (fun x => by rw [hL, List.mem_append, List.mem_singleton, List.mem_cons, or_assoc]) h2 (fun x hx => hle x (by simp [hx])) (by simpa using hf)
        simpa using this
    · exfalso
      have := more_mono hS (m2 := pre.map (·.fr)) (fun x hx => by
        obtain ⟨v, hv, hr, rfl⟩ := since_mem.1 hx
        rcases (hL v).1 hv with h | h
        · exact List.mem_map.2 ⟨v, h, rfl⟩
        · exfalso
          rcases List.mem_cons.1 h with rfl | h
          · omega
          · have := h1 v h; omega) hm
      rw [this] at hn; cases hn

theorem prog_ahead {S : List Seat} (hS : Bench S) {L : List V} {round : Int} : ∀ (t pre : List V), (∀ x, x ∈ L ↔ x ∈ pre ∨ x ∈ t) → t.Pairwise (fun a b => b.r ≤ a.r) → (∀ x ∈ pre, ∀ y ∈ t, y.r ≤ x.r) →
    progA S round (pre.map (·.fr)) t = aheadL S L round t
  | [], _, _, _, _ => rfl
  | v :: t, pre, hL, hs, hpre => by
    obtain ⟨h1, h2⟩ := List.pairwise_cons.1 hs
    unfold progA aheadL
    by_cases hv : round < v.r
    · rw [if_pos hv, if_pos hv]
      have hL' : ∀ x, x ∈ L ↔ x ∈ pre ++ [v] ∨ x ∈ t := fun x => by rw [hL, List.mem_append, List.mem_singleton, List.mem_cons, or_assoc]
      have hpre' : ∀ x ∈ pre ++ [v], ∀ y ∈ t, y.r ≤ x.r := fun x hx y hy => by
        rcases List.mem_append.1 hx with hx | hx
        · exact hpre x hx y (by simp [hy])
        · rw [List.mem_singleton.1 hx]; exact h1 y hy
      have hsub : ∀ x ∈ (pre ++ [v]).map (·.fr), x ∈ sinceFr v.r L := fun x hx => by
        obtain ⟨u, hu, rfl⟩ := List.mem_map.1 hx
        refine since_mem.2 ⟨u, (hL' u).2 (.inl hu), ?_, rfl⟩
        rcases List.mem_append.1 hu with hu | hu
        · exact hpre u hu v (by simp)
        · rw [List.mem_singleton.1 hu]; omega
      have ea : pre.map (·.fr) ++ [v.fr] = (pre ++ [v]).map (·.fr) := by simp
      rw [ea]
      by_cases hm : moreS S (sinceFr v.r L) = true
      · rw [if_pos hm]
        by_cases ha : moreS S ((pre ++ [v]).map (·.fr)) = true
        · rw [if_pos ha]
        · rw [if_neg ha]
          exact prog_in hS hv hm t (pre ++ [v]) hL' h2 h1 (by simpa using ha)
      · have ha : ¬ moreS S ((pre ++ [v]).map (·.fr)) = true := fun ha => hm (more_mono hS hsub ha)
        rw [if_neg hm, if_neg ha]
        exact prog_ahead hS t (pre ++ [v]) hL' h2 hpre'
    · rw [if_neg hv, if_neg hv]

theorem ahead_eq {S : List Seat} {H : Int} {L : List V} (hS : Bench S) (hG : Good S H L) (round : Int) : aheadO S L round = progA S round [] L.reverse := by
  unfold aheadO
  exact (prog_ahead hS L.reverse [] (fun x => by simp) (by rw [List.pairwise_reverse]; exact srt_le hG.srt) (by simp)).symm
end Go.Proofs.YtkjhacfmidmebaaGreat
