/- Plain: the votes in their order; what stands at a place; one more vote. -/
import Derived.Test.YtkjhacfmidmebaaGreatCount1
namespace Go.Proofs.YtkjhacfmidmebaaGreat

theorem ahead_iff (a b : V) : aheadV a b = true ↔ a.r < b.r ∨ (a.r = b.r ∧ (a.s < b.s ∨ (a.s = b.s ∧ a.fr < b.fr))) := by
  unfold aheadV
  split
  · split
    · simp only [decide_eq_true_eq]; omega
    · simp only [decide_eq_true_eq]; omega
  · simp only [decide_eq_true_eq]; omega
theorem ahead_not (a b : V) : aheadV a b = false ↔ ¬ (a.r < b.r ∨ (a.r = b.r ∧ (a.s < b.s ∨ (a.s = b.s ∧ a.fr < b.fr)))) := by
  rw [← ahead_iff]; simp
theorem ahead_trans {a b c : V} (h1 : aheadV a b = true) (h2 : aheadV b c = true) : aheadV a c = true := by
  rw [ahead_iff] at *; omega

/-- at one place, of one voter. -/
def sameP (u v : V) : Bool := u.r == v.r && u.s == v.s && u.fr == v.fr
theorem same_iff (u v : V) : sameP u v = true ↔ u.r = v.r ∧ u.s = v.s ∧ u.fr = v.fr := by
  simp [sameP, and_assoc]
theorem same_not (u v : V) : sameP u v = false ↔ ¬ (u.r = v.r ∧ u.s = v.s ∧ u.fr = v.fr) := by
  rw [← same_iff]; simp

abbrev Srt (L : List V) : Prop := L.Pairwise fun a b => aheadV a b = true

def tk (v : V) (L : List V) : List V := L.takeWhile (fun u => aheadV u v)
def dr (v : V) (L : List V) : List V := L.dropWhile (fun u => aheadV u v)
theorem tk_dr (v : V) (L : List V) : tk v L ++ dr v L = L := List.takeWhile_append_dropWhile

/-- The reference's answer: what was there and is told, the error, what is there now. -/
def addO (S : List Seat) (H : Int) (L : List V) (v : V) : Option V × Int × List V :=
  if errV v = 0 then
    if v.h = H then
      if hasS S v.fr = true then
        match dr v L with
        | [] => (none, 0, tk v L ++ [v])
        | u :: t => if sameP u v = true then (if u = v then (none, 31, L) else (some u, 23, L)) else (none, 0, tk v L ++ v :: u :: t)
      else (none, 17, L)
    else (none, 19, L)
  else (none, errV v, L)

theorem dr_head {v u : V} {L t : List V} (h : dr v L = u :: t) : aheadV u v = false := by
  have h1 : (L.dropWhile (fun u => aheadV u v)) = u :: t := h
  have := List.head?_dropWhile_not (fun u => aheadV u v) L
  rw [h1] at this
  simpa using this
theorem tk_all {v x : V} {L : List V} (h : x ∈ tk v L) : aheadV x v = true := List.all_eq_true.1 (List.all_takeWhile (l := L) (p := fun u => aheadV u v)) x h

/-- of a sorted list, what stands there already stands at the head of the rest. -/
theorem same_head {v u : V} {L t : List V} (hs : Srt L) (h : dr v L = u :: t) {x : V} (hx : x ∈ L) (hsx : sameP x v = true) : x = u ∧ sameP u v = true := by
  rw [← tk_dr v L, h] at hx hs
  rcases List.mem_append.1 hx with h1 | h1
  · have a := tk_all h1
    rw [ahead_iff] at a
    rw [same_iff] at hsx
    omega
  · rcases List.mem_cons.1 h1 with rfl | h2
    · exact ⟨rfl, hsx⟩
    · have h3 := (List.pairwise_append.1 hs).2.1
      have h4 := (List.pairwise_cons.1 h3).1 x h2
      have h5 := dr_head h
      rw [ahead_iff] at h4
      rw [ahead_not] at h5
      rw [same_iff] at hsx
      omega
theorem same_none {v : V} {L : List V} (h : dr v L = []) {x : V} (hx : x ∈ L) : sameP x v = false := by
  rw [← tk_dr v L, h, List.append_nil] at hx
  have a := tk_all hx
  rw [ahead_iff] at a
  rw [same_not]; omega
theorem dr_mem {v u : V} {L t : List V} (h : dr v L = u :: t) : u ∈ L := by
  rw [← tk_dr v L, h]; simp

/-- one more. -/
theorem srt_ins {v : V} {L : List V} (hs : Srt L) (hn : ∀ x ∈ L, sameP x v = false) : Srt (tk v L ++ v :: dr v L) := by
  have h0 := hs
  rw [← tk_dr v L] at h0
  obtain ⟨h1, h2, h3⟩ := List.pairwise_append.1 h0
  have hh : ∀ y ∈ dr v L, aheadV v y = true := by
    intro y hy
    rcases hd : dr v L with _ | ⟨u, t⟩
    · rw [hd] at hy; cases hy
    · have h5 := dr_head hd
      have h6 := hn u (dr_mem hd)
      rw [hd] at hy h2
      rw [ahead_not] at h5
      rw [same_not] at h6
      rcases List.mem_cons.1 hy with rfl | hy
      · rw [ahead_iff]; omega
      · have h7 := (List.pairwise_cons.1 h2).1 y hy
        rw [ahead_iff] at h7 ⊢
        omega
  refine List.pairwise_append.2 ⟨h1, List.pairwise_cons.2 ⟨hh, h2⟩, ?_⟩
  intro a ha b hb
  rcases List.mem_cons.1 hb with rfl | hb
  · exact tk_all ha
  · exact h3 a ha b hb
theorem ins_perm (v : V) (L : List V) : (tk v L ++ v :: dr v L).Perm (v :: L) := by
  have := List.perm_middle (a := v) (l₁ := tk v L) (l₂ := dr v L)
  rwa [tk_dr] at this

/-- What the program asks: is something of this voter there? -/
theorem addO_none {S : List Seat} {H : Int} {L : List V} {v : V} (h0 : errV v = 0) (h1 : v.h = H) (h2 : hasS S v.fr = true) (hn : ∀ x ∈ L, sameP x v = false) :
    addO S H L v = (none, 0, tk v L ++ v :: dr v L) := by
  unfold addO
  rw [if_pos h0, if_pos h1, if_pos h2]
  rcases hd : dr v L with _ | ⟨u, t⟩
  · rfl
  · have h6 := hn u (dr_mem hd)
    simp [h6]
theorem addO_some {S : List Seat} {H : Int} {L : List V} {v x : V} (hs : Srt L) (h0 : errV v = 0) (h1 : v.h = H) (h2 : hasS S v.fr = true) (hx : x ∈ L) (hsx : sameP x v = true) :
    addO S H L v = if x = v then (none, 31, L) else (some x, 23, L) := by
  unfold addO
  rw [if_pos h0, if_pos h1, if_pos h2]
  rcases hd : dr v L with _ | ⟨u, t⟩
  · rw [same_none hd hx] at hsx; cases hsx
  · obtain ⟨rfl, h7⟩ := same_head hs hd hx hsx
    simp [h7]

/-- What a count holds. -/
structure Good (S : List Seat) (H : Int) (L : List V) : Prop where
  srt : Srt L
  ok : ∀ v ∈ L, errV v = 0 ∧ v.h = H ∧ hasS S v.fr = true

theorem Good.nil (S : List Seat) (H : Int) : Good S H [] := ⟨List.Pairwise.nil, by simp⟩
theorem Good.add {S : List Seat} {H : Int} {L : List V} (h : Good S H L) (v : V) : Good S H (addO S H L v).2.2 := by
  by_cases h0 : errV v = 0
  · by_cases h1 : v.h = H
    · by_cases h2 : hasS S v.fr = true
      · by_cases hn : ∀ x ∈ L, sameP x v = false
        · rw [addO_none h0 h1 h2 hn]
          refine ⟨srt_ins h.srt hn, fun x hx => ?_⟩
          rcases List.mem_cons.1 ((ins_perm v L).mem_iff.1 hx) with rfl | hx
          · exact ⟨h0, h1, h2⟩
          · exact h.ok x hx
        · obtain ⟨x, hx, hsx⟩ : ∃ x ∈ L, sameP x v = true := by
            simpa using hn
          rw [addO_some h.srt h0 h1 h2 hx hsx]
          split <;> exact h
      · unfold addO; rw [if_pos h0, if_pos h1, if_neg h2]; exact h
    · unfold addO; rw [if_pos h0, if_neg h1]; exact h
  · unfold addO; rw [if_neg h0]; exact h
theorem addO_len (S : List Seat) (H : Int) (L : List V) (v : V) : (addO S H L v).2.2.length ≤ L.length + 1 := by
  have hp := (ins_perm v L).length_eq
  unfold addO
  split
  · split
    · split
      · split
        · rename_i hd; rw [hd] at hp; simp only [List.length_cons] at hp ⊢; omega
        · rename_i u t hd
          split
          · split <;> simp
          · rw [hd] at hp; simp only; simp at hp ⊢; omega
      · simp
    · simp
  · simp
theorem pw_cases {α : Type} {R : α → α → Prop} : ∀ {L : List α}, L.Pairwise R → ∀ {a b : α}, a ∈ L → b ∈ L → a = b ∨ R a b ∨ R b a
  | [], _, _, _, ha, _ => by cases ha
  | x :: t, h, a, b, ha, hb => by
    obtain ⟨h1, h2⟩ := List.pairwise_cons.1 h
    rcases List.mem_cons.1 ha with e1 | ha'
    · rcases List.mem_cons.1 hb with e2 | hb'
      · exact .inl (e1.trans e2.symm)
      · exact .inr (.inl (e1 ▸ h1 b hb'))
    · rcases List.mem_cons.1 hb with e2 | hb'
      · exact .inr (.inr (e2 ▸ h1 a ha'))
      · exact pw_cases h2 ha' hb'
theorem Good.inj {S : List Seat} {H : Int} {L : List V} (h : Good S H L) {a b : V} (ha : a ∈ L) (hb : b ∈ L) (hs : sameP a b = true) : a = b := by
  rw [same_iff] at hs
  rcases pw_cases h.srt ha hb with h1 | h1 | h1
  · exact h1
  · rw [ahead_iff] at h1; omega
  · rw [ahead_iff] at h1; omega
theorem Good.nodup {S : List Seat} {H : Int} {L : List V} (h : Good S H L) : L.Nodup := by
  refine h.srt.imp fun {x y} hxy e => ?_
  subst e
  rw [ahead_iff] at hxy
  omega
end Go.Proofs.YtkjhacfmidmebaaGreat
