/- What Add keeps: words for memory; one more vote at a spot. -/
import Derived.Test.YtkjhacfmidmebaaGreatEqV
import Derived.Test.YtkjhacfmidmebaaGreatPlain3
import Derived.Test.YtkjhacfmidmebaaGreatAddR
import Derived.WalkSpells
namespace Go.Proofs.YtkjhacfmidmebaaGreat
open Go.RowKit

/-- Cells lie as they lay; maps may have turned. -/
structure MapsOnly (w w' : World) : Prop where
  size : w.heap.size ≤ w'.heap.size
  cells : ∀ (g : Nat) (cs : Array Value) (t : TypeId) (fr : Nat × Nat), w.heap[g]? = some (.cells cs t fr) → w'.heap[g]? = some (.cells cs t fr)

theorem MapsOnly.refl (w : World) : MapsOnly w w := ⟨Nat.le_refl _, fun _ _ _ _ h => h⟩
theorem MapsOnly.trans {a b c : World} (h : MapsOnly a b) (k : MapsOnly b c) : MapsOnly a c := ⟨Nat.le_trans h.size k.size, fun g cs t fr hg => k.cells g cs t fr (h.cells g cs t fr hg)⟩
theorem MapsOnly.grown {w w' : World} {row : Option Nat} (hg : w.grownBy w' row) (hr : ∀ r, row = some r → ∃ es clock, w.heap[r]? = some (.map es clock)) : MapsOnly w w' :=
  ⟨hg.size, fun g cs t fr h => (hg.block g (Array.getElem?_eq_some_iff.1 h).1 (fun e => by obtain ⟨es, clock, hm⟩ := hr g e.symm; rw [hm] at h; cases h)).trans h⟩
theorem MapsOnly.below {w w' : World} (hb : Below w.heap.size w w') : MapsOnly w w' := MapsOnly.grown (below_grown (B := 0) hb) (by simp)
theorem MapsOnly.blk {w w' : World} (h : MapsOnly w w') {g : Nat} {t : TypeId} {cs : Array Value} (hb : Blk w g t cs) : Blk w' g t cs := h.cells g cs t (0, 0) hb
theorem MapsOnly.own {α : Type} {enc : α → List Value} {k : Nat} {e : TypeId} {w w' : World} {base n c : Nat} {A : Option Addr} {l : List α} (h : MapsOnly w w') (ho : Own enc k e w base A n c l) : Own enc k e w' base A n c l := by
  refine ⟨ho.1, ho.2.1, ?_⟩
  rcases ho.2.2 with hn | ⟨g, cap, cur, hv, hb, hg, rest⟩
  · exact .inl hn
  · exact .inr ⟨g, cap, cur, hv, hb, h.cells g cur e (0, 0) hg, rest⟩

/-- The program's count, its maps from block N on, its seats owned. -/
def CRepN (w : World) (N C : Nat) (S : List Seat) (H : Int) (L : List V) : Prop :=
  ∃ (As : Option Addr) (ns cs M : Nat) (O : List Sp), Blk w C 56 #[.slice As ns cs, .int .i64 H, .map (some M)] ∧ Own encS 2 53 w 0 As ns cs S ∧ Spots w M H L O ∧ N ≤ M ∧ ∀ o ∈ O, N ≤ o.2.2
theorem CRepN.rep {w : World} {N C : Nat} {S : List Seat} {H : Int} {L : List V} (h : CRepN w N C S H L) : CRep w C S H L := by
  obtain ⟨As, ns, cs, M, O, h1, h2, h3, _⟩ := h
  exact ⟨As, ns, cs, M, O, h1, h2.rd lenS, h3⟩
theorem CRepN.below {w w' : World} {N C : Nat} {S : List Seat} {H : Int} {L : List V} (h : CRepN w N C S H L) (hb : Below w.heap.size w w') : CRepN w' N C S H L := by
  obtain ⟨As, ns, cs, M, O, h1, h2, h3, h4⟩ := h
  exact ⟨As, ns, cs, M, O, h1.below hb h1.lt, h2.below hb, h3.below hb, h4⟩

theorem filter_add (r s : Int) (v : V) (L : List V) (hL : L.filter (isAt r s) = L.filter (isAt r s)) : ((tk v L ++ v :: dr v L).filter (isAt r s)).Perm (L.filter (isAt r s) ++ if isAt r s v then [v] else []) := by
  have h1 := (ins_perm v L).filter (isAt r s)
  refine h1.trans ?_
  by_cases e : isAt r s v = true
  · rw [List.filter_cons_of_pos e, if_pos e]
    exact (List.perm_append_singleton v _).symm
  · rw [List.filter_cons_of_neg e, if_neg e, List.append_nil]

theorem InnerIs.perm {w : World} {b : Nat} {l l' : List V} (h : InnerIs w b l) (hp : l.Perm l') : InnerIs w b l' := by
  obtain ⟨n, D, h1, h2, h3⟩ := h
  exact ⟨n, D, h1, by rw [← hp.length_eq]; exact h2, h3.perm hp⟩

/-- All about the spots but that each has a vote. -/
structure Spots0 (w : World) (M : Nat) (H : Int) (L : List V) (O : List Sp) : Prop where
  map : ∃ n D, w.ownsMap Tryz.prog 61 R0 M n D ∧ n ≤ O.length ∧ Holds D (spKey H) spVal O
  spots : (O.map (fun o => (o.1, o.2.1))).Nodup
  blocks : (O.map (fun o => o.2.2)).Nodup
  apart : ∀ o ∈ O, o.2.2 ≠ M
  fit : ∀ o ∈ O, Fit o.1 ∧ Fit o.2.1
  inner : ∀ o ∈ O, InnerIs w o.2.2 (L.filter (isAt o.1 o.2.1))
  all : ∀ v ∈ L, ∃ o ∈ O, o.1 = v.r ∧ o.2.1 = v.s
theorem Spots.weak {w : World} {M : Nat} {H : Int} {L : List V} {O : List Sp} (h : Spots w M H L O) : Spots0 w M H L O :=
  ⟨h.map, h.spots, h.blocks, h.apart, h.fit, fun o ho => (h.inner o ho).2, h.all⟩

/-- A new spot, without votes. -/
theorem Spots.newspot {w w1 w2 : World} {M : Nat} {H : Int} {L : List V} {O : List Sp} (h : Spots w M H L O) (hL : O.length < maxLen) {r s : Int} (hr : Fit r) (hs : Fit s) (hH : Fit H) (hno : ∀ x ∈ L, isAt r s x = false)
    (b : Nat) (hb : b = w.heap.size) (hw1 : w1 = w.alloc (.map #[] 0)) (n : Nat) (D : DataW Value) (hown : w.ownsMap Tryz.prog 61 R0 M n D) (hn : n ≤ O.length) (hh : Holds D (spKey H) spVal O) (h2 : w2.ownsMap Tryz.prog 61 R0 M (n + 1) (D.put (spotL H r s) (.held (.map (some b))))) (hg : w1.grownBy w2 (some M)) :
    Spots0 w2 M H L (O ++ [(r, s, b)]) := by
  have hnew : ∀ o ∈ O, (o.1, o.2.1) ≠ (r, s) := fun o ho e => by
    obtain ⟨v, hv⟩ := List.exists_mem_of_ne_nil _ (h.inner o ho).1
    rw [List.mem_filter] at hv
    have e1 : o.1 = r := congrArg Prod.fst e
    have e2 : o.2.1 = s := congrArg Prod.snd e
    rw [e1, e2, hno v hv.1] at hv
    exact absurd hv.2 (by simp)
  have hbl : ∀ o ∈ O, o.2.2 < w.heap.size := fun o ho => (h.inner o ho).2.lt
  have hMl := hown.lt
  refine ⟨⟨n + 1, _, h2, by simp; omega, ?_⟩, ?_, ?_, ?_, ?_, ?_, ?_⟩
  · have := hh.put hown.isMap (r, s, b) (spKey_lit H _) (fun u hu e => by
      obtain ⟨f1, f2⟩ := h.fit u hu
      obtain ⟨_, e1, e2⟩ := spot_inj hH f1 f2 hH hr hs e
      exact hnew u hu (by rw [e1, e2]))
    exact this
  · rw [List.map_append, List.nodup_append]
    exact ⟨h.spots, by simp, fun x hx y hy e => by
      obtain ⟨o, ho, rfl⟩ := List.mem_map.1 hx
      rw [List.mem_singleton.1 hy] at e
      exact hnew o ho e⟩
  · rw [List.map_append, List.nodup_append]
    exact ⟨h.blocks, by simp, fun x hx y hy e => by
      obtain ⟨o, ho, rfl⟩ := List.mem_map.1 hx
      rw [List.mem_singleton.1 hy] at e
      have := hbl o ho
      change o.2.2 = b at e
      omega⟩
  · intro o ho
    rcases List.mem_append.1 ho with ho | ho
    · exact h.apart o ho
    · rw [List.mem_singleton.1 ho]; show b ≠ M; omega
  · intro o ho
    rcases List.mem_append.1 ho with ho | ho
    · exact h.fit o ho
    · rw [List.mem_singleton.1 ho]; exact ⟨hr, hs⟩
  · intro o ho
    rcases List.mem_append.1 ho with ho | ho
    · have h3 := (h.inner o ho).2.kept (World.grownBy_alloc w (.map #[] 0) none) (by simp)
      rw [← hw1] at h3
      exact h3.kept hg (fun e => h.apart o ho (by injection e))
    · rw [List.mem_singleton.1 ho]
      have e0 : L.filter (isAt r s) = [] := List.filter_eq_nil_iff.2 fun v hv => by rw [hno v hv]; simp
      show InnerIs w2 b (L.filter (isAt r s))
      rw [e0, hb]
      have h3 := World.ownsMap_made w Tryz.prog 3 R0
      rw [← hw1] at h3
      exact ⟨0, _, h3.kept hg (fun e => by injection e with e; omega), by simp, ⟨by simp [Maps.has], by simp, by simp⟩⟩
  · intro v hv
    obtain ⟨o, ho, e⟩ := h.all v hv
    exact ⟨o, by simp [ho], e⟩

/-- One more vote at a spot. -/
theorem Spots0.vote {w w2 : World} {M : Nat} {H : Int} {L : List V} {O : List Sp} (h : Spots0 w M H L O) {v : V} (hw : ∀ u ∈ O, u.1 ≠ v.r ∨ u.2.1 ≠ v.s → L.filter (isAt u.1 u.2.1) ≠ []) (hno : ∀ x ∈ L, sameP x v = false)
    {o : Sp} (ho : o ∈ O) (h1 : o.1 = v.r) (h1' : o.2.1 = v.s) (n : Nat) (D : DataW Value) (hown : w.ownsMap Tryz.prog 3 R0 o.2.2 n D) (hn : n ≤ (L.filter (isAt v.r v.s)).length) (hh : Holds D frKey vagg (L.filter (isAt v.r v.s)))
    (h2 : w2.ownsMap Tryz.prog 3 R0 o.2.2 (n + 1) (D.put (frKey v) (.held (vagg v)))) (hg : w.grownBy w2 (some o.2.2)) : Spots w2 M H (tk v L ++ v :: dr v L) O := by
  have hsame : ∀ u ∈ O, u.1 = v.r → u.2.1 = v.s → u = o := fun u hu e1 e2 => by
    have hs := h.spots
    rw [List.Nodup, List.pairwise_map] at hs
    rcases pw_cases hs hu ho with h3 | h3 | h3
    · exact h3
    · exact absurd (by rw [e1, e2, h1, h1']) h3
    · exact absurd (by rw [e1, e2, h1, h1']) h3
  have hblk : ∀ u ∈ O, u ≠ o → u.2.2 ≠ o.2.2 := fun u hu hne e => by
    have hs := h.blocks
    rw [List.Nodup, List.pairwise_map] at hs
    rcases pw_cases hs hu ho with h3 | h3 | h3
    · exact hne h3
    · exact h3 e
    · exact h3 e.symm
  refine ⟨?_, h.spots, h.blocks, h.apart, h.fit, fun u hu => ?_, fun x hx => ?_⟩
  · obtain ⟨m, E, e1, e2, e3⟩ := h.map
    exact ⟨m, E, e1.kept hg (fun e => h.apart o ho (by injection e with e; exact e.symm)), e2, e3⟩
  · have hp := filter_add u.1 u.2.1 v L rfl
    by_cases e : u.1 = v.r ∧ u.2.1 = v.s
    · have hu' := hsame u hu e.1 e.2
      subst hu'
      have ha : isAt u.1 u.2.1 v = true := by simp [isAt, e.1, e.2]
      rw [if_pos ha] at hp
      refine ⟨fun e0 => ?_, InnerIs.perm ⟨n + 1, _, h2, ?_, ?_⟩ hp.symm⟩
      · rw [e0] at hp; exact absurd hp.length_eq (by simp)
      · rw [e.1, e.2]; simp; omega
      · rw [e.1, e.2]
        exact hh.put hown.isMap v (frKey_lit v) (fun x hx ek => by
          rw [List.mem_filter] at hx
          have h3 := hno x hx.1
          simp only [isAt, Bool.and_eq_true, beq_iff_eq] at hx
          rw [same_not] at h3
          exact h3 ⟨hx.2.1, hx.2.2, by simpa [frKey] using ek⟩)
    · have ha : ¬ isAt u.1 u.2.1 v = true := by
        simp only [isAt, Bool.and_eq_true, beq_iff_eq]
        exact fun h3 => e ⟨h3.1.symm, h3.2.symm⟩
      rw [if_neg ha, List.append_nil] at hp
      have hne : u ≠ o := fun h3 => e (by rw [h3]; exact ⟨h1, h1'⟩)
      refine ⟨fun e0 => ?_, InnerIs.perm ((h.inner u hu).kept hg (fun h3 => hblk u hu hne (by injection h3))) hp.symm⟩
      rw [e0] at hp
      refine hw u hu ?_ (List.eq_nil_of_length_eq_zero (by have := hp.length_eq; simpa using this.symm))
      by_cases h3 : u.1 = v.r
      · exact .inr fun h4 => e ⟨h3, h4⟩
      · exact .inl h3
  · rcases List.mem_cons.1 ((ins_perm v L).mem_iff.1 hx) with rfl | hx
    · exact ⟨o, ho, h1, h1'⟩
    · exact h.all x hx
end Go.Proofs.YtkjhacfmidmebaaGreat
