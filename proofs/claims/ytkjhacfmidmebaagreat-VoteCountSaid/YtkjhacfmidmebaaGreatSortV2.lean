/- slices.SortFunc of the call's own votes (29). -/
import Derived.Test.YtkjhacfmidmebaaGreatSortV
import Derived.Sort.OwnSortedInts
namespace Go.Proofs.YtkjhacfmidmebaaGreat
open Go.RowKit Go.Sort

instance : Inhabited V := ⟨⟨0, 0, 0, false, 0, 0⟩⟩

theorem ltOf_cfV (a b : V) : ltOf cfV a b = aheadV a b := by
  have h : ∀ x y : Int, (Lib.compareInt x y = -1 ∧ x < y) ∨ (Lib.compareInt x y = 0 ∧ x = y) ∨ (Lib.compareInt x y = 1 ∧ y < x) := by
    intro x y
    unfold Lib.compareInt
    by_cases h1 : x < y
    · simp [h1]
    · by_cases h2 : y < x
      · simp [h1, h2]
      · simp [h1, h2]; omega
  rw [Bool.eq_iff_iff, ahead_iff]
  unfold ltOf cfV or3
  rcases h a.r b.r with ⟨e1, h1⟩ | ⟨e1, h1⟩ | ⟨e1, h1⟩ <;> rcases h a.s b.s with ⟨e2, h2⟩ | ⟨e2, h2⟩ | ⟨e2, h2⟩ <;> rcases h a.fr b.fr with ⟨e3, h3⟩ | ⟨e3, h3⟩ | ⟨e3, h3⟩ <;> simp [e1, e2, e3] <;> omega

theorem swoV : SWO (ltOf cfV) where
  irrefl x := by rw [ltOf_cfV, ahead_not]; omega
  trans x y z h1 h2 := by rw [ltOf_cfV, ahead_iff] at *; omega
  ntrans x y z h1 h2 := by rw [ltOf_cfV, ahead_not] at *; omega

theorem len_flatV (l : List V) : (l.flatMap encV).length = l.length * 6 := by
  induction l with
  | nil => rfl
  | cons x r ih => simp only [List.flatMap_cons, List.length_append, ih, lenV, List.length_cons]; omega
theorem flatV (l : List V) : flatK encV 6 l.toArray = (l.flatMap encV).toArray := by
  have hl : (l.flatMap encV).length = l.length * 6 := by
    induction l with
    | nil => rfl
    | cons x r ih => simp only [List.flatMap_cons, List.length_append, ih, lenV, List.length_cons]; omega
  apply Array.ext_getElem?
  intro t
  by_cases ht : t < l.length * 6
  · have h1 : (flatK encV 6 l.toArray)[t]? = some ((flatK encV 6 l.toArray)[t]!) := by rw [getElem!_pos _ t (by simpa using ht)]; exact Array.getElem?_eq_getElem _
    have hd : t / 6 < l.length := by omega
    rw [h1, get_flatK _ _ _ _ (by simpa using ht), List.getElem?_toArray]
    have hm : t % 6 < (encV l[t / 6]).length := by rw [lenV]; omega
    have h2 := flat_get lenV l (t / 6) (t % 6) _ _ (List.getElem?_eq_getElem hd) (List.getElem?_eq_getElem hm)
    rw [show t / 6 * 6 + t % 6 = t by omega] at h2
    rw [h2]
    congr 1
    have e : l.toArray[t / 6]! = l[t / 6] := by rw [getElem!_pos _ _ (by simpa using hd)]; simp
    rw [e, getElem!_pos (encV l[t / 6]) (t % 6) hm]
  · rw [Array.getElem?_eq_none (by simp; omega), Array.getElem?_eq_none (by simp [hl]; omega)]

theorem holds_id {w : World} {g : Nat} {cur : Array Value} {e : TypeId} {xs : List Value} (hb : w.heap[g]? = some (.cells cur e (0, 0))) (ht : cur.toList.take xs.length = xs) : Holds id w g 0 xs.toArray := by
  intro j hj
  have hj' : j < xs.length := by simpa using hj
  refine ⟨?_, by simp [World.frozen?, hb]⟩
  have h1 : (cur.toList.take xs.length)[j]? = xs[j]? := by rw [ht]
  rw [List.getElem?_take_of_lt hj'] at h1
  simp only [World.cell?, hb, Nat.zero_add]
  simp only [Option.isSome_none, Bool.false_eq_true, if_false]
  rw [← Array.getElem?_toList, h1]
  simp [hj']
theorem heap_id {w : World} {g n : Nat} {os : Array Obj} {cur : Array Value} {e : TypeId} {fr : Nat × Nat} (d : Array Value) (hb : w.heap[g]? = some (.cells cur e fr)) :
    (grow (putRow id (Sort.ahead w n) g 0 d) os).heap[g]? = some (.cells (putCells id 0 d cur) e fr) := by
  have hg : g < w.heap.size := (Array.getElem?_eq_some_iff.1 hb).1
  rw [heap_grow_old _ _ (by simpa using hg)]
  simp [putRow, mapBlock, Sort.ahead, Array.getElem?_modify, hb, onCells]
theorem grown_id {w : World} {g n : Nat} {os : Array Obj} (d : Array Value) : w.grownBy (grow (putRow id (Sort.ahead w n) g 0 d) os) (some g) := by
  refine ⟨rfl, rfl, rfl, by simp, fun k hk hne => ?_⟩
  rw [heap_grow_old _ _ (by simpa using hk)]
  have : g ≠ k := fun e => hne (by rw [e])
  simp [putRow, mapBlock, Sort.ahead, Array.getElem?_modify, this]
theorem take_id (cur : Array Value) (ts : List Value) (h : ts.length ≤ cur.size) : (putCells id 0 ts.toArray cur).toList.take ts.length = ts := by
  apply List.ext_getElem?
  intro j
  by_cases hj : j < ts.length
  · rw [List.getElem?_take_of_lt hj, Array.getElem?_toList]
    simp [putCells, hj, show j < cur.size by omega]
  · rw [List.getElem?_take_eq_none (by omega), List.getElem?_eq_none (by omega)]

theorem array_pair {lt : V → V → Bool} {d : Array V} (h : SortedIn lt 0 d.size d) : d.toList.Pairwise fun a b => lt b a = false := by
  rw [List.pairwise_iff_getElem]
  intro i j hi hj hij
  have hi' : i < d.size := by simpa using hi
  have hj' : j < d.size := by simpa using hj
  have := h i j (Nat.zero_le _) hij hj'
  rw [getElem!_pos d i hi', getElem!_pos d j hj'] at this
  simpa using this
theorem array_perm {d d' : Array V} (h : PermIn 0 d.size d d') : d'.toList.Perm d.toList := by
  have h3 := h.2.2
  rw [show d.extract 0 d.size = d by simp] at h3
  rw [show d'.extract 0 d.size = d' by rw [← h.1]; simp] at h3
  exact h3

theorem Tryz.isAgg34 (w : World) : (isAgg 34).run Tryz.prog w = .ok true w := by kernel_rfl
theorem Tryz.sizeOf34 (w : World) : (Go.sizeOf 34).run Tryz.prog w = .ok 6 w := by kernel_rfl

def SortedV (w : World) (A : Option Addr) (n c base : Nat) (l : List V) (e : Ending) (w' : World) : Prop :=
  e = .returned (.tuple #[]) ∧ (∃ l' : List V, l'.Perm l ∧ l'.Pairwise (fun a b => aheadV b a = false) ∧ Own encV 6 34 w' base A n c l') ∧ w.grownBy w' (Value.slice A n c).ownBlock

theorem sortV_any (A : Option Addr) (n c base : Nat) (l : List V) (w : World) (h : Own encV 6 34 w base A n c l) (hn : n ≤ 65536) :
    Calls Tryz.prog 29 #[.slice A n c, .func (.func 30) #[] #[]] w (SortedV w A n c base l) := by
  rcases h.2.2 with ⟨hv, h0⟩ | ⟨g, cap, cur, hv, hb, hg, hnc, hcm, hcs, hct⟩
  · injection hv with hA hn' hc
    subst hA hn' hc
    have hl : l = [] := List.eq_nil_of_length_eq_zero h.1
    subst hl
    refine (AnyF.slices_SortFunc_none Tryz.sortVotes none 0 (.func (.func 30) #[] #[]) w).mono ?_
    rintro e w' ⟨he, hw⟩
    first | subst hw | (have hw' := hw.symm; subst hw')
    exact ⟨he, ⟨[], List.Perm.refl _, List.Pairwise.nil, Own.nil _ _⟩, World.grownBy.refl _ _⟩
  · injection hv with hA hn' hc
    subst hA hc
    have hl := h.1
    subst hl
    have hfl : (l.flatMap encV).length = l.length * 6 := h.2.1
    have hct' : cur.toList.take (l.flatMap encV).length = l.flatMap encV := by rw [hfl]; exact hct
    have hH : HoldsK encV 6 w g 0 l.toArray := by
      show Holds id w g 0 (flatK encV 6 l.toArray)
      rw [flatV]
      exact holds_id hg hct'
    have eg : ∀ args w, (callFunc 30 args).run Tryz.prog w = .ok (.enter 30 args) w := enters_of Tryz.func30 (by kernel_rfl) rfl
    have hcon := AnyQ.slices_SortFunc Tryz.sortVotes 6 Tryz.isAgg34 Tryz.sizeOf34 encV lenV oneV cfV swoV 30 #[] g 0 c l.toArray w eg (fun _ _ _ _ x y => cmpV_any x y _) hH (Array.getElem?_eq_some_iff.1 hg).1 (by simp; omega)
    refine Calls.mono hcon ?_
    rintro e w' ⟨he, d', m, os, hp, hs, rfl⟩
    have hp' := array_perm hp
    have hlen : d'.toList.length = l.length := by simpa using hp'.length_eq
    have hs' : d'.toList.Pairwise fun a b => aheadV b a = false := by
      have h1 : SortedIn (ltOf cfV) 0 d'.size d' := by rw [hp.1]; exact hs
      exact (array_pair h1).imp fun {a b} hab => by rwa [ltOf_cfV] at hab
    have hfl' : (d'.toList.flatMap encV).length = l.length * 6 := by rw [len_flatV, hlen]
    have hrow : sortWorldK encV 6 w g 0 m d' os = grow (putRow id (Sort.ahead w m) g 0 (d'.toList.flatMap encV).toArray) os := by
      unfold sortWorldK putRowK
      rw [← flatV]
    refine ⟨he, ⟨d'.toList, by simpa using hp', hs', hlen, hfl', .inr ⟨g, c, putCells id 0 (d'.toList.flatMap encV).toArray cur, rfl, hb, ?_, hnc, hcm, ?_, ?_⟩⟩, ?_⟩
    · rw [hrow]; exact heap_id _ hg
    · simp [putCells, hcs]
    · rw [← hfl']; exact take_id cur _ (by rw [hfl', hcs]; exact Nat.mul_le_mul_right 6 hnc)
    · rw [hrow]; exact grown_id _
end Go.Proofs.YtkjhacfmidmebaaGreat
