/- The law's arguments, as data lay them, read as lists. -/
import Derived.Deep.Slices
import Derived.Deep.Fields
import Derived.ChangeSame
import Derived.ProofKit
import Derived.Lib.RowBridge
import Derived.Test.YtkjhacfmidmebaaGreatLaw
namespace Go.Proofs.YtkjhacfmidmebaaGreat
open Go.ChangeShapes Go.WideShapes Go.ChangeAt Go.RowKit Go.Deep

section
variable {H : Type} {enc : TypeId × Value → H} {P : Program} {w : World} {base : Nat} {spare : Nat → Bool} {held : Bool}
theorem open_slice_fields {t e : TypeId} {fs : Array Field} {fuel : Nat} {cs : List Value} {x : DataW H × List MemPlace} (ht : P.underlying t = some (.slice e)) (he : P.underlying e = some (.struct fs))
    (hone : oneCellFields P fs = true) (hC : P.cellsOf e = fs.size) (h : DataW.trod enc P w base spare held fuel t cs = some x) :
    (cs = [.slice none 0 0] ∧ x = (.nil, [])) ∨
    ∃ (a : Addr) (len cap m : Nat) (D : Nat → DataW H) (Pl : Nat → List MemPlace), cs = [.slice (some a) len cap] ∧ base ≤ a.block ∧ len ≤ cap ∧ cap ≤ maxLen ∧ m = (if spare a.block then cap else len) ∧
      x = (.slice ((List.range len).map D) ((List.range (m - len)).map fun j => D (len + j)), MemPlace.row a (m * fs.size) ++ (List.range m).flatMap Pl) ∧
      ∀ i, i < m → ∃ (ys : List (DataW H × List MemPlace)) (n : Nat), D i = .agg (ys.map (·.1)) ∧ Pl i = ys.flatMap (·.2) ∧ ys.length = fs.size ∧
        ∀ (j : Nat) (f : Field), fs[j]? = some f → ∃ (v : Value) (y : DataW H × List MemPlace), w.cell? (a.add (i * fs.size + j)) = some v ∧ ys[j]? = some y ∧ DataW.trod enc P w base spare held n f.type [v] = some y := by
  rcases open_slice ht h with h0 | ⟨a, len, cap, m, n, D, Pl, hcs, hb, hl, hm, hmm, hx, hi⟩
  · exact .inl h0
  · refine .inr ⟨a, len, cap, m, D, Pl, hcs, hb, hl, hm, hmm, by rw [hC] at hx; exact hx, fun i him => ?_⟩
    obtain ⟨cs', hc, ht'⟩ := hi i him
    rw [hC] at hc
    obtain ⟨ys, n', hn', hy, hlen, hyl, hf⟩ := DataW.trod_struct he ht'
    obtain ⟨_, hcl, hat⟩ := World.cells?_some hc
    simp only [Prod.mk.injEq] at hy
    refine ⟨ys, n', hy.1, hy.2, hyl, fun j f hj => ?_⟩
    obtain ⟨ho, hk⟩ := hone_of hone j f hj
    have hjl : j < fs.size := (Array.getElem?_eq_some_iff.1 hj).1
    have hcell := hat j hjl
    have hv : cs'[j]? = some (cs'[j]'(by omega)) := List.getElem?_eq_getElem (by omega)
    have h1 := hf j f hj
    rw [ho, hk] at h1
    have hone' : (cs'.drop j).take 1 = [cs'[j]'(by omega)] := by
      rw [List.drop_eq_getElem_cons (by omega)]
      rfl
    rw [hone'] at h1
    have hys : ys[j]? = some (ys[j]'(by omega)) := List.getElem?_eq_getElem (by omega)
    refine ⟨_, _, ?_, hys, h1.trans hys⟩
    rw [← Go.Deep.add_add, hcell, hv]

theorem post_of_below {f : Func} {s : ChangeSpec} {apart fresh handsOn again : Bool} {W W' : World} {args : Array Value} {v : Value} {ds gs : List (DataW H)} {before pa pv : List MemPlace}
    (hW : DataW.Whole enc P f.params.toList s.vars apart W args.toList ds gs before)
    (hres : ∀ (b : Nat) (sp : Nat → Bool) (hd : Bool), DataW.TrodAll enc P W' b sp hd f.resultTypes.toList (v.resultList f.resultTypes.size) (s.fn H (ds ++ gs)).results [])
    (hargs : ∀ sp : Nat → Bool, (∀ p ∈ before, sp p.block = true) → DataW.TrodAll enc P W' 0 sp true f.params.toList args.toList (s.fn H (ds ++ gs)).args pa)
    (hvars : ∀ sp : Nat → Bool, (∀ p ∈ before, sp p.block = true) → DataW.TrodVars enc P W' sp s.vars (s.fn H (ds ++ gs)).vars pv)
    (hps : before = pa ++ pv) (hb : Below W.heap.size W W')
    (hok : ∀ (j : Nat) (t : TypeId) (r : Value), f.resultTypes[j]? = some t → (v.resultList f.resultTypes.size)[j]? = some r → Value.okWide P W' .any 0 t r) :
    s.post enc P f apart fresh handsOn again W args v W' := by
  have hlt : ∀ p ∈ before, p.block < W.heap.size := fun p hp => hW.lt p hp
  have hold : ∀ p ∈ before, (fun b => decide (b < W.heap.size)) p.block = true := fun p hp => by simpa using hlt p hp
  refine ⟨ds, gs, before, [], pa, pv, hW, hres _ _ _, hargs _ hold, hvars _ hold, World.keptBut_mono (fun p hp => ⟨hp, ?_⟩) (hb.frame (· ∈ before)), fun _ => ?_⟩
  · rw [hps, List.mem_append] at hp
    exact Or.inr hp
  · obtain ⟨_, _, _, _, _, hz, hn⟩ := hW
    refine ⟨hok, _, _, ([] ++ pa) ++ pv, ⟨[] ++ pa, pv, trodAll_append (hargs _ (fun _ _ => rfl)) (hres _ _ _), hvars _ (fun _ _ => rfl), rfl, ?_, ?_⟩, ?_⟩
    · intro b off hp
      have hin : MemPlace.cell b off ∈ before := by rw [hps]; simpa using hp
      rw [hb.frozen (hlt _ hin)]
      exact hz b off hin
    · intro ha
      have := hn ha
      rw [hps] at this
      simpa using this
    · intro p hp _
      rw [hps]
      simpa using hp
end

theorem cell_lt {w : World} {a : Addr} {v : Value} (h : w.cell? a = some v) : a.block < w.heap.size := by
  by_cases hn : a.block < w.heap.size
  · exact hn
  · have h0 : w.heap[a.block]? = none := Array.getElem?_eq_none (by omega)
    simp [World.cell?, h0] at h

theorem list_of {α : Type} (Q : Nat → α → Prop) : ∀ n : Nat, (∀ i, i < n → ∃ x, Q i x) → ∃ l : List α, l.length = n ∧ ∀ i x, l[i]? = some x → Q i x
  | 0, _ => ⟨[], rfl, by simp⟩
  | n + 1, h => by
    obtain ⟨l, hl, hq⟩ := list_of Q n (fun i hi => h i (by omega))
    obtain ⟨x, hx⟩ := h n (by omega)
    refine ⟨l ++ [x], by simp [hl], fun i y hy => ?_⟩
    by_cases hi : i < n
    · rw [List.getElem?_append_left (by omega)] at hy
      exact hq i y hy
    · rw [List.getElem?_append_right (by omega)] at hy
      by_cases he : i = n
      · subst he
        simp [hl] at hy
        subst hy
        exact hx
      · obtain ⟨d, hd⟩ : ∃ d, i - l.length = d + 1 := ⟨i - l.length - 1, by omega⟩
        rw [hd] at hy
        simp at hy

theorem rd_of {α : Type} {enc : α → List Value} {k : Nat} (w : World) (a : Addr) (len : Nat) (Pr : α → Prop) (hk : 0 < k) (hlen : ∀ x, (enc x).length = k)
    (h : ∀ i, i < len → ∃ x, Pr x ∧ ∀ j u, (enc x)[j]? = some u → w.cell? (a.add (i * k + j)) = some u) :
    ∃ l : List α, Rd enc k w w.heap.size (some a) len l ∧ ∀ x ∈ l, Pr x := by
  obtain ⟨l, hl, hq⟩ := list_of (fun i x => Pr x ∧ ∀ j u, (enc x)[j]? = some u → w.cell? (a.add (i * k + j)) = some u) len h
  refine ⟨l, ⟨hl, fun i x hx => ?_⟩, fun x hx => ?_⟩
  · obtain ⟨hp, hc⟩ := hq i x hx
    have hi : i < l.length := (List.getElem?_eq_some_iff.1 hx).1
    obtain ⟨b, off, spot⟩ := a
    have hspot : spot = none := by
      have hz := (hq 0 _ (List.getElem?_eq_getElem (by omega))).2 0 _ (List.getElem?_eq_getElem (by rw [hlen]; exact hk))
      simpa [Addr.add] using World.cell?_spot hz
    subst hspot
    obtain ⟨u, hu⟩ : ∃ u, (enc x)[0]? = some u := ⟨(enc x)[0]'(by rw [hlen]; exact hk), List.getElem?_eq_getElem _⟩
    have h0 := hc 0 u hu
    rw [add_plain] at h0
    refine ⟨b, off, rfl, cell_lt h0, fun j u hj => ?_⟩
    have := hc j u hj
    rw [add_plain] at this
    rw [Nat.add_assoc]
    exact this
  · obtain ⟨i, hi, rfl⟩ := List.getElem_of_mem hx
    exact (hq i _ (List.getElem?_eq_getElem hi)).1

theorem Rd.none {α : Type} {enc : α → List Value} {k : Nat} (w : World) (B : Nat) : Rd enc k w B none 0 ([] : List α) := ⟨rfl, by simp⟩

theorem one3 : Tryz.prog.cellsOf 3 = 1 := by kernel_rfl
theorem two53 : Tryz.prog.cellsOf 53 = 2 := by kernel_rfl
theorem six34 : Tryz.prog.cellsOf 34 = 6 := by kernel_rfl
section
variable {H : Type} {enc : TypeId × Value → H} {w : World} {fuel : Nat} {x : DataW H × List MemPlace} {A : Option Addr} {n c : Nat}
theorem open_seats (h : DataW.trod enc Tryz.prog w 0 (fun _ => true) true fuel 22 [.slice A n c] = some x) :
    n ≤ 9223372036854775807 ∧ ∃ l : List Seat, Rd encS 2 w w.heap.size A n l ∧ ∀ s ∈ l, Fit s.1 ∧ Fit s.2 := by
  rcases open_slice_fields Tryz.underlying22 Tryz.underlying53 (by kernel_rfl) two53 h with ⟨hcs, _⟩ | ⟨a, len, cap, m, D, Pl, hcs, _, hl, hm, hmm, _, hi⟩
  · simp at hcs
    obtain ⟨rfl, rfl, rfl⟩ := hcs
    exact ⟨by omega, [], Rd.none _ _, by simp⟩
  · simp at hcs
    obtain ⟨rfl, rfl, rfl⟩ := hcs
    unfold maxLen at hm
    refine ⟨by omega, rd_of w a n _ (by omega) lenS fun i hin => ?_⟩
    obtain ⟨ys, k, _, _, _, hf⟩ := hi i (by simp at hmm; omega)
    obtain ⟨v0, y0, hc0, _, ht0⟩ := hf 0 _ rfl
    obtain ⟨v1, y1, hc1, _, ht1⟩ := hf 1 _ rfl
    obtain ⟨n0, e0, _, w0⟩ := DataW.trod_int Tryz.underlying3 ht0
    obtain ⟨n1, e1, _, w1⟩ := DataW.trod_int Tryz.underlying3 ht1
    simp at e0 e1
    subst e0 e1
    refine ⟨(n0, n1), ⟨w0, w1⟩, fun j u hj => ?_⟩
    match j, hj with
    | 0, hj => simp [encS] at hj; subst hj; exact hc0
    | 1, hj => simp [encS] at hj; subst hj; exact hc1
    | j + 2, hj => simp [encS] at hj
theorem open_votes (h : DataW.trod enc Tryz.prog w 0 (fun _ => true) true fuel 23 [.slice A n c] = some x) :
    n ≤ 9223372036854775807 ∧ ∃ l : List V, Rd encV 6 w w.heap.size A n l := by
  rcases open_slice_fields Tryz.underlying23 Tryz.underlying34 (by kernel_rfl) six34 h with ⟨hcs, _⟩ | ⟨a, len, cap, m, D, Pl, hcs, _, hl, hm, hmm, _, hi⟩
  · simp at hcs
    obtain ⟨rfl, rfl, rfl⟩ := hcs
    exact ⟨by omega, [], Rd.none _ _⟩
  · simp at hcs
    obtain ⟨rfl, rfl, rfl⟩ := hcs
    unfold maxLen at hm
    refine ⟨by omega, ?_⟩
    refine (rd_of (enc := encV) (k := 6) w a n (fun _ => True) (by omega) lenV fun i hin => ?_).imp fun l h => h.1
    obtain ⟨ys, k, _, _, _, hf⟩ := hi i (by simp at hmm; omega)
    obtain ⟨v0, y0, hc0, _, ht0⟩ := hf 0 _ rfl
    obtain ⟨v1, y1, hc1, _, ht1⟩ := hf 1 _ rfl
    obtain ⟨v2, y2, hc2, _, ht2⟩ := hf 2 _ rfl
    obtain ⟨v3, y3, hc3, _, ht3⟩ := hf 3 _ rfl
    obtain ⟨v4, y4, hc4, _, ht4⟩ := hf 4 _ rfl
    obtain ⟨v5, y5, hc5, _, ht5⟩ := hf 5 _ rfl
    obtain ⟨n0, e0, _, _⟩ := DataW.trod_int Tryz.underlying3 ht0
    obtain ⟨n1, e1, _, _⟩ := DataW.trod_int Tryz.underlying3 ht1
    obtain ⟨n2, e2, _, _⟩ := DataW.trod_int Tryz.underlying3 ht2
    obtain ⟨n3, e3, _⟩ := DataW.trod_bool Tryz.underlying4 ht3
    obtain ⟨n4, e4, _, _⟩ := DataW.trod_int Tryz.underlying32 ht4
    obtain ⟨n5, e5, _, _⟩ := DataW.trod_int Tryz.underlying3 ht5
    simp at e0 e1 e2 e3 e4 e5
    subst e0 e1 e2 e3 e4 e5
    refine ⟨⟨n0, n1, n2, n3, n4, n5⟩, trivial, fun j u hj => ?_⟩
    match j, hj with
    | 0, hj => simp [encV] at hj; subst hj; exact hc0
    | 1, hj => simp [encV] at hj; subst hj; exact hc1
    | 2, hj => simp [encV] at hj; subst hj; exact hc2
    | 3, hj => simp [encV] at hj; subst hj; exact hc3
    | 4, hj => simp [encV] at hj; subst hj; exact hc4
    | 5, hj => simp [encV] at hj; subst hj; exact hc5
    | j + 6, hj => simp [encV] at hj
theorem open_nums (h : DataW.trod enc Tryz.prog w 0 (fun _ => true) true fuel 24 [.slice A n c] = some x) :
    n ≤ 9223372036854775807 ∧ ∃ l : List Int, Rd encI 1 w w.heap.size A n l ∧ ∀ s ∈ l, Fit s := by
  rcases open_ints Tryz.underlying24 Tryz.underlying3 one3 h with ⟨hcs, _⟩ | ⟨a, len, cap, zs, hcs, _, hl, hm, hz, _, hcell, hwz⟩
  · simp at hcs
    obtain ⟨rfl, rfl, rfl⟩ := hcs
    exact ⟨by omega, [], Rd.none _ _, by simp⟩
  · simp at hcs
    obtain ⟨rfl, rfl, rfl⟩ := hcs
    unfold maxLen at hm
    refine ⟨by omega, rd_of w a n _ (by omega) lenI fun i hin => ?_⟩
    simp at hz
    have hil : i < zs.length := by omega
    refine ⟨zs[i], hwz _ (List.getElem_mem hil), fun j u hj => ?_⟩
    match j, hj with
    | 0, hj =>
      simp [encI] at hj; subst hj
      have := hcell i hil
      simpa [List.getElem?_eq_getElem hil] using this
    | j + 1, hj => simp [encI] at hj
end
end Go.Proofs.YtkjhacfmidmebaaGreat
