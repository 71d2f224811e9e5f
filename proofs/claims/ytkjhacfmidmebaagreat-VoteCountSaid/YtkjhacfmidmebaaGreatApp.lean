/- append of whole slices, typed: what a slice of the call's own holds. -/
import Derived.Test.YtkjhacfmidmebaaGreatPut
namespace Go.Proofs.YtkjhacfmidmebaaGreat
open Go.RowKit

/-- The slice value '.slice A n c' is the call's own (from block 'base' on) and holds the list l. -/
def Own {α : Type} (enc : α → List Value) (k : Nat) (e : TypeId) (w : World) (base : Nat) (A : Option Addr) (n c : Nat) (l : List α) : Prop :=
  l.length = n ∧ w.ownsRow base e k (.slice A n c) n (l.flatMap enc)

section
variable {α : Type} {enc : α → List Value} {k : Nat} {e : TypeId} {w w' : World} {base n c : Nat} {A : Option Addr} {l : List α}

theorem Own.nil (w : World) (base : Nat) : Own (α := α) enc k e w base none 0 0 [] := ⟨rfl, World.ownsRow_nil _ _ _ _⟩
theorem Own.below (h : Own enc k e w base A n c l) (hb : Below w.heap.size w w') : Own enc k e w' base A n c l := by
  refine ⟨h.1, h.2.kept (row := none) ⟨hb.os, hb.tape, hb.output, hb.size, fun i hi _ => hb.block i hi⟩ ?_⟩
  cases A <;> simp [Value.ownBlock]
theorem Own.drew (h : Own enc k e w base A n c l) : Own enc k e w.drew base A n c l := h

theorem flat_get (hk : ∀ x, (enc x).length = k) : ∀ (l : List α) (i j : Nat) (x : α) (u : Value), l[i]? = some x → (enc x)[j]? = some u → (l.flatMap enc)[i * k + j]? = some u
  | [], i, j, x, u, hx, _ => by simp at hx
  | y :: r, 0, j, x, u, hx, hu => by
    simp at hx
    subst hx
    have hj : j < (enc y).length := (List.getElem?_eq_some_iff.1 hu).1
    simp only [List.flatMap_cons, Nat.zero_mul, Nat.zero_add]
    rw [List.getElem?_append_left hj]
    exact hu
  | y :: r, i + 1, j, x, u, hx, hu => by
    simp at hx
    have ih := flat_get hk r i j x u hx hu
    simp only [List.flatMap_cons]
    rw [List.getElem?_append_right (by rw [hk, Nat.succ_mul]; omega), hk, show (i + 1) * k + j - k = i * k + j by rw [Nat.succ_mul]; omega]
    exact ih

/-- What is owned can be read. -/
theorem Own.rd (h : Own enc k e w base A n c l) (hk : ∀ x, (enc x).length = k) : Rd enc k w w.heap.size A n l := by
  refine ⟨h.1, fun i x hx => ?_⟩
  have hi : i < l.length := (List.getElem?_eq_some_iff.1 hx).1
  rcases h.2.2 with ⟨hv, h0⟩ | ⟨g, cap, cur, hv, _, hg, _⟩
  · have := h.1; omega
  · injection hv with hA hn hc
    subst hA
    refine ⟨g, 0, rfl, (Array.getElem?_eq_some_iff.1 hg).1, fun j u hu => ?_⟩
    have h1 := h.2.cells (g := g) rfl (i * k + j) u (flat_get hk l i j x u hx hu)
    have e1 : (⟨g, 0, none⟩ : Addr).add (i * k + j) = ⟨g, 0 + i * k + j, none⟩ := by unfold Addr.add; split <;> simp_all
    rw [e1] at h1
    exact h1

/-- What is read can be appended. -/
theorem Rd.news {B m cc : Nat} {A : Option Addr} {l : List α} (h : Rd enc k w B A m l) (hk : ∀ x, (enc x).length = k) (hk0 : 0 < k) (a : Addr) (hA : A = some a) :
    (l.flatMap enc).length = m * k ∧ ∀ j u, (l.flatMap enc)[j]? = some u → w.cell? (a.add j) = some u := by
  have hlen : ∀ l : List α, (l.flatMap enc).length = l.length * k := by
    intro l
    induction l with
    | nil => simp
    | cons x r ih => simp only [List.flatMap_cons, List.length_append, List.length_cons, hk, ih, Nat.succ_mul]; omega
  refine ⟨by rw [hlen, h.1], fun j u hj => ?_⟩
  have hjl : j < l.length * k := by rw [← hlen]; exact (List.getElem?_eq_some_iff.1 hj).1
  have hdl : j / k < l.length := by rw [Nat.div_lt_iff_lt_mul hk0]; exact hjl
  obtain ⟨b, off, hA', hb, hc⟩ := h.2 (j / k) _ (List.getElem?_eq_getElem hdl)
  rw [hA] at hA'
  injection hA' with hA'
  subst hA'
  have hm : j % k < (enc l[j / k]).length := by rw [hk]; exact Nat.mod_lt _ hk0
  have h1 := hc (j % k) _ (List.getElem?_eq_getElem hm)
  have h2 := flat_get hk l (j / k) (j % k) _ _ (List.getElem?_eq_getElem hdl) (List.getElem?_eq_getElem hm)
  have e0 : j / k * k + j % k = j := by rw [Nat.mul_comm]; exact Nat.div_add_mod j k
  rw [e0, hj] at h2
  injection h2 with h2
  have e1 : (⟨b, off, none⟩ : Addr).add j = ⟨b, off + j / k * k + j % k, none⟩ := by
    rw [Nat.add_assoc, e0]
    unfold Addr.add
    split <;> simp_all
  rw [e1, h2]
  exact h1
end

section
variable {α : Type} {enc : α → List Value} {k : Nat} {e : TypeId} {w w' : World} {base n c B : Nat} {A : Option Addr} {l : List α}
theorem Own.cases_ (h : Own enc k e w base A n c l) : (A = none ∧ n = 0 ∧ c = 0 ∧ l = []) ∨ ∃ g, A = some ⟨g, 0, none⟩ ∧ base ≤ g ∧ g < w.heap.size ∧ n ≤ c ∧ c ≤ maxLen := by
  rcases h.2.2 with ⟨hv, h0⟩ | ⟨g, cap, cur, hv, hb, hg, hnc, hcm, _⟩
  · injection hv with hA hn hc
    exact .inl ⟨hA, h0, hc, List.eq_nil_of_length_eq_zero (h.1.trans h0)⟩
  · injection hv with hA hn hc
    subst hA hc
    exact .inr ⟨g, rfl, hb, (Array.getElem?_eq_some_iff.1 hg).1, hnc, hcm⟩
theorem Own.cap (h : Own enc k e w base A n c l) : n ≤ c := by
  rcases h.cases_ with ⟨_, rfl, rfl, _⟩ | ⟨g, _, _, _, h1, _⟩
  · exact Nat.le_refl _
  · exact h1
theorem Own.made (w : World) (base : Nat) (hB : base ≤ w.heap.size) : Own (α := α) enc k e (w.alloc (.cells #[] e)) base (some ⟨w.heap.size, 0, none⟩) 0 0 [] :=
  ⟨rfl, by simpa using World.ownsRow_made (e := e) (size := k) w #[] 0 hB (Nat.zero_le _) (by simp)⟩
theorem Rd.take (h : Rd enc k w B A n l) (j : Nat) (hj : j ≤ n) : Rd enc k w B A j (l.take j) := by
  refine ⟨by rw [List.length_take, h.1]; omega, fun i x hx => h.2 i x ?_⟩
  rw [List.getElem?_take] at hx
  split at hx
  · exact hx
  · cases hx
theorem Rd.drop {b off : Nat} (h : Rd enc k w B (some ⟨b, off, none⟩) n l) (j c : Nat) (hj : j ≤ n) (hc : n ≤ c) : Rd enc k w B (if c = j then some ⟨b, off, none⟩ else some ⟨b, off + j * k, none⟩) (n - j) (l.drop j) := by
  refine ⟨by rw [List.length_drop, h.1], fun i x hx => ?_⟩
  rw [List.getElem?_drop] at hx
  have hi : j + i < l.length := (List.getElem?_eq_some_iff.1 hx).1
  have hl := h.1
  obtain ⟨b', off', hA, hb, hcell⟩ := h.2 (j + i) x hx
  injection hA with hA
  injection hA with h1 h2
  subst h1 h2
  rw [if_neg (by omega)]
  exact ⟨b, off + j * k, rfl, hb, fun q u hu => by
    have := hcell q u hu
    rwa [Nat.add_mul, ← Nat.add_assoc] at this⟩
theorem Rd.alloc (h : Rd enc k w B A n l) (hB : B ≤ w.heap.size) (o : Obj) : Rd enc k (w.alloc o) B A n l := h.below ((Below.refl _ _).alloc hB o)
theorem Own.alloc (h : Own enc k e w base A n c l) (o : Obj) : Own enc k e (w.alloc o) base A n c l := h.below ((Below.refl _ _).alloc (Nat.le_refl _) o)
/-- a row of the call's own, behind an append to another one (its own new row at most). -/
theorem Below.app {w0 : World} (h : Below base w0 w) (hown : Own enc k e w base A n c l) (hg : w.grownBy w' (Value.slice A n c).ownBlock) (hB : base ≤ w.heap.size) : Below base w0 w' :=
  h.grown hg hB (fun i hi => (hown.2.lt i hi).1)
end

/-- append of a slice that is read: run. -/
theorem run_app {α : Type} {enc : α → List Value} {k : Nat} {P : Program} {w : World} (t ty e : TypeId) (i : TypeInfo) (z : Value) (bytes : Nat) (ht : P.underlying t = some (.slice e)) (hi : P.info? e = some i) (hz : i.zero = some z)
    (hsize : i.size = k) (hby : i.bytes = bytes) (hzs : z.cells.size = k) (hk0 : 0 < k) (hk : ∀ x, (enc x).length = k) (h1 : ∀ x, ∀ u ∈ enc x, u.oneCell' = true)
    (base : Nat) (A : Option Addr) (n c : Nat) (l : List α) (hown : Own enc k e w base A n c l) (B m cc : Nat) (A2 : Option Addr) (l2 : List α) (hr : Rd enc k w B A2 m l2)
    (h63 : n + m ≤ maxLen) (hbytes : (n + m) * bytes ≤ 140737488355328) (hbase : base ≤ w.heap.size) :
    ∃ A' c' w', (Builtin.append_ #[t, t] ty #[.slice A n c, .slice A2 m cc]).run P w = .ok (.slice A' (n + m) c') w' ∧ Own enc k e w' base A' (n + m) c' (l ++ l2) ∧ w.grownBy w' (Value.slice A n c).ownBlock ∧
      ((Value.slice A' (n + m) c').ownBlock = (Value.slice A n c).ownBlock ∨ (Value.slice A' (n + m) c').ownBlock = some w.heap.size) := by
  have form : ∀ {v' : Value} {w' : World} {xs : List Value}, w'.ownsRow base e k v' (n + m) xs → ∃ A' c', v' = .slice A' (n + m) c' := by
    intro v' w' xs h
    rcases h.2 with ⟨rfl, h0⟩ | ⟨g, cap, cur, rfl, _⟩
    · exact ⟨none, 0, by rw [h0]⟩
    · exact ⟨_, _, rfl⟩
  rcases A2 with _ | a
  · have hm : m = 0 := by
      rcases Nat.eq_zero_or_pos m with h0 | h0
      · exact h0
      · obtain ⟨b, off, hA, _⟩ := hr.2 0 _ (List.getElem?_eq_getElem (by rw [hr.1]; exact h0))
        cases hA
    subst hm
    have hl2 : l2 = [] := List.eq_nil_of_length_eq_zero hr.1
    subst hl2
    refine ⟨A, c, w, ?_, by simpa using hown, World.grownBy.refl w _, .inl rfl⟩
    rcases hown.2.2 with ⟨hv, h0⟩ | ⟨g, cap, cur, hv, _, _, hnc, _⟩
    · injection hv with hA hn hc
      subst hA hn hc
      simp [Builtin.append_, run_underlying ht, sizeOf, typeInfo, hi, Builtin.lenOf, Builtin.firstCells]
    · injection hv with hA hn hc
      subst hA hc
      simp [Builtin.append_, run_underlying ht, sizeOf, typeInfo, hi, Builtin.lenOf, Builtin.firstCells, hnc, storeCells]
  · obtain ⟨hl, hnews⟩ := hr.news (cc := cc) hk hk0 a rfl
    obtain ⟨v', w', hrun, h2, h3, _, h5⟩ := run_append_own_at (P := P) w base t ty e i z k bytes ht hi hz hsize hby hzs hk0 (.slice A n c) n _ hown.2 a m cc _ hl hnews (fun u hu => by
      obtain ⟨x, _, hx⟩ := List.mem_flatMap.1 hu
      exact h1 x u hx) h63 hbytes hbase
    obtain ⟨A', c', rfl⟩ := form h2
    exact ⟨A', c', w', hrun, ⟨by rw [List.length_append, hown.1, hr.1], by rw [List.flatMap_append]; exact h2⟩, h3, h5⟩

/-- The same at the operation, for the walk (behind 'at_builtin'). -/
theorem wpList_app {α : Type} {enc : α → List Value} {k : Nat} {P : Program} {w : World} {ops : Array Oper} {rest : List Oper} {o : Oper} {a : Act} {Q : Exit → Act → World → Prop} (hgd : o.guard = none) (s x : Operand) (t : TypeId)
    (ho : o.op = .call { callee := .builtin .append, args := #[s, x], argTypes := #[t, t] })
    (e : TypeId) (i : TypeInfo) (z : Value) (bytes : Nat) (ht : P.underlying t = some (.slice e)) (hi : P.info? e = some i) (hz : i.zero = some z)
    (hsize : i.size = k) (hby : i.bytes = bytes) (hzs : z.cells.size = k) (hk0 : 0 < k) (hk : ∀ x, (enc x).length = k) (h1 : ∀ x, ∀ u ∈ enc x, u.oneCell' = true)
    (base : Nat) (A : Option Addr) (n c : Nat) (l : List α) (hs : a.eval s = .slice A n c) (hown : Own enc k e w base A n c l) (B m cc : Nat) (A2 : Option Addr) (l2 : List α) (hx : a.eval x = .slice A2 m cc) (hr : Rd enc k w B A2 m l2)
    (h63 : n + m ≤ maxLen) (hbytes : (n + m) * bytes ≤ 140737488355328) (hbase : base ≤ w.heap.size)
    (h : ∀ A' c' w', Own enc k e w' base A' (n + m) c' (l ++ l2) → w.grownBy w' (Value.slice A n c).ownBlock → ((Value.slice A' (n + m) c').ownBlock = (Value.slice A n c).ownBlock ∨ (Value.slice A' (n + m) c').ownBlock = some w.heap.size) →
      wpList P ops Q rest (a.put o.dst (.slice A' (n + m) c')) w') : wpList P ops Q (o :: rest) a w := by
  refine wpList_plain hgd fun K hK => ?_
  obtain ⟨A', c', w', hrun, h2, h3, h4⟩ := run_app (P := P) t o.type e i z bytes ht hi hz hsize hby hzs hk0 hk h1 base A n c l hown B m cc A2 l2 hr h63 hbytes hbase
  unfold Oper.wp execOp
  simp only [ho, resolve, invoke, builtin, Sem.run_bind, Sem.run_pure, Result.andThen_ok, List.map_toArray, List.map_cons, List.map_nil, hs, hx, hrun]
  exact hK _ _ (h A' c' w' h2 h3 h4)

theorem step_app {α : Type} {enc : α → List Value} {k : Nat} {P : Program} {w : World} {ops : Array Oper} {o : Oper} {a : Act} {K : Act → World → Prop} {Q : Exit → Act → World → Prop} {E : Prop} (hgd : o.guard = none) (s x : Operand) (t : TypeId)
    (ho : o.op = .call { callee := .builtin .append, args := #[s, x], argTypes := #[t, t] })
    (e : TypeId) (i : TypeInfo) (z : Value) (bytes : Nat) (ht : P.underlying t = some (.slice e)) (hi : P.info? e = some i) (hz : i.zero = some z)
    (hsize : i.size = k) (hby : i.bytes = bytes) (hzs : z.cells.size = k) (hk0 : 0 < k) (hk : ∀ x, (enc x).length = k) (h1 : ∀ x, ∀ u ∈ enc x, u.oneCell' = true)
    (base : Nat) (A : Option Addr) (n c : Nat) (l : List α) (hs : a.eval s = .slice A n c) (hown : Own enc k e w base A n c l) (B m cc : Nat) (A2 : Option Addr) (l2 : List α) (hx : a.eval x = .slice A2 m cc) (hr : Rd enc k w B A2 m l2)
    (h63 : n + m ≤ maxLen) (hbytes : (n + m) * bytes ≤ 140737488355328) (hbase : base ≤ w.heap.size)
    (h : ∀ A' c' w', Own enc k e w' base A' (n + m) c' (l ++ l2) → w.grownBy w' (Value.slice A n c).ownBlock → ((Value.slice A' (n + m) c').ownBlock = (Value.slice A n c).ownBlock ∨ (Value.slice A' (n + m) c').ownBlock = some w.heap.size) →
      K (a.put o.dst (.slice A' (n + m) c')) w') : if Region.wanted o (yielded ops a.tmps) = true then Oper.wp P o a w K Q else E := by
  have hw : Region.wanted o (yielded ops a.tmps) = true := by simp [Region.wanted, hgd]
  rw [if_pos hw]
  obtain ⟨A', c', w', hrun, h2, h3, h4⟩ := run_app (P := P) t o.type e i z bytes ht hi hz hsize hby hzs hk0 hk h1 base A n c l hown B m cc A2 l2 hr h63 hbytes hbase
  unfold Oper.wp execOp
  simp only [ho, resolve, invoke, builtin, Sem.run_bind, Sem.run_pure, Result.andThen_ok, List.map_toArray, List.map_cons, List.map_nil, hs, hx, hrun]
  exact h A' c' w' h2 h3 h4

/-- A new row of one element reads as that element. -/
theorem rd_new {α : Type} {enc : α → List Value} {k : Nat} (w : World) (e : TypeId) (x : α) (cs : Array Value) (hcs : cs = (enc x).toArray) : Rd enc k (w.alloc (.cells cs e)) (w.heap.size + 1) (some ⟨w.heap.size, 0, none⟩) 1 [x] := by
  subst hcs
  refine ⟨rfl, fun i y hy => ?_⟩
  have hi : i = 0 := by have := (List.getElem?_eq_some_iff.1 hy).1; simp at this; omega
  subst hi
  simp at hy
  subst hy
  refine ⟨w.heap.size, 0, rfl, by omega, fun j u hu => ?_⟩
  rw [show 0 + 0 * k + j = j by omega, (Blk.new w e (enc x).toArray).cell]
  simpa using hu

theorem Tryz.info53 : (Tryz.prog.info? 53).map (fun i => (i.zero, i.size, i.bytes)) = some (some (.agg #[.int .i64 0, .int .i64 0]), 2, 16) := by kernel_rfl
theorem Tryz.info34 : (Tryz.prog.info? 34).map (fun i => (i.zero, i.size, i.bytes)) = some (some (.agg #[.int .i64 0, .int .i64 0, .int .i64 0, .bool false, .int .u64 0, .int .i64 0]), 6, 48) := by kernel_rfl
theorem Tryz.info3 : (Tryz.prog.info? 3).map (fun i => (i.zero, i.size, i.bytes)) = some (some (.int .i64 0), 1, 8) := by kernel_rfl
theorem lenS (x : Seat) : (encS x).length = 2 := rfl
theorem lenV (x : V) : (encV x).length = 6 := rfl
theorem lenI (x : Int) : (encI x).length = 1 := rfl
theorem oneS (x : Seat) : ∀ u ∈ encS x, u.oneCell' = true := by intro u hu; simp [encS] at hu; rcases hu with rfl | rfl <;> rfl
theorem oneV (x : V) : ∀ u ∈ encV x, u.oneCell' = true := by intro u hu; simp [encV] at hu; rcases hu with rfl | rfl | rfl | rfl | rfl | rfl <;> rfl
theorem oneI (x : Int) : ∀ u ∈ encI x, u.oneCell' = true := by intro u hu; simp [encI] at hu; subst hu; rfl

end Go.Proofs.YtkjhacfmidmebaaGreat
