/- Walk: the law's seated: some bench of at most seven, of weights from 1 to 40. -/
import Derived.Test.YtkjhacfmidmebaaGreatChoose2
namespace Go.Proofs.YtkjhacfmidmebaaGreat
open Go.RowKit

theorem Rd.drew {α : Type} {enc : α → List Value} {k : Nat} {w : World} {B n : Nat} {A : Option Addr} {l : List α} (h : Rd enc k w B A n l) : Rd enc k w.drew B A n l := h

theorem Own.one {α : Type} {enc : α → List Value} {k : Nat} {e : TypeId} (w : World) (base : Nat) (x : α) (cs : Array Value) (hcs : cs = (enc x).toArray) (hk : (enc x).length = k) (hB : base ≤ w.heap.size) :
    Own enc k e (w.alloc (.cells cs e)) base (some ⟨w.heap.size, 0, none⟩) 1 1 [x] := by
  subst hcs
  exact ⟨rfl, by simp [hk], .inr ⟨w.heap.size, 1, _, rfl, hB, heap_alloc_new w _, Nat.le_refl _, by simp [maxLen], by simp [hk], by simp only [List.toList_toArray, List.flatMap_cons, List.flatMap_nil, List.append_nil, Nat.one_mul]; exact List.take_of_length_le (by omega)⟩⟩

/-- a weight from 1 to 40. -/
def Wgt (s : Seat) : Prop := 1 ≤ s.2 ∧ s.2 ≤ 40

/-- A bench of the call's own. -/
def SomeBench (w : World) (e : Ending) (w' : World) : Prop :=
  (∃ A' n' c' l', e = .returned (.slice A' n' c') ∧ Own encS 2 53 w' w.heap.size A' n' c' l' ∧ n' ≤ 7 ∧ ∀ x ∈ l', Wgt x) ∧ Below w.heap.size w w'

set_option maxRecDepth 100000 in
set_option maxHeartbeats 1600000 in
theorem seated_any (A : Option Addr) (n c : Nat) (l : List Seat) (w : World) (h : Rd encS 2 w w.heap.size A n l) (hf : ∀ x ∈ l, Fit x.1 ∧ Fit x.2) (hn : n ≤ 9223372036854775807) :
    Calls Tryz.prog 4 #[.slice A n c] w (SomeBench w) := by
  obtain rfl := h.1
  have HH := Lib.hid h; clear h
  have HF := Lib.hid hf; clear hf
  obtain ⟨i0, hi, hz0, hz1, hz2⟩ := info_parts Tryz.info53
  go_enter Tryz.func4, Tryz.ntmps4
  go_wp2
  go_loopw [3, 4] (fun v i wr => Hid (∃ (A2 : Option Addr) (n2 c2 : Nat) (l2 : List Seat) (k : Nat), v = .slice A2 n2 c2 ∧ i = .int .i64 k ∧ k ≤ l.length ∧ k ≤ 64 ∧ n2 ≤ k ∧ Own encS 2 53 wr w.heap.size A2 n2 c2 l2 ∧ ∀ x ∈ l2, Wgt x) ∧ Hid (Below w.heap.size w wr)) (fun _ i _ => l.length - (intOf i).toNat)
  case atStart => exact ⟨⟨none, 0, 0, [], 0, rfl, rfl, by omega, by omega, by omega, Own.nil _ _, by simp⟩, Below.refl _ _⟩
  case round =>
    obtain ⟨HE, HW⟩ := hrel
    obtain ⟨A2, n2, c2, l2, k, rfl, rfl, hk, hk64, hn2, hown, hP2⟩ := HE.out
    clear HE
    have HO := Lib.hid hown; have HP2 := Lib.hid hP2; clear hown hP2
    by_cases hgo : k < l.length ∧ k < 64
    · obtain ⟨hlt, h64⟩ := hgo
      obtain ⟨b, off, rfl, hb, c0, c1⟩ := rd_seat (HH.out.below HW.out) hlt
      have h1 : (k : Int) < (l.length : Int) := by omega
      have h2 : (k : Int) < 64 := by omega
      have hfk := HF.out _ (List.getElem_mem hlt)
      generalize l[k] = sk at c0 c1 hfk
      have PP : Hid (∀ (c n : Int) (w : World), (c = sk.1 ∧ n = 12) ∨ (c = sk.2 ∧ n = 40) → Calls Tryz.prog 12 #[.int .i64 c, .int .i64 n] w (SomeNat w n)) := fun c n w h => by
        rcases h with ⟨rfl, rfl⟩ | ⟨rfl, rfl⟩
        · exact pick_any _ _ w hfk.1 (by omega) (by omega)
        · exact pick_any _ _ w hfk.2 (by omega) (by omega)
      clear hfk
      have HB := HW.out.size
      go_wp2_with fail
      go_region_law (first
        | (go_simp; go_at_call 12; refine (PP.out _ _ _ ?_).mono ?_; exact Or.inl ⟨rfl, rfl⟩; rintro e w' ⟨⟨r, rfl, hr0, hr1⟩, rfl⟩
           have e1 : IntKind.i64.wrap (1 + r) = 1 + r := IntWalk.i64_in _ (by omega))
        | (go_simp; go_at_call 12; refine (PP.out _ _ _ ?_).mono ?_; exact Or.inr ⟨rfl, rfl⟩; rintro e w' ⟨⟨q, rfl, hq0, hq1⟩, rfl⟩
           have e2 : IntKind.i64.wrap (1 + q) = 1 + q := IntWalk.i64_in _ (by omega))
        | (refine step_app (enc := encS) (k := 2) ?_ (.tmp 15) (.tmp 31) 22 ?_ 53 i0 (.agg #[.int .i64 0, .int .i64 0]) 16 ?_ ?_ ?_ ?_ ?_ ?_ ?_ ?_ ?_ w.heap.size A2 n2 c2 l2 ?_ ?_ (wr.heap.size + 1) 1 1 (some ⟨wr.heap.size, 0, none⟩) [(1 + r, 1 + q)] ?_ ?_ ?_ ?_ ?_ ?_
           rfl; rfl; exact Tryz.underlying22; exact hi; exact hz0; exact hz1; exact hz2; rfl; decide; exact lenS; exact oneS; rfl; exact (HO.out.alloc _).drew; rfl; exact (rd_new wr 53 (1 + r, 1 + q) _ rfl).drew; (simp only [maxLen]; omega); omega; (simp; omega)
           intro A5 c5 w5 hown5 hg5 hat5
           have HB5 := Lib.hid (Below.app (HW.out.alloc HB _).drew (HO.out.alloc _).drew hg5 (by simp; omega)); have HO5 := Lib.hid hown5; clear hown5 hg5 hat5))
      all_goals
        simp [Act.put, Act.eval]
        go_wp2
        go_roundw
        case rel =>
          refine ⟨⟨A5, _, c5, _, k + 1, rfl, by go_num, by omega, by omega, by omega, HO5.out, fun x hx => ?_⟩, HB5.out⟩
          rcases List.mem_append.1 hx with hx | hx
          · exact HP2.out x hx
          · rw [List.mem_singleton.1 hx]
            exact ⟨show (1 : Int) ≤ 1 + q by omega, show 1 + q ≤ (40 : Int) by omega⟩
        case measure => simp [intOf]; omega
    · have HC := Lib.hid (choose_any A2 n2 c2 wr.heap.size l2 wr (HO.out.rd lenS) (Nat.le_refl _) (by omega) Wgt HP2.out)
      have HB := HW.out.size
      by_cases hlt : k < l.length
      · have h1 : (k : Int) < (l.length : Int) := by omega
        have h2 : ¬ (k : Int) < 64 := by omega
        go_wp2_with (go_at_call 21; refine HC.out.mono ?_; rintro e w1 ⟨⟨A3, n3, c3, l3, rfl, ho3, hn3, hp3⟩, hb3⟩; have Z0 := Lib.hid (HW.out.trans (hb3.mono HB)); have Z1 := Lib.hid (ho3.mono HB); have Z2 := Lib.hid hp3; clear ho3 hp3 hb3)
        all_goals
          go_ret
          first
            | exact ⟨⟨A3, n3, c3, l3, rfl, Z1.out, hn3, Z2.out⟩, Z0.out⟩
            | exact ⟨⟨_, 1, 1, [(1, 1)], rfl, Own.one w1 w.heap.size (1, 1) _ rfl rfl Z0.out.size, by omega, fun x hx => by rw [List.mem_singleton.1 hx]; exact ⟨show (1 : Int) ≤ 1 by omega, show (1 : Int) ≤ 40 by omega⟩⟩, Z0.out.alloc Z0.out.size _⟩
      · have h1 : ¬ (k : Int) < (l.length : Int) := by omega
        go_wp2_with (go_at_call 21; refine HC.out.mono ?_; rintro e w1 ⟨⟨A3, n3, c3, l3, rfl, ho3, hn3, hp3⟩, hb3⟩; have Z0 := Lib.hid (HW.out.trans (hb3.mono HB)); have Z1 := Lib.hid (ho3.mono HB); have Z2 := Lib.hid hp3; clear ho3 hp3 hb3)
        all_goals
          go_ret
          first
            | exact ⟨⟨A3, n3, c3, l3, rfl, Z1.out, hn3, Z2.out⟩, Z0.out⟩
            | exact ⟨⟨_, 1, 1, [(1, 1)], rfl, Own.one w1 w.heap.size (1, 1) _ rfl rfl Z0.out.size, by omega, fun x hx => by rw [List.mem_singleton.1 hx]; exact ⟨show (1 : Int) ≤ 1 by omega, show (1 : Int) ≤ 40 by omega⟩⟩, Z0.out.alloc Z0.out.size _⟩

end Go.Proofs.YtkjhacfmidmebaaGreat
