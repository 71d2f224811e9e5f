/- Walks: the program's weights, and who has a seat. -/
import Derived.Test.YtkjhacfmidmebaaGreatBench
namespace Go.Proofs.YtkjhacfmidmebaaGreat
open Go.RowKit

/-- the program's Weight: it lays a block a round. -/
theorem weight_any (A A2 : Option Addr) (n c n2 c2 : Nat) (l : List Seat) (m : List Int) (w : World) (h : Rd encS 2 w w.heap.size A n l) (hg : Bench l) (h2 : Rd encI 1 w w.heap.size A2 n2 m) (hm : n2 ≤ 65536) :
    Calls Tryz.prog 55 #[.slice A n c, .slice A2 n2 c2] w fun e w' => e = .returned (.int .i64 (weightS l m)) ∧ Below w.heap.size w w' := by
  obtain rfl := h.1
  have hn := hg.1
  go_enter Tryz.func55, Tryz.ntmps55
  go_wp2
  go_loopw [5, 7, 10] (fun t _ i wr => (∃ j : Nat, j ≤ l.length ∧ i = .int .i64 j ∧ t = .int .i64 (weightS (l.take j) m)) ∧ Below w.heap.size w wr) (fun _ _ i _ => l.length - (intOf i).toNat)
  case atStart => exact ⟨⟨0, Nat.zero_le _, rfl, rfl⟩, Below.refl _ _⟩
  case round =>
    obtain ⟨⟨j, hj, rfl, rfl⟩, hb⟩ := hrel
    have h' := h.below hb
    by_cases hlt : j < l.length
    · obtain ⟨b, off, rfl, hbl, hc1, hc2⟩ := rd_seat h' hlt
      have hz := hb.size
      have hs := hg.2 _ (List.getElem_mem hlt)
      have ht := hg.weightTake m j
      have hba := hb.alloc hz (.cells #[.int .i64 (l[j]).1, .int .i64 (l[j]).2] 53)
      have h2' := h2.below hba
      have HS : Hid (weightS (l.take (j + 1)) m = weightS (l.take j) m + if inL (l[j]).1 m then (l[j]).2 else 0) := by show _ = _; rw [take_succ_of hlt, weight_snoc]
      have HB := Lib.hid hba; clear hba
      go_wp2_with (go_at_call 82; refine (contains_any _ _ _ _ _ _ _ h2' hm).mono ?_; rintro e w' ⟨rfl, rfl⟩)
      · go_roundw
        case rel => exact ⟨⟨j + 1, by omega, by go_num, by rw [HS.out, if_pos ‹_›]⟩, HB.out⟩
        case measure => simp [intOf]; omega
      · go_roundw
        case rel => exact ⟨⟨j + 1, by omega, by go_num, by rw [HS.out, if_neg (by simp [‹inL _ _ = false›])]; simp⟩, HB.out⟩
        case measure => simp [intOf]; omega
    · go_wp2
      go_ret
      exact ⟨ret_int (by rw [List.take_of_length_le (by omega)]), hb⟩

theorem quorum_any (A A2 : Option Addr) (n c n2 c2 : Nat) (l : List Seat) (m : List Int) (w : World) (h : Rd encS 2 w w.heap.size A n l) (hg : Bench l) (h2 : Rd encI 1 w w.heap.size A2 n2 m) (hm : n2 ≤ 65536) :
    Calls Tryz.prog 36 #[.slice A n c, .slice A2 n2 c2] w fun e w' => e = .returned (.bool (quorumS l m)) ∧ Below w.heap.size w w' := by
  have h3 := hg.weight m
  have h4 := hg.total
  go_enter Tryz.func36, Tryz.ntmps36
  go_wp2_with (first
    | (go_at_call 55; refine (weight_any _ _ _ _ _ _ _ _ _ h hg h2 hm).mono ?_; rintro e w1 ⟨rfl, hb1⟩)
    | (go_at_call 56; refine (total_any _ _ _ _ _ ((h.below hb1).more hb1.size) hg).mono ?_; rintro e w2 ⟨rfl, hb2⟩))
  go_ret
  exact ⟨rfl, hb1.trans (hb2.mono hb1.size)⟩

theorem some_any (A A2 : Option Addr) (n c n2 c2 : Nat) (l : List Seat) (m : List Int) (w : World) (h : Rd encS 2 w w.heap.size A n l) (hg : Bench l) (h2 : Rd encI 1 w w.heap.size A2 n2 m) (hm : n2 ≤ 65536) :
    Calls Tryz.prog 40 #[.slice A n c, .slice A2 n2 c2] w fun e w' => e = .returned (.bool (moreS l m)) ∧ Below w.heap.size w w' := by
  have h3 := hg.weight m
  have h4 := hg.total
  go_enter Tryz.func40, Tryz.ntmps40
  go_wp2_with (first
    | (go_at_call 55; refine (weight_any _ _ _ _ _ _ _ _ _ h hg h2 hm).mono ?_; rintro e w1 ⟨rfl, hb1⟩)
    | (go_at_call 56; refine (total_any _ _ _ _ _ ((h.below hb1).more hb1.size) hg).mono ?_; rintro e w2 ⟨rfl, hb2⟩))
  go_ret
  exact ⟨rfl, hb1.trans (hb2.mono hb1.size)⟩

/-- the closure of Has: is it this seat's? -/
theorem hasC_any (B0 : Nat) (s : Seat) (who : Int) (w : World) (hB : B0 < w.heap.size) (hc : w.cell? ⟨B0, 0, none⟩ = some (.int .i64 who)) :
    Calls Tryz.prog 48 #[.agg #[.int .i64 s.1, .int .i64 s.2], .pointer (some ⟨B0, 0, none⟩)] w fun e w' => e = .returned (.bool (s.1 == who)) ∧ Below w.heap.size w w' := by
  go_enter Tryz.func48, Tryz.ntmps48
  go_wp2
  go_ret
  exact ⟨rfl, (Below.refl _ _).alloc (Nat.le_refl _) _⟩

/-- slices.IndexFunc at seats, with that closure. -/
theorem indexF_any (B0 : Nat) (A : Option Addr) (n c : Nat) (l : List Seat) (who : Int) (w : World) (h : Rd encS 2 w w.heap.size A n l) (hm : n ≤ 65536) (hB : B0 < w.heap.size) (hc : w.cell? ⟨B0, 0, none⟩ = some (.int .i64 who)) :
    Calls Tryz.prog 66 #[.slice A n c, .func (.func 48) #[] #[.pointer (some ⟨B0, 0, none⟩)]] w fun e w' => (∃ i : Int, e = .returned (.int .i64 i) ∧ decide (0 ≤ i) = hasS l who) ∧ Below w.heap.size w w' := by
  obtain rfl := h.1
  go_enter Tryz.func66, Tryz.ntmps66
  go_wp2
  go_loopw [5, 8] (fun _ i wr => (∃ j : Nat, j ≤ l.length ∧ i = .int .i64 j ∧ Hid ((l.take j).any (fun x => x.1 == who) = false)) ∧ Below w.heap.size w wr) (fun _ i _ => l.length - (intOf i).toNat)
  case atStart => exact ⟨⟨0, Nat.zero_le _, rfl, rfl⟩, Below.refl _ _⟩
  case round =>
    obtain ⟨⟨j, hj, rfl, Hr⟩, hb⟩ := hrel
    have h' := h.below hb
    have hz := hb.size
    by_cases hlt : j < l.length
    · obtain ⟨b, off, rfl, hbl, hc1, hc2⟩ := rd_seat h' hlt
      have hcw : wr.cell? ⟨B0, 0, none⟩ = some (.int .i64 who) := (hb.cell (p := ⟨B0, 0, none⟩) hB).trans hc
      go_wp2_with (go_at_call 48; refine (hasC_any _ _ _ _ (by omega) hcw).mono ?_; rintro e w1 ⟨rfl, hb1⟩)
      · go_ret
        refine ⟨⟨_, rfl, ?_⟩, hb.trans (hb1.mono hz)⟩
        rw [show hasS l who = true from any_of_get (p := fun x : Seat => x.1 == who) hlt ‹_›]; simp
      · go_roundw
        case rel => exact ⟨⟨j + 1, by omega, by go_num, any_take_succ hlt Hr.out ‹_›⟩, hb.trans (hb1.mono hz)⟩
        case measure => simp [intOf]; omega
    · go_wp2
      go_ret
      refine ⟨⟨_, rfl, ?_⟩, hb⟩
      rw [show hasS l who = false from any_take_all hj hlt Hr.out]; simp

theorem containsF_any (B0 : Nat) (A : Option Addr) (n c : Nat) (l : List Seat) (who : Int) (w : World) (h : Rd encS 2 w w.heap.size A n l) (hm : n ≤ 65536) (hB : B0 < w.heap.size) (hc : w.cell? ⟨B0, 0, none⟩ = some (.int .i64 who)) :
    Calls Tryz.prog 47 #[.slice A n c, .func (.func 48) #[] #[.pointer (some ⟨B0, 0, none⟩)]] w fun e w' => e = .returned (.bool (hasS l who)) ∧ Below w.heap.size w w' := by
  go_enter Tryz.func47, Tryz.ntmps47
  go_wp2_with (go_at_call 66; refine (indexF_any _ _ _ _ _ _ _ h hm hB hc).mono ?_; rintro e w1 ⟨⟨i, rfl, hi⟩, hb1⟩; have Hi := Lib.hid hi; clear hi)
  go_ret
  exact ⟨ret_bool Hi.out, hb1⟩

/-- the program's Has. -/
theorem has_any (A : Option Addr) (n c : Nat) (l : List Seat) (who : Int) (w : World) (h : Rd encS 2 w w.heap.size A n l) (hm : n ≤ 65536) :
    Calls Tryz.prog 24 #[.slice A n c, .int .i64 who] w fun e w' => e = .returned (.bool (hasS l who)) ∧ Below w.heap.size w w' := by
  have hmf : ∀ (fn : Fn) (first cap : Array Value) (w : World), (Instr.makeFunc fn first cap).run Tryz.prog w = .ok (.func fn first cap) w := fun _ _ _ _ => rfl
  have hb0 : Below w.heap.size w (w.alloc (.cells #[.int .i64 who] 3)) := (Below.refl _ _).alloc (Nat.le_refl _) _
  have h' := (h.below hb0).more hb0.size
  have HB := Lib.hid hb0; clear hb0
  have hl : w.heap.size < (w.alloc (.cells #[.int .i64 who] 3)).heap.size := by simp
  have hcell : (w.alloc (.cells #[.int .i64 who] 3)).cell? ⟨w.heap.size, 0, none⟩ = some (.int .i64 who) := by simp
  have hC := containsF_any w.heap.size A n c l who _ h' hm hl hcell
  have HC := Lib.hid hC; clear hC hl hcell
  go_enter Tryz.func24, Tryz.ntmps24
  go_wp2_with (go_at_call 47; refine HC.out.mono ?_; rintro e w1 ⟨rfl, hb1⟩)
  go_ret
  exact ⟨rfl, HB.out.trans (hb1.mono HB.out.size)⟩

end Go.Proofs.YtkjhacfmidmebaaGreat
