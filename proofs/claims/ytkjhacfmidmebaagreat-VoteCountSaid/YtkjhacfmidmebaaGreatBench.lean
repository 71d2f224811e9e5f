/- Walks: seats, weights, who has a seat. -/
import Derived.Test.YtkjhacfmidmebaaGreatSpec
namespace Go.Proofs.YtkjhacfmidmebaaGreat
open Go.RowKit

theorem any_take_succ {α : Type} {l : List α} {p : α → Bool} {k : Nat} (h : k < l.length) (h1 : (l.take k).any p = false) (h2 : p l[k] = false) : (l.take (k + 1)).any p = false := by
  rw [take_succ_of h, List.any_append, h1]; simp [h2]
theorem any_of_get {α : Type} {l : List α} {p : α → Bool} {k : Nat} (h : k < l.length) (h2 : p l[k] = true) : l.any p = true :=
  List.any_eq_true.2 ⟨_, List.getElem_mem h, h2⟩
theorem any_take_all {α : Type} {l : List α} {p : α → Bool} {k : Nat} (hk : k ≤ l.length) (h : ¬ k < l.length) (h1 : (l.take k).any p = false) : l.any p = false := by
  rwa [List.take_of_length_le (by omega)] at h1

/-- 'in': is k among them? -/
theorem in_any (k : Int) (A : Option Addr) (n c : Nat) (l : List Int) (w : World) (B : Nat) (h : Rd encI 1 w B A n l) (hm : n ≤ 65536) :
    Calls Tryz.prog 83 #[.int .i64 k, .slice A n c] w fun e w' => e = .returned (.bool (inL k l)) ∧ w = w' := by
  obtain rfl := h.1
  go_enter Tryz.func83, Tryz.ntmps83
  go_wp2
  go_loop [5] (fun i => ∃ j : Nat, j ≤ l.length ∧ i = .int .i64 j ∧ Hid ((l.take j).any (fun x => x == k) = false)) (fun i => l.length - (intOf i).toNat)
  case atStart => exact ⟨0, Nat.zero_le _, rfl, rfl⟩
  case round =>
    obtain ⟨j, hj, rfl, Hr⟩ := hrel
    by_cases hlt : j < l.length
    · obtain ⟨b, off, rfl, _, hc1⟩ := rd_int h hlt
      go_wp2
      · go_ret
        exact ⟨ret_bool (any_of_get hlt (by assumption)).symm, rfl⟩
      · go_round
        case rel => exact ⟨j + 1, by omega, by go_num, any_take_succ hlt Hr.out (by assumption)⟩
        case measure => simp [intOf]; omega
    · go_wp2
      go_ret
      exact ⟨ret_bool (any_take_all hj hlt Hr.out).symm, rfl⟩

/-- the reference's Has. -/
theorem hasR_any (A : Option Addr) (n c : Nat) (l : List Seat) (who : Int) (w : World) (B : Nat) (h : Rd encS 2 w B A n l) (hm : n ≤ 65536) :
    Calls Tryz.prog 27 #[.slice A n c, .int .i64 who] w fun e w' => e = .returned (.bool (hasS l who)) ∧ w = w' := by
  obtain rfl := h.1
  go_enter Tryz.func27, Tryz.ntmps27
  go_wp2
  go_loop [5] (fun i => ∃ j : Nat, j ≤ l.length ∧ i = .int .i64 j ∧ Hid ((l.take j).any (fun s => s.1 == who) = false)) (fun i => l.length - (intOf i).toNat)
  case atStart => exact ⟨0, Nat.zero_le _, rfl, rfl⟩
  case round =>
    obtain ⟨j, hj, rfl, Hr⟩ := hrel
    by_cases hlt : j < l.length
    · obtain ⟨b, off, rfl, _, hc1, hc2⟩ := rd_seat h hlt
      go_wp2
      · go_ret
        exact ⟨ret_bool (any_of_get (p := fun s : Seat => s.1 == who) hlt (by assumption)).symm, rfl⟩
      · go_round
        case rel => exact ⟨j + 1, by omega, by go_num, any_take_succ hlt Hr.out (by assumption)⟩
        case measure => simp [intOf]; omega
    · go_wp2
      go_ret
      exact ⟨ret_bool (any_take_all hj hlt Hr.out).symm, rfl⟩

/-- the reference's Total. -/
theorem totalR_any (A : Option Addr) (n c : Nat) (l : List Seat) (w : World) (B : Nat) (h : Rd encS 2 w B A n l) (hg : Bench l) :
    Calls Tryz.prog 58 #[.slice A n c] w fun e w' => e = .returned (.int .i64 (totalS l)) ∧ w = w' := by
  obtain rfl := h.1
  have hn := hg.1
  go_enter Tryz.func58, Tryz.ntmps58
  go_wp2
  go_loop [3, 4] (fun t i => ∃ j : Nat, j ≤ l.length ∧ i = .int .i64 j ∧ t = .int .i64 (totalS (l.take j))) (fun _ i => l.length - (intOf i).toNat)
  case atStart => exact ⟨0, Nat.zero_le _, rfl, rfl⟩
  case round =>
    obtain ⟨j, hj, rfl, rfl⟩ := hrel
    by_cases hlt : j < l.length
    · obtain ⟨b, off, rfl, _, hc1, hc2⟩ := rd_seat h hlt
      have hs := hg.2 _ (List.getElem_mem hlt)
      have ht := hg.totalTake j
      have HS : Hid (totalS (l.take (j + 1)) = totalS (l.take j) + (l[j]).2) := by show _ = _; rw [take_succ_of hlt, total_snoc]
      go_wp2
      go_round
      case rel => exact ⟨j + 1, by omega, by go_num, by rw [HS.out]⟩
      case measure => simp [intOf]; omega
    · go_wp2
      go_ret
      exact ⟨ret_int (by rw [List.take_of_length_le (by omega)]), rfl⟩

/-- the reference's Weight. -/
theorem weightR_any (A A2 : Option Addr) (n c n2 c2 : Nat) (l : List Seat) (m : List Int) (w : World) (B B2 : Nat) (h : Rd encS 2 w B A n l) (hg : Bench l) (h2 : Rd encI 1 w B2 A2 n2 m) (hm : n2 ≤ 65536) :
    Calls Tryz.prog 57 #[.slice A n c, .slice A2 n2 c2] w fun e w' => e = .returned (.int .i64 (weightS l m)) ∧ w = w' := by
  obtain rfl := h.1
  have hn := hg.1
  go_enter Tryz.func57, Tryz.ntmps57
  go_wp2
  go_loop [5, 6, 7] (fun t i _ => ∃ j : Nat, j ≤ l.length ∧ i = .int .i64 j ∧ t = .int .i64 (weightS (l.take j) m)) (fun _ i _ => l.length - (intOf i).toNat)
  case atStart => exact ⟨0, Nat.zero_le _, rfl, rfl⟩
  case round =>
    obtain ⟨j, hj, rfl, rfl⟩ := hrel
    by_cases hlt : j < l.length
    · obtain ⟨b, off, rfl, _, hc1, hc2⟩ := rd_seat h hlt
      have hs := hg.2 _ (List.getElem_mem hlt)
      have ht := hg.weightTake m j
      have HS : Hid (weightS (l.take (j + 1)) m = weightS (l.take j) m + if inL (l[j]).1 m then (l[j]).2 else 0) := by show _ = _; rw [take_succ_of hlt, weight_snoc]
      go_wp2_with (go_at_call 83; refine (in_any _ _ _ _ _ _ _ h2 hm).mono ?_; rintro e w' ⟨rfl, rfl⟩)
      · go_round
        case rel => exact ⟨j + 1, by omega, by go_num, by rw [HS.out, if_pos ‹_›]⟩
        case measure => simp [intOf]; omega
      · go_round
        case rel => exact ⟨j + 1, by omega, by go_num, by rw [HS.out, if_neg (by simp [‹inL _ _ = false›])]; simp⟩
        case measure => simp [intOf]; omega
    · go_wp2
      go_ret
      exact ⟨ret_int (by rw [List.take_of_length_le (by omega)]), rfl⟩

theorem quorumR_any (A A2 : Option Addr) (n c n2 c2 : Nat) (l : List Seat) (m : List Int) (w : World) (B B2 : Nat) (h : Rd encS 2 w B A n l) (hg : Bench l) (h2 : Rd encI 1 w B2 A2 n2 m) (hm : n2 ≤ 65536) :
    Calls Tryz.prog 37 #[.slice A n c, .slice A2 n2 c2] w fun e w' => e = .returned (.bool (quorumS l m)) ∧ w = w' := by
  have h3 := hg.weight m
  have h4 := hg.total
  go_enter Tryz.func37, Tryz.ntmps37
  go_wp2_with (first
    | (go_at_call 57; refine (weightR_any _ _ _ _ _ _ _ _ _ _ _ h hg h2 hm).mono ?_; rintro e w' ⟨rfl, rfl⟩)
    | (go_at_call 58; refine (totalR_any _ _ _ _ _ _ h hg).mono ?_; rintro e w' ⟨rfl, rfl⟩))
  go_ret
  exact ⟨rfl, rfl⟩

theorem moreR_any (A A2 : Option Addr) (n c n2 c2 : Nat) (l : List Seat) (m : List Int) (w : World) (B B2 : Nat) (h : Rd encS 2 w B A n l) (hg : Bench l) (h2 : Rd encI 1 w B2 A2 n2 m) (hm : n2 ≤ 65536) :
    Calls Tryz.prog 41 #[.slice A n c, .slice A2 n2 c2] w fun e w' => e = .returned (.bool (moreS l m)) ∧ w = w' := by
  have h3 := hg.weight m
  have h4 := hg.total
  go_enter Tryz.func41, Tryz.ntmps41
  go_wp2_with (first
    | (go_at_call 57; refine (weightR_any _ _ _ _ _ _ _ _ _ _ _ h hg h2 hm).mono ?_; rintro e w' ⟨rfl, rfl⟩)
    | (go_at_call 58; refine (totalR_any _ _ _ _ _ _ h hg).mono ?_; rintro e w' ⟨rfl, rfl⟩))
  go_ret
  exact ⟨rfl, rfl⟩

/-- slices.Index at ints: where it stands first; -1. -/
theorem index_any (k : Int) (A : Option Addr) (n c : Nat) (l : List Int) (w : World) (B : Nat) (h : Rd encI 1 w B A n l) (hm : n ≤ 65536) :
    Calls Tryz.prog 100 #[.slice A n c, .int .i64 k] w fun e w' => (∃ i : Int, e = .returned (.int .i64 i) ∧ decide (0 ≤ i) = inL k l) ∧ w = w' := by
  obtain rfl := h.1
  go_enter Tryz.func100, Tryz.ntmps100
  go_wp2
  go_loop [5, 8] (fun _ i => ∃ j : Nat, j ≤ l.length ∧ i = .int .i64 j ∧ Hid ((l.take j).any (fun x => x == k) = false)) (fun _ i => l.length - (intOf i).toNat)
  case atStart => exact ⟨0, Nat.zero_le _, rfl, rfl⟩
  case round =>
    obtain ⟨j, hj, rfl, Hr⟩ := hrel
    by_cases hlt : j < l.length
    · obtain ⟨b, off, rfl, _, hc1⟩ := rd_int h hlt
      go_wp2
      · go_ret
        refine ⟨⟨_, rfl, ?_⟩, rfl⟩
        have hk : (l[j] == k) = true := by have h1 : (k == l[j]) = true := by assumption
                                           rw [beq_iff_eq] at h1 ⊢; exact h1.symm
        rw [show inL k l = true from any_of_get (p := fun x => x == k) hlt hk]; simp
      · go_round
        case rel =>
          have hk : (l[j] == k) = false := by
            have h1 : (k == l[j]) = false := by assumption
            rw [beq_eq_false_iff_ne] at h1 ⊢; exact h1.symm
          exact ⟨j + 1, by omega, by go_num, any_take_succ hlt Hr.out hk⟩
        case measure => simp [intOf]; omega
    · go_wp2
      go_ret
      refine ⟨⟨_, rfl, ?_⟩, rfl⟩
      rw [show inL k l = false from any_take_all hj hlt Hr.out]; simp

theorem contains_any (k : Int) (A : Option Addr) (n c : Nat) (l : List Int) (w : World) (B : Nat) (h : Rd encI 1 w B A n l) (hm : n ≤ 65536) :
    Calls Tryz.prog 82 #[.slice A n c, .int .i64 k] w fun e w' => e = .returned (.bool (inL k l)) ∧ w = w' := by
  go_enter Tryz.func82, Tryz.ntmps82
  go_wp2_with (go_at_call 100; refine (index_any _ _ _ _ _ _ _ h hm).mono ?_; rintro e w' ⟨⟨i, rfl, hi⟩, rfl⟩; have Hi := Lib.hid hi; clear hi)
  go_ret
  exact ⟨ret_bool Hi.out, rfl⟩

/-- the program's Total: it lays a block a round. -/
theorem total_any (A : Option Addr) (n c : Nat) (l : List Seat) (w : World) (h : Rd encS 2 w w.heap.size A n l) (hg : Bench l) :
    Calls Tryz.prog 56 #[.slice A n c] w fun e w' => e = .returned (.int .i64 (totalS l)) ∧ Below w.heap.size w w' := by
  obtain rfl := h.1
  have hn := hg.1
  go_enter Tryz.func56, Tryz.ntmps56
  go_wp2
  go_loopw [3, 5, 8] (fun t _ i wr => (∃ j : Nat, j ≤ l.length ∧ i = .int .i64 j ∧ t = .int .i64 (totalS (l.take j))) ∧ Below w.heap.size w wr) (fun _ _ i _ => l.length - (intOf i).toNat)
  case atStart => exact ⟨⟨0, Nat.zero_le _, rfl, rfl⟩, Below.refl _ _⟩
  case round =>
    obtain ⟨⟨j, hj, rfl, rfl⟩, hb⟩ := hrel
    have h' := h.below hb
    by_cases hlt : j < l.length
    · obtain ⟨b, off, rfl, hbl, hc1, hc2⟩ := rd_seat h' hlt
      have hz := hb.size
      have hs := hg.2 _ (List.getElem_mem hlt)
      have ht := hg.totalTake j
      have HS : Hid (totalS (l.take (j + 1)) = totalS (l.take j) + (l[j]).2) := by show _ = _; rw [take_succ_of hlt, total_snoc]
      go_wp2
      go_roundw
      case rel => exact ⟨⟨j + 1, by omega, by go_num, by rw [HS.out]⟩, by
        have := hb.alloc hz (.cells #[.int .i64 (l[j]).1, .int .i64 (l[j]).2] 53)
        simpa using this⟩
      case measure => simp [intOf]; omega
    · go_wp2
      go_ret
      exact ⟨ret_int (by rw [List.take_of_length_le (by omega)]), hb⟩

end Go.Proofs.YtkjhacfmidmebaaGreat
