/- What a count of votes answers, over a plain list; the reference's count in memory; its Any. -/
import Derived.Test.YtkjhacfmidmebaaGreatSeated
namespace Go.Proofs.YtkjhacfmidmebaaGreat
open Go.RowKit

def isAt (r s : Int) (v : V) : Bool := v.r == r && v.s == s
def anyFr (r s : Int) (L : List V) : List Int := (L.filter (isAt r s)).map (·.fr)
def isSo (r s : Int) (has : Bool) (blk : Int) (v : V) : Bool := v.r == r && v.s == s && v.has == has && v.blk == blk
def soFr (r s : Int) (has : Bool) (blk : Int) (L : List V) : List Int := (L.filter (isSo r s has blk)).map (·.fr)

/-- The reference's count. -/
def DRep (w : World) (C : Nat) (S : List Seat) (H : Int) (L : List V) : Prop :=
  ∃ (As : Option Addr) (ns cs : Nat) (Al : Option Addr) (nl cl : Nat), Blk w C 30 #[.slice As ns cs, .int .i64 H, .slice Al nl cl] ∧ Rd encS 2 w w.heap.size As ns S ∧ Own encV 6 34 w 0 Al nl cl L

theorem DRep.below {w w' : World} {C : Nat} {S : List Seat} {H : Int} {L : List V} (h : DRep w C S H L) (hb : Below w.heap.size w w') : DRep w' C S H L := by
  obtain ⟨As, ns, cs, Al, nl, cl, h1, h2, h3⟩ := h
  exact ⟨As, ns, cs, Al, nl, cl, h1.below hb h1.lt, (h2.below hb).more hb.size, h3.below hb⟩

theorem filt_snoc (p : V → Bool) (l : List V) (x : V) : ((l ++ [x]).filter p).map (·.fr) = (l.filter p).map (·.fr) ++ (if p x then [x.fr] else []) := by
  by_cases h : p x = true <;> simp [List.filter_append, h]

def anyD (S : List Seat) (L : List V) (r s : Int) : Bool := quorumS S (anyFr r s L)

theorem anyFr_take {r s : Int} {L : List V} {k : Nat} (h : k < L.length) : anyFr r s (L.take (k + 1)) = anyFr r s (L.take k) ++ (if isAt r s L[k] then [L[k].fr] else []) := by
  rw [take_succ_of h]
  exact filt_snoc _ _ _
theorem anyFr_len (r s : Int) (L : List V) : (anyFr r s L).length ≤ L.length := by unfold anyFr; rw [List.length_map]; exact List.length_filter_le _ _

set_option maxRecDepth 100000 in
set_option maxHeartbeats 1600000 in
theorem anyD_any (C : Nat) (S : List Seat) (H r s : Int) (L : List V) (w : World) (h : DRep w C S H L) (hS : Bench S) (hL : L.length ≤ 4096) :
    Calls Tryz.prog 16 #[.pointer (some ⟨C, 0, none⟩), .int .i64 r, .int .i64 s] w fun e w' => e = .returned (.bool (anyD S L r s)) ∧ Below w.heap.size w w' := by
  obtain ⟨As, ns, cs, Al, nl, cl, hblk, hseats, hvotes⟩ := h
  have hl := hvotes.1
  subst hl
  have HBk := Lib.hid hblk; have HSe := Lib.hid hseats; have HVo := Lib.hid (hvotes.rd lenV)
  have HS := Lib.hid hS; clear hS
  have hC := hblk.lt
  clear hblk hseats hvotes
  obtain ⟨i0, hi, hz0, hz1, hz2⟩ := info_parts Tryz.info3
  go_enter Tryz.func16, Tryz.ntmps16
  go_wp2
  go_loopw [7, 8] (fun v i wr => Hid (∃ (A2 : Option Addr) (n2 c2 : Nat) (k : Nat), v = .slice A2 n2 c2 ∧ i = .int .i64 k ∧ k ≤ L.length ∧ Own encI 1 3 wr w.heap.size A2 n2 c2 (anyFr r s (L.take k))) ∧ Hid (Below w.heap.size w wr)) (fun _ i _ => L.length - (intOf i).toNat)
  case atStart => exact ⟨⟨none, 0, 0, 0, rfl, rfl, by omega, Own.nil _ _⟩, Below.refl _ _⟩
  case round =>
    obtain ⟨HE, HW⟩ := hrel
    obtain ⟨A2, n2, c2, k, rfl, rfl, hk, hown⟩ := HE.out
    clear HE
    have hn2 : n2 ≤ L.length := by have h1 := hown.1; have h2 := anyFr_len r s (L.take k); have h3 := List.length_take_le' k L; omega
    have HO := Lib.hid hown; clear hown
    have hb := HBk.out.below HW.out hC
    have k0 := hb.cell 0; have k1 := hb.cell 1; have k2 := hb.cell 2
    simp at k0 k1 k2
    clear hb
    have HB := HW.out.size
    by_cases hlt : k < L.length
    · obtain ⟨b, off, rfl, hb, c0, c1, c2', c3, c4, c5⟩ := rd_vote (HVo.out.below HW.out) hlt
      have h1 : (k : Int) < (L.length : Int) := by omega
      have hstep := anyFr_take (r := r) (s := s) hlt
      generalize hv : L[k] = vk at *
      have HStep := Lib.hid hstep; clear hstep
      have hbw : b < wr.heap.size := by omega
      by_cases a1 : (vk.r == r) = true
      · by_cases a2 : (vk.s == s) = true
        · go_wp2_with (at_builtin; first
            | (refine wpList_app rfl (.tmp 40) (.tmp 49) 24 rfl 3 i0 _ 8 Tryz.underlying24 hi hz0 hz1 hz2 rfl (by decide) lenI oneI w.heap.size _ n2 c2 _ rfl (HO.out.alloc _) (wr.heap.size + 1) 1 1 _ [vk.fr] rfl (rd_new wr 3 vk.fr _ rfl) (by simp only [maxLen]; omega) (by omega) (by simp; omega) ?_; intro A5 c5 w5 hown5 hg5 hat5; have HB5 := Lib.hid (Below.app (HW.out.alloc HB _) (HO.out.alloc _) hg5 (by simp; omega)); have HO5 := Lib.hid hown5; clear hown5 hg5 hat5))
          go_roundw
          case rel =>
            refine ⟨⟨A5, _, c5, k + 1, rfl, by go_num, by omega, ?_⟩, HB5.out⟩
            rw [HStep.out]
            simpa [isAt, a1, a2] using HO5.out
          case measure => simp [intOf]; omega
        · have a2' : (vk.s == s) = false := by simpa using a2
          clear a2
          go_wp2
          go_roundw
          case rel =>
            refine ⟨⟨A2, n2, c2, k + 1, rfl, by go_num, by omega, ?_⟩, HW.out⟩
            rw [HStep.out]
            simpa [isAt, a1, a2'] using HO.out
          case measure => simp [intOf]; omega
      · have a1' : (vk.r == r) = false := by simpa using a1
        clear a1
        go_wp2
        go_roundw
        case rel =>
          refine ⟨⟨A2, n2, c2, k + 1, rfl, by go_num, by omega, ?_⟩, HW.out⟩
          rw [HStep.out]
          simpa [isAt, a1'] using HO.out
        case measure => simp [intOf]; omega
    · have h1 : ¬ (k : Int) < (L.length : Int) := by omega
      obtain rfl : k = L.length := by omega
      have hown2 := HO.out
      rw [List.take_length] at hown2
      have HC := Lib.hid (quorumR_any As A2 ns cs n2 c2 S _ wr w.heap.size wr.heap.size (HSe.out.below HW.out) HS.out (hown2.rd lenI) (by omega))
      go_wp2_with (go_at_call 37; refine HC.out.mono ?_; rintro e w1 ⟨rfl, rfl⟩)
      go_ret
      exact ⟨rfl, HW.out⟩

end Go.Proofs.YtkjhacfmidmebaaGreat
