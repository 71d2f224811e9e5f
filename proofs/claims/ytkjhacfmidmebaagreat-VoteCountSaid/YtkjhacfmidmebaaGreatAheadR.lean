/- The reference's Ahead. -/
import Derived.Test.YtkjhacfmidmebaaGreatCount1
namespace Go.Proofs.YtkjhacfmidmebaaGreat
open Go.RowKit

def since (R : Int) (v : V) : Bool := decide (R ≤ v.r)
def sinceFr (R : Int) (L : List V) : List Int := (L.filter (since R)).map (·.fr)
def aheadL (S : List Seat) (L : List V) (round : Int) : List V → Int
  | [] => round
  | v :: t => if round < v.r then (if moreS S (sinceFr v.r L) then v.r else aheadL S L round t) else round
def aheadO (S : List Seat) (L : List V) (round : Int) : Int := aheadL S L round L.reverse

theorem sinceFr_take {R : Int} {L : List V} {k : Nat} (h : k < L.length) : sinceFr R (L.take (k + 1)) = sinceFr R (L.take k) ++ (if since R L[k] then [L[k].fr] else []) := by
  rw [take_succ_of h]
  exact filt_snoc _ _ _
theorem sinceFr_len (R : Int) (L : List V) : (sinceFr R L).length ≤ L.length := by unfold sinceFr; rw [List.length_map]; exact List.length_filter_le _ _

set_option maxRecDepth 100000 in
set_option maxHeartbeats 3200000 in
theorem aheadD_any (C : Nat) (S : List Seat) (H round : Int) (L : List V) (w : World) (h : DRep w C S H L) (hS : Bench S) (hL : L.length ≤ 4096) :
    Calls Tryz.prog 18 #[.pointer (some ⟨C, 0, none⟩), .int .i64 round] w fun e w' => e = .returned (.int .i64 (aheadO S L round)) ∧ Below w.heap.size w w' := by
  obtain ⟨As, ns, cs, Al, nl, cl, hblk, hseats, hvotes⟩ := h
  have hl := hvotes.1
  subst hl
  have HBk := Lib.hid hblk; have HSe := Lib.hid hseats; have HVo := Lib.hid (hvotes.rd lenV)
  have HS := Lib.hid hS; clear hS
  have hC := hblk.lt
  clear hblk hseats hvotes
  obtain ⟨i0, hi, hz0, hz1, hz2⟩ := info_parts Tryz.info3
  have e0 : IntKind.i64.wrap ((L.length : Int) - 1) = (L.length : Int) - 1 := IntWalk.i64_in _ (by omega)
  have j0 := HBk.out.cell 0; have j1 := HBk.out.cell 1; have j2 := HBk.out.cell 2
  simp at j0 j1 j2
  go_enter Tryz.func18, Tryz.ntmps18
  go_wp2
  clear j0 j1 j2 e0
  go_loopw [5] (fun i wr => Hid (∃ k : Nat, i = .int .i64 ((k : Int) - 1) ∧ k ≤ L.length ∧ aheadO S L round = aheadL S L round (L.take k).reverse) ∧ Hid (Below w.heap.size w wr)) (fun i _ => (intOf i + 1).toNat)
  case atStart => exact ⟨⟨L.length, by go_num, by omega, by rw [List.take_length]; rfl⟩, Below.refl _ _⟩
  case round =>
    obtain ⟨HE, HW⟩ := hrel
    obtain ⟨k, rfl, hk, hgo⟩ := HE.out
    clear HE
    have HG := Lib.hid hgo; clear hgo
    have hb := HBk.out.below HW.out hC
    have k0 := hb.cell 0; have k1 := hb.cell 1; have k2 := hb.cell 2
    simp at k0 k1 k2
    clear hb
    have HB := HW.out.size
    rcases k with _ | m
    · have em : ((0 : Nat) : Int) - 1 = -1 := by omega
      rw [em]
      go_wp2
      go_ret
      exact ⟨by rw [HG.out]; rfl, HW.out⟩
    · have em : ((m + 1 : Nat) : Int) - 1 = (m : Int) := by omega
      rw [em]
      have hlt : m < L.length := by omega
      obtain ⟨b, off, rfl, hb, c0, c1, c2', c3, c4, c5⟩ := rd_vote (HVo.out.below HW.out) hlt
      have h1 : (m : Int) < (L.length : Int) := by omega
      have e1 : IntKind.i64.wrap ((m : Int) - 1) = (m : Int) - 1 := IntWalk.i64_in _ (by omega)
      have hstep : aheadO S L round = if round < (L[m]).r then (if moreS S (sinceFr (L[m]).r L) then (L[m]).r else aheadL S L round (L.take m).reverse) else round := by
        rw [HG.out, take_succ_of hlt, List.reverse_append]; rfl
      have HSt := Lib.hid hstep; clear hstep HG
      generalize hv : L[m] = vm at *
      have hbw : b < wr.heap.size := by omega
      by_cases a1 : round < vm.r
      · have a1' : decide (round < vm.r) = true := by simpa using a1
        go_wp2
        go_loopw [6, 7] (fun v i wr => Hid (∃ (A2 : Option Addr) (n2 c2 : Nat) (k : Nat), v = .slice A2 n2 c2 ∧ i = .int .i64 k ∧ k ≤ L.length ∧ Own encI 1 3 wr w.heap.size A2 n2 c2 (sinceFr vm.r (L.take k))) ∧ Hid (Below w.heap.size w wr)) (fun _ i _ => L.length - (intOf i).toNat)
        case atStart => exact ⟨⟨none, 0, 0, 0, rfl, rfl, by omega, Own.nil _ _⟩, HW.out⟩
        case round =>
          clear HW k0 k1 k2 HB hbw c0 c1 c2' c3 c4 c5
          obtain ⟨HE, HW⟩ := hrel
          obtain ⟨A2, n2, c2, k, rfl, rfl, hk, hown⟩ := HE.out
          clear HE
          have hn2 : n2 ≤ L.length := by have h1 := hown.1; have h2 := sinceFr_len vm.r (L.take k); have h3 := List.length_take_le' k L; omega
          have HO := Lib.hid hown; clear hown
          have hbb := HBk.out.below HW.out hC
          have k0 := hbb.cell 0; have k1 := hbb.cell 1; have k2 := hbb.cell 2
          simp at k0 k1 k2
          clear hbb
          have HB := HW.out.size
          obtain ⟨_, _, hA', _, d0, d1, d2, d3, d4, d5⟩ := rd_vote (HVo.out.below HW.out) hlt
          injection hA' with hA'
          injection hA' with hA1 hA2
          subst hA1 hA2
          rw [hv] at d0 d1 d2 d3 d4 d5
          have hbw : b < wr.heap.size := by omega
          by_cases hlt2 : k < L.length
          · obtain ⟨_, _, hA', _, c0, c1, c2', c3, c4, c5⟩ := rd_vote (HVo.out.below HW.out) hlt2
            injection hA' with hA'
            injection hA' with hA1 hA2
            subst hA1 hA2
            have hk1 : (k : Int) < (L.length : Int) := by omega
            have hstep := sinceFr_take (R := vm.r) hlt2
            generalize hvk : L[k] = vk at *
            have HSk := Lib.hid hstep; clear hstep
            by_cases b1 : vm.r ≤ vk.r
            · have b1' : decide (vm.r ≤ vk.r) = true := by simpa using b1
              go_wp2_with fail
              go_quiet (fail)
              have X0 : Hid (Below w.heap.size w (wr.drewN nq)) := below_drewN HW.out nq
              have X1 : Hid (Own encI 1 3 (wr.drewN nq) w.heap.size A2 n2 c2 (sinceFr vm.r (L.take k))) := HO.out
              have RN := Lib.hid (rd_new (enc := encI) (k := 1) (wr.drewN nq) 3 vk.fr #[.int .i64 vk.fr] rfl)
              have hBs := X0.out.size
              go_wp2_with (at_builtin; first
                | (refine wpList_app rfl (.tmp 57) (.tmp 66) 24 rfl 3 i0 _ 8 Tryz.underlying24 hi hz0 hz1 hz2 rfl (by decide) lenI oneI w.heap.size _ n2 c2 _ rfl (X1.out.alloc _) ((wr.drewN nq).heap.size + 1) 1 1 _ [vk.fr] rfl RN.out (by simp only [maxLen]; omega) (by omega) (X0.out.alloc hBs _).size ?_; intro A5 c5 w5 hown5 hg5 hat5; have HB5 := Lib.hid (Below.app (X0.out.alloc hBs _) (X1.out.alloc _) hg5 (X0.out.alloc hBs _).size); have HO5 := Lib.hid hown5; clear hown5 hg5 hat5))
              go_roundw
              case rel =>
                refine ⟨⟨A5, _, c5, k + 1, rfl, by go_num, by omega, ?_⟩, HB5.out⟩
                have hso : since vm.r vk = true := b1'
                rw [HSk.out, hso, if_pos rfl]
                exact HO5.out
              case measure => simp [intOf] <;> omega
            · have b1' : decide (vm.r ≤ vk.r) = false := by simpa using b1
              go_wp2_with fail
              go_quiet (fail)
              go_wp2
              go_roundw
              case rel =>
                refine ⟨⟨A2, n2, c2, k + 1, rfl, by go_num, by omega, ?_⟩, below_drewN HW.out nq⟩
                have hso : since vm.r vk = false := b1'
                rw [HSk.out, hso, if_neg (by simp), List.append_nil]
                exact HO.out
              case measure => simp [intOf] <;> omega
          · have hk1 : ¬ (k : Int) < (L.length : Int) := by omega
            obtain rfl : k = L.length := by omega
            have hown2 := HO.out
            rw [List.take_length] at hown2
            have HC := Lib.hid (moreR_any As A2 ns cs n2 c2 S _ wr w.heap.size wr.heap.size (HSe.out.below HW.out) HS.out (hown2.rd lenI) (by omega))
            by_cases hq : moreS S (sinceFr vm.r L) = true
            · go_wp2_with (go_at_call 41; refine HC.out.mono ?_; rintro e w1 ⟨rfl, rfl⟩)
              go_ret
              exact ⟨by rw [HSt.out, if_pos a1, if_pos hq]; rfl, HW.out⟩
            · have hq' : moreS S (sinceFr vm.r L) = false := by simpa using hq
              go_wp2_with (go_at_call 41; refine HC.out.mono ?_; rintro e w1 ⟨rfl, rfl⟩)
              go_roundw
              case rel => exact ⟨⟨m, rfl, by omega, by rw [HSt.out, if_pos a1, if_neg hq]⟩, HW.out⟩
              case measure => simp [intOf] <;> omega
      · have a1' : decide (round < vm.r) = false := by simpa using a1
        go_wp2
        go_ret
        exact ⟨by rw [HSt.out, if_neg (by omega)]; rfl, HW.out⟩

end Go.Proofs.YtkjhacfmidmebaaGreat
