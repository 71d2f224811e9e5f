/- Walks: the reference's Choose; the law's seated: some bench. -/
import Derived.Test.YtkjhacfmidmebaaGreatChoose
namespace Go.Proofs.YtkjhacfmidmebaaGreat
open Go.RowKit

/-- Some seats, at most N, of the call's own; P of each. -/
def Some_ (w : World) (N : Nat) (P : Seat → Prop) (e : Ending) (w' : World) : Prop :=
  (∃ A' n' c' l', e = .returned (.slice A' n' c') ∧ Own encS 2 53 w' w.heap.size A' n' c' l' ∧ n' ≤ N ∧ ∀ x ∈ l', P x) ∧ Below w.heap.size w w'

theorem Own.mono {α : Type} {enc : α → List Value} {k : Nat} {e : TypeId} {w : World} {base base' n c : Nat} {A : Option Addr} {l : List α} (h : Own enc k e w base A n c l) (hb : base' ≤ base) : Own enc k e w base' A n c l := by
  obtain ⟨h1, h2, h3⟩ := h
  refine ⟨h1, h2, ?_⟩
  rcases h3 with h3 | ⟨g, cap, cur, hv, hg, rest⟩
  · exact .inl h3
  · exact .inr ⟨g, cap, cur, hv, by omega, rest⟩

def lenOf : Value → Nat
  | .slice _ n _ => n
  | _ => 0

set_option maxRecDepth 100000 in
set_option maxHeartbeats 1600000 in
theorem choose_any (A : Option Addr) (n c B : Nat) (l : List Seat) (w : World) (h : Rd encS 2 w B A n l) (hB : B ≤ w.heap.size) (hn : n ≤ 64) (P : Seat → Prop) (hP : ∀ x ∈ l, P x) :
    Calls Tryz.prog 21 #[.slice A n c] w (Some_ w 7 P) := by
  obtain rfl := h.1
  have HH := Lib.hid h; clear h
  have HP := Lib.hid hP; clear hP
  have HBw := Lib.hid hB; clear hB
  obtain ⟨i0, hi, hz0, hz1, hz2⟩ := info_parts Tryz.info53
  go_enter Tryz.func21, Tryz.ntmps21
  go_wp2
  go_loopw [3, 4] (fun v i wr => Hid (∃ (A2 : Option Addr) (n2 c2 : Nat) (l2 : List Seat) (k : Nat), v = .slice A2 n2 c2 ∧ i = .int .i64 k ∧ k ≤ l.length ∧ n2 ≤ k ∧ Own encS 2 53 wr w.heap.size A2 n2 c2 l2 ∧ ∀ x ∈ l2, P x) ∧ Hid (Below w.heap.size w wr)) (fun _ i _ => l.length - (intOf i).toNat)
  case atStart => exact ⟨⟨none, 0, 0, [], 0, rfl, rfl, by omega, by omega, Own.nil _ _, by simp⟩, Below.refl _ _⟩
  case round =>
    obtain ⟨HE, HW⟩ := hrel
    obtain ⟨A2, n2, c2, l2, k, rfl, rfl, hk, hn2, hown, hP2⟩ := HE.out
    clear HE
    have HO := Lib.hid hown; have HP2 := Lib.hid hP2; clear hown hP2
    by_cases hlt : k < l.length
    · obtain ⟨b, off, rfl, hb, c0, c1⟩ := rd_seat (HH.out.keep (fun p hp => HW.out.cell (by have := HBw.out; omega))) hlt
      have HR := Lib.hid (HH.out.keep (fun p hp => HW.out.cell (by have := HBw.out; omega)) : Rd encS 2 wr B (some ⟨b, off, none⟩) l.length l)
      have hj0 : (k : Int) < (l.length : Int) := by omega
      go_wp2
      go_loopw [5, 6] (fun v i w2 => (∃ (b1 : Bool) (j : Nat), v = .bool b1 ∧ i = .int .i64 j ∧ j ≤ k) ∧ ∃ q, w2 = wr.drewN q) (fun _ i _ => k - (intOf i).toNat)
      case atStart => exact ⟨⟨true, 0, rfl, rfl, by omega⟩, 0, rfl⟩
      case round =>
        obtain ⟨⟨b1, j, rfl, rfl, hj⟩, q, rfl⟩ := hrel
        by_cases hjl : j < k
        · have hjn : j < l.length := by omega
          obtain ⟨b', off', hA', _, d0, d1⟩ := rd_seat HR.out hjn
          injection hA' with hA'
          injection hA' with hA1 hA2
          subst hA1 hA2
          have g1 : decide ((j : Int) < (k : Int)) = true := by simp; omega
          have g2 : (j : Int) < (l.length : Int) := by omega
          rcases b1 with _ | _
          · go_wp2_with fail
            go_quiet (fail)
            go_wp2
            go_roundw
            case rel => exact ⟨⟨_, j + 1, rfl, by go_num, by omega⟩, _, rfl⟩
            case measure => simp [intOf]; omega
          · go_wp2_with fail
            go_quiet (fail)
            go_wp2
            go_roundw
            case rel => exact ⟨⟨_, j + 1, rfl, by go_num, by omega⟩, _, rfl⟩
            case measure => simp [intOf]; omega
        · have g1 : decide ((j : Int) < (k : Int)) = false := by simp; omega
          have X0 : Below w.heap.size w (wr.drewN q) := below_drewN HW.out q
          have X1 : Own encS 2 53 (wr.drewN q) w.heap.size A2 n2 c2 l2 := HO.out
          have X2 : Rd encS 2 (wr.drewN q) B (some ⟨b, off, none⟩) l.length l := HR.out
          have X3 : (wr.drewN q).cell? ⟨b, off + k * 2, none⟩ = _ := c0
          have X4 : (wr.drewN q).cell? ⟨b, off + k * 2 + 1, none⟩ = _ := c1
          have hbl : b < w.heap.size := by have := HBw.out; omega
          clear c0 c1
          generalize wr.drewN q = wb at *
          have Y0 := Lib.hid X0; have Y1 := Lib.hid X1; have Y2 := Lib.hid X2
          clear X0 X1 X2
          have HC := Lib.hid (seatMay_any l[k] wb)
          have hbb : b < wb.heap.size := by have := Y0.out.size; omega
          go_wp2_with (first
            | (go_at_call 43; refine HC.out.mono ?_; rintro e w1 ⟨⟨bb, rfl⟩, hb1⟩; have c01 := ((bcell hb1).1 _ _ hbb).trans X3; have c11 := ((bcell hb1).1 _ _ hbb).trans X4; have Z0 := Lib.hid (Y0.out.trans (hb1.mono Y0.out.size)); have Z1 := Lib.hid (Y1.out.below hb1); clear hb1)
            | (at_builtin; refine wpList_app rfl (.tmp 45) (.tmp 50) 22 rfl 53 i0 _ 16 Tryz.underlying22 hi hz0 hz1 hz2 rfl (by decide) lenS oneS w.heap.size _ n2 c2 _ rfl (Z1.out.alloc _) (w1.heap.size + 1) 1 1 _ [l[k]] rfl (rd_new w1 53 l[k] _ rfl) (by simp only [maxLen]; omega) (by omega) (by have := Z0.out.size; simp; omega) ?_; intro A5 c5 w5 hown5 hg5 hat5; have B5 := Lib.hid (Below.app (Z0.out.alloc Z0.out.size _) (Z1.out.alloc _) hg5 (by have := Z0.out.size; simp; omega)); have O5 := Lib.hid hown5; clear hown5 hg5 hat5))
          all_goals first
            | exact ⟨⟨⟨A2, n2, c2, l2, k + 1, rfl, by go_num, by omega, by omega, Z1.out, HP2.out⟩, Z0.out⟩, by simp [intOf]; omega⟩
            | exact ⟨⟨⟨A5, n2 + 1, c5, _, k + 1, rfl, by go_num, by omega, by omega, O5.out, fun x hx => by
                rcases List.mem_append.1 hx with hx | hx
                · exact HP2.out x hx
                · rw [List.mem_singleton.1 hx]; exact HP.out _ (List.getElem_mem _)⟩, B5.out⟩, by simp [intOf]; omega⟩
    · have g0 : ¬ (k : Int) < (l.length : Int) := by omega
      have hn64 : n2 ≤ 64 := by omega
      clear hlt hn2 hk
      go_wp2
      clear g0
      go_loopw [3, 8] (fun v v8 wr => Hid (∃ (A3 : Option Addr) (n3 c3 : Nat) (l3 : List Seat) (A8 : Option Addr) (n8 c8 : Nat) (l8 : List Seat), v = .slice A3 n3 c3 ∧ v8 = .slice A8 n8 c8 ∧ n3 ≤ 64 ∧ n8 ≤ 7 ∧ Own encS 2 53 wr w.heap.size A3 n3 c3 l3 ∧ Own encS 2 53 wr w.heap.size A8 n8 c8 l8 ∧ (∀ x ∈ l3, P x) ∧ ∀ x ∈ l8, P x) ∧ Hid (Below w.heap.size w wr)) (fun v _ _ => lenOf v)
      case atStart => exact ⟨⟨A2, n2, c2, l2, none, 0, 0, [], rfl, rfl, hn64, by omega, HO.out, Own.nil _ _, HP2.out, by simp⟩, HW.out⟩
      case round =>
        clear HO HW HP2 hn64
        obtain ⟨HE, HW⟩ := hrel
        obtain ⟨A3, n3, c3, l3, A8, n8, c8, l8, rfl, rfl, hn3, hn8, hown3, hown8, hP3, hP8⟩ := HE.out
        clear HE
        have HO3 := Lib.hid hown3; have HP3 := Lib.hid hP3; clear hown3 hP3
        have HO8 := Lib.hid hown8; have HP8 := Lib.hid hP8; clear hown8 hP8
        by_cases hgo : n8 < 7 ∧ 0 < n3
        · obtain ⟨h7, h0⟩ := hgo
          have HR := Lib.hid (HO3.out.rd lenS)
          have hl3 := HR.out.1
          subst hl3
          obtain ⟨g, rfl, hgb, hgl, hc3, hc3m⟩ : ∃ g, A3 = some ⟨g, 0, none⟩ ∧ w.heap.size ≤ g ∧ g < wr.heap.size ∧ l3.length ≤ c3 ∧ c3 ≤ maxLen := by
            rcases HO3.out.cases_ with ⟨_, hn, _, _⟩ | h
            · omega
            · exact h
          have i7 : (n8 : Int) < 7 := by omega
          have ipos : (0 : Int) < (l3.length : Int) := by omega
          go_wp2
          go_loopw [9, 10] (fun v i w2 => (∃ (b1 j : Nat), v = .int .i64 b1 ∧ i = .int .i64 j ∧ b1 < l3.length ∧ 1 ≤ j ∧ j ≤ l3.length) ∧ ∃ q, w2 = wr.drewN q) (fun _ i _ => l3.length - (intOf i).toNat)
          case atStart => exact ⟨⟨0, 1, rfl, rfl, by omega, by omega, by omega⟩, 0, rfl⟩
          case round =>
            obtain ⟨⟨b1, j, rfl, rfl, hb1, hj1, hj⟩, q, rfl⟩ := hrel
            by_cases hjl : j < l3.length
            · obtain ⟨_, _, hA', _, d0, d1⟩ := rd_seat HR.out hjl
              injection hA' with hA'
              injection hA' with hA1 hA2
              subst hA1 hA2
              obtain ⟨_, _, hA', _, f0, f1⟩ := rd_seat HR.out hb1
              injection hA' with hA'
              injection hA' with hA1 hA2
              subst hA1 hA2
              simp only [Nat.zero_add] at d0 d1 f0 f1
              have g1 : (j : Int) < (l3.length : Int) := by omega
              have g2 : (b1 : Int) < (l3.length : Int) := by omega
              generalize l3[j] = sj at d0 d1
              generalize l3[b1] = sb at f0 f1
              by_cases hw1 : decide (sb.2 < sj.2) = true
              · go_wp2_with fail
                go_quiet (fail)
                go_wp2
                go_roundw
                case rel => exact ⟨⟨j, j + 1, rfl, by go_num, by omega, by omega, by omega⟩, _, rfl⟩
                case measure => simp [intOf]; omega
              · have hw1' : decide (sb.2 < sj.2) = false := by simpa using hw1
                clear hw1
                by_cases hw2 : (sj.2 == sb.2) = true
                · go_wp2_with fail
                  go_quiet (fail)
                  go_wp2
                  all_goals first
                    | exact ⟨⟨⟨j, j + 1, rfl, by go_num, by omega, by omega, by omega⟩, _, rfl⟩, by simp [intOf]; omega⟩
                    | exact ⟨⟨⟨b1, j + 1, rfl, by go_num, by omega, by omega, by omega⟩, _, rfl⟩, by simp [intOf]; omega⟩
                · have hw2' : (sj.2 == sb.2) = false := by simpa using hw2
                  clear hw2
                  go_wp2_with fail
                  go_quiet (fail)
                  go_wp2
                  all_goals exact ⟨⟨⟨b1, j + 1, rfl, by go_num, by omega, by omega, by omega⟩, _, rfl⟩, by simp [intOf]; omega⟩
            · obtain ⟨_, _, hA', _, f0, f1⟩ := rd_seat HR.out hb1
              injection hA' with hA'
              injection hA' with hA1 hA2
              subst hA1 hA2
              simp only [Nat.zero_add] at f0 f1
              have g2 : (b1 : Int) < (l3.length : Int) := by omega
              have g3 : ¬ (j : Int) < (l3.length : Int) := by omega
              have X0 : Below w.heap.size w (wr.drewN q) := below_drewN HW.out q
              have X1 : Own encS 2 53 (wr.drewN q) w.heap.size (some ⟨g, 0, none⟩) l3.length c3 l3 := HO3.out
              have X2 : Own encS 2 53 (wr.drewN q) w.heap.size A8 n8 c8 l8 := HO8.out
              have X3 : (wr.drewN q).cell? ⟨g, b1 * 2, none⟩ = _ := f0
              have X4 : (wr.drewN q).cell? ⟨g, b1 * 2 + 1, none⟩ = _ := f1
              have X5 : g < (wr.drewN q).heap.size := hgl
              clear f0 f1 HR HW HO3 HO8 hgl
              generalize wr.drewN q = wb at *
              have Y0 := Lib.hid X0; have Y1 := Lib.hid X1; have Y2 := Lib.hid X2
              clear X0 X1 X2
              have HC := Lib.hid (insert_any A8 n8 c8 w.heap.size l8 l3[b1] wb Y2.out (by omega) P HP8.out (HP3.out _ (List.getElem_mem _)))
              by_cases hck : c3 = b1 + 1
              · go_wp2_with (go_at_call 44; refine HC.out.mono ?_; rintro e w1 ⟨⟨A9, c9, l9, rfl, ho9, hp9⟩, hb9⟩; have Z0 := Lib.hid (Y0.out.trans (hb9.mono Y0.out.size)); have Z1 := Lib.hid (Y1.out.below hb9); have Z2 := Lib.hid ho9; have Z3 := Lib.hid hp9; clear ho9 hp9 hb9)
                have hs1 := Z0.out.size
                have HT : Hid (Rd encS 2 (w1.alloc (.cells #[] 53)).drew w1.heap.size (some ⟨g, 0, none⟩) b1 (l3.take b1)) := ((Z1.out.rd lenS).take b1 (by omega)).alloc (Nat.le_refl _) _
                have HD := Lib.hid (rd_drop_all (Z1.out.rd lenS) (b1 + 1) c3 (by omega) hc3)
                have HM : Hid (Own (α := Seat) encS 2 53 (w1.alloc (.cells #[] 53)).drew w1.heap.size (some ⟨w1.heap.size, 0, none⟩) 0 0 []) := Own.made (α := Seat) (enc := encS) (k := 2) (e := 53) w1 w1.heap.size (Nat.le_refl _)
                have hs2 : w1.heap.size ≤ ((w1.alloc (.cells #[] 53)).drew).heap.size := by show _ ≤ (w1.alloc (.cells #[] 53)).heap.size; simp
                have hBM : Below w1.heap.size w1 (w1.alloc (.cells #[] 53)).drew := ((Below.refl _ _).alloc (Nat.le_refl _) _).drew
                have e1 : IntKind.i64.wrap ((b1 : Int) + 1) = (b1 : Int) + 1 := IntWalk.i64_in _ (by omega)
                have s1 : (b1 : Int) ≤ (b1 : Int) + 1 := by omega
                have s3 : (l3.length : Int) ≤ (b1 : Int) + 1 := by omega
                have s2 : (b1 : Int) + 1 ≤ (l3.length : Int) := by omega
                have s4 : (0 : Int) ≤ (b1 : Int) + 1 := by omega
                go_region_law (first
                  | (refine step_app (enc := encS) (k := 2) ?_ (.tmp 110) (.tmp 113) 22 ?_ 53 i0 (.agg #[.int .i64 0, .int .i64 0]) 16 ?_ ?_ ?_ ?_ ?_ ?_ ?_ ?_ ?_ w1.heap.size (some ⟨w1.heap.size, 0, none⟩) 0 0 [] ?_ ?_ w1.heap.size b1 (b1 + 1) (some ⟨g, 0, none⟩) (l3.take b1) ?_ ?_ ?_ ?_ ?_ ?_; rfl; rfl; exact Tryz.underlying22; exact hi; exact hz0; exact hz1; exact hz2; rfl; decide; exact lenS; exact oneS; rfl; exact HM.out; rfl; exact HT.out; (simp only [maxLen]; omega); omega; exact hs2; intro A4 c4 w4 hown4 hg4 hat4; rw [Nat.zero_add, List.nil_append] at hown4; have HB4 := Lib.hid (Below.app (w0 := w1) hBM HM.out hg4 hs2); have HO4 := Lib.hid hown4; clear hown4 hg4 hat4)
                  | (refine step_app (enc := encS) (k := 2) ?_ (.tmp 114) (.tmp 118) 22 ?_ 53 i0 (.agg #[.int .i64 0, .int .i64 0]) 16 ?_ ?_ ?_ ?_ ?_ ?_ ?_ ?_ ?_ w1.heap.size A4 b1 c4 (l3.take b1) ?_ ?_ w1.heap.size (l3.length - (b1 + 1)) 0 (some ⟨g, 0, none⟩) (l3.drop (b1 + 1)) ?_ ?_ ?_ ?_ ?_ ?_; rfl; rfl; exact Tryz.underlying22; exact hi; exact hz0; exact hz1; exact hz2; rfl; decide; exact lenS; exact oneS; rfl; exact HO4.out; rfl; exact (HD.out _ (by first | (intro _; rfl) | (intro hh; exact absurd hck hh))).below HB4.out; (simp only [maxLen]; omega); omega; exact HB4.out.size; intro A5 c5 w5 hown5 hg5 hat5; have HB5 := Lib.hid (Below.app HB4.out HO4.out hg5 HB4.out.size); have HO5 := Lib.hid hown5; clear hown5 hg5 hat5))
                simp [Act.put, Act.eval]
                go_wp2
                go_roundw
                case rel =>
                  refine ⟨⟨A5, _, c5, _, A9, n8 + 1, c9, l9, rfl, rfl, by omega, by omega, HO5.out.mono hs1, (Z2.out.mono Y0.out.size).below ((HB5.out.mono (Nat.le_refl _))), fun x hx => ?_, Z3.out⟩, Z0.out.trans (HB5.out.mono hs1)⟩
                  rcases List.mem_append.1 hx with hx | hx
                  · exact HP3.out x (List.mem_of_mem_take hx)
                  · exact HP3.out x (List.mem_of_mem_drop hx)
                case measure => simp [lenOf]; omega
              · go_wp2_with (go_at_call 44; refine HC.out.mono ?_; rintro e w1 ⟨⟨A9, c9, l9, rfl, ho9, hp9⟩, hb9⟩; have Z0 := Lib.hid (Y0.out.trans (hb9.mono Y0.out.size)); have Z1 := Lib.hid (Y1.out.below hb9); have Z2 := Lib.hid ho9; have Z3 := Lib.hid hp9; clear ho9 hp9 hb9)
                have hs1 := Z0.out.size
                have HT : Hid (Rd encS 2 (w1.alloc (.cells #[] 53)).drew w1.heap.size (some ⟨g, 0, none⟩) b1 (l3.take b1)) := ((Z1.out.rd lenS).take b1 (by omega)).alloc (Nat.le_refl _) _
                have HD := Lib.hid (rd_drop_all (Z1.out.rd lenS) (b1 + 1) c3 (by omega) hc3)
                have HM : Hid (Own (α := Seat) encS 2 53 (w1.alloc (.cells #[] 53)).drew w1.heap.size (some ⟨w1.heap.size, 0, none⟩) 0 0 []) := Own.made (α := Seat) (enc := encS) (k := 2) (e := 53) w1 w1.heap.size (Nat.le_refl _)
                have hs2 : w1.heap.size ≤ ((w1.alloc (.cells #[] 53)).drew).heap.size := by show _ ≤ (w1.alloc (.cells #[] 53)).heap.size; simp
                have hBM : Below w1.heap.size w1 (w1.alloc (.cells #[] 53)).drew := ((Below.refl _ _).alloc (Nat.le_refl _) _).drew
                have e1 : IntKind.i64.wrap ((b1 : Int) + 1) = (b1 : Int) + 1 := IntWalk.i64_in _ (by omega)
                have s1 : (b1 : Int) ≤ (c3 : Int) := by omega
                have s3 : (l3.length : Int) ≤ (c3 : Int) := by omega
                have s2 : (b1 : Int) + 1 ≤ (l3.length : Int) := by omega
                have s4 : (0 : Int) ≤ (b1 : Int) + 1 := by omega
                go_region_law (first
                  | (refine step_app (enc := encS) (k := 2) ?_ (.tmp 110) (.tmp 113) 22 ?_ 53 i0 (.agg #[.int .i64 0, .int .i64 0]) 16 ?_ ?_ ?_ ?_ ?_ ?_ ?_ ?_ ?_ w1.heap.size (some ⟨w1.heap.size, 0, none⟩) 0 0 [] ?_ ?_ w1.heap.size b1 c3 (some ⟨g, 0, none⟩) (l3.take b1) ?_ ?_ ?_ ?_ ?_ ?_; rfl; rfl; exact Tryz.underlying22; exact hi; exact hz0; exact hz1; exact hz2; rfl; decide; exact lenS; exact oneS; rfl; exact HM.out; rfl; exact HT.out; (simp only [maxLen]; omega); omega; exact hs2; intro A4 c4 w4 hown4 hg4 hat4; rw [Nat.zero_add, List.nil_append] at hown4; have HB4 := Lib.hid (Below.app (w0 := w1) hBM HM.out hg4 hs2); have HO4 := Lib.hid hown4; clear hown4 hg4 hat4)
                  | (refine step_app (enc := encS) (k := 2) ?_ (.tmp 114) (.tmp 118) 22 ?_ 53 i0 (.agg #[.int .i64 0, .int .i64 0]) 16 ?_ ?_ ?_ ?_ ?_ ?_ ?_ ?_ ?_ w1.heap.size A4 b1 c4 (l3.take b1) ?_ ?_ w1.heap.size (l3.length - (b1 + 1)) (c3 - (b1 + 1)) (some ⟨g, (b1 + 1) * 2, none⟩) (l3.drop (b1 + 1)) ?_ ?_ ?_ ?_ ?_ ?_; rfl; rfl; exact Tryz.underlying22; exact hi; exact hz0; exact hz1; exact hz2; rfl; decide; exact lenS; exact oneS; rfl; exact HO4.out; rfl; exact (HD.out _ (by first | (intro _; rfl) | (intro hh; exact absurd hck hh))).below HB4.out; (simp only [maxLen]; omega); omega; exact HB4.out.size; intro A5 c5 w5 hown5 hg5 hat5; have HB5 := Lib.hid (Below.app HB4.out HO4.out hg5 HB4.out.size); have HO5 := Lib.hid hown5; clear hown5 hg5 hat5))
                simp [Act.put, Act.eval]
                go_wp2
                go_roundw
                case rel =>
                  refine ⟨⟨A5, _, c5, _, A9, n8 + 1, c9, l9, rfl, rfl, by omega, by omega, HO5.out.mono hs1, (Z2.out.mono Y0.out.size).below ((HB5.out.mono (Nat.le_refl _))), fun x hx => ?_, Z3.out⟩, Z0.out.trans (HB5.out.mono hs1)⟩
                  rcases List.mem_append.1 hx with hx | hx
                  · exact HP3.out x (List.mem_of_mem_take hx)
                  · exact HP3.out x (List.mem_of_mem_drop hx)
                case measure => simp [lenOf]; omega
        · by_cases h7 : n8 < 7
          · obtain rfl : n3 = 0 := by omega
            have i7 : (n8 : Int) < 7 := by omega
            go_wp2
            go_ret
            exact ⟨⟨A8, n8, c8, l8, rfl, HO8.out, by omega, HP8.out⟩, HW.out⟩
          · have i7 : ¬ (n8 : Int) < 7 := by omega
            go_wp2
            go_ret
            exact ⟨⟨A8, n8, c8, l8, rfl, HO8.out, by omega, HP8.out⟩, HW.out⟩

end Go.Proofs.YtkjhacfmidmebaaGreat
