/- Walks: the eight bytes of a digest, the program's and the reference's. -/
import Derived.Test.YtkjhacfmidmebaaGreatWire
import Derived.Lib.AppendStr
namespace Go.Proofs.YtkjhacfmidmebaaGreat
open Go.RowKit

theorem size_foldl_push (ns : List Int) : ∀ b : ByteArray, (ns.foldl (fun r n => r.push (UInt8.ofNat n.toNat)) b).size = b.size + ns.length := by
  induction ns with
  | nil => intro b; simp
  | cons x r ih => intro b; simp only [List.foldl_cons, ih, ByteArray.size_push, List.length_cons]; omega

def strOf (ns : List Int) : ByteArray := ns.foldl (fun r n => r.push (UInt8.ofNat n.toNat)) ByteArray.empty
theorem strOf_size (ns : List Int) : (strOf ns).size = ns.length := by unfold strOf; rw [size_foldl_push]; simp

/-- A row of bytes as a string. -/
theorem conv_bytes {w : World} {g : Nat} {cap n : Nat} {ns : List Int} {cs : Array Value} (hb : Blk w g 5 cs) (hn : ns.length = n) (hc : ∀ (i : Nat) (n : Int), ns[i]? = some n → cs[i]? = some (Value.int .u8 n)) :
    (convert 98 9 (.slice (some ⟨g, 0, none⟩) n cap)).run Tryz.prog w = .ok (.string (strOf ns)) w := by
  subst hn
  have hl : (loadCells ⟨g, 0, none⟩ ns.length).run Tryz.prog w = .ok (ns.map (Value.int .u8)).toArray w := by
    have h := run_loadCells_list (P := Tryz.prog) (w := w) ⟨g, 0, none⟩ (ns.map (Value.int .u8)) (fun j v hv => by
      rw [List.getElem?_map] at hv
      obtain ⟨n, hn, rfl⟩ := Option.map_eq_some_iff.1 hv
      have : (⟨g, 0, none⟩ : Addr).add j = ⟨g, j, none⟩ := by unfold Addr.add; split <;> simp_all
      rw [this, hb.cell]
      exact hc j n hn)
    simpa using h
  rw [run_convert_bytes_string w 98 9 5 _ _ _ Tryz.underlying98 Tryz.underlying5 Tryz.underlying9, run_bytesToString w ⟨g, 0, none⟩ ns.length cap ns hl]; rfl

set_option maxHeartbeats 800000 in
theorem eight_any (d : Int) (w : World) :
    Calls Tryz.prog 84 #[.int .u64 d] w fun e w' => (∃ s : ByteArray, e = .returned (.string s) ∧ s.size = 8) ∧ Below w.heap.size w w' := by
  have hmk : ∀ w : World, (Instr.makeSlice 98 (.int .i64 8) (.int .i64 8)).run Tryz.prog w = .ok (.slice (some ⟨w.heap.size, 0, none⟩) 8 8) (w.alloc (.cells #[.int .u8 0, .int .u8 0, .int .u8 0, .int .u8 0, .int .u8 0, .int .u8 0, .int .u8 0, .int .u8 0] 5)) := fun _ => by kernel_rfl
  go_enter Tryz.func84, Tryz.ntmps84
  go_wp2
  go_loopw [4, 8] (fun _ i wr => (∃ (k : Nat) (ns : List Int), i = .int .i64 k ∧ k ≤ 8 ∧ ns.length = 8 ∧ Hid (Blk wr w.heap.size 5 (ns.map (Value.int .u8)).toArray)) ∧ Below w.heap.size w wr) (fun _ i _ => 8 - (intOf i).toNat)
  case atStart => exact ⟨⟨0, [0, 0, 0, 0, 0, 0, 0, 0], rfl, by omega, rfl, Blk.new _ _ _⟩, (Below.refl _ _).alloc (Nat.le_refl _) _⟩
  case round =>
    obtain ⟨⟨k, ns, rfl, hk, hn, Hb⟩, hb⟩ := hrel
    by_cases hlt : k < 8
    · have f0 := Hb.out.frozen k
      have c0 := Hb.out.cell k
      have hx : ∃ u, ((ns.map (Value.int .u8)).toArray)[k]? = some u := ⟨_, Array.getElem?_eq_getElem (by simp; omega)⟩
      obtain ⟨u, hu⟩ := hx
      rw [hu] at c0
      clear hu
      have HB : ∀ x : Int, Blk (wr.setCell ⟨w.heap.size, k, none⟩ (.int .u8 x)) w.heap.size 5 ((ns.set k x).map (Value.int .u8)).toArray := by
        intro x
        have := Hb.out.set_ k (.int .u8 x)
        simpa [List.map_set] using this
      have HB' := Lib.hid HB; clear HB
      go_wp2
      go_roundw
      case rel => exact ⟨⟨k + 1, _, by go_num, by omega, (by rw [List.length_set]; exact hn), HB'.out _⟩, hb.setCell (p := ⟨w.heap.size, k, none⟩) (Nat.le_refl _) _⟩
      case measure => simp [intOf]; omega
    · obtain rfl : k = 8 := by omega
      have hcv := conv_bytes (cap := 8) (ns := ns) (n := 8) Hb.out hn (fun i n h => by simp [h])
      go_wp2
      go_ret
      exact ⟨⟨_, rfl, (strOf_size ns).trans hn⟩, hb⟩

set_option maxRecDepth 100000 in
set_option maxHeartbeats 800000 in
theorem eightR_any (d : Int) (w : World) :
    Calls Tryz.prog 85 #[.int .u64 d] w fun e w' => (∃ s : ByteArray, e = .returned (.string s) ∧ s.size = 8) ∧ Below w.heap.size w w' := by
  go_enter Tryz.func85, Tryz.ntmps85
  go_wp2
  go_loopw [0, 3, 4] (fun x s i wr => (∃ (y : Int) (b : ByteArray) (k : Nat), x = .int .u64 y ∧ s = .string b ∧ i = .int .i64 k ∧ k ≤ 8 ∧ Hid (b.size = k)) ∧ Below w.heap.size w wr) (fun _ _ i _ => 8 - (intOf i).toNat)
  case atStart => exact ⟨⟨d, _, 0, rfl, rfl, rfl, by omega, rfl⟩, Below.refl _ _⟩
  case round =>
    obtain ⟨⟨y, b, k, rfl, rfl, rfl, hk, Hs⟩, hb⟩ := hrel
    by_cases hlt : k < 8
    · have hcv : ∀ x : Int, (convert 98 9 (.slice (some ⟨wr.heap.size, 0, none⟩) 1 1)).run Tryz.prog (wr.alloc (.cells #[.int .u8 x] 5)) = .ok (.string (strOf [x])) (wr.alloc (.cells #[.int .u8 x] 5)) :=
        fun x => conv_bytes (ns := [x]) (Blk.new _ _ _) rfl (fun i n h => by cases i <;> simp_all)
      have hz : ∀ x : Int, (strOf [x]).size = 1 := fun x => strOf_size [x]
      have hb8 : b.size ≤ 8 := by have := Hs.out; omega
      go_wp2
      go_roundw
      case rel => exact ⟨⟨_, _, k + 1, rfl, rfl, by go_num, by omega, by show (strOf _ ++ b).size = k + 1; rw [ByteArray.size_append, hz, Hs.out]; omega⟩, hb.alloc hb.size _⟩
      case measure => simp [intOf]; omega
    · go_wp2
      go_ret
      exact ⟨⟨b, rfl, by have := Hs.out; omega⟩, hb⟩
end Go.Proofs.YtkjhacfmidmebaaGreat
