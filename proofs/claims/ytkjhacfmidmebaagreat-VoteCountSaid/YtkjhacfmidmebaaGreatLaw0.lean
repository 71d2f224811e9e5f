/- What the law's walk leans on. -/
import Derived.Test.YtkjhacfmidmebaaGreatAddD
import Derived.Test.YtkjhacfmidmebaaGreatAheadC
import Derived.Test.YtkjhacfmidmebaaGreatAnyC
import Derived.Test.YtkjhacfmidmebaaGreatSame
import Derived.Test.YtkjhacfmidmebaaGreatNew
namespace Go.Proofs.YtkjhacfmidmebaaGreat
open Go.RowKit

theorem CRepN.kept {w w' : World} {N C : Nat} {S : List Seat} {H : Int} {L : List V} (h : CRepN w N C S H L) {g : Nat} {t : TypeId} {cs : Array Value} (hx : Blk w g t cs) (ht : t ≠ 56 ∧ t ≠ 53) (hg : w.grownBy w' (some g)) : CRepN w' N C S H L := by
  obtain ⟨As, ns, c, M, O, h1, h2, h3, h4⟩ := h
  have hne : C ≠ g := fun e => by
    subst e
    have := h1.symm.trans hx
    injection this with this; injection this with _ this; exact ht.1 this.symm
  refine ⟨As, ns, c, M, O, (hg.block C h1.lt (fun e => hne (by injection e))).trans h1, ⟨h2.1, h2.2.kept hg (.inr (own_ne h2.2 hx (fun e => ht.2 e.symm)))⟩, h3.kept hg (fun r e => ?_), h4⟩
  injection e with e
  subst e
  exact ⟨_, _, _, hx⟩

set_option maxRecDepth 100000 in
theorem newN_any (A : Option Addr) (n c base : Nat) (S : List Seat) (H : Int) (w : World) (h : Own encS 2 53 w base A n c S) (hn : n ≤ 10000) :
    Calls Tryz.prog 5 #[.slice A n c, .int .i64 H] w fun e w' => ∃ C, e = .returned (.pointer (some ⟨C, 0, none⟩)) ∧ CRepN w' w.heap.size C S H [] ∧ Below w.heap.size w w' := by
  have HC := Lib.hid (clone_any A n c base S w h hn)
  have hmk : ∀ w : World, (Instr.makeMap 54 none).run Tryz.prog w = .ok (.map (some w.heap.size)) (w.alloc (.map #[] 0)) := fun _ => rfl
  go_enter Tryz.func5, Tryz.ntmps5
  go_wp2_with (go_at_call 22; refine HC.out.mono ?_; rintro e w1 ⟨⟨A1, c1, rfl, ho1⟩, hb1⟩; have HO1 := Lib.hid ho1; have HB1 := Lib.hid hb1; clear ho1 hb1)
  go_ret
  have hs := HB1.out.size
  have hO := HO1.out.alloc (.map #[] 0)
  have hO2 := hO.alloc (.cells #[.slice A1 n c1, .int .i64 H, .map (some w1.heap.size)] 56)
  have hb := Blk.new (w1.alloc (.map #[] 0)) 56 #[.slice A1 n c1, .int .i64 H, .map (some w1.heap.size)]
  have hB := (HB1.out.alloc hs (.map #[] 0)).alloc (by simp; omega) (.cells #[.slice A1 n c1, .int .i64 H, .map (some w1.heap.size)] 56)
  have hm := (World.ownsMap_made w1 Tryz.prog 61 R0).alloc (.cells #[.slice A1 n c1, .int .i64 H, .map (some w1.heap.size)] 56)
  rw [World.size_alloc] at hb
  refine ⟨w1.heap.size + 1, rfl, ⟨A1, n, c1, w1.heap.size, [], hb, hO2.mono (Nat.zero_le _), ?_, hs, by simp⟩, hB⟩
  exact ⟨⟨0, _, hm, by simp, ⟨by simp [Maps.has], by simp, by simp⟩⟩, by simp, by simp, by simp, by simp, by simp, by simp⟩

def cH (H : Int) : Option Dec → Int | none => 0 | some _ => H
def cR : Option Dec → Int | none => 0 | some o => o.1
def cS (s : Int) : Option Dec → Int | none => 0 | some _ => s
def cHas : Option Dec → Bool | none => false | some o => o.2.1
def cBlk : Option Dec → Int | none => 0 | some o => o.2.2.1
def cFr : Option Dec → List Int | none => [] | some o => o.2.2.2
/-- A decision as its six cells say it, and the word that goes with it. -/
def CertAt (base : Nat) (H s : Int) (o : Option Dec) (e : Ending) (w' : World) : Prop :=
  ∃ A n c, e = .returned (.tuple #[.agg #[.int .i64 (cH H o), .int .i64 (cR o), .int .i64 (cS s o), .bool (cHas o), .int .u64 (cBlk o), .slice A n c], .bool o.isSome]) ∧ Own encI 1 3 w' base A n c (cFr o)
theorem certAt {base : Nat} {H s : Int} {o : Option Dec} {e : Ending} {w' : World} (h : CertIs base H s o e w') : CertAt base H s o e w' := by
  rcases o with _ | ⟨r, has, blk, fr⟩
  · exact ⟨none, 0, 0, h, Own.nil _ _⟩
  · obtain ⟨A, n, c, he, ho⟩ := h
    exact ⟨A, n, c, he, ho⟩

theorem lead_len (S : List Seat) (L : List V) (r s : Int) : (cFr (leadO S L r s)).length ≤ L.length := by
  unfold leadO
  split
  · rcases L.find? (leadB S L r s) with _ | v
    · simp [cFr]
    · exact soFr_len _ _ _ _ _
  · simp [cFr]
theorem good_len (S : List Seat) (L : List V) (r s : Int) : (cFr (goodO S L r s)).length ≤ L.length := by
  have h := lead_len S L r s
  unfold goodO
  rcases ho : leadO S L r s with _ | o
  · simp [cFr]
  · rw [ho] at h
    simp only
    split
    · exact h
    · simp [cFr]
theorem some_len {f : V → Option Dec} {L l : List V} (h : ∀ v, (cFr (f v)).length ≤ L.length) : (cFr (l.findSome? f)).length ≤ L.length := by
  induction l with
  | nil => simp [cFr]
  | cons x t ih =>
    rw [List.findSome?_cons]
    have := h x
    split
    · rename_i b hb; rw [hb] at this; exact this
    · exact ih
theorem closed_len (S : List Seat) (L : List V) : (cFr (closedO S L)).length ≤ L.length := by
  unfold closedO
  refine some_len fun v => ?_
  unfold closedF
  split
  · exact good_len _ _ _ _
  · simp [cFr]
theorem best_len (S : List Seat) (L : List V) (round : Int) : (cFr (bestO S L round)).length ≤ L.length := by
  unfold bestO
  refine some_len fun v => ?_
  unfold bestF
  split
  · exact good_len _ _ _ _
  · simp [cFr]
theorem guilt_is (v : V) (o : Option V) : ∃ a b, guiltOf v o = .agg (gcells a b) := by
  rcases o with _ | u
  · exact ⟨V0, V0, rfl⟩
  · exact ⟨u, v, rfl⟩
end Go.Proofs.YtkjhacfmidmebaaGreat
