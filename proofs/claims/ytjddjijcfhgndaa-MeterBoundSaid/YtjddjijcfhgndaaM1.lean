/-
  Mark and Levels of the meter and of its reference, each in one contract for any arguments; the frames of an argument.
-/
import Derived.Test.YtjddjijcfhgndaaR4
import Derived.Test.YtjddjijcfhgndaaF1
import Derived.Test.YtjddjijcfhgndaaF2
import Derived.Test.YtjddjijcfhgndaaW5
set_option linter.unusedVariables false
set_option linter.unusedSimpArgs false
namespace Go.Proofs.Ytjddjijcfhgndaa.W
open Go.RowKit

instance okfDec (n c : Int) : Decidable (okf n c) := by unfold okf; infer_instance
/-- What Mark leaves, and tells: colour and error. -/
def markT (s : MS) (t n c : Int) : MS × Int × Int :=
  if s.l ≤ t ∧ t ≤ 1099511627776 then (if okf n c then ((markS s t n c).1, (markS s t n c).2, 0) else (s, 0, 310)) else (s, 0, 1)
def levT (s : MS) (t : Int) : Int × Int := if s.l ≤ t ∧ t ≤ 1099511627776 then ((fillS s t).g, (fillS s t).m) else (s.g, s.m)
theorem markT_good (s : MS) (t n c : Int) (h : Good s) : Good (markT s t n c).1 := by
  unfold markT
  split
  · split
    · exact mark_good s t n c h (by omega) (by omega) (by assumption)
    · exact h
  · exact h

theorem mark_any (b : Nat) (s : MS) (t n c : Int) (w : World) (h : MH w b s) (hs : Good s) :
    Calls Try.prog 10 #[.pointer (some ⟨b, 0, none⟩), .int .i64 t, .int .i64 n, .int .i64 c] w fun e w' => e = .returned (.tuple #[.int .i64 (markT s t n c).2.1, .int .i64 (markT s t n c).2.2]) ∧ MH w' b (markT s t n c).1 ∧ w.grownBy w' (some b) := by
  unfold markT
  by_cases h1 : s.l ≤ t ∧ t ≤ 1099511627776
  · rw [if_pos h1]
    by_cases h2 : okf n c
    · rw [if_pos h2]
      exact mark_of b s t n c w h hs h1.1 h1.2 h2
    · rw [if_neg h2]
      exact (mark_bad b s t n c w h h1.1 h1.2 h2).mono fun e w' ⟨he, hw⟩ => ⟨he, by subst hw; exact h, by subst hw; exact World.grownBy.refl _ _⟩
  · rw [if_neg h1]
    exact (mark_late b s t n c w h hs h1).mono fun e w' ⟨he, hw⟩ => ⟨he, by subst hw; exact h, by subst hw; exact World.grownBy.refl _ _⟩
theorem rmark_any (s : MS) (t n c : Int) (w : World) (hs : Good s) :
    Calls Try.prog 15 #[.agg (refA s), .int .i64 t, .int .i64 n, .int .i64 c] w fun e w' => e = .returned (.tuple #[.agg (refA (markT s t n c).1), .int .i64 (markT s t n c).2.1, .int .i64 (markT s t n c).2.2]) ∧ w.grownBy w' none := by
  unfold markT
  by_cases h1 : s.l ≤ t ∧ t ≤ 1099511627776
  · rw [if_pos h1]
    by_cases h2 : okf n c
    · rw [if_pos h2]
      exact rmark_of s t n c w hs h1.1 h1.2 h2
    · rw [if_neg h2]
      exact rmark_bad s t n c w h1.1 h1.2 h2
  · rw [if_neg h1]
    exact rmark_late s t n c w h1
theorem levels_any (b : Nat) (s : MS) (t : Int) (w : World) (h : MH w b s) (hs : Good s) :
    Calls Try.prog 11 #[.pointer (some ⟨b, 0, none⟩), .int .i64 t] w fun e w' => e = .returned (.tuple #[.int .i64 (levT s t).1, .int .i64 (levT s t).2]) ∧ w.grownBy w' none := by
  unfold levT
  by_cases h1 : s.l ≤ t ∧ t ≤ 1099511627776
  · rw [if_pos h1]
    exact levels_of b s t w h hs h1.1 h1.2
  · rw [if_neg h1]
    exact levels_late b s t w h h1
theorem rlevels_any (s : MS) (t : Int) (w : World) (hs : Good s) :
    Calls Try.prog 16 #[.agg (refA s), .int .i64 t] w fun e w' => e = .returned (.tuple #[.int .i64 (levT s t).1, .int .i64 (levT s t).2]) ∧ w.grownBy w' none := by
  unfold levT
  by_cases h1 : s.l ≤ t ∧ t ≤ 1099511627776
  · rw [if_pos h1]
    exact rlevels_of s t w hs h1.1 h1.2
  · rw [if_neg h1]
    exact rlevels_late s t w h1
theorem last_q (b : Nat) (s : MS) (w : World) (h : MH w b s) : Calls Try.prog 17 #[.pointer (some ⟨b, 0, none⟩)] w fun e w' => e = .returned (.int .i64 s.l) ∧ w' = w :=
  (last_of b s w h).mono fun e w' ⟨he, hw⟩ => ⟨he, hw.symm⟩

/-- The frames of an argument: so much later, size, colour, fork. -/
structure RF (W : World) (a : Option Addr) (len : Nat) (la sz co : Nat → Int) (fk : Nat → Bool) : Prop where
  hlen : len ≤ 9223372036854775807
  hla : ∀ j, j < len → -9223372036854775808 ≤ la j ∧ la j ≤ 9223372036854775807
  hcells : 0 < len → ∃ b o, a = some ⟨b, o, none⟩ ∧ b < W.heap.size ∧ ∀ j, j < len → W.cell? ⟨b, o + j * 4, none⟩ = some (.int .i64 (la j)) ∧ W.cell? ⟨b, o + j * 4 + 1, none⟩ = some (.int .i64 (sz j)) ∧ W.cell? ⟨b, o + j * 4 + 2, none⟩ = some (.int .i64 (co j)) ∧ W.cell? ⟨b, o + j * 4 + 3, none⟩ = some (.bool (fk j))

/-- How both stand behind a frame. -/
structure RI (w0 w : World) (B9 b : Nat) (s : MS) : Prop where
  made : MH w b s
  good : Good s
  box : w.heap[B9]? = some (.cells (refA s) 47 (0, 0))
  below : Below w0.heap.size w0 w
  hb : w0.heap.size ≤ b
  h9 : w0.heap.size ≤ B9
theorem RI.ne {w0 w : World} {B9 b : Nat} {s : MS} (h : RI w0 w B9 b s) : b ≠ B9 := by
  rintro rfl
  have h1 : w.heap[b]? = _ := h.made
  rw [h.box] at h1
  simp at h1
theorem RI.grown {w0 w w' : World} {B9 b : Nat} {s : MS} (h : RI w0 w B9 b s) (hg : w.grownBy w' none) : RI w0 w' B9 b s :=
  ⟨h.made.kept hg (by simp), h.good, blk_kept h.box hg (by simp), h.below.grown hg h.below.size (by simp), h.hb, h.h9⟩
theorem both_mark (s : MS) (t n c : Int) (hs : Good s) : ∃ (s1 : MS) (x h : Int), Good s1 ∧
    (∀ (b : Nat) (W : World), MH W b s → Calls Try.prog 10 #[.pointer (some ⟨b, 0, none⟩), .int .i64 t, .int .i64 n, .int .i64 c] W fun e w' => e = .returned (.tuple #[.int .i64 x, .int .i64 h]) ∧ MH w' b s1 ∧ W.grownBy w' (some b)) ∧
    (∀ W : World, Calls Try.prog 15 #[.agg (refA s), .int .i64 t, .int .i64 n, .int .i64 c] W fun e w' => e = .returned (.tuple #[.agg (refA s1), .int .i64 x, .int .i64 h]) ∧ W.grownBy w' none) :=
  ⟨_, _, _, markT_good s t n c hs, fun b W h => mark_any b s t n c W h hs, fun W => rmark_any s t n c W hs⟩
theorem both_levels (s : MS) (t : Int) (hs : Good s) : ∃ (u v : Int),
    (∀ (b : Nat) (W : World), MH W b s → Calls Try.prog 11 #[.pointer (some ⟨b, 0, none⟩), .int .i64 t] W fun e w' => e = .returned (.tuple #[.int .i64 u, .int .i64 v]) ∧ W.grownBy w' none) ∧
    (∀ W : World, Calls Try.prog 16 #[.agg (refA s), .int .i64 t] W fun e w' => e = .returned (.tuple #[.int .i64 u, .int .i64 v]) ∧ W.grownBy w' none) :=
  ⟨_, _, fun b W h => levels_any b s t W h hs, fun W => rlevels_any s t W hs⟩
theorem levels_neg (b : Nat) (s : MS) (w : World) (h : MH w b s) (hs : Good s) :
    Calls Try.prog 11 #[.pointer (some ⟨b, 0, none⟩), .int .i64 (-1)] w fun e w' => e = .returned (.tuple #[.int .i64 s.g, .int .i64 s.m]) ∧ w.grownBy w' none :=
  levels_late b s (-1) w h (by have := hs.l0; omega)
theorem box_cells {w : World} {B9 : Nat} {s : MS} (h : w.heap[B9]? = some (.cells (refA s) 47 (0, 0))) :
    w.cell? ⟨B9, 6, none⟩ = some (.int .i64 s.g) ∧ w.cell? ⟨B9, 7, none⟩ = some (.int .i64 s.m) ∧ w.cell? ⟨B9, 8, none⟩ = some (.int .i64 s.l) :=
  ⟨(cell_of_row w B9 6 _ 47 (0, 0) h).trans rfl, (cell_of_row w B9 7 _ 47 (0, 0) h).trans rfl, (cell_of_row w B9 8 _ 47 (0, 0) h).trans rfl⟩
/-- Behind Fork, and Mark of the one that stays. -/
theorem RI.forked {w0 w w1 w2 : World} {B9 b b1 : Nat} {s : MS} (h : RI w0 w B9 b s) (hg : w.grownBy w1 none) (hb1 : w.heap.size ≤ b1) (hM : MH w1 b1 s) (hg2 : w1.grownBy w2 (some b)) : RI w0 w2 B9 b1 s := by
  have h1 := h.grown hg
  have hne : b1 ≠ b := by have := h.made.lt; omega
  exact ⟨hM.kept hg2 (by simpa using hne), h.good, blk_kept h1.box hg2 (by simpa using h1.ne.symm), h1.below.grown hg2 h1.below.size (by rintro q ⟨⟩; exact h.hb), Nat.le_trans h.below.size hb1, h.h9⟩
/-- Behind both Marks, ahead of the box's new value. -/
structure RJ (w0 w : World) (B9 b : Nat) (s s1 : MS) : Prop where
  made : MH w b s1
  good : Good s1
  box : w.heap[B9]? = some (.cells (refA s) 47 (0, 0))
  below : Below w0.heap.size w0 w
  hb : w0.heap.size ≤ b
  h9 : w0.heap.size ≤ B9
theorem RI.marked {w0 w w1 : World} {B9 b : Nat} {s s1 : MS} (h : RI w0 w B9 b s) (hs : Good s1) (hM : MH w1 b s1) (hg : w.grownBy w1 (some b)) : RJ w0 w1 B9 b s s1 :=
  ⟨hM, hs, blk_kept h.box hg (by simpa using h.ne.symm), h.below.grown hg h.below.size (by rintro q ⟨⟩; exact h.hb), h.hb, h.h9⟩
theorem RJ.grown {w0 w w' : World} {B9 b : Nat} {s s1 : MS} (h : RJ w0 w B9 b s s1) (hg : w.grownBy w' none) : RJ w0 w' B9 b s s1 :=
  ⟨h.made.kept hg (by simp), h.good, blk_kept h.box hg (by simp), h.below.grown hg h.below.size (by simp), h.hb, h.h9⟩
theorem RJ.stored {w0 w : World} {B9 b : Nat} {s s1 : MS} (h : RJ w0 w B9 b s s1) : RI w0 (w.setRow B9 (refA s1)) B9 b s1 := by
  have hg := grownSetRow w B9 (refA s1)
  have hne : b ≠ B9 := by
    rintro rfl
    have h1 : w.heap[b]? = _ := h.made
    rw [h.box] at h1
    simp at h1
  exact ⟨h.made.kept hg (by simpa using hne), h.good, setRow_heap w B9 _ (refA s1) 47 (0, 0) h.box, h.below.grown hg h.below.size (by rintro q ⟨⟩; exact h.h9), h.hb, h.h9⟩
end Go.Proofs.Ytjddjijcfhgndaa.W
