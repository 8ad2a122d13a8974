/-
  What New, Add and Get do, in one statement each, and that the example at the head of the laws of layer 22 is true.
-/
import Derived.Test.YtbblfhpicjdgnaaW2
set_option linter.unusedVariables false
set_option linter.unusedSimpArgs false
namespace Go.Proofs.Ytbblfhpicjdgnaa.W
open Go.RowKit

theorem Holds.lt {w : World} {b : Nat} {ns : List Int} (h : Holds w b ns) : b < w.heap.size := (Array.getElem?_eq_some_iff.1 h.1).1
theorem Holds.kept {w w' : World} {b : Nat} {ns : List Int} {row : Option Nat} (h : Holds w b ns) (hg : w.grownBy w' row) (hne : some b ≠ row) : Holds w' b ns :=
  ⟨(hg.block b h.lt hne).trans h.1, h.2⟩
theorem Holds.below {w w' : World} {b : Nat} {ns : List Int} {B : Nat} (h : Holds w b ns) (hg : Below B w w') (hne : b < B) : Holds w' b ns :=
  ⟨(hg.block b hne).trans h.1, h.2⟩
theorem Holds.set_ {w : World} {b k : Nat} {ns : List Int} (h : Holds w b ns) (hk : k < 15) (v : Int) : Holds (w.drew.setCell ⟨b, k, none⟩ (.int .i64 v)) b (ns.set k v) := by
  obtain ⟨h1, h2⟩ := h
  refine ⟨?_, by simpa using h2⟩
  have h1' : w.drew.heap[b]? = some (TB ns) := h1
  simp only [World.setCell, Array.getElem?_modify, h1', if_true, Option.map_some, TB, cellsOf]
  congr 2
  apply Array.ext'
  simp only [List.setIfInBounds_toArray, Option.isSome_none, Bool.false_eq_true, if_false]
  rw [List.set_append_left _ _ (by simp; omega), List.map_set]
theorem grown_set (w : World) (b k : Nat) (v : Value) : w.grownBy (w.drew.setCell ⟨b, k, none⟩ v) (some b) :=
  ⟨rfl, rfl, rfl, Nat.le_of_eq (by simp only [World.setCell, Array.size_modify]; rfl), fun i hi hne => by
    have : i ≠ b := fun e => hne (by rw [e])
    exact (Below.heap_setCell w.drew ⟨b, k, none⟩ v i this)⟩

def addCode (ns : List Int) (k n : Int) : Int := if ¬ (1 ≤ k ∧ k ≤ 14) ∨ n < 0 ∨ 1073741824 < n then 220 else if 1125899906842624 - n < ns.getD k.toNat 0 then 3 else 0
def addNs (ns : List Int) (k n : Int) : List Int := if addCode ns k n = 0 then ns.set k.toNat (ns.getD k.toNat 0 + n) else ns

theorem addNs_len (ns : List Int) (k n : Int) : (addNs ns k n).length = ns.length := by
  unfold addNs; split <;> simp
def zeros : List Int := List.replicate 15 0
theorem bounded_zero : Bounded zeros := by
  intro i
  unfold zeros
  rw [List.getD_eq_getElem?_getD, List.getElem?_replicate]
  split <;> simp
theorem addCode_ok {ns : List Int} {k n : Int} (h : addCode ns k n = 0) : 1 ≤ k ∧ k ≤ 14 ∧ 0 ≤ n ∧ n ≤ 1073741824 ∧ ns.getD k.toNat 0 + n ≤ 1125899906842624 := by
  unfold addCode at h
  split at h
  · omega
  · split at h
    · omega
    · omega
theorem bounded_add {ns : List Int} (hb : Bounded ns) (k n : Int) : Bounded (addNs ns k n) := by
  unfold addNs
  split
  · rename_i h
    have h := addCode_ok h
    intro i
    have h1 := hb i
    have h2 := hb k.toNat
    rw [List.getD_eq_getElem?_getD, List.getElem?_set]
    split
    · split
      · simp only [Option.getD_some]; omega
      · simp
    · rw [← List.getD_eq_getElem?_getD]; exact h1
  · exact hb

theorem add_spec (b : Nat) (ns : List Int) (k n : Int) (w : World) (h : Holds w b ns) (hb : Bounded ns) :
    Calls Try.prog 10 #[.pointer (some ⟨b, 0, none⟩), .int .i64 k, .int .i64 n] w fun e w' => e = .returned (.int .i64 (addCode ns k n)) ∧ Holds w' b (addNs ns k n) ∧ w.grownBy w' (some b) := by
  by_cases h1 : ¬ (1 ≤ k ∧ k ≤ 14) ∨ n < 0 ∨ 1073741824 < n
  · have e1 : addCode ns k n = 220 := by unfold addCode; rw [if_pos h1]
    have e2 : addNs ns k n = ns := by unfold addNs; rw [if_neg (by omega)]
    rw [e1, e2]
    exact (add_bad b k n w h.made h1).mono fun e w' ⟨he, hw⟩ => ⟨he, by subst hw; exact ⟨h, World.grownBy.refl _ _⟩⟩
  · obtain ⟨j, rfl⟩ := Int.eq_ofNat_of_zero_le (show 0 ≤ k by omega)
    have hbj := hb j
    by_cases h2 : 1125899906842624 - n < ns.getD j 0
    · have e1 : addCode ns j n = 3 := by unfold addCode; rw [if_neg h1, Int.toNat_natCast, if_pos h2]
      have e2 : addNs ns j n = ns := by unfold addNs; rw [if_neg (by omega)]
      rw [e1, e2]
      exact (add_many b j _ n w h.made (h.cell j (by omega)) (by omega) (by omega) (by omega) (by omega) h2).mono fun e w' ⟨he, hw⟩ => ⟨he, by subst hw; exact ⟨h, World.grownBy.refl _ _⟩⟩
    · have e1 : addCode ns j n = 0 := by unfold addCode; rw [if_neg h1, Int.toNat_natCast, if_neg h2]
      have e2 : addNs ns j n = ns.set j (ns.getD j 0 + n) := by unfold addNs; rw [if_pos e1, Int.toNat_natCast]
      rw [e1, e2]
      exact (add_ok b j _ n w h.made (h.cell j (by omega)) (h.frozen j) (by omega) (by omega) (by omega) (by omega) (by omega) hbj.1).mono fun e w' ⟨he, hw⟩ => ⟨he, by subst hw; exact ⟨h.set_ (by omega) _, grown_set _ _ _ _⟩⟩

theorem new_spec (w : World) : Calls Try.prog 8 #[] w fun e w' => e = .returned (.pointer (some ⟨w.heap.size, 0, none⟩)) ∧ Holds w' w.heap.size zeros ∧ w.grownBy w' none :=
  (new_any w).mono fun e w' ⟨he, hw⟩ => ⟨he, by subst hw; exact ⟨⟨heap_alloc_new w _, rfl⟩, World.grownBy_alloc _ _ _⟩⟩

def getV (ns : List Int) (k : Int) : Int := if 1 ≤ k ∧ k ≤ 14 then ns.getD k.toNat 0 else 0
theorem get_spec (b : Nat) (ns : List Int) (k : Int) (w : World) (h : Holds w b ns) : Calls Try.prog 11 #[.pointer (some ⟨b, 0, none⟩), .int .i64 k] w fun e w' => e = .returned (.int .i64 (getV ns k)) ∧ w = w' := by
  by_cases h1 : 1 ≤ k ∧ k ≤ 14
  · obtain ⟨j, rfl⟩ := Int.eq_ofNat_of_zero_le (show 0 ≤ k by omega)
    unfold getV
    rw [if_pos h1, Int.toNat_natCast]
    exact get_ok b ns j w h (by omega) (by omega)
  · unfold getV
    rw [if_neg h1]
    exact get_out b k w h.made h1

theorem gtrans {w w1 w2 : World} {row row2 : Option Nat} (h : w.grownBy w1 row) (k : w1.grownBy w2 row2) (hr : row2 = row ∨ row2 = none ∨ ∃ b, row2 = some b ∧ w.heap.size ≤ b) : w.grownBy w2 row :=
  ⟨k.os.trans h.os, k.tape.trans h.tape, k.output.trans h.output, Nat.le_trans h.size k.size, fun i hi hne => by
    refine (k.block i (Nat.lt_of_lt_of_le hi h.size) ?_).trans (h.block i hi hne)
    rcases hr with rfl | rfl | ⟨b, rfl, hb⟩
    · exact hne
    · simp
    · intro e
      injection e with e
      omega⟩
theorem gbelow {w w1 : World} {row : Option Nat} (h : w.grownBy w1 row) (hr : ∀ b, row = some b → w.heap.size ≤ b) : Below w.heap.size w w1 :=
  ⟨h.os, h.tape, h.output, h.size, fun i hi => h.block i hi (fun e => by have := hr i e.symm; omega)⟩
theorem rints_lit (w : World) (xs : List Int) (e : TypeId) (h : xs.length ≤ 9223372036854775807) : RInts (w.alloc (.cells (xs.map (Value.int .i64)).toArray e)) (some ⟨w.heap.size, 0, none⟩) xs.length xs := by
  refine ⟨rfl, h, fun _ => ⟨w.heap.size, 0, rfl, by simp, fun j hj => ?_⟩⟩
  rw [cell_of_row _ w.heap.size (0 + j) _ e (0, 0) (heap_alloc_new w _)]
  simp [List.getD_eq_getElem?_getD, List.getElem?_eq_getElem hj]
theorem ac1 : addCode zeros 5 2 = 0 := by decide
theorem ac2 : getV (addNs zeros 5 2) 5 = 2 := by decide
theorem ac3 : sumTo (addNs zeros 5 2) [5, 5, 6] 14 = 2 := by decide
theorem awake_any (w : World) : Calls Try.prog 9 #[] w fun e w' => e = .returned (.bool true) ∧ w.grownBy w' none := by
  have e1 := ac1
  have e2 := ac2
  have e3 := ac3
  go_enter Try.func9, Try.ntmps9
  go_wp2_with (first | (go_at_call 8; refine (new_spec _).mono ?_; rintro e w1 ⟨rfl, hH, hG⟩) | (go_at_call 10; refine (add_spec _ _ _ _ _ hH bounded_zero).mono ?_; rintro e w2 ⟨rfl, hH2, hG2⟩) | (go_at_call 11; refine (get_spec _ _ _ _ hH2).mono ?_; rintro e w3 ⟨rfl, rfl⟩) | (go_at_call 23; refine (sum_any _ _ [5, 5, 6] _ _ _ _ (hH2.kept (World.grownBy_alloc _ _ none) (by simp)) (rints_lit _ [5, 5, 6] 22 (by simp)) (bounded_add bounded_zero 5 2)).mono ?_; rintro e w4 ⟨rfl, rfl⟩))
  go_ret
  exact ⟨rfl, gtrans (gtrans hG hG2 (.inr (.inr ⟨_, rfl, Nat.le_refl _⟩))) (World.grownBy_alloc _ _ none) (.inl rfl)⟩
end Go.Proofs.Ytbblfhpicjdgnaa.W
