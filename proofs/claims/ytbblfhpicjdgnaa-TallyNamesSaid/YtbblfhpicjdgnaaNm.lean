/-
  What Name and Parse of the package tally and of its reference do, at every number and every string.
-/
import Derived.Test.YtbblfhpicjdgnaaW3
import Derived.Laws.Rows
set_option linter.unusedVariables false
set_option linter.unusedSimpArgs false
namespace Go.Proofs.Ytbblfhpicjdgnaa.W
open Go.RowKit

/-- The counters' names. -/
def nm : Nat → ByteArray
  | 1 => ⟨#[105, 110, 32, 99, 117, 115, 116, 111, 109, 101, 114]⟩
  | 2 => ⟨#[105, 110, 32, 98, 97, 99, 107, 98, 111, 110, 101]⟩
  | 3 => ⟨#[111, 117, 116, 32, 99, 117, 115, 116, 111, 109, 101, 114]⟩
  | 4 => ⟨#[111, 117, 116, 32, 98, 97, 99, 107, 98, 111, 110, 101]⟩
  | 5 => ⟨#[98, 97, 100, 32, 102, 114, 97, 109, 101]⟩
  | 6 => ⟨#[98, 105, 103, 32, 102, 114, 97, 109, 101]⟩
  | 7 => ⟨#[110, 111, 32, 115, 101, 114, 118, 105, 99, 101]⟩
  | 8 => ⟨#[110, 111, 32, 109, 101, 109, 98, 101, 114]⟩
  | 9 => ⟨#[98, 108, 111, 99, 107, 101, 100]⟩
  | 10 => ⟨#[97, 119, 97, 121]⟩
  | 11 => ⟨#[111, 119, 110, 32, 102, 114, 97, 109, 101]⟩
  | 12 => ⟨#[113, 117, 101, 117, 101, 32, 102, 117, 108, 108]⟩
  | 13 => ⟨#[112, 111, 114, 116, 32, 100, 111, 119, 110]⟩
  | 14 => ⟨#[110, 111, 98, 111, 100, 121]⟩
  | _ => ⟨#[]⟩
def nmL : List ByteArray := (List.range 15).map nm
def namesV : Value := .agg (nmL.map Value.string).toArray

theorem nm_inj : ∀ i j : Fin 15, nm i.val = nm j.val → i = j := by decide
theorem nm_ne {i j : Nat} (hi : i < 15) (hj : j < 15) (h : i ≠ j) : nm i ≠ nm j := by
  intro e
  have := nm_inj ⟨i, hi⟩ ⟨j, hj⟩ e
  exact h (by simpa using this)

theorem index_names (k : Nat) (hk : k < 15) (w : World) : (Instr.index 59 namesV (.int .i64 k)).run Try.prog w = .ok (.string (nm k)) w := by
  match k, hk with
  | 0, _ => rfl
  | 1, _ => rfl
  | 2, _ => rfl
  | 3, _ => rfl
  | 4, _ => rfl
  | 5, _ => rfl
  | 6, _ => rfl
  | 7, _ => rfl
  | 8, _ => rfl
  | 9, _ => rfl
  | 10, _ => rfl
  | 11, _ => rfl
  | 12, _ => rfl
  | 13, _ => rfl
  | 14, _ => rfl

theorem names_any (w : World) : Calls Try.prog 28 #[] w fun e w' => e = .returned namesV ∧ w.grownBy w' none := by
  go_enter Try.func28, Try.ntmps28
  go_wp2
  exact bodyPost_ret (v := namesV) (by simp [results, Try.results28, go_sem]; rfl) rfl ⟨rfl, World.grownBy_alloc _ _ _⟩
def HasNames (w : World) (b : Nat) : Prop := ∀ k, k < 15 → w.cell? ⟨b, k, none⟩ = some (.string (nm k))
theorem names2_any (w : World) : Calls Try.prog 29 #[] w fun e w' => e = .returned (.slice (some ⟨w.heap.size, 0, none⟩) 15 15) ∧ HasNames w' w.heap.size ∧ w.grownBy w' none := by
  go_enter Try.func29, Try.ntmps29
  go_wp2
  go_ret
  refine ⟨rfl, ?_, World.grownBy_alloc _ _ _⟩
  intro k hk
  rw [cell_of_row _ w.heap.size k _ 9 (0, 0) (heap_alloc_new w _)]
  match k, hk with
  | 0, _ => rfl
  | 1, _ => rfl
  | 2, _ => rfl
  | 3, _ => rfl
  | 4, _ => rfl
  | 5, _ => rfl
  | 6, _ => rfl
  | 7, _ => rfl
  | 8, _ => rfl
  | 9, _ => rfl
  | 10, _ => rfl
  | 11, _ => rfl
  | 12, _ => rfl
  | 13, _ => rfl
  | 14, _ => rfl
end Go.Proofs.Ytbblfhpicjdgnaa.W
