/-
  What New, none, is, Get and Add of the package tally do, each at each case, over any memory that holds a tally.
-/
import Derived.Test.YtbblfhpicjdgnaaChecked
import Derived.WalkKit
import Derived.ProofKit
import Derived.WalkLawsBesides
import Derived.WalkSpells
import Derived.RegionTactic
import Derived.Deep.QuietTactic
import Derived.BigQuiet
import Derived.Outline
set_option linter.unusedVariables false
set_option linter.unusedSimpArgs false
namespace Go.Proofs.Ytbblfhpicjdgnaa.W
open Go.RowKit

def cellsOf (ns : List Int) : List Value := ns.map (Value.int .i64) ++ [.bool true]
def TB (ns : List Int) : Obj := .cells (cellsOf ns).toArray 55 (0, 0)
def Holds (w : World) (b : Nat) (ns : List Int) : Prop := w.heap[b]? = some (TB ns) ∧ ns.length = 15

theorem Holds.cell {w : World} {b : Nat} {ns : List Int} (h : Holds w b ns) (i : Nat) (hi : i < 15) : w.cell? ⟨b, i, none⟩ = some (.int .i64 (ns.getD i 0)) := by
  obtain ⟨h1, h2⟩ := h
  simp [World.cell?, h1, TB, cellsOf, List.getElem?_append, h2, hi, List.getD_eq_getElem?_getD]
theorem Holds.made {w : World} {b : Nat} {ns : List Int} (h : Holds w b ns) : w.cell? ⟨b, 15, none⟩ = some (.bool true) := by
  obtain ⟨h1, h2⟩ := h
  simp [World.cell?, h1, TB, cellsOf, List.getElem?_append, h2]
theorem Holds.frozen {w : World} {b : Nat} {ns : List Int} (h : Holds w b ns) (i : Nat) : w.frozen? ⟨b, i, none⟩ = false := by
  obtain ⟨h1, h2⟩ := h
  simp [World.frozen?, h1, TB]

theorem none_made (b : Nat) (w : World) (h : w.cell? ⟨b, 15, none⟩ = some (.bool true)) : Calls Try.prog 26 #[.pointer (some ⟨b, 0, none⟩)] w fun e w' => e = .returned (.bool false) ∧ w = w' := by
  go_enter Try.func26, Try.ntmps26
  go_wp2
  go_ret
  exact ⟨rfl, rfl⟩
theorem none_nil (w : World) : Calls Try.prog 26 #[.pointer none] w fun e w' => e = .returned (.bool true) ∧ w = w' := by
  go_enter Try.func26, Try.ntmps26
  go_wp2
  go_ret
  exact ⟨rfl, rfl⟩
theorem none_raw (b : Nat) (w : World) (h : w.cell? ⟨b, 15, none⟩ = some (.bool false)) : Calls Try.prog 26 #[.pointer (some ⟨b, 0, none⟩)] w fun e w' => e = .returned (.bool true) ∧ w = w' := by
  go_enter Try.func26, Try.ntmps26
  go_wp2
  go_ret
  exact ⟨rfl, rfl⟩
theorem is_yes (k : Int) (w : World) (h1 : 1 ≤ k) (h2 : k ≤ 14) : Calls Try.prog 27 #[.int .i64 k] w fun e w' => e = .returned (.bool true) ∧ w = w' := by
  go_enter Try.func27, Try.ntmps27
  go_wp2
  go_ret
  exact ⟨by simp [h2], rfl⟩
theorem is_no (k : Int) (w : World) (h : ¬ (1 ≤ k ∧ k ≤ 14)) : Calls Try.prog 27 #[.int .i64 k] w fun e w' => e = .returned (.bool false) ∧ w = w' := by
  by_cases h1 : 1 ≤ k
  · have h2 : 14 < k := by omega
    clear h
    go_enter Try.func27, Try.ntmps27
    go_wp2
    go_ret
    exact ⟨by simp [h2], rfl⟩
  · clear h
    go_enter Try.func27, Try.ntmps27
    go_wp2
    go_ret
    exact ⟨by simp, rfl⟩
theorem get_ok (b : Nat) (ns : List Int) (k : Nat) (w : World) (h : Holds w b ns) (h1 : 1 ≤ k) (h2 : k ≤ 14) : Calls Try.prog 11 #[.pointer (some ⟨b, 0, none⟩), .int .i64 k] w fun e w' => e = .returned (.int .i64 (ns.getD k 0)) ∧ w = w' := by
  have hm := h.made
  have hc := h.cell k (by omega)
  go_enter Try.func11, Try.ntmps11
  go_wp2_with (first | (go_at_call 26; refine (none_made _ _ hm).mono ?_; rintro e w' ⟨rfl, rfl⟩) | (go_at_call 27; refine (is_yes _ _ (by omega) (by omega)).mono ?_; rintro e w' ⟨rfl, rfl⟩))
  go_ret
  exact ⟨rfl, rfl⟩
theorem get_out (b : Nat) (k : Int) (w : World) (hm : w.cell? ⟨b, 15, none⟩ = some (.bool true)) (h1 : ¬ (1 ≤ k ∧ k ≤ 14)) : Calls Try.prog 11 #[.pointer (some ⟨b, 0, none⟩), .int .i64 k] w fun e w' => e = .returned (.int .i64 0) ∧ w = w' := by
  go_enter Try.func11, Try.ntmps11
  go_wp2_with (first | (go_at_call 26; refine (none_made _ _ hm).mono ?_; rintro e w' ⟨rfl, rfl⟩) | (go_at_call 27; refine (is_no _ _ h1).mono ?_; rintro e w' ⟨rfl, rfl⟩))
  go_ret
  exact ⟨rfl, rfl⟩
theorem add_ok (b k : Nat) (v n : Int) (w : World) (hm : w.cell? ⟨b, 15, none⟩ = some (.bool true)) (hc : w.cell? ⟨b, k, none⟩ = some (.int .i64 v)) (hf : w.frozen? ⟨b, k, none⟩ = false) (h1 : 1 ≤ k) (h2 : k ≤ 14) (h3 : 0 ≤ n) (h4 : n ≤ 1073741824) (h5 : v ≤ 1125899906842624 - n) (h6 : 0 ≤ v) :
    Calls Try.prog 10 #[.pointer (some ⟨b, 0, none⟩), .int .i64 k, .int .i64 n] w fun e w' => e = .returned (.int .i64 0) ∧ w' = (w.drew.setCell ⟨b, k, none⟩ (.int .i64 (v + n))) := by
  go_enter Try.func10, Try.ntmps10
  go_wp2_with (first | (go_at_call 26; refine (none_made _ _ hm).mono ?_; rintro e w' ⟨rfl, rfl⟩) | (go_at_call 27; refine (is_yes _ _ (by omega) (by omega)).mono ?_; rintro e w' ⟨rfl, rfl⟩))
  go_region
  all_goals go_wp2
  all_goals go_ret
  all_goals exact ⟨rfl, rfl⟩
theorem add_many (b k : Nat) (v n : Int) (w : World) (hm : w.cell? ⟨b, 15, none⟩ = some (.bool true)) (hc : w.cell? ⟨b, k, none⟩ = some (.int .i64 v)) (h1 : 1 ≤ k) (h2 : k ≤ 14) (h3 : 0 ≤ n) (h4 : n ≤ 1073741824) (h5 : 1125899906842624 - n < v) :
    Calls Try.prog 10 #[.pointer (some ⟨b, 0, none⟩), .int .i64 k, .int .i64 n] w fun e w' => e = .returned (.int .i64 3) ∧ w = w' := by
  go_enter Try.func10, Try.ntmps10
  go_wp2_with (first | (go_at_call 26; refine (none_made _ _ hm).mono ?_; rintro e w' ⟨rfl, rfl⟩) | (go_at_call 27; refine (is_yes _ _ (by omega) (by omega)).mono ?_; rintro e w' ⟨rfl, rfl⟩))
  go_ret
  exact ⟨rfl, rfl⟩
theorem add_bad (b : Nat) (k n : Int) (w : World) (hm : w.cell? ⟨b, 15, none⟩ = some (.bool true)) (h : ¬ (1 ≤ k ∧ k ≤ 14) ∨ n < 0 ∨ 1073741824 < n) :
    Calls Try.prog 10 #[.pointer (some ⟨b, 0, none⟩), .int .i64 k, .int .i64 n] w fun e w' => e = .returned (.int .i64 220) ∧ w = w' := by
  by_cases h1 : 1 ≤ k ∧ k ≤ 14
  · by_cases h2 : n < 0
    · clear h
      go_enter Try.func10, Try.ntmps10
      go_wp2_with (first | (go_at_call 26; refine (none_made _ _ hm).mono ?_; rintro e w' ⟨rfl, rfl⟩) | (go_at_call 27; refine (is_yes _ _ (by omega) (by omega)).mono ?_; rintro e w' ⟨rfl, rfl⟩))
      go_ret
      exact ⟨rfl, rfl⟩
    · have h3 : 1073741824 < n := by omega
      clear h
      go_enter Try.func10, Try.ntmps10
      go_wp2_with (first | (go_at_call 26; refine (none_made _ _ hm).mono ?_; rintro e w' ⟨rfl, rfl⟩) | (go_at_call 27; refine (is_yes _ _ (by omega) (by omega)).mono ?_; rintro e w' ⟨rfl, rfl⟩))
      go_ret
      exact ⟨rfl, rfl⟩
  · clear h
    go_enter Try.func10, Try.ntmps10
    go_wp2_with (first | (go_at_call 26; refine (none_made _ _ hm).mono ?_; rintro e w' ⟨rfl, rfl⟩) | (go_at_call 27; refine (is_no _ _ h1).mono ?_; rintro e w' ⟨rfl, rfl⟩))
    go_ret
    exact ⟨rfl, rfl⟩
theorem new_any (w : World) : Calls Try.prog 8 #[] w fun e w' => e = .returned (.pointer (some ⟨w.heap.size, 0, none⟩)) ∧ w' = w.alloc (TB (List.replicate 15 0)) := by
  go_enter Try.func8, Try.ntmps8
  go_wp2
  go_ret
  exact ⟨rfl, rfl⟩
end Go.Proofs.Ytbblfhpicjdgnaa.W
