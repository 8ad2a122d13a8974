/-
  What is of the reference tells, at every number.
-/
import Derived.Test.YtbblfhpicjdgnaaW3
set_option linter.unusedVariables false
set_option linter.unusedSimpArgs false
namespace Go.Proofs.Ytbblfhpicjdgnaa.W
open Go.RowKit

theorem ris_yes (k : Int) (w : World) (h1 : 1 ≤ k) (h2 : k ≤ 14) : Calls Try.prog 30 #[.int .i64 k] w fun e w' => e = .returned (.bool true) ∧ w = w' := by
  go_enter Try.func30, Try.ntmps30
  go_wp2
  go_ret
  exact ⟨by simp [h2], rfl⟩
theorem ris_no (k : Int) (w : World) (h : ¬ (1 ≤ k ∧ k ≤ 14)) : Calls Try.prog 30 #[.int .i64 k] w fun e w' => e = .returned (.bool false) ∧ w = w' := by
  by_cases h1 : 1 ≤ k
  · have h2 : 14 < k := by omega
    clear h
    go_enter Try.func30, Try.ntmps30
    go_wp2
    go_ret
    exact ⟨by simp [h2], rfl⟩
  · clear h
    go_enter Try.func30, Try.ntmps30
    go_wp2
    go_ret
    exact ⟨by simp, rfl⟩
end Go.Proofs.Ytbblfhpicjdgnaa.W
