/-
  The call of MeterNobody returns true, at any numbers, in every memory, and turns nothing that was there.
-/
import Derived.Test.YtjddjijcfhgndaaW5
set_option linter.unusedVariables false
set_option linter.unusedSimpArgs false
namespace Go.Proofs.Ytjddjijcfhgndaa.W
open Go.RowKit

theorem heap2_new (w : World) (o q : Obj) : ((w.alloc o).alloc q).heap[w.heap.size + 1]? = some q := by
  show ((w.heap.push o).push q)[w.heap.size + 1]? = _
  rw [Array.getElem?_push, if_pos (by simp)]
theorem heap2_old (w : World) (o q : Obj) : ((w.alloc o).alloc q).heap[w.heap.size]? = some o := by
  show ((w.heap.push o).push q)[w.heap.size]? = _
  rw [Array.getElem?_push, if_neg (by simp), Array.getElem?_push, if_pos rfl]

set_option maxHeartbeats 2000000 in
theorem walkNobody (tt nn cc : Int) (w : World) :
    Calls Try.prog 6 #[.int .i64 tt, .int .i64 nn, .int .i64 cc] w fun e w' => e = .returned (.bool true) ∧ Below w.heap.size w w' := by
  go_enter Try.func6, Try.ntmps6
  go_wp2
  obtain ⟨W0, hW0⟩ : ∃ W0 : World, W0 = (w.alloc (.cells #[.int .i64 0, .int .i64 0, .int .i64 0, .int .i64 0, .bool false, .bool false, .int .i64 0, .int .i64 0, .int .i64 0, .bool false] 58)).alloc (.cells #[.pointer none, .pointer (some ⟨w.heap.size, 0, none⟩)] 26) := ⟨_, rfl⟩
  rw [← hW0]
  have hB0 : Hid (Below w.heap.size w W0) := by rw [hW0]; exact Lib.hid (((Below.refl _ _).alloc (Nat.le_refl _) _).alloc (by simp) _)
  have hL : Hid (W0.heap[w.heap.size + 1]? = some (.cells #[.pointer none, .pointer (some ⟨w.heap.size, 0, none⟩)] 26 (0, 0))) := by rw [hW0]; exact Lib.hid (heap2_new w _ _)
  have hN : Hid (Nob W0 (.pointer (some ⟨w.heap.size, 0, none⟩))) := by
    have hx := heap2_old w (.cells #[.int .i64 0, .int .i64 0, .int .i64 0, .int .i64 0, .bool false, .bool false, .int .i64 0, .int .i64 0, .int .i64 0, .bool false] 58) (.cells #[.pointer none, .pointer (some ⟨w.heap.size, 0, none⟩)] 26)
    rw [← hW0] at hx
    exact Lib.hid (.inr ⟨w.heap.size, rfl, (Array.getElem?_eq_some_iff.1 hx).1, by rw [cell_of_row _ _ _ _ _ _ hx]; rfl⟩)
  clear hW0
  go_loop [19] (fun i => ∃ k : Nat, k ≤ 2 ∧ i = .int .i64 k) (fun i => 2 - (intOf i).toNat)
  case atStart => exact ⟨0, Nat.zero_le _, rfl⟩
  case round =>
    obtain ⟨k, hk, rfl⟩ := hrel
    by_cases hlt : k < 2
    · obtain ⟨p, hp, hNp⟩ : ∃ p, W0.cell? ⟨w.heap.size + 1, k, none⟩ = some p ∧ Hid (Nob W0 p) := by
        rw [cell_of_row _ _ _ _ _ _ hL.out]
        match k, hlt with
        | 0, _ => exact ⟨_, rfl, Lib.hid (.inl rfl)⟩
        | 1, _ => exact ⟨_, rfl, hN⟩
      go_wp2_with (first | (go_at_call 10; refine (mark_nob p _ _ _ _ hNp.out).mono ?_; rintro e w' ⟨rfl, rfl⟩) | (go_at_call 11; refine (levels_nob p _ _ hNp.out).mono ?_; rintro e w' ⟨rfl, rfl⟩) | (go_at_call 17; refine (last_nob p _ hNp.out).mono ?_; rintro e w' ⟨rfl, rfl⟩) | (go_at_call 14; refine (fork_nob p _ hNp.out).mono ?_; rintro e w' ⟨rfl, rfl⟩))
      go_round
      case rel => exact ⟨k + 1, by omega, by go_num⟩
      case measure => simp [intOf]; omega
    · go_wp2_with (first | (go_at_call 9; refine (awake_any _).mono ?_; rintro e w6 ⟨rfl, hG6⟩))
      go_ret
      exact ⟨rfl, hB0.out.grown hG6 hB0.out.size (by simp)⟩
end Go.Proofs.Ytjddjijcfhgndaa.W
