/-
  What Fork of a meter makes that New made, over any memory.
-/
import Derived.Test.YtjddjijcfhgndaaW2
set_option linter.unusedVariables false
set_option linter.unusedSimpArgs false
namespace Go.Proofs.Ytjddjijcfhgndaa.W
open Go.RowKit

set_option maxRecDepth 100000 in
theorem fork_of (b : Nat) (s : MS) (w : World) (h : MH w b s) : Calls Try.prog 14 #[.pointer (some ⟨b, 0, none⟩)] w fun e w' => e = .returned (.pointer (some ⟨w.heap.size, 0, none⟩)) ∧ MH w' w.heap.size s ∧ w.grownBy w' none := by
  obtain ⟨_, _, _, _, _, _, _, _, _, h9⟩ := h.cells
  obtain ⟨cir, cbs, eir, ebs, cp, aw, g, m, l⟩ := s
  have hh : w.heap[b]? = some (.cells #[.int .i64 cir, .int .i64 cbs, .int .i64 eir, .int .i64 ebs, .bool cp, .bool aw, .int .i64 g, .int .i64 m, .int .i64 l, .bool true] 58 (0, 0)) := h
  have H := Lib.hid hh
  clear hh h
  go_enter Try.func14, Try.ntmps14
  go_wp2_with (first | (go_at_call 18; refine (none_made _ _ h9).mono ?_; rintro e w' ⟨rfl, rfl⟩) | (refine wpList_load_row rfl 58 _ rfl b rfl 58 _ (0, 0) _ H.out Try.underlying58 rfl (by kernel_rfl) ?_))
  go_ret
  exact ⟨rfl, heap_alloc_new w _, World.grownBy_alloc _ _ _⟩
end Go.Proofs.Ytjddjijcfhgndaa.W
