/-
  What small makes of settings, over any memory.
-/
import Derived.Test.YtjddjijcfhgndaaW2
set_option linter.unusedVariables false
set_option linter.unusedSimpArgs false
namespace Go.Proofs.Ytjddjijcfhgndaa.W
open Go.RowKit

theorem small_bd (x m : Int) (h0 : 0 < m) (h1 : m ≤ 3000) : 0 ≤ wrap64 ((IntKind.u64.wrap x).tmod m) ∧ wrap64 ((IntKind.u64.wrap x).tmod m) < m := by
  have h2 : 0 ≤ IntKind.u64.wrap x := by
    simp only [IntKind.wrap, IntKind.signed, IntKind.bits]
    simp
    omega
  generalize IntKind.u64.wrap x = u at *
  rw [Int.tmod_eq_emod_of_nonneg h2]
  have h3 := Int.emod_nonneg u (show m ≠ 0 by omega)
  have h4 := Int.emod_lt_of_pos u h0
  rw [show wrap64 (u % m) = u % m from IntWalk.wrap64_in _ ⟨by omega, by omega⟩]
  exact ⟨h3, h4⟩

set_option maxHeartbeats 2000000 in
theorem small_of (x0 x1 x2 x3 : Int) (cp aw : Bool) (w : World) : Calls Try.prog 7 #[.agg #[.int .i64 x0, .int .i64 x1, .int .i64 x2, .int .i64 x3, .bool cp, .bool aw]] w fun e w' => (∃ y0 y1 y2 y3 : Int, e = .returned (.agg #[.int .i64 y0, .int .i64 y1, .int .i64 y2, .int .i64 y3, .bool cp, .bool aw]) ∧ Hid ((0 ≤ y0 ∧ y0 < 300) ∧ (0 ≤ y1 ∧ y1 < 3000) ∧ (0 ≤ y2 ∧ y2 < 300) ∧ (0 ≤ y3 ∧ y3 < 3000))) ∧ w.grownBy w' none := by
  go_enter Try.func7, Try.ntmps7
  go_wp2
  have b0 := small_bd x0 300 (by omega) (by omega)
  have b1 := small_bd x1 3000 (by omega) (by omega)
  have b2 := small_bd x2 300 (by omega) (by omega)
  have b3 := small_bd x3 3000 (by omega) (by omega)
  generalize wrap64 ((IntKind.u64.wrap x0).tmod 300) = y0 at *
  generalize wrap64 ((IntKind.u64.wrap x1).tmod 3000) = y1 at *
  generalize wrap64 ((IntKind.u64.wrap x2).tmod 300) = y2 at *
  generalize wrap64 ((IntKind.u64.wrap x3).tmod 3000) = y3 at *
  have h5 : ((w.alloc (.cells #[.int .i64 x0, .int .i64 x1, .int .i64 x2, .int .i64 x3, .bool cp, .bool aw] 23)).alloc (.cells #[.int .i64 y0, .int .i64 y1, .int .i64 y2, .int .i64 y3, .bool cp, .bool aw] 23)).heap[w.heap.size + 1]? = some (.cells #[.int .i64 y0, .int .i64 y1, .int .i64 y2, .int .i64 y3, .bool cp, .bool aw] 23 (0, 0)) := by
    show ((w.heap.push _).push _)[w.heap.size + 1]? = _
    rw [Array.getElem?_push, if_pos (by simp)]
  have hG : w.grownBy ((w.alloc (.cells #[.int .i64 x0, .int .i64 x1, .int .i64 x2, .int .i64 x3, .bool cp, .bool aw] 23)).alloc (.cells #[.int .i64 y0, .int .i64 y1, .int .i64 y2, .int .i64 y3, .bool cp, .bool aw] 23)) none := gtrans (World.grownBy_alloc _ _ none) (World.grownBy_alloc _ _ none) (.inl rfl)
  obtain ⟨x5, hx5⟩ : ∃ q : World, q = (w.alloc (.cells #[.int .i64 x0, .int .i64 x1, .int .i64 x2, .int .i64 x3, .bool cp, .bool aw] 23)).alloc (.cells #[.int .i64 y0, .int .i64 y1, .int .i64 y2, .int .i64 y3, .bool cp, .bool aw] 23) := ⟨_, rfl⟩
  rw [← hx5] at h5 hG ⊢
  have r0 := cell_of_row x5 (w.heap.size + 1) 0 _ 23 (0, 0) h5
  have r1 := cell_of_row x5 (w.heap.size + 1) 1 _ 23 (0, 0) h5
  have r2 := cell_of_row x5 (w.heap.size + 1) 2 _ 23 (0, 0) h5
  have r3 := cell_of_row x5 (w.heap.size + 1) 3 _ 23 (0, 0) h5
  have r4 := cell_of_row x5 (w.heap.size + 1) 4 _ 23 (0, 0) h5
  have r5 := cell_of_row x5 (w.heap.size + 1) 5 _ 23 (0, 0) h5
  refine bodyPost_ret (v := .agg #[.int .i64 y0, .int .i64 y1, .int .i64 y2, .int .i64 y3, .bool cp, .bool aw]) (by simp [results, Try.results7, go_sem, r0, r1, r2, r3, r4, r5]) rfl ⟨⟨y0, y1, y2, y3, rfl, Lib.hid ⟨b0, b1, b2, b3⟩⟩, hG⟩
end Go.Proofs.Ytjddjijcfhgndaa.W
