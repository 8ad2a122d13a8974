/-
  What New, Last, Fork and the methods of a meter that nobody made tell, over any memory.
-/
import Derived.Test.YtjddjijcfhgndaaW1
set_option linter.unusedVariables false
set_option linter.unusedSimpArgs false
namespace Go.Proofs.Ytjddjijcfhgndaa.W
open Go.RowKit

def newS (s : MS) : MS := { s with g := s.cbs, m := s.ebs, l := 0 }
theorem new_good (s : MS) (h : okc s) : Good (newS s) := by
  obtain ⟨⟨a, b⟩, ⟨c, d⟩, ⟨e, f⟩, ⟨g, h⟩⟩ := h
  exact ⟨a, b, c, d, e, f, g, h, c, Int.le_refl _, g, Int.le_refl _, Int.le_refl _, by show (0:Int) ≤ _; omega⟩

theorem new_bad (s : MS) (w : World) (h : ¬ okc s) : Calls Try.prog 8 #[.agg (confA s)] w fun e w' => e = .returned (.tuple #[.pointer none, .int .i64 310]) ∧ w.grownBy w' none := by
  have hc := fun W => check_bad s W h
  obtain ⟨cir, cbs, eir, ebs, cp, aw, g, m, l⟩ := s
  simp only [confA] at *
  have H := Lib.hid h
  clear h
  go_enter Try.func8, Try.ntmps8
  go_wp2_with (first | (go_at_call 13; refine (hc _).mono ?_; rintro e w' ⟨rfl, hg⟩))
  refine bodyPost_ret (v := .tuple #[.pointer none, .int .i64 310]) (by simp [results, Try.results8, go_sem]) rfl ⟨rfl, ?_⟩
  exact (gtrans (World.grownBy_alloc _ _ none) hg (.inl rfl))
theorem new_ok (s : MS) (w : World) (h : okc s) : Calls Try.prog 8 #[.agg (confA s)] w fun e w' => ∃ b, e = .returned (.tuple #[.pointer (some ⟨b, 0, none⟩), .int .i64 0]) ∧ MH w' b (newS s) ∧ w.grownBy w' none ∧ w.heap.size ≤ b := by
  have hc := fun W => check_ok s W h
  obtain ⟨cir, cbs, eir, ebs, cp, aw, g, m, l⟩ := s
  simp only [confA] at *
  have H := Lib.hid h
  clear h
  go_enter Try.func8, Try.ntmps8
  go_wp2_with (first | (go_at_call 13; refine (hc _).mono ?_; rintro e w' ⟨rfl, hg⟩; have hb := blk_kept (heap_alloc_new w _) hg (by simp); have e0 := (cell_of_row w' w.heap.size 0 _ 23 (0, 0) hb).trans rfl; have e1 := (cell_of_row w' w.heap.size 1 _ 23 (0, 0) hb).trans rfl; have e2 := (cell_of_row w' w.heap.size 2 _ 23 (0, 0) hb).trans rfl; have e3 := (cell_of_row w' w.heap.size 3 _ 23 (0, 0) hb).trans rfl; have e4 := (cell_of_row w' w.heap.size 4 _ 23 (0, 0) hb).trans rfl; have e5 := (cell_of_row w' w.heap.size 5 _ 23 (0, 0) hb).trans rfl; clear hb))
  refine bodyPost_ret (v := .tuple #[.pointer (some ⟨w'.heap.size, 0, none⟩), .int .i64 0]) (by simp [results, Try.results8, go_sem]) rfl ⟨w'.heap.size, rfl, ?_, ?_, ?_⟩
  · exact heap_alloc_new w' _
  · exact gtrans (gtrans (World.grownBy_alloc _ _ none) hg (.inl rfl)) (World.grownBy_alloc _ _ none) (.inl rfl)
  · have := hg.size; simp at this; omega

theorem last_of (b : Nat) (s : MS) (w : World) (h : MH w b s) : Calls Try.prog 17 #[.pointer (some ⟨b, 0, none⟩)] w fun e w' => e = .returned (.int .i64 s.l) ∧ w = w' := by
  obtain ⟨_, _, _, _, _, _, _, _, h8, h9⟩ := h.cells
  generalize s.l = l at *
  have H := Lib.hid h
  clear h
  go_enter Try.func17, Try.ntmps17
  go_wp2_with (first | (go_at_call 18; refine (none_made _ _ h9).mono ?_; rintro e w' ⟨rfl, rfl⟩))
  go_ret
  exact ⟨rfl, rfl⟩

theorem Nob.below {w w' : World} {p : Value} (h : Nob w p) (hb : Below w.heap.size w w') : Nob w' p := by
  rcases h with h | ⟨b, h1, h2, h3⟩
  · exact .inl h
  · exact .inr ⟨b, h1, Nat.lt_of_lt_of_le h2 hb.size, (hb.cell (p := ⟨b, 9, none⟩) h2).trans h3⟩
theorem Nob.grown {w w' : World} {p : Value} (h : Nob w p) (hg : w.grownBy w' none) : Nob w' p := h.below (gbelow hg (by simp))

theorem mark_nob (p : Value) (t n c : Int) (w : World) (h : Nob w p) : Calls Try.prog 10 #[p, .int .i64 t, .int .i64 n, .int .i64 c] w fun e w' => e = .returned (.tuple #[.int .i64 0, .int .i64 4]) ∧ w = w' := by
  have H := Lib.hid h
  clear h
  go_enter Try.func10, Try.ntmps10
  go_wp2_with (first | (go_at_call 18; refine (none_nob _ _ H.out).mono ?_; rintro e w' ⟨rfl, rfl⟩))
  go_ret2
  exact ⟨rfl, rfl⟩
theorem levels_nob (p : Value) (t : Int) (w : World) (h : Nob w p) : Calls Try.prog 11 #[p, .int .i64 t] w fun e w' => e = .returned (.tuple #[.int .i64 0, .int .i64 0]) ∧ w = w' := by
  have H := Lib.hid h
  clear h
  go_enter Try.func11, Try.ntmps11
  go_wp2_with (first | (go_at_call 18; refine (none_nob _ _ H.out).mono ?_; rintro e w' ⟨rfl, rfl⟩))
  go_ret2
  exact ⟨rfl, rfl⟩
theorem last_nob (p : Value) (w : World) (h : Nob w p) : Calls Try.prog 17 #[p] w fun e w' => e = .returned (.int .i64 0) ∧ w = w' := by
  have H := Lib.hid h
  clear h
  go_enter Try.func17, Try.ntmps17
  go_wp2_with (first | (go_at_call 18; refine (none_nob _ _ H.out).mono ?_; rintro e w' ⟨rfl, rfl⟩))
  go_ret
  exact ⟨rfl, rfl⟩
theorem fork_nob (p : Value) (w : World) (h : Nob w p) : Calls Try.prog 14 #[p] w fun e w' => e = .returned (.pointer none) ∧ w = w' := by
  have H := Lib.hid h
  clear h
  go_enter Try.func14, Try.ntmps14
  go_wp2_with (first | (go_at_call 18; refine (none_nob _ _ H.out).mono ?_; rintro e w' ⟨rfl, rfl⟩))
  go_ret
  exact ⟨rfl, rfl⟩
end Go.Proofs.Ytjddjijcfhgndaa.W
