/-
  What Levels of a meter tells that New made, over any memory.
-/
import Derived.Test.YtjddjijcfhgndaaW4
set_option linter.unusedVariables false
set_option linter.unusedSimpArgs false
namespace Go.Proofs.Ytjddjijcfhgndaa.W
open Go.RowKit

set_option maxHeartbeats 1000000 in
theorem levels_late (b : Nat) (s : MS) (t : Int) (w : World) (h : MH w b s) (h1 : ¬ (s.l ≤ t ∧ t ≤ 1099511627776)) :
    Calls Try.prog 11 #[.pointer (some ⟨b, 0, none⟩), .int .i64 t] w fun e w' => e = .returned (.tuple #[.int .i64 s.g, .int .i64 s.m]) ∧ w.grownBy w' none := by
  obtain ⟨_, _, _, _, _, _, _, _, h8, h9⟩ := h.cells
  have HX := Lib.hid h
  have H1 := Lib.hid h1
  clear h1 h
  obtain ⟨cir, cbs, eir, ebs, cp, aw, g, m, l⟩ := s
  have hh : w.heap[b]? = some (.cells #[.int .i64 cir, .int .i64 cbs, .int .i64 eir, .int .i64 ebs, .bool cp, .bool aw, .int .i64 g, .int .i64 m, .int .i64 l, .bool true] 58 (0, 0)) := HX.out
  have H := Lib.hid hh
  clear hh
  have hblt : b < w.heap.size := HX.out.lt
  go_enter Try.func11, Try.ntmps11
  go_wp2_with (first | (go_at_call 18; refine (none_made _ _ h9).mono ?_; rintro e w' ⟨rfl, rfl⟩) | (refine wpList_load_row rfl 58 _ rfl b rfl 58 _ (0, 0) _ H.out Try.underlying58 rfl (by kernel_rfl) ?_) | (go_at_call 19; refine (timed_no b l t _ ((World.grownBy_alloc w _ none).cell h8 (by simp)) H1.out).mono ?_; rintro e w' ⟨rfl, rfl⟩))
  go_quiet (fail)
  go_wp2
  go_ret2
  exact ⟨rfl, gtrans (World.grownBy_alloc _ _ none) (grown_drewN _ _ _) (.inl rfl)⟩

set_option maxHeartbeats 1000000 in
theorem levels_of (b : Nat) (s : MS) (t : Int) (w : World) (h : MH w b s) (hs : Good s) (h1 : s.l ≤ t) (h2 : t ≤ 1099511627776) :
    Calls Try.prog 11 #[.pointer (some ⟨b, 0, none⟩), .int .i64 t] w fun e w' => e = .returned (.tuple #[.int .i64 (fillS s t).g, .int .i64 (fillS s t).m]) ∧ w.grownBy w' none := by
  obtain ⟨_, _, _, _, _, _, _, _, h8, h9⟩ := h.cells
  have hf := fun (W : World) (hW : MH W b s) => filled_of b s t W hW hs h1 h2
  have H1 := Lib.hid h1
  have H2 := Lib.hid h2
  have HM := Lib.hid h
  clear hs h1 h2 h
  obtain ⟨s2, hs2⟩ : ∃ x, x = fillS s t := ⟨_, rfl⟩
  simp only [← hs2] at hf ⊢
  clear hs2
  obtain ⟨cir', cbs', eir', ebs', cp', aw', g', m', l'⟩ := s2
  simp only [cellsA] at hf
  obtain ⟨cir, cbs, eir, ebs, cp, aw, g, m, l⟩ := s
  have hh : w.heap[b]? = some (.cells #[.int .i64 cir, .int .i64 cbs, .int .i64 eir, .int .i64 ebs, .bool cp, .bool aw, .int .i64 g, .int .i64 m, .int .i64 l, .bool true] 58 (0, 0)) := HM.out
  have H := Lib.hid hh
  clear hh
  have hone : ((#[.int .i64 cir', .int .i64 cbs', .int .i64 eir', .int .i64 ebs', .bool cp', .bool aw', .int .i64 g', .int .i64 m', .int .i64 l', .bool true] : Array Value).all (·.oneCell')) = true := by kernel_rfl
  have hsz : (Try.prog.info? 58).map (·.size) = some 10 := by kernel_rfl
  have hblt : b < w.heap.size := HM.out.lt
  go_enter Try.func11, Try.ntmps11
  go_upto_region 6 with (first
    | (go_at_call 18; refine (none_made _ _ h9).mono ?_; rintro e w' ⟨rfl, rfl⟩) | (refine wpList_load_row rfl 58 _ rfl b rfl 58 _ (0, 0) _ H.out Try.underlying58 rfl (by kernel_rfl) ?_) | (go_at_call 19; refine (timed_yes b l t _ ((World.grownBy_alloc w _ none).cell h8 (by simp)) H1.out H2.out).mono ?_; rintro e w' ⟨rfl, rfl⟩)
    | (go_at_call 20; refine (hf _ (HM.out.kept (World.grownBy_alloc w _ none) (by simp))).mono ?_; rintro e w1 ⟨rfl, hg⟩; have hn1 := Lib.hid (blk_kept (heap_alloc_new w _) hg (by simp)); have G1 := Lib.hid hg; clear hg)
    | (refine wpList_store_rowTo rfl 58 _ _ rfl rfl w.heap.size #[.int .i64 cir', .int .i64 cbs', .int .i64 eir', .int .i64 ebs', .bool cp', .bool aw', .int .i64 g', .int .i64 m', .int .i64 l', .bool true] rfl rfl 58 _ hn1.out hsz rfl hone ?_))
  have h5 := setRow_heap w1 w.heap.size _ #[.int .i64 cir', .int .i64 cbs', .int .i64 eir', .int .i64 ebs', .bool cp', .bool aw', .int .i64 g', .int .i64 m', .int .i64 l', .bool true] 58 (0, 0) hn1.out
  have hG : Hid (w.grownBy (w1.setRow w.heap.size #[.int .i64 cir', .int .i64 cbs', .int .i64 eir', .int .i64 ebs', .bool cp', .bool aw', .int .i64 g', .int .i64 m', .int .i64 l', .bool true]) none) := Lib.hid (grownNew (gtrans (World.grownBy_alloc w _ none) G1.out (.inl rfl)) (grownSetRow _ _ _) (Nat.le_refl _))
  obtain ⟨x5, hx5⟩ : ∃ q : World, q = w1.setRow w.heap.size #[.int .i64 cir', .int .i64 cbs', .int .i64 eir', .int .i64 ebs', .bool cp', .bool aw', .int .i64 g', .int .i64 m', .int .i64 l', .bool true] := ⟨_, rfl⟩
  rw [← hx5] at h5 hG ⊢
  have r6 := (cell_of_row x5 w.heap.size 6 _ 58 (0, 0) h5).trans (show _ = some (.int .i64 g') from rfl)
  have r7 := (cell_of_row x5 w.heap.size 7 _ 58 (0, 0) h5).trans (show _ = some (.int .i64 m') from rfl)
  clear hx5 h5 hn1 G1 hf
  go_quiet (fail)
  go_wp2
  go_ret2
  exact ⟨rfl, gtrans hG.out (grown_drewN _ _ _) (.inl rfl)⟩
end Go.Proofs.Ytjddjijcfhgndaa.W
