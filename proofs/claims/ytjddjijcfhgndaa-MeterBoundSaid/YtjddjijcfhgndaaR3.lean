/-
  What New and Levels of the reference of the package meter do, over any memory.
-/
import Derived.Test.YtjddjijcfhgndaaR2
set_option linter.unusedVariables false
set_option linter.unusedSimpArgs false
namespace Go.Proofs.Ytjddjijcfhgndaa.W
open Go.RowKit

def zeroA : Array Value := #[.int .i64 0, .int .i64 0, .int .i64 0, .int .i64 0, .bool false, .bool false, .int .i64 0, .int .i64 0, .int .i64 0]
theorem rnew_ok (s : MS) (w : World) (h : okc s) : Calls Try.prog 12 #[.agg (confA s)] w fun e w' => e = .returned (.tuple #[.agg (refA (newS s)), .int .i64 0]) ∧ w.grownBy w' none := by
  have hc := fun W => ris_ok s W h
  obtain ⟨cir, cbs, eir, ebs, cp, aw, g, m, l⟩ := s
  simp only [confA] at *
  have H := Lib.hid h
  clear h
  have hsz : (Try.prog.info? 47).map (·.size) = some 9 := by kernel_rfl
  have hone : ((#[.int .i64 cir, .int .i64 cbs, .int .i64 eir, .int .i64 ebs, .bool cp, .bool aw, .int .i64 (cbs), .int .i64 (ebs), .int .i64 (0)] : Array Value).all (·.oneCell')) = true := by kernel_rfl
  go_enter Try.func12, Try.ntmps12
  go_wp2_with (first | (go_at_call 21; refine (hc _).mono ?_; rintro e w1 ⟨rfl, hg⟩; have hb := blk_kept (heap2_old' w _ _) hg (by simp); have e0 := (cell_of_row w1 (w.heap.size) 0 _ 23 (0, 0) hb).trans (show _ = some (.int .i64 cir) from rfl); have e1 := (cell_of_row w1 (w.heap.size) 1 _ 23 (0, 0) hb).trans (show _ = some (.int .i64 cbs) from rfl); have e2 := (cell_of_row w1 (w.heap.size) 2 _ 23 (0, 0) hb).trans (show _ = some (.int .i64 eir) from rfl); have e3 := (cell_of_row w1 (w.heap.size) 3 _ 23 (0, 0) hb).trans (show _ = some (.int .i64 ebs) from rfl); have e4 := (cell_of_row w1 (w.heap.size) 4 _ 23 (0, 0) hb).trans (show _ = some (.bool cp) from rfl); have e5 := (cell_of_row w1 (w.heap.size) 5 _ 23 (0, 0) hb).trans (show _ = some (.bool aw) from rfl); have HN := Lib.hid (blk_kept (heap2_new' w _ _) hg (by simp)); have G1 := Lib.hid (gtrans (gtrans (World.grownBy_alloc w _ none) (World.grownBy_alloc _ _ none) (.inl rfl)) hg (.inl rfl)); clear hg hb) | (refine wpList_store_rowTo rfl 47 _ _ rfl rfl (w.heap.size + 1) #[.int .i64 cir, .int .i64 cbs, .int .i64 eir, .int .i64 ebs, .bool cp, .bool aw, .int .i64 (cbs), .int .i64 (ebs), .int .i64 (0)] rfl rfl 47 #[.int .i64 0, .int .i64 0, .int .i64 0, .int .i64 0, .bool false, .bool false, .int .i64 0, .int .i64 0, .int .i64 0] HN.out hsz rfl hone ?_))
  have h5 := setRow_heap w1 (w.heap.size + 1) #[.int .i64 0, .int .i64 0, .int .i64 0, .int .i64 0, .bool false, .bool false, .int .i64 0, .int .i64 0, .int .i64 0] #[.int .i64 cir, .int .i64 cbs, .int .i64 eir, .int .i64 ebs, .bool cp, .bool aw, .int .i64 (cbs), .int .i64 (ebs), .int .i64 (0)] 47 (0, 0) HN.out
  have hG5 : w.grownBy (w1.setRow (w.heap.size + 1) #[.int .i64 cir, .int .i64 cbs, .int .i64 eir, .int .i64 ebs, .bool cp, .bool aw, .int .i64 (cbs), .int .i64 (ebs), .int .i64 (0)]) none := grownNew G1.out (grownSetRow _ _ _) (by omega)
  obtain ⟨x5, hx5⟩ : ∃ q : World, q = w1.setRow (w.heap.size + 1) #[.int .i64 cir, .int .i64 cbs, .int .i64 eir, .int .i64 ebs, .bool cp, .bool aw, .int .i64 (cbs), .int .i64 (ebs), .int .i64 (0)] := ⟨_, rfl⟩
  rw [← hx5] at h5 hG5 ⊢
  have r0 := cell_of_row x5 (w.heap.size + 1) 0 _ 47 (0, 0) h5
  have r1 := cell_of_row x5 (w.heap.size + 1) 1 _ 47 (0, 0) h5
  have r2 := cell_of_row x5 (w.heap.size + 1) 2 _ 47 (0, 0) h5
  have r3 := cell_of_row x5 (w.heap.size + 1) 3 _ 47 (0, 0) h5
  have r4 := cell_of_row x5 (w.heap.size + 1) 4 _ 47 (0, 0) h5
  have r5 := cell_of_row x5 (w.heap.size + 1) 5 _ 47 (0, 0) h5
  have r6 := cell_of_row x5 (w.heap.size + 1) 6 _ 47 (0, 0) h5
  have r7 := cell_of_row x5 (w.heap.size + 1) 7 _ 47 (0, 0) h5
  have r8 := cell_of_row x5 (w.heap.size + 1) 8 _ 47 (0, 0) h5
  refine bodyPost_ret (v := .tuple #[.agg #[.int .i64 cir, .int .i64 cbs, .int .i64 eir, .int .i64 ebs, .bool cp, .bool aw, .int .i64 (cbs), .int .i64 (ebs), .int .i64 (0)], .int .i64 0]) (by simp [results, Try.results12, go_sem, r0, r1, r2, r3, r4, r5, r6, r7, r8]) rfl ⟨rfl, hG5⟩

theorem rnew_bad (s : MS) (w : World) (h : ¬ okc s) : Calls Try.prog 12 #[.agg (confA s)] w fun e w' => e = .returned (.tuple #[.agg zeroA, .int .i64 310]) ∧ w.grownBy w' none := by
  have hc := fun W => ris_bad s W h
  obtain ⟨cir, cbs, eir, ebs, cp, aw, g, m, l⟩ := s
  simp only [confA] at *
  have H := Lib.hid h
  clear h
  have hsz : (Try.prog.info? 47).map (·.size) = some 9 := by kernel_rfl
  have hone : ((#[.int .i64 0, .int .i64 0, .int .i64 0, .int .i64 0, .bool false, .bool false, .int .i64 0, .int .i64 0, .int .i64 0] : Array Value).all (·.oneCell')) = true := by kernel_rfl
  go_enter Try.func12, Try.ntmps12
  go_wp2_with (first | (go_at_call 21; refine (hc _).mono ?_; rintro e w1 ⟨rfl, hg⟩; have hb := blk_kept (heap2_old' w _ _) hg (by simp); have e0 := (cell_of_row w1 (w.heap.size) 0 _ 23 (0, 0) hb).trans (show _ = some (.int .i64 cir) from rfl); have e1 := (cell_of_row w1 (w.heap.size) 1 _ 23 (0, 0) hb).trans (show _ = some (.int .i64 cbs) from rfl); have e2 := (cell_of_row w1 (w.heap.size) 2 _ 23 (0, 0) hb).trans (show _ = some (.int .i64 eir) from rfl); have e3 := (cell_of_row w1 (w.heap.size) 3 _ 23 (0, 0) hb).trans (show _ = some (.int .i64 ebs) from rfl); have e4 := (cell_of_row w1 (w.heap.size) 4 _ 23 (0, 0) hb).trans (show _ = some (.bool cp) from rfl); have e5 := (cell_of_row w1 (w.heap.size) 5 _ 23 (0, 0) hb).trans (show _ = some (.bool aw) from rfl); have HN := Lib.hid (blk_kept (heap2_new' w _ _) hg (by simp)); have G1 := Lib.hid (gtrans (gtrans (World.grownBy_alloc w _ none) (World.grownBy_alloc _ _ none) (.inl rfl)) hg (.inl rfl)); clear hg hb) | (refine wpList_store_rowTo rfl 47 _ _ rfl rfl (w.heap.size + 1) #[.int .i64 0, .int .i64 0, .int .i64 0, .int .i64 0, .bool false, .bool false, .int .i64 0, .int .i64 0, .int .i64 0] rfl rfl 47 #[.int .i64 0, .int .i64 0, .int .i64 0, .int .i64 0, .bool false, .bool false, .int .i64 0, .int .i64 0, .int .i64 0] HN.out hsz rfl hone ?_))
  have h5 := setRow_heap w1 (w.heap.size + 1) #[.int .i64 0, .int .i64 0, .int .i64 0, .int .i64 0, .bool false, .bool false, .int .i64 0, .int .i64 0, .int .i64 0] #[.int .i64 0, .int .i64 0, .int .i64 0, .int .i64 0, .bool false, .bool false, .int .i64 0, .int .i64 0, .int .i64 0] 47 (0, 0) HN.out
  have hG5 : w.grownBy (w1.setRow (w.heap.size + 1) #[.int .i64 0, .int .i64 0, .int .i64 0, .int .i64 0, .bool false, .bool false, .int .i64 0, .int .i64 0, .int .i64 0]) none := grownNew G1.out (grownSetRow _ _ _) (by omega)
  obtain ⟨x5, hx5⟩ : ∃ q : World, q = w1.setRow (w.heap.size + 1) #[.int .i64 0, .int .i64 0, .int .i64 0, .int .i64 0, .bool false, .bool false, .int .i64 0, .int .i64 0, .int .i64 0] := ⟨_, rfl⟩
  rw [← hx5] at h5 hG5 ⊢
  have r0 := cell_of_row x5 (w.heap.size + 1) 0 _ 47 (0, 0) h5
  have r1 := cell_of_row x5 (w.heap.size + 1) 1 _ 47 (0, 0) h5
  have r2 := cell_of_row x5 (w.heap.size + 1) 2 _ 47 (0, 0) h5
  have r3 := cell_of_row x5 (w.heap.size + 1) 3 _ 47 (0, 0) h5
  have r4 := cell_of_row x5 (w.heap.size + 1) 4 _ 47 (0, 0) h5
  have r5 := cell_of_row x5 (w.heap.size + 1) 5 _ 47 (0, 0) h5
  have r6 := cell_of_row x5 (w.heap.size + 1) 6 _ 47 (0, 0) h5
  have r7 := cell_of_row x5 (w.heap.size + 1) 7 _ 47 (0, 0) h5
  have r8 := cell_of_row x5 (w.heap.size + 1) 8 _ 47 (0, 0) h5
  refine bodyPost_ret (v := .tuple #[.agg #[.int .i64 0, .int .i64 0, .int .i64 0, .int .i64 0, .bool false, .bool false, .int .i64 0, .int .i64 0, .int .i64 0], .int .i64 310]) (by simp [results, Try.results12, go_sem, r0, r1, r2, r3, r4, r5, r6, r7, r8]) rfl ⟨rfl, hG5⟩

theorem rlevels_late (s : MS) (t : Int) (w : World) (h1 : ¬ (s.l ≤ t ∧ t ≤ 1099511627776)) : Calls Try.prog 16 #[.agg (refA s), .int .i64 t] w fun e w' => e = .returned (.tuple #[.int .i64 s.g, .int .i64 s.m]) ∧ w.grownBy w' none := by
  obtain ⟨cir, cbs, eir, ebs, cp, aw, g, m, l⟩ := s
  simp only [refA] at *
  by_cases h3 : l ≤ t
  · have h4 : 1099511627776 < t := by omega
    clear h1
    go_enter Try.func16, Try.ntmps16
    go_wp2
    go_quiet (fail)
    go_wp2
    go_ret2
    exact ⟨rfl, gtrans (World.grownBy_alloc _ _ none) (grown_drewN _ _ _) (.inl rfl)⟩
  · clear h1
    go_enter Try.func16, Try.ntmps16
    go_wp2
    go_quiet (fail)
    go_wp2
    go_ret2
    exact ⟨rfl, gtrans (World.grownBy_alloc _ _ none) (grown_drewN _ _ _) (.inl rfl)⟩

set_option maxHeartbeats 1000000 in
theorem rlevels_of (s : MS) (t : Int) (w : World) (hs : Good s) (h1 : s.l ≤ t) (h2 : t ≤ 1099511627776) : Calls Try.prog 16 #[.agg (refA s), .int .i64 t] w fun e w' => e = .returned (.tuple #[.int .i64 (fillS s t).g, .int .i64 (fillS s t).m]) ∧ w.grownBy w' none := by
  have hf := fun (W : World) => rfill s t W hs h1 h2
  clear hs
  obtain ⟨s2, hs2⟩ : ∃ x, x = fillS s t := ⟨_, rfl⟩
  simp only [← hs2] at hf ⊢
  clear hs2
  obtain ⟨cir', cbs', eir', ebs', cp', aw', g', m', l'⟩ := s2
  obtain ⟨cir, cbs, eir, ebs, cp, aw, g, m, l⟩ := s
  simp only [refA] at *
  have hsz : (Try.prog.info? 47).map (·.size) = some 9 := by kernel_rfl
  have hone : ((#[.int .i64 cir', .int .i64 cbs', .int .i64 eir', .int .i64 ebs', .bool cp', .bool aw', .int .i64 g', .int .i64 m', .int .i64 l'] : Array Value).all (·.oneCell')) = true := by kernel_rfl
  go_enter Try.func16, Try.ntmps16
  go_upto_region 3 with (first | (go_at_call 22; refine (hf _).mono ?_; rintro e w1 ⟨rfl, hg⟩; have hn1 := Lib.hid (blk_kept (heap_alloc_new w _) hg (by simp)); have G1 := Lib.hid hg; clear hg) | (refine wpList_store_rowTo rfl 47 _ _ rfl rfl w.heap.size #[.int .i64 cir', .int .i64 cbs', .int .i64 eir', .int .i64 ebs', .bool cp', .bool aw', .int .i64 g', .int .i64 m', .int .i64 l'] rfl rfl 47 _ hn1.out hsz rfl hone ?_))
  have h5 := setRow_heap w1 w.heap.size _ #[.int .i64 cir', .int .i64 cbs', .int .i64 eir', .int .i64 ebs', .bool cp', .bool aw', .int .i64 g', .int .i64 m', .int .i64 l'] 47 (0, 0) hn1.out
  have hG : Hid (w.grownBy (w1.setRow w.heap.size #[.int .i64 cir', .int .i64 cbs', .int .i64 eir', .int .i64 ebs', .bool cp', .bool aw', .int .i64 g', .int .i64 m', .int .i64 l']) none) := Lib.hid (grownNew (gtrans (World.grownBy_alloc w _ none) G1.out (.inl rfl)) (grownSetRow _ _ _) (Nat.le_refl _))
  obtain ⟨x5, hx5⟩ : ∃ q : World, q = w1.setRow w.heap.size #[.int .i64 cir', .int .i64 cbs', .int .i64 eir', .int .i64 ebs', .bool cp', .bool aw', .int .i64 g', .int .i64 m', .int .i64 l'] := ⟨_, rfl⟩
  rw [← hx5] at h5 hG ⊢
  have r6 := (cell_of_row x5 w.heap.size 6 _ 47 (0, 0) h5).trans (show _ = some (.int .i64 g') from rfl)
  have r7 := (cell_of_row x5 w.heap.size 7 _ 47 (0, 0) h5).trans (show _ = some (.int .i64 m') from rfl)
  clear hx5 h5 hn1 G1 hf
  go_quiet (fail)
  go_wp2
  go_ret2
  exact ⟨rfl, gtrans hG.out (grown_drewN _ _ _) (.inl rfl)⟩
end Go.Proofs.Ytjddjijcfhgndaa.W
