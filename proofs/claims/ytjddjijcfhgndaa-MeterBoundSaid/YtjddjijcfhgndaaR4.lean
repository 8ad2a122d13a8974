/-
  What Mark of the reference of the package meter does, over any memory.
-/
import Derived.Test.YtjddjijcfhgndaaR3
set_option linter.unusedVariables false
set_option linter.unusedSimpArgs false
namespace Go.Proofs.Ytjddjijcfhgndaa.W
open Go.RowKit

set_option maxHeartbeats 1000000 in
theorem rmark_late (s : MS) (t n c : Int) (w : World) (h1 : ¬ (s.l ≤ t ∧ t ≤ 1099511627776)) : Calls Try.prog 15 #[.agg (refA s), .int .i64 t, .int .i64 n, .int .i64 c] w fun e w' => e = .returned (.tuple #[.agg (refA s), .int .i64 0, .int .i64 1]) ∧ w.grownBy w' none := by
  obtain ⟨cir, cbs, eir, ebs, cp, aw, g, m, l⟩ := s
  simp only [refA] at *
  have hsz : (Try.prog.info? 47).map (·.size) = some 9 := by kernel_rfl
  have hone : ((#[.int .i64 cir, .int .i64 cbs, .int .i64 eir, .int .i64 ebs, .bool cp, .bool aw, .int .i64 (g), .int .i64 (m), .int .i64 (l)] : Array Value).all (·.oneCell')) = true := by kernel_rfl
  have HB := Lib.hid (heap2_old' w (.cells #[.int .i64 cir, .int .i64 cbs, .int .i64 eir, .int .i64 ebs, .bool cp, .bool aw, .int .i64 (g), .int .i64 (m), .int .i64 (l)] 47) (.cells #[.int .i64 0, .int .i64 0, .int .i64 0, .int .i64 0, .bool false, .bool false, .int .i64 0, .int .i64 0, .int .i64 0] 47))
  have HN := Lib.hid (heap2_new' w (.cells #[.int .i64 cir, .int .i64 cbs, .int .i64 eir, .int .i64 ebs, .bool cp, .bool aw, .int .i64 (g), .int .i64 (m), .int .i64 (l)] 47) (.cells #[.int .i64 0, .int .i64 0, .int .i64 0, .int .i64 0, .bool false, .bool false, .int .i64 0, .int .i64 0, .int .i64 0] 47))
  have HG := Lib.hid (gtrans (World.grownBy_alloc w (.cells #[.int .i64 cir, .int .i64 cbs, .int .i64 eir, .int .i64 ebs, .bool cp, .bool aw, .int .i64 (g), .int .i64 (m), .int .i64 (l)] 47) none) (World.grownBy_alloc _ (.cells #[.int .i64 0, .int .i64 0, .int .i64 0, .int .i64 0, .bool false, .bool false, .int .i64 0, .int .i64 0, .int .i64 0] 47) none) (.inl rfl))
  by_cases h3 : l ≤ t
  · have h4 : 1099511627776 < t := by omega
    clear h1
    go_enter Try.func15, Try.ntmps15
    go_wp2_with (first | (refine wpList_load_row rfl 47 _ rfl w.heap.size rfl 47 _ (0, 0) _ HB.out Try.underlying47 rfl (by kernel_rfl) ?_) | (refine wpList_store_rowTo rfl 47 _ _ rfl rfl (w.heap.size + 1) #[.int .i64 cir, .int .i64 cbs, .int .i64 eir, .int .i64 ebs, .bool cp, .bool aw, .int .i64 (g), .int .i64 (m), .int .i64 (l)] rfl rfl 47 #[.int .i64 0, .int .i64 0, .int .i64 0, .int .i64 0, .bool false, .bool false, .int .i64 0, .int .i64 0, .int .i64 0] HN.out hsz rfl hone ?_))
    have h5 := setRow_heap ((w.alloc (.cells #[.int .i64 cir, .int .i64 cbs, .int .i64 eir, .int .i64 ebs, .bool cp, .bool aw, .int .i64 (g), .int .i64 (m), .int .i64 (l)] 47)).alloc (.cells #[.int .i64 0, .int .i64 0, .int .i64 0, .int .i64 0, .bool false, .bool false, .int .i64 0, .int .i64 0, .int .i64 0] 47)) (w.heap.size + 1) #[.int .i64 0, .int .i64 0, .int .i64 0, .int .i64 0, .bool false, .bool false, .int .i64 0, .int .i64 0, .int .i64 0] #[.int .i64 cir, .int .i64 cbs, .int .i64 eir, .int .i64 ebs, .bool cp, .bool aw, .int .i64 (g), .int .i64 (m), .int .i64 (l)] 47 (0, 0) HN.out
    have hG5 : w.grownBy (((w.alloc (.cells #[.int .i64 cir, .int .i64 cbs, .int .i64 eir, .int .i64 ebs, .bool cp, .bool aw, .int .i64 (g), .int .i64 (m), .int .i64 (l)] 47)).alloc (.cells #[.int .i64 0, .int .i64 0, .int .i64 0, .int .i64 0, .bool false, .bool false, .int .i64 0, .int .i64 0, .int .i64 0] 47)).setRow (w.heap.size + 1) #[.int .i64 cir, .int .i64 cbs, .int .i64 eir, .int .i64 ebs, .bool cp, .bool aw, .int .i64 (g), .int .i64 (m), .int .i64 (l)]) none := grownNew HG.out (grownSetRow _ _ _) (by omega)
    obtain ⟨x5, hx5⟩ : ∃ q : World, q = ((w.alloc (.cells #[.int .i64 cir, .int .i64 cbs, .int .i64 eir, .int .i64 ebs, .bool cp, .bool aw, .int .i64 (g), .int .i64 (m), .int .i64 (l)] 47)).alloc (.cells #[.int .i64 0, .int .i64 0, .int .i64 0, .int .i64 0, .bool false, .bool false, .int .i64 0, .int .i64 0, .int .i64 0] 47)).setRow (w.heap.size + 1) #[.int .i64 cir, .int .i64 cbs, .int .i64 eir, .int .i64 ebs, .bool cp, .bool aw, .int .i64 (g), .int .i64 (m), .int .i64 (l)] := ⟨_, rfl⟩
    rw [← hx5] at h5 hG5 ⊢
    have r0 := cell_of_row x5 (w.heap.size + 1) 0 _ 47 (0, 0) h5
    have r1 := cell_of_row x5 (w.heap.size + 1) 1 _ 47 (0, 0) h5
    have r2 := cell_of_row x5 (w.heap.size + 1) 2 _ 47 (0, 0) h5
    have r3 := cell_of_row x5 (w.heap.size + 1) 3 _ 47 (0, 0) h5
    have r4 := cell_of_row x5 (w.heap.size + 1) 4 _ 47 (0, 0) h5
    have r5 := cell_of_row x5 (w.heap.size + 1) 5 _ 47 (0, 0) h5
    have r6 := cell_of_row x5 (w.heap.size + 1) 6 _ 47 (0, 0) h5
    have r7 := cell_of_row x5 (w.heap.size + 1) 7 _ 47 (0, 0) h5
    have r8 := cell_of_row x5 (w.heap.size + 1) 8 _ 47 (0, 0) h5
    refine bodyPost_ret (v := .tuple #[.agg #[.int .i64 cir, .int .i64 cbs, .int .i64 eir, .int .i64 ebs, .bool cp, .bool aw, .int .i64 (g), .int .i64 (m), .int .i64 (l)], .int .i64 0, .int .i64 1]) (by simp [results, Try.results15, go_sem, r0, r1, r2, r3, r4, r5, r6, r7, r8]) rfl ⟨rfl, hG5⟩
  · clear h1
    go_enter Try.func15, Try.ntmps15
    go_wp2_with (first | (refine wpList_load_row rfl 47 _ rfl w.heap.size rfl 47 _ (0, 0) _ HB.out Try.underlying47 rfl (by kernel_rfl) ?_) | (refine wpList_store_rowTo rfl 47 _ _ rfl rfl (w.heap.size + 1) #[.int .i64 cir, .int .i64 cbs, .int .i64 eir, .int .i64 ebs, .bool cp, .bool aw, .int .i64 (g), .int .i64 (m), .int .i64 (l)] rfl rfl 47 #[.int .i64 0, .int .i64 0, .int .i64 0, .int .i64 0, .bool false, .bool false, .int .i64 0, .int .i64 0, .int .i64 0] HN.out hsz rfl hone ?_))
    have h5 := setRow_heap ((w.alloc (.cells #[.int .i64 cir, .int .i64 cbs, .int .i64 eir, .int .i64 ebs, .bool cp, .bool aw, .int .i64 (g), .int .i64 (m), .int .i64 (l)] 47)).alloc (.cells #[.int .i64 0, .int .i64 0, .int .i64 0, .int .i64 0, .bool false, .bool false, .int .i64 0, .int .i64 0, .int .i64 0] 47)) (w.heap.size + 1) #[.int .i64 0, .int .i64 0, .int .i64 0, .int .i64 0, .bool false, .bool false, .int .i64 0, .int .i64 0, .int .i64 0] #[.int .i64 cir, .int .i64 cbs, .int .i64 eir, .int .i64 ebs, .bool cp, .bool aw, .int .i64 (g), .int .i64 (m), .int .i64 (l)] 47 (0, 0) HN.out
    have hG5 : w.grownBy (((w.alloc (.cells #[.int .i64 cir, .int .i64 cbs, .int .i64 eir, .int .i64 ebs, .bool cp, .bool aw, .int .i64 (g), .int .i64 (m), .int .i64 (l)] 47)).alloc (.cells #[.int .i64 0, .int .i64 0, .int .i64 0, .int .i64 0, .bool false, .bool false, .int .i64 0, .int .i64 0, .int .i64 0] 47)).setRow (w.heap.size + 1) #[.int .i64 cir, .int .i64 cbs, .int .i64 eir, .int .i64 ebs, .bool cp, .bool aw, .int .i64 (g), .int .i64 (m), .int .i64 (l)]) none := grownNew HG.out (grownSetRow _ _ _) (by omega)
    obtain ⟨x5, hx5⟩ : ∃ q : World, q = ((w.alloc (.cells #[.int .i64 cir, .int .i64 cbs, .int .i64 eir, .int .i64 ebs, .bool cp, .bool aw, .int .i64 (g), .int .i64 (m), .int .i64 (l)] 47)).alloc (.cells #[.int .i64 0, .int .i64 0, .int .i64 0, .int .i64 0, .bool false, .bool false, .int .i64 0, .int .i64 0, .int .i64 0] 47)).setRow (w.heap.size + 1) #[.int .i64 cir, .int .i64 cbs, .int .i64 eir, .int .i64 ebs, .bool cp, .bool aw, .int .i64 (g), .int .i64 (m), .int .i64 (l)] := ⟨_, rfl⟩
    rw [← hx5] at h5 hG5 ⊢
    have r0 := cell_of_row x5 (w.heap.size + 1) 0 _ 47 (0, 0) h5
    have r1 := cell_of_row x5 (w.heap.size + 1) 1 _ 47 (0, 0) h5
    have r2 := cell_of_row x5 (w.heap.size + 1) 2 _ 47 (0, 0) h5
    have r3 := cell_of_row x5 (w.heap.size + 1) 3 _ 47 (0, 0) h5
    have r4 := cell_of_row x5 (w.heap.size + 1) 4 _ 47 (0, 0) h5
    have r5 := cell_of_row x5 (w.heap.size + 1) 5 _ 47 (0, 0) h5
    have r6 := cell_of_row x5 (w.heap.size + 1) 6 _ 47 (0, 0) h5
    have r7 := cell_of_row x5 (w.heap.size + 1) 7 _ 47 (0, 0) h5
    have r8 := cell_of_row x5 (w.heap.size + 1) 8 _ 47 (0, 0) h5
    refine bodyPost_ret (v := .tuple #[.agg #[.int .i64 cir, .int .i64 cbs, .int .i64 eir, .int .i64 ebs, .bool cp, .bool aw, .int .i64 (g), .int .i64 (m), .int .i64 (l)], .int .i64 0, .int .i64 1]) (by simp [results, Try.results15, go_sem, r0, r1, r2, r3, r4, r5, r6, r7, r8]) rfl ⟨rfl, hG5⟩

set_option maxHeartbeats 2000000 in
theorem rmark_bad (s : MS) (t n c : Int) (w : World) (h1 : s.l ≤ t) (h2 : t ≤ 1099511627776) (h3 : ¬ okf n c) : Calls Try.prog 15 #[.agg (refA s), .int .i64 t, .int .i64 n, .int .i64 c] w fun e w' => e = .returned (.tuple #[.agg (refA s), .int .i64 0, .int .i64 310]) ∧ w.grownBy w' none := by
  obtain ⟨cir, cbs, eir, ebs, cp, aw, g, m, l⟩ := s
  simp only [refA] at *
  have hsz : (Try.prog.info? 47).map (·.size) = some 9 := by kernel_rfl
  have hone : ((#[.int .i64 cir, .int .i64 cbs, .int .i64 eir, .int .i64 ebs, .bool cp, .bool aw, .int .i64 (g), .int .i64 (m), .int .i64 (l)] : Array Value).all (·.oneCell')) = true := by kernel_rfl
  have HB := Lib.hid (heap2_old' w (.cells #[.int .i64 cir, .int .i64 cbs, .int .i64 eir, .int .i64 ebs, .bool cp, .bool aw, .int .i64 (g), .int .i64 (m), .int .i64 (l)] 47) (.cells #[.int .i64 0, .int .i64 0, .int .i64 0, .int .i64 0, .bool false, .bool false, .int .i64 0, .int .i64 0, .int .i64 0] 47))
  have HN := Lib.hid (heap2_new' w (.cells #[.int .i64 cir, .int .i64 cbs, .int .i64 eir, .int .i64 ebs, .bool cp, .bool aw, .int .i64 (g), .int .i64 (m), .int .i64 (l)] 47) (.cells #[.int .i64 0, .int .i64 0, .int .i64 0, .int .i64 0, .bool false, .bool false, .int .i64 0, .int .i64 0, .int .i64 0] 47))
  have HG := Lib.hid (gtrans (World.grownBy_alloc w (.cells #[.int .i64 cir, .int .i64 cbs, .int .i64 eir, .int .i64 ebs, .bool cp, .bool aw, .int .i64 (g), .int .i64 (m), .int .i64 (l)] 47) none) (World.grownBy_alloc _ (.cells #[.int .i64 0, .int .i64 0, .int .i64 0, .int .i64 0, .bool false, .bool false, .int .i64 0, .int .i64 0, .int .i64 0] 47) none) (.inl rfl))
  by_cases k1 : n < 1
  · clear h3
    go_enter Try.func15, Try.ntmps15
    go_wp2_with (first | (refine wpList_load_row rfl 47 _ rfl w.heap.size rfl 47 _ (0, 0) _ HB.out Try.underlying47 rfl (by kernel_rfl) ?_) | (refine wpList_store_rowTo rfl 47 _ _ rfl rfl (w.heap.size + 1) #[.int .i64 cir, .int .i64 cbs, .int .i64 eir, .int .i64 ebs, .bool cp, .bool aw, .int .i64 (g), .int .i64 (m), .int .i64 (l)] rfl rfl 47 #[.int .i64 0, .int .i64 0, .int .i64 0, .int .i64 0, .bool false, .bool false, .int .i64 0, .int .i64 0, .int .i64 0] HN.out hsz rfl hone ?_))
    have h5 := setRow_heap ((w.alloc (.cells #[.int .i64 cir, .int .i64 cbs, .int .i64 eir, .int .i64 ebs, .bool cp, .bool aw, .int .i64 (g), .int .i64 (m), .int .i64 (l)] 47)).alloc (.cells #[.int .i64 0, .int .i64 0, .int .i64 0, .int .i64 0, .bool false, .bool false, .int .i64 0, .int .i64 0, .int .i64 0] 47)) (w.heap.size + 1) #[.int .i64 0, .int .i64 0, .int .i64 0, .int .i64 0, .bool false, .bool false, .int .i64 0, .int .i64 0, .int .i64 0] #[.int .i64 cir, .int .i64 cbs, .int .i64 eir, .int .i64 ebs, .bool cp, .bool aw, .int .i64 (g), .int .i64 (m), .int .i64 (l)] 47 (0, 0) HN.out
    have hG5 : w.grownBy (((w.alloc (.cells #[.int .i64 cir, .int .i64 cbs, .int .i64 eir, .int .i64 ebs, .bool cp, .bool aw, .int .i64 (g), .int .i64 (m), .int .i64 (l)] 47)).alloc (.cells #[.int .i64 0, .int .i64 0, .int .i64 0, .int .i64 0, .bool false, .bool false, .int .i64 0, .int .i64 0, .int .i64 0] 47)).setRow (w.heap.size + 1) #[.int .i64 cir, .int .i64 cbs, .int .i64 eir, .int .i64 ebs, .bool cp, .bool aw, .int .i64 (g), .int .i64 (m), .int .i64 (l)]) none := grownNew HG.out (grownSetRow _ _ _) (by omega)
    obtain ⟨x5, hx5⟩ : ∃ q : World, q = ((w.alloc (.cells #[.int .i64 cir, .int .i64 cbs, .int .i64 eir, .int .i64 ebs, .bool cp, .bool aw, .int .i64 (g), .int .i64 (m), .int .i64 (l)] 47)).alloc (.cells #[.int .i64 0, .int .i64 0, .int .i64 0, .int .i64 0, .bool false, .bool false, .int .i64 0, .int .i64 0, .int .i64 0] 47)).setRow (w.heap.size + 1) #[.int .i64 cir, .int .i64 cbs, .int .i64 eir, .int .i64 ebs, .bool cp, .bool aw, .int .i64 (g), .int .i64 (m), .int .i64 (l)] := ⟨_, rfl⟩
    rw [← hx5] at h5 hG5 ⊢
    have r0 := cell_of_row x5 (w.heap.size + 1) 0 _ 47 (0, 0) h5
    have r1 := cell_of_row x5 (w.heap.size + 1) 1 _ 47 (0, 0) h5
    have r2 := cell_of_row x5 (w.heap.size + 1) 2 _ 47 (0, 0) h5
    have r3 := cell_of_row x5 (w.heap.size + 1) 3 _ 47 (0, 0) h5
    have r4 := cell_of_row x5 (w.heap.size + 1) 4 _ 47 (0, 0) h5
    have r5 := cell_of_row x5 (w.heap.size + 1) 5 _ 47 (0, 0) h5
    have r6 := cell_of_row x5 (w.heap.size + 1) 6 _ 47 (0, 0) h5
    have r7 := cell_of_row x5 (w.heap.size + 1) 7 _ 47 (0, 0) h5
    have r8 := cell_of_row x5 (w.heap.size + 1) 8 _ 47 (0, 0) h5
    refine bodyPost_ret (v := .tuple #[.agg #[.int .i64 cir, .int .i64 cbs, .int .i64 eir, .int .i64 ebs, .bool cp, .bool aw, .int .i64 (g), .int .i64 (m), .int .i64 (l)], .int .i64 0, .int .i64 310]) (by simp [results, Try.results15, go_sem, r0, r1, r2, r3, r4, r5, r6, r7, r8]) rfl ⟨rfl, hG5⟩
  by_cases k2 : 2048 < n
  · clear h3
    go_enter Try.func15, Try.ntmps15
    go_wp2_with (first | (refine wpList_load_row rfl 47 _ rfl w.heap.size rfl 47 _ (0, 0) _ HB.out Try.underlying47 rfl (by kernel_rfl) ?_) | (refine wpList_store_rowTo rfl 47 _ _ rfl rfl (w.heap.size + 1) #[.int .i64 cir, .int .i64 cbs, .int .i64 eir, .int .i64 ebs, .bool cp, .bool aw, .int .i64 (g), .int .i64 (m), .int .i64 (l)] rfl rfl 47 #[.int .i64 0, .int .i64 0, .int .i64 0, .int .i64 0, .bool false, .bool false, .int .i64 0, .int .i64 0, .int .i64 0] HN.out hsz rfl hone ?_))
    have h5 := setRow_heap ((w.alloc (.cells #[.int .i64 cir, .int .i64 cbs, .int .i64 eir, .int .i64 ebs, .bool cp, .bool aw, .int .i64 (g), .int .i64 (m), .int .i64 (l)] 47)).alloc (.cells #[.int .i64 0, .int .i64 0, .int .i64 0, .int .i64 0, .bool false, .bool false, .int .i64 0, .int .i64 0, .int .i64 0] 47)) (w.heap.size + 1) #[.int .i64 0, .int .i64 0, .int .i64 0, .int .i64 0, .bool false, .bool false, .int .i64 0, .int .i64 0, .int .i64 0] #[.int .i64 cir, .int .i64 cbs, .int .i64 eir, .int .i64 ebs, .bool cp, .bool aw, .int .i64 (g), .int .i64 (m), .int .i64 (l)] 47 (0, 0) HN.out
    have hG5 : w.grownBy (((w.alloc (.cells #[.int .i64 cir, .int .i64 cbs, .int .i64 eir, .int .i64 ebs, .bool cp, .bool aw, .int .i64 (g), .int .i64 (m), .int .i64 (l)] 47)).alloc (.cells #[.int .i64 0, .int .i64 0, .int .i64 0, .int .i64 0, .bool false, .bool false, .int .i64 0, .int .i64 0, .int .i64 0] 47)).setRow (w.heap.size + 1) #[.int .i64 cir, .int .i64 cbs, .int .i64 eir, .int .i64 ebs, .bool cp, .bool aw, .int .i64 (g), .int .i64 (m), .int .i64 (l)]) none := grownNew HG.out (grownSetRow _ _ _) (by omega)
    obtain ⟨x5, hx5⟩ : ∃ q : World, q = ((w.alloc (.cells #[.int .i64 cir, .int .i64 cbs, .int .i64 eir, .int .i64 ebs, .bool cp, .bool aw, .int .i64 (g), .int .i64 (m), .int .i64 (l)] 47)).alloc (.cells #[.int .i64 0, .int .i64 0, .int .i64 0, .int .i64 0, .bool false, .bool false, .int .i64 0, .int .i64 0, .int .i64 0] 47)).setRow (w.heap.size + 1) #[.int .i64 cir, .int .i64 cbs, .int .i64 eir, .int .i64 ebs, .bool cp, .bool aw, .int .i64 (g), .int .i64 (m), .int .i64 (l)] := ⟨_, rfl⟩
    rw [← hx5] at h5 hG5 ⊢
    have r0 := cell_of_row x5 (w.heap.size + 1) 0 _ 47 (0, 0) h5
    have r1 := cell_of_row x5 (w.heap.size + 1) 1 _ 47 (0, 0) h5
    have r2 := cell_of_row x5 (w.heap.size + 1) 2 _ 47 (0, 0) h5
    have r3 := cell_of_row x5 (w.heap.size + 1) 3 _ 47 (0, 0) h5
    have r4 := cell_of_row x5 (w.heap.size + 1) 4 _ 47 (0, 0) h5
    have r5 := cell_of_row x5 (w.heap.size + 1) 5 _ 47 (0, 0) h5
    have r6 := cell_of_row x5 (w.heap.size + 1) 6 _ 47 (0, 0) h5
    have r7 := cell_of_row x5 (w.heap.size + 1) 7 _ 47 (0, 0) h5
    have r8 := cell_of_row x5 (w.heap.size + 1) 8 _ 47 (0, 0) h5
    refine bodyPost_ret (v := .tuple #[.agg #[.int .i64 cir, .int .i64 cbs, .int .i64 eir, .int .i64 ebs, .bool cp, .bool aw, .int .i64 (g), .int .i64 (m), .int .i64 (l)], .int .i64 0, .int .i64 310]) (by simp [results, Try.results15, go_sem, r0, r1, r2, r3, r4, r5, r6, r7, r8]) rfl ⟨rfl, hG5⟩
  have k3 : c ≠ 1 ∧ c ≠ 2 ∧ c ≠ 3 := by simp only [okf] at h3; omega
  clear h3
  obtain ⟨ka, kb, kc⟩ := k3
  have qa : (c == 1) = false := by simpa using ka
  have qb : (c == 2) = false := by simpa using kb
  have qc : (c == 3) = false := by simpa using kc
  have qa' : (c != 1) = true := by simpa using ka
  have qb' : (c != 2) = true := by simpa using kb
  have qc' : (c != 3) = true := by simpa using kc
  clear ka kb kc
  go_enter Try.func15, Try.ntmps15
  go_wp2_with (first | (refine wpList_load_row rfl 47 _ rfl w.heap.size rfl 47 _ (0, 0) _ HB.out Try.underlying47 rfl (by kernel_rfl) ?_) | (refine wpList_store_rowTo rfl 47 _ _ rfl rfl (w.heap.size + 1) #[.int .i64 cir, .int .i64 cbs, .int .i64 eir, .int .i64 ebs, .bool cp, .bool aw, .int .i64 (g), .int .i64 (m), .int .i64 (l)] rfl rfl 47 #[.int .i64 0, .int .i64 0, .int .i64 0, .int .i64 0, .bool false, .bool false, .int .i64 0, .int .i64 0, .int .i64 0] HN.out hsz rfl hone ?_))
  have h5 := setRow_heap ((w.alloc (.cells #[.int .i64 cir, .int .i64 cbs, .int .i64 eir, .int .i64 ebs, .bool cp, .bool aw, .int .i64 (g), .int .i64 (m), .int .i64 (l)] 47)).alloc (.cells #[.int .i64 0, .int .i64 0, .int .i64 0, .int .i64 0, .bool false, .bool false, .int .i64 0, .int .i64 0, .int .i64 0] 47)) (w.heap.size + 1) #[.int .i64 0, .int .i64 0, .int .i64 0, .int .i64 0, .bool false, .bool false, .int .i64 0, .int .i64 0, .int .i64 0] #[.int .i64 cir, .int .i64 cbs, .int .i64 eir, .int .i64 ebs, .bool cp, .bool aw, .int .i64 (g), .int .i64 (m), .int .i64 (l)] 47 (0, 0) HN.out
  have hG5 : w.grownBy (((w.alloc (.cells #[.int .i64 cir, .int .i64 cbs, .int .i64 eir, .int .i64 ebs, .bool cp, .bool aw, .int .i64 (g), .int .i64 (m), .int .i64 (l)] 47)).alloc (.cells #[.int .i64 0, .int .i64 0, .int .i64 0, .int .i64 0, .bool false, .bool false, .int .i64 0, .int .i64 0, .int .i64 0] 47)).setRow (w.heap.size + 1) #[.int .i64 cir, .int .i64 cbs, .int .i64 eir, .int .i64 ebs, .bool cp, .bool aw, .int .i64 (g), .int .i64 (m), .int .i64 (l)]) none := grownNew HG.out (grownSetRow _ _ _) (by omega)
  obtain ⟨x5, hx5⟩ : ∃ q : World, q = ((w.alloc (.cells #[.int .i64 cir, .int .i64 cbs, .int .i64 eir, .int .i64 ebs, .bool cp, .bool aw, .int .i64 (g), .int .i64 (m), .int .i64 (l)] 47)).alloc (.cells #[.int .i64 0, .int .i64 0, .int .i64 0, .int .i64 0, .bool false, .bool false, .int .i64 0, .int .i64 0, .int .i64 0] 47)).setRow (w.heap.size + 1) #[.int .i64 cir, .int .i64 cbs, .int .i64 eir, .int .i64 ebs, .bool cp, .bool aw, .int .i64 (g), .int .i64 (m), .int .i64 (l)] := ⟨_, rfl⟩
  rw [← hx5] at h5 hG5 ⊢
  have r0 := cell_of_row x5 (w.heap.size + 1) 0 _ 47 (0, 0) h5
  have r1 := cell_of_row x5 (w.heap.size + 1) 1 _ 47 (0, 0) h5
  have r2 := cell_of_row x5 (w.heap.size + 1) 2 _ 47 (0, 0) h5
  have r3 := cell_of_row x5 (w.heap.size + 1) 3 _ 47 (0, 0) h5
  have r4 := cell_of_row x5 (w.heap.size + 1) 4 _ 47 (0, 0) h5
  have r5 := cell_of_row x5 (w.heap.size + 1) 5 _ 47 (0, 0) h5
  have r6 := cell_of_row x5 (w.heap.size + 1) 6 _ 47 (0, 0) h5
  have r7 := cell_of_row x5 (w.heap.size + 1) 7 _ 47 (0, 0) h5
  have r8 := cell_of_row x5 (w.heap.size + 1) 8 _ 47 (0, 0) h5
  refine bodyPost_ret (v := .tuple #[.agg #[.int .i64 cir, .int .i64 cbs, .int .i64 eir, .int .i64 ebs, .bool cp, .bool aw, .int .i64 (g), .int .i64 (m), .int .i64 (l)], .int .i64 0, .int .i64 310]) (by simp [results, Try.results15, go_sem, r0, r1, r2, r3, r4, r5, r6, r7, r8]) rfl ⟨rfl, hG5⟩

set_option maxHeartbeats 4000000 in
theorem rmark_of (s : MS) (t n c : Int) (w : World) (hs : Good s) (h1 : s.l ≤ t) (h2 : t ≤ 1099511627776) (h3 : okf n c) : Calls Try.prog 15 #[.agg (refA s), .int .i64 t, .int .i64 n, .int .i64 c] w fun e w' => e = .returned (.tuple #[.agg (refA (markS s t n c).1), .int .i64 (markS s t n c).2, .int .i64 0]) ∧ w.grownBy w' none := by
  obtain ⟨k1, k2, k3, k4⟩ := h3
  have hf := fun (W : World) => rfill s t W hs h1 h2
  have hg2 := fill_good s t hs h1 h2
  simp only [markS]
  have haw : (fillS s t).aw = s.aw := rfl
  obtain ⟨s2, hs2⟩ : ∃ s2, s2 = fillS s t := ⟨_, rfl⟩
  rw [← hs2] at hg2 haw ⊢
  simp only [← hs2] at hf
  rw [← haw]
  obtain ⟨R, hR⟩ : ∃ R : MS × Int, R = if (if s2.aw = true then c else 1) = 1 ∧ n ≤ s2.g then ({ s2 with g := s2.g - n }, 1) else if (if s2.aw = true then c else 1) ≤ 2 ∧ n ≤ s2.m then ({ s2 with m := s2.m - n }, 2) else (s2, 3) := ⟨_, rfl⟩
  rw [← hR]
  have HR := Lib.hid hR
  clear hR
  obtain ⟨a0, a1, b0, b1, c0', c1', d0, d1, g0, g1, m0, m1, l0, l1⟩ := hg2
  clear hs2 haw hs
  obtain ⟨cir, cbs, eir, ebs, cp, aw, g, m, l⟩ := s2
  obtain ⟨zcir, zcbs, zeir, zebs, zcp, zaw, zg, zm, zl⟩ := s
  simp only [refA] at hf h1 h2 a0 a1 b0 b1 c0' c1' d0 d1 g0 g1 m0 m1 l0 l1 ⊢
  have hsz : (Try.prog.info? 47).map (·.size) = some 9 := by kernel_rfl
  have h123 : c = 1 ∨ c = 2 ∨ c = 3 := by omega
  clear k3 k4
  rcases h123 with rfl | rfl | rfl
  · skip
    have hone : ((#[.int .i64 cir, .int .i64 cbs, .int .i64 eir, .int .i64 ebs, .bool cp, .bool aw, .int .i64 (g), .int .i64 (m), .int .i64 (l)] : Array Value).all (·.oneCell')) = true := by kernel_rfl
    go_enter Try.func15, Try.ntmps15
    go_upto_region 6 with (first | (go_at_call 22; refine (hf _).mono ?_; rintro e w1 ⟨rfl, hg⟩; have hb1 := Lib.hid (blk_kept (heap2_old' w _ _) hg (by simp)); have hn1 := Lib.hid (blk_kept (heap2_new' w _ _) hg (by simp)); have G1 := Lib.hid (gtrans (gtrans (World.grownBy_alloc w _ none) (World.grownBy_alloc _ _ none) (.inl rfl)) hg (.inl rfl)); clear hg) | (refine wpList_store_rowTo rfl 47 _ _ rfl rfl w.heap.size #[.int .i64 cir, .int .i64 cbs, .int .i64 eir, .int .i64 ebs, .bool cp, .bool aw, .int .i64 (g), .int .i64 (m), .int .i64 (l)] rfl rfl 47 _ hb1.out hsz rfl hone ?_))
    have hb2 := setRow_heap w1 w.heap.size _ #[.int .i64 cir, .int .i64 cbs, .int .i64 eir, .int .i64 ebs, .bool cp, .bool aw, .int .i64 (g), .int .i64 (m), .int .i64 (l)] 47 (0, 0) hb1.out
    have hn2 := (setRow_other w1 w.heap.size (w.heap.size + 1) #[.int .i64 cir, .int .i64 cbs, .int .i64 eir, .int .i64 ebs, .bool cp, .bool aw, .int .i64 (g), .int .i64 (m), .int .i64 (l)] (by simp)).trans hn1.out
    have HG2 : Hid (w.grownBy (w1.setRow w.heap.size #[.int .i64 cir, .int .i64 cbs, .int .i64 eir, .int .i64 ebs, .bool cp, .bool aw, .int .i64 (g), .int .i64 (m), .int .i64 (l)]) none) := Lib.hid (grownNew G1.out (grownSetRow _ _ _) (Nat.le_refl _))
    obtain ⟨w2, hw2⟩ : ∃ q : World, q = w1.setRow w.heap.size #[.int .i64 cir, .int .i64 cbs, .int .i64 eir, .int .i64 ebs, .bool cp, .bool aw, .int .i64 (g), .int .i64 (m), .int .i64 (l)] := ⟨_, rfl⟩
    rw [← hw2] at hb2 hn2 HG2 ⊢
    have HB := Lib.hid hb2
    have HN := Lib.hid hn2
    clear hw2 hb1 hn1 G1 hn2 hf hone
    have e5 := (cell_of_row w2 (w.heap.size) 5 _ 47 (0, 0) hb2).trans (show _ = some (.bool aw) from rfl)
    have e6 := (cell_of_row w2 (w.heap.size) 6 _ 47 (0, 0) hb2).trans (show _ = some (.int .i64 (g)) from rfl)
    have e7 := (cell_of_row w2 (w.heap.size) 7 _ 47 (0, 0) hb2).trans (show _ = some (.int .i64 (m)) from rfl)
    have z6 := blk_frozen hb2 6
    have z7 := blk_frozen hb2 7
    clear hb2
    cases aw
    · skip
      by_cases hn1 : n ≤ g
      · skip
        have e : R = (⟨cir, cbs, eir, ebs, cp, false, g - n, m, l⟩, 1) := by rw [HR.out]; simp [hn1]
        subst e
        clear HR
        have hone : ((#[.int .i64 cir, .int .i64 cbs, .int .i64 eir, .int .i64 ebs, .bool cp, .bool false, .int .i64 (g - n), .int .i64 (m), .int .i64 (l)] : Array Value).all (·.oneCell')) = true := by kernel_rfl
        go_upto_region 10 with fail
        have hb3 := heap_setCell_same w2 w.heap.size 6 _ 47 (.int .i64 (g - n)) HB.out
        have hn3 := blk_far HN.out w.heap.size 6 (.int .i64 (g - n)) (by simp)
        have HG3 : Hid (w.grownBy (w2.setCell ⟨w.heap.size, 6, none⟩ (.int .i64 (g - n))) none) := Lib.hid (grownNew HG2.out (grownSet _ _ _ _) (Nat.le_refl _))
        obtain ⟨w3, hw3⟩ : ∃ q : World, q = w2.setCell ⟨w.heap.size, 6, none⟩ (.int .i64 (g - n)) := ⟨_, rfl⟩
        rw [← hw3] at hb3 hn3 HG3 ⊢
        have HB3 : Hid (w3.heap[w.heap.size]? = some (.cells #[.int .i64 cir, .int .i64 cbs, .int .i64 eir, .int .i64 ebs, .bool cp, .bool false, .int .i64 (g - n), .int .i64 (m), .int .i64 (l)] 47 (0, 0))) := Lib.hid hb3
        have HN3 := Lib.hid hn3
        clear hw3 hb3 hn3 HB HN e5 e6 e7 z6 z7
        go_wp2_with (first | (refine wpList_load_row rfl 47 _ rfl w.heap.size rfl 47 _ (0, 0) _ HB3.out Try.underlying47 rfl (by kernel_rfl) ?_) | (refine wpList_store_rowTo rfl 47 _ _ rfl rfl (w.heap.size + 1) #[.int .i64 cir, .int .i64 cbs, .int .i64 eir, .int .i64 ebs, .bool cp, .bool false, .int .i64 (g - n), .int .i64 (m), .int .i64 (l)] rfl rfl 47 #[.int .i64 0, .int .i64 0, .int .i64 0, .int .i64 0, .bool false, .bool false, .int .i64 0, .int .i64 0, .int .i64 0] HN3.out hsz rfl hone ?_))
        have h5 := setRow_heap w3 (w.heap.size + 1) #[.int .i64 0, .int .i64 0, .int .i64 0, .int .i64 0, .bool false, .bool false, .int .i64 0, .int .i64 0, .int .i64 0] #[.int .i64 cir, .int .i64 cbs, .int .i64 eir, .int .i64 ebs, .bool cp, .bool false, .int .i64 (g - n), .int .i64 (m), .int .i64 (l)] 47 (0, 0) HN3.out
        have hG5 : w.grownBy (w3.setRow (w.heap.size + 1) #[.int .i64 cir, .int .i64 cbs, .int .i64 eir, .int .i64 ebs, .bool cp, .bool false, .int .i64 (g - n), .int .i64 (m), .int .i64 (l)]) none := grownNew HG3.out (grownSetRow _ _ _) (by omega)
        obtain ⟨x5, hx5⟩ : ∃ q : World, q = w3.setRow (w.heap.size + 1) #[.int .i64 cir, .int .i64 cbs, .int .i64 eir, .int .i64 ebs, .bool cp, .bool false, .int .i64 (g - n), .int .i64 (m), .int .i64 (l)] := ⟨_, rfl⟩
        rw [← hx5] at h5 hG5 ⊢
        have r0 := cell_of_row x5 (w.heap.size + 1) 0 _ 47 (0, 0) h5
        have r1 := cell_of_row x5 (w.heap.size + 1) 1 _ 47 (0, 0) h5
        have r2 := cell_of_row x5 (w.heap.size + 1) 2 _ 47 (0, 0) h5
        have r3 := cell_of_row x5 (w.heap.size + 1) 3 _ 47 (0, 0) h5
        have r4 := cell_of_row x5 (w.heap.size + 1) 4 _ 47 (0, 0) h5
        have r5 := cell_of_row x5 (w.heap.size + 1) 5 _ 47 (0, 0) h5
        have r6 := cell_of_row x5 (w.heap.size + 1) 6 _ 47 (0, 0) h5
        have r7 := cell_of_row x5 (w.heap.size + 1) 7 _ 47 (0, 0) h5
        have r8 := cell_of_row x5 (w.heap.size + 1) 8 _ 47 (0, 0) h5
        refine bodyPost_ret (v := .tuple #[.agg #[.int .i64 cir, .int .i64 cbs, .int .i64 eir, .int .i64 ebs, .bool cp, .bool false, .int .i64 (g - n), .int .i64 (m), .int .i64 (l)], .int .i64 1, .int .i64 0]) (by simp [results, Try.results15, go_sem, r0, r1, r2, r3, r4, r5, r6, r7, r8]) rfl ⟨rfl, hG5⟩
      by_cases hn2 : n ≤ m
      · skip
        have e : R = (⟨cir, cbs, eir, ebs, cp, false, g, m - n, l⟩, 2) := by rw [HR.out]; simp [hn1, hn2]
        subst e
        clear HR
        have hone : ((#[.int .i64 cir, .int .i64 cbs, .int .i64 eir, .int .i64 ebs, .bool cp, .bool false, .int .i64 (g), .int .i64 (m - n), .int .i64 (l)] : Array Value).all (·.oneCell')) = true := by kernel_rfl
        go_upto_region 13 with fail
        have hb3 := heap_setCell_same w2 w.heap.size 7 _ 47 (.int .i64 (m - n)) HB.out
        have hn3 := blk_far HN.out w.heap.size 7 (.int .i64 (m - n)) (by simp)
        have HG3 : Hid (w.grownBy (w2.setCell ⟨w.heap.size, 7, none⟩ (.int .i64 (m - n))) none) := Lib.hid (grownNew HG2.out (grownSet _ _ _ _) (Nat.le_refl _))
        obtain ⟨w3, hw3⟩ : ∃ q : World, q = w2.setCell ⟨w.heap.size, 7, none⟩ (.int .i64 (m - n)) := ⟨_, rfl⟩
        rw [← hw3] at hb3 hn3 HG3 ⊢
        have HB3 : Hid (w3.heap[w.heap.size]? = some (.cells #[.int .i64 cir, .int .i64 cbs, .int .i64 eir, .int .i64 ebs, .bool cp, .bool false, .int .i64 (g), .int .i64 (m - n), .int .i64 (l)] 47 (0, 0))) := Lib.hid hb3
        have HN3 := Lib.hid hn3
        clear hw3 hb3 hn3 HB HN e5 e6 e7 z6 z7
        go_wp2_with (first | (refine wpList_load_row rfl 47 _ rfl w.heap.size rfl 47 _ (0, 0) _ HB3.out Try.underlying47 rfl (by kernel_rfl) ?_) | (refine wpList_store_rowTo rfl 47 _ _ rfl rfl (w.heap.size + 1) #[.int .i64 cir, .int .i64 cbs, .int .i64 eir, .int .i64 ebs, .bool cp, .bool false, .int .i64 (g), .int .i64 (m - n), .int .i64 (l)] rfl rfl 47 #[.int .i64 0, .int .i64 0, .int .i64 0, .int .i64 0, .bool false, .bool false, .int .i64 0, .int .i64 0, .int .i64 0] HN3.out hsz rfl hone ?_))
        have h5 := setRow_heap w3 (w.heap.size + 1) #[.int .i64 0, .int .i64 0, .int .i64 0, .int .i64 0, .bool false, .bool false, .int .i64 0, .int .i64 0, .int .i64 0] #[.int .i64 cir, .int .i64 cbs, .int .i64 eir, .int .i64 ebs, .bool cp, .bool false, .int .i64 (g), .int .i64 (m - n), .int .i64 (l)] 47 (0, 0) HN3.out
        have hG5 : w.grownBy (w3.setRow (w.heap.size + 1) #[.int .i64 cir, .int .i64 cbs, .int .i64 eir, .int .i64 ebs, .bool cp, .bool false, .int .i64 (g), .int .i64 (m - n), .int .i64 (l)]) none := grownNew HG3.out (grownSetRow _ _ _) (by omega)
        obtain ⟨x5, hx5⟩ : ∃ q : World, q = w3.setRow (w.heap.size + 1) #[.int .i64 cir, .int .i64 cbs, .int .i64 eir, .int .i64 ebs, .bool cp, .bool false, .int .i64 (g), .int .i64 (m - n), .int .i64 (l)] := ⟨_, rfl⟩
        rw [← hx5] at h5 hG5 ⊢
        have r0 := cell_of_row x5 (w.heap.size + 1) 0 _ 47 (0, 0) h5
        have r1 := cell_of_row x5 (w.heap.size + 1) 1 _ 47 (0, 0) h5
        have r2 := cell_of_row x5 (w.heap.size + 1) 2 _ 47 (0, 0) h5
        have r3 := cell_of_row x5 (w.heap.size + 1) 3 _ 47 (0, 0) h5
        have r4 := cell_of_row x5 (w.heap.size + 1) 4 _ 47 (0, 0) h5
        have r5 := cell_of_row x5 (w.heap.size + 1) 5 _ 47 (0, 0) h5
        have r6 := cell_of_row x5 (w.heap.size + 1) 6 _ 47 (0, 0) h5
        have r7 := cell_of_row x5 (w.heap.size + 1) 7 _ 47 (0, 0) h5
        have r8 := cell_of_row x5 (w.heap.size + 1) 8 _ 47 (0, 0) h5
        refine bodyPost_ret (v := .tuple #[.agg #[.int .i64 cir, .int .i64 cbs, .int .i64 eir, .int .i64 ebs, .bool cp, .bool false, .int .i64 (g), .int .i64 (m - n), .int .i64 (l)], .int .i64 2, .int .i64 0]) (by simp [results, Try.results15, go_sem, r0, r1, r2, r3, r4, r5, r6, r7, r8]) rfl ⟨rfl, hG5⟩
      · skip
        have e : R = (⟨cir, cbs, eir, ebs, cp, false, g, m, l⟩, 3) := by rw [HR.out]; simp [hn1, hn2]
        subst e
        clear HR
        have hone : ((#[.int .i64 cir, .int .i64 cbs, .int .i64 eir, .int .i64 ebs, .bool cp, .bool false, .int .i64 (g), .int .i64 (m), .int .i64 (l)] : Array Value).all (·.oneCell')) = true := by kernel_rfl
        go_wp2_with (first | (refine wpList_load_row rfl 47 _ rfl w.heap.size rfl 47 _ (0, 0) _ HB.out Try.underlying47 rfl (by kernel_rfl) ?_) | (refine wpList_store_rowTo rfl 47 _ _ rfl rfl (w.heap.size + 1) #[.int .i64 cir, .int .i64 cbs, .int .i64 eir, .int .i64 ebs, .bool cp, .bool false, .int .i64 (g), .int .i64 (m), .int .i64 (l)] rfl rfl 47 #[.int .i64 0, .int .i64 0, .int .i64 0, .int .i64 0, .bool false, .bool false, .int .i64 0, .int .i64 0, .int .i64 0] HN.out hsz rfl hone ?_))
        have h5 := setRow_heap w2 (w.heap.size + 1) #[.int .i64 0, .int .i64 0, .int .i64 0, .int .i64 0, .bool false, .bool false, .int .i64 0, .int .i64 0, .int .i64 0] #[.int .i64 cir, .int .i64 cbs, .int .i64 eir, .int .i64 ebs, .bool cp, .bool false, .int .i64 (g), .int .i64 (m), .int .i64 (l)] 47 (0, 0) HN.out
        have hG5 : w.grownBy (w2.setRow (w.heap.size + 1) #[.int .i64 cir, .int .i64 cbs, .int .i64 eir, .int .i64 ebs, .bool cp, .bool false, .int .i64 (g), .int .i64 (m), .int .i64 (l)]) none := grownNew HG2.out (grownSetRow _ _ _) (by omega)
        obtain ⟨x5, hx5⟩ : ∃ q : World, q = w2.setRow (w.heap.size + 1) #[.int .i64 cir, .int .i64 cbs, .int .i64 eir, .int .i64 ebs, .bool cp, .bool false, .int .i64 (g), .int .i64 (m), .int .i64 (l)] := ⟨_, rfl⟩
        rw [← hx5] at h5 hG5 ⊢
        have r0 := cell_of_row x5 (w.heap.size + 1) 0 _ 47 (0, 0) h5
        have r1 := cell_of_row x5 (w.heap.size + 1) 1 _ 47 (0, 0) h5
        have r2 := cell_of_row x5 (w.heap.size + 1) 2 _ 47 (0, 0) h5
        have r3 := cell_of_row x5 (w.heap.size + 1) 3 _ 47 (0, 0) h5
        have r4 := cell_of_row x5 (w.heap.size + 1) 4 _ 47 (0, 0) h5
        have r5 := cell_of_row x5 (w.heap.size + 1) 5 _ 47 (0, 0) h5
        have r6 := cell_of_row x5 (w.heap.size + 1) 6 _ 47 (0, 0) h5
        have r7 := cell_of_row x5 (w.heap.size + 1) 7 _ 47 (0, 0) h5
        have r8 := cell_of_row x5 (w.heap.size + 1) 8 _ 47 (0, 0) h5
        refine bodyPost_ret (v := .tuple #[.agg #[.int .i64 cir, .int .i64 cbs, .int .i64 eir, .int .i64 ebs, .bool cp, .bool false, .int .i64 (g), .int .i64 (m), .int .i64 (l)], .int .i64 3, .int .i64 0]) (by simp [results, Try.results15, go_sem, r0, r1, r2, r3, r4, r5, r6, r7, r8]) rfl ⟨rfl, hG5⟩
    · skip
      by_cases hn1 : n ≤ g
      · skip
        have e : R = (⟨cir, cbs, eir, ebs, cp, true, g - n, m, l⟩, 1) := by rw [HR.out]; simp [hn1]
        subst e
        clear HR
        have hone : ((#[.int .i64 cir, .int .i64 cbs, .int .i64 eir, .int .i64 ebs, .bool cp, .bool true, .int .i64 (g - n), .int .i64 (m), .int .i64 (l)] : Array Value).all (·.oneCell')) = true := by kernel_rfl
        go_upto_region 10 with fail
        have hb3 := heap_setCell_same w2 w.heap.size 6 _ 47 (.int .i64 (g - n)) HB.out
        have hn3 := blk_far HN.out w.heap.size 6 (.int .i64 (g - n)) (by simp)
        have HG3 : Hid (w.grownBy (w2.setCell ⟨w.heap.size, 6, none⟩ (.int .i64 (g - n))) none) := Lib.hid (grownNew HG2.out (grownSet _ _ _ _) (Nat.le_refl _))
        obtain ⟨w3, hw3⟩ : ∃ q : World, q = w2.setCell ⟨w.heap.size, 6, none⟩ (.int .i64 (g - n)) := ⟨_, rfl⟩
        rw [← hw3] at hb3 hn3 HG3 ⊢
        have HB3 : Hid (w3.heap[w.heap.size]? = some (.cells #[.int .i64 cir, .int .i64 cbs, .int .i64 eir, .int .i64 ebs, .bool cp, .bool true, .int .i64 (g - n), .int .i64 (m), .int .i64 (l)] 47 (0, 0))) := Lib.hid hb3
        have HN3 := Lib.hid hn3
        clear hw3 hb3 hn3 HB HN e5 e6 e7 z6 z7
        go_wp2_with (first | (refine wpList_load_row rfl 47 _ rfl w.heap.size rfl 47 _ (0, 0) _ HB3.out Try.underlying47 rfl (by kernel_rfl) ?_) | (refine wpList_store_rowTo rfl 47 _ _ rfl rfl (w.heap.size + 1) #[.int .i64 cir, .int .i64 cbs, .int .i64 eir, .int .i64 ebs, .bool cp, .bool true, .int .i64 (g - n), .int .i64 (m), .int .i64 (l)] rfl rfl 47 #[.int .i64 0, .int .i64 0, .int .i64 0, .int .i64 0, .bool false, .bool false, .int .i64 0, .int .i64 0, .int .i64 0] HN3.out hsz rfl hone ?_))
        have h5 := setRow_heap w3 (w.heap.size + 1) #[.int .i64 0, .int .i64 0, .int .i64 0, .int .i64 0, .bool false, .bool false, .int .i64 0, .int .i64 0, .int .i64 0] #[.int .i64 cir, .int .i64 cbs, .int .i64 eir, .int .i64 ebs, .bool cp, .bool true, .int .i64 (g - n), .int .i64 (m), .int .i64 (l)] 47 (0, 0) HN3.out
        have hG5 : w.grownBy (w3.setRow (w.heap.size + 1) #[.int .i64 cir, .int .i64 cbs, .int .i64 eir, .int .i64 ebs, .bool cp, .bool true, .int .i64 (g - n), .int .i64 (m), .int .i64 (l)]) none := grownNew HG3.out (grownSetRow _ _ _) (by omega)
        obtain ⟨x5, hx5⟩ : ∃ q : World, q = w3.setRow (w.heap.size + 1) #[.int .i64 cir, .int .i64 cbs, .int .i64 eir, .int .i64 ebs, .bool cp, .bool true, .int .i64 (g - n), .int .i64 (m), .int .i64 (l)] := ⟨_, rfl⟩
        rw [← hx5] at h5 hG5 ⊢
        have r0 := cell_of_row x5 (w.heap.size + 1) 0 _ 47 (0, 0) h5
        have r1 := cell_of_row x5 (w.heap.size + 1) 1 _ 47 (0, 0) h5
        have r2 := cell_of_row x5 (w.heap.size + 1) 2 _ 47 (0, 0) h5
        have r3 := cell_of_row x5 (w.heap.size + 1) 3 _ 47 (0, 0) h5
        have r4 := cell_of_row x5 (w.heap.size + 1) 4 _ 47 (0, 0) h5
        have r5 := cell_of_row x5 (w.heap.size + 1) 5 _ 47 (0, 0) h5
        have r6 := cell_of_row x5 (w.heap.size + 1) 6 _ 47 (0, 0) h5
        have r7 := cell_of_row x5 (w.heap.size + 1) 7 _ 47 (0, 0) h5
        have r8 := cell_of_row x5 (w.heap.size + 1) 8 _ 47 (0, 0) h5
        refine bodyPost_ret (v := .tuple #[.agg #[.int .i64 cir, .int .i64 cbs, .int .i64 eir, .int .i64 ebs, .bool cp, .bool true, .int .i64 (g - n), .int .i64 (m), .int .i64 (l)], .int .i64 1, .int .i64 0]) (by simp [results, Try.results15, go_sem, r0, r1, r2, r3, r4, r5, r6, r7, r8]) rfl ⟨rfl, hG5⟩
      by_cases hn2 : n ≤ m
      · skip
        have e : R = (⟨cir, cbs, eir, ebs, cp, true, g, m - n, l⟩, 2) := by rw [HR.out]; simp [hn1, hn2]
        subst e
        clear HR
        have hone : ((#[.int .i64 cir, .int .i64 cbs, .int .i64 eir, .int .i64 ebs, .bool cp, .bool true, .int .i64 (g), .int .i64 (m - n), .int .i64 (l)] : Array Value).all (·.oneCell')) = true := by kernel_rfl
        go_upto_region 13 with fail
        have hb3 := heap_setCell_same w2 w.heap.size 7 _ 47 (.int .i64 (m - n)) HB.out
        have hn3 := blk_far HN.out w.heap.size 7 (.int .i64 (m - n)) (by simp)
        have HG3 : Hid (w.grownBy (w2.setCell ⟨w.heap.size, 7, none⟩ (.int .i64 (m - n))) none) := Lib.hid (grownNew HG2.out (grownSet _ _ _ _) (Nat.le_refl _))
        obtain ⟨w3, hw3⟩ : ∃ q : World, q = w2.setCell ⟨w.heap.size, 7, none⟩ (.int .i64 (m - n)) := ⟨_, rfl⟩
        rw [← hw3] at hb3 hn3 HG3 ⊢
        have HB3 : Hid (w3.heap[w.heap.size]? = some (.cells #[.int .i64 cir, .int .i64 cbs, .int .i64 eir, .int .i64 ebs, .bool cp, .bool true, .int .i64 (g), .int .i64 (m - n), .int .i64 (l)] 47 (0, 0))) := Lib.hid hb3
        have HN3 := Lib.hid hn3
        clear hw3 hb3 hn3 HB HN e5 e6 e7 z6 z7
        go_wp2_with (first | (refine wpList_load_row rfl 47 _ rfl w.heap.size rfl 47 _ (0, 0) _ HB3.out Try.underlying47 rfl (by kernel_rfl) ?_) | (refine wpList_store_rowTo rfl 47 _ _ rfl rfl (w.heap.size + 1) #[.int .i64 cir, .int .i64 cbs, .int .i64 eir, .int .i64 ebs, .bool cp, .bool true, .int .i64 (g), .int .i64 (m - n), .int .i64 (l)] rfl rfl 47 #[.int .i64 0, .int .i64 0, .int .i64 0, .int .i64 0, .bool false, .bool false, .int .i64 0, .int .i64 0, .int .i64 0] HN3.out hsz rfl hone ?_))
        have h5 := setRow_heap w3 (w.heap.size + 1) #[.int .i64 0, .int .i64 0, .int .i64 0, .int .i64 0, .bool false, .bool false, .int .i64 0, .int .i64 0, .int .i64 0] #[.int .i64 cir, .int .i64 cbs, .int .i64 eir, .int .i64 ebs, .bool cp, .bool true, .int .i64 (g), .int .i64 (m - n), .int .i64 (l)] 47 (0, 0) HN3.out
        have hG5 : w.grownBy (w3.setRow (w.heap.size + 1) #[.int .i64 cir, .int .i64 cbs, .int .i64 eir, .int .i64 ebs, .bool cp, .bool true, .int .i64 (g), .int .i64 (m - n), .int .i64 (l)]) none := grownNew HG3.out (grownSetRow _ _ _) (by omega)
        obtain ⟨x5, hx5⟩ : ∃ q : World, q = w3.setRow (w.heap.size + 1) #[.int .i64 cir, .int .i64 cbs, .int .i64 eir, .int .i64 ebs, .bool cp, .bool true, .int .i64 (g), .int .i64 (m - n), .int .i64 (l)] := ⟨_, rfl⟩
        rw [← hx5] at h5 hG5 ⊢
        have r0 := cell_of_row x5 (w.heap.size + 1) 0 _ 47 (0, 0) h5
        have r1 := cell_of_row x5 (w.heap.size + 1) 1 _ 47 (0, 0) h5
        have r2 := cell_of_row x5 (w.heap.size + 1) 2 _ 47 (0, 0) h5
        have r3 := cell_of_row x5 (w.heap.size + 1) 3 _ 47 (0, 0) h5
        have r4 := cell_of_row x5 (w.heap.size + 1) 4 _ 47 (0, 0) h5
        have r5 := cell_of_row x5 (w.heap.size + 1) 5 _ 47 (0, 0) h5
        have r6 := cell_of_row x5 (w.heap.size + 1) 6 _ 47 (0, 0) h5
        have r7 := cell_of_row x5 (w.heap.size + 1) 7 _ 47 (0, 0) h5
        have r8 := cell_of_row x5 (w.heap.size + 1) 8 _ 47 (0, 0) h5
        refine bodyPost_ret (v := .tuple #[.agg #[.int .i64 cir, .int .i64 cbs, .int .i64 eir, .int .i64 ebs, .bool cp, .bool true, .int .i64 (g), .int .i64 (m - n), .int .i64 (l)], .int .i64 2, .int .i64 0]) (by simp [results, Try.results15, go_sem, r0, r1, r2, r3, r4, r5, r6, r7, r8]) rfl ⟨rfl, hG5⟩
      · skip
        have e : R = (⟨cir, cbs, eir, ebs, cp, true, g, m, l⟩, 3) := by rw [HR.out]; simp [hn1, hn2]
        subst e
        clear HR
        have hone : ((#[.int .i64 cir, .int .i64 cbs, .int .i64 eir, .int .i64 ebs, .bool cp, .bool true, .int .i64 (g), .int .i64 (m), .int .i64 (l)] : Array Value).all (·.oneCell')) = true := by kernel_rfl
        go_wp2_with (first | (refine wpList_load_row rfl 47 _ rfl w.heap.size rfl 47 _ (0, 0) _ HB.out Try.underlying47 rfl (by kernel_rfl) ?_) | (refine wpList_store_rowTo rfl 47 _ _ rfl rfl (w.heap.size + 1) #[.int .i64 cir, .int .i64 cbs, .int .i64 eir, .int .i64 ebs, .bool cp, .bool true, .int .i64 (g), .int .i64 (m), .int .i64 (l)] rfl rfl 47 #[.int .i64 0, .int .i64 0, .int .i64 0, .int .i64 0, .bool false, .bool false, .int .i64 0, .int .i64 0, .int .i64 0] HN.out hsz rfl hone ?_))
        have h5 := setRow_heap w2 (w.heap.size + 1) #[.int .i64 0, .int .i64 0, .int .i64 0, .int .i64 0, .bool false, .bool false, .int .i64 0, .int .i64 0, .int .i64 0] #[.int .i64 cir, .int .i64 cbs, .int .i64 eir, .int .i64 ebs, .bool cp, .bool true, .int .i64 (g), .int .i64 (m), .int .i64 (l)] 47 (0, 0) HN.out
        have hG5 : w.grownBy (w2.setRow (w.heap.size + 1) #[.int .i64 cir, .int .i64 cbs, .int .i64 eir, .int .i64 ebs, .bool cp, .bool true, .int .i64 (g), .int .i64 (m), .int .i64 (l)]) none := grownNew HG2.out (grownSetRow _ _ _) (by omega)
        obtain ⟨x5, hx5⟩ : ∃ q : World, q = w2.setRow (w.heap.size + 1) #[.int .i64 cir, .int .i64 cbs, .int .i64 eir, .int .i64 ebs, .bool cp, .bool true, .int .i64 (g), .int .i64 (m), .int .i64 (l)] := ⟨_, rfl⟩
        rw [← hx5] at h5 hG5 ⊢
        have r0 := cell_of_row x5 (w.heap.size + 1) 0 _ 47 (0, 0) h5
        have r1 := cell_of_row x5 (w.heap.size + 1) 1 _ 47 (0, 0) h5
        have r2 := cell_of_row x5 (w.heap.size + 1) 2 _ 47 (0, 0) h5
        have r3 := cell_of_row x5 (w.heap.size + 1) 3 _ 47 (0, 0) h5
        have r4 := cell_of_row x5 (w.heap.size + 1) 4 _ 47 (0, 0) h5
        have r5 := cell_of_row x5 (w.heap.size + 1) 5 _ 47 (0, 0) h5
        have r6 := cell_of_row x5 (w.heap.size + 1) 6 _ 47 (0, 0) h5
        have r7 := cell_of_row x5 (w.heap.size + 1) 7 _ 47 (0, 0) h5
        have r8 := cell_of_row x5 (w.heap.size + 1) 8 _ 47 (0, 0) h5
        refine bodyPost_ret (v := .tuple #[.agg #[.int .i64 cir, .int .i64 cbs, .int .i64 eir, .int .i64 ebs, .bool cp, .bool true, .int .i64 (g), .int .i64 (m), .int .i64 (l)], .int .i64 3, .int .i64 0]) (by simp [results, Try.results15, go_sem, r0, r1, r2, r3, r4, r5, r6, r7, r8]) rfl ⟨rfl, hG5⟩
  · skip
    have hone : ((#[.int .i64 cir, .int .i64 cbs, .int .i64 eir, .int .i64 ebs, .bool cp, .bool aw, .int .i64 (g), .int .i64 (m), .int .i64 (l)] : Array Value).all (·.oneCell')) = true := by kernel_rfl
    go_enter Try.func15, Try.ntmps15
    go_upto_region 6 with (first | (go_at_call 22; refine (hf _).mono ?_; rintro e w1 ⟨rfl, hg⟩; have hb1 := Lib.hid (blk_kept (heap2_old' w _ _) hg (by simp)); have hn1 := Lib.hid (blk_kept (heap2_new' w _ _) hg (by simp)); have G1 := Lib.hid (gtrans (gtrans (World.grownBy_alloc w _ none) (World.grownBy_alloc _ _ none) (.inl rfl)) hg (.inl rfl)); clear hg) | (refine wpList_store_rowTo rfl 47 _ _ rfl rfl w.heap.size #[.int .i64 cir, .int .i64 cbs, .int .i64 eir, .int .i64 ebs, .bool cp, .bool aw, .int .i64 (g), .int .i64 (m), .int .i64 (l)] rfl rfl 47 _ hb1.out hsz rfl hone ?_))
    have hb2 := setRow_heap w1 w.heap.size _ #[.int .i64 cir, .int .i64 cbs, .int .i64 eir, .int .i64 ebs, .bool cp, .bool aw, .int .i64 (g), .int .i64 (m), .int .i64 (l)] 47 (0, 0) hb1.out
    have hn2 := (setRow_other w1 w.heap.size (w.heap.size + 1) #[.int .i64 cir, .int .i64 cbs, .int .i64 eir, .int .i64 ebs, .bool cp, .bool aw, .int .i64 (g), .int .i64 (m), .int .i64 (l)] (by simp)).trans hn1.out
    have HG2 : Hid (w.grownBy (w1.setRow w.heap.size #[.int .i64 cir, .int .i64 cbs, .int .i64 eir, .int .i64 ebs, .bool cp, .bool aw, .int .i64 (g), .int .i64 (m), .int .i64 (l)]) none) := Lib.hid (grownNew G1.out (grownSetRow _ _ _) (Nat.le_refl _))
    obtain ⟨w2, hw2⟩ : ∃ q : World, q = w1.setRow w.heap.size #[.int .i64 cir, .int .i64 cbs, .int .i64 eir, .int .i64 ebs, .bool cp, .bool aw, .int .i64 (g), .int .i64 (m), .int .i64 (l)] := ⟨_, rfl⟩
    rw [← hw2] at hb2 hn2 HG2 ⊢
    have HB := Lib.hid hb2
    have HN := Lib.hid hn2
    clear hw2 hb1 hn1 G1 hn2 hf hone
    have e5 := (cell_of_row w2 (w.heap.size) 5 _ 47 (0, 0) hb2).trans (show _ = some (.bool aw) from rfl)
    have e6 := (cell_of_row w2 (w.heap.size) 6 _ 47 (0, 0) hb2).trans (show _ = some (.int .i64 (g)) from rfl)
    have e7 := (cell_of_row w2 (w.heap.size) 7 _ 47 (0, 0) hb2).trans (show _ = some (.int .i64 (m)) from rfl)
    have z6 := blk_frozen hb2 6
    have z7 := blk_frozen hb2 7
    clear hb2
    cases aw
    · skip
      by_cases hn1 : n ≤ g
      · skip
        have e : R = (⟨cir, cbs, eir, ebs, cp, false, g - n, m, l⟩, 1) := by rw [HR.out]; simp [hn1]
        subst e
        clear HR
        have hone : ((#[.int .i64 cir, .int .i64 cbs, .int .i64 eir, .int .i64 ebs, .bool cp, .bool false, .int .i64 (g - n), .int .i64 (m), .int .i64 (l)] : Array Value).all (·.oneCell')) = true := by kernel_rfl
        go_upto_region 10 with fail
        have hb3 := heap_setCell_same w2 w.heap.size 6 _ 47 (.int .i64 (g - n)) HB.out
        have hn3 := blk_far HN.out w.heap.size 6 (.int .i64 (g - n)) (by simp)
        have HG3 : Hid (w.grownBy (w2.setCell ⟨w.heap.size, 6, none⟩ (.int .i64 (g - n))) none) := Lib.hid (grownNew HG2.out (grownSet _ _ _ _) (Nat.le_refl _))
        obtain ⟨w3, hw3⟩ : ∃ q : World, q = w2.setCell ⟨w.heap.size, 6, none⟩ (.int .i64 (g - n)) := ⟨_, rfl⟩
        rw [← hw3] at hb3 hn3 HG3 ⊢
        have HB3 : Hid (w3.heap[w.heap.size]? = some (.cells #[.int .i64 cir, .int .i64 cbs, .int .i64 eir, .int .i64 ebs, .bool cp, .bool false, .int .i64 (g - n), .int .i64 (m), .int .i64 (l)] 47 (0, 0))) := Lib.hid hb3
        have HN3 := Lib.hid hn3
        clear hw3 hb3 hn3 HB HN e5 e6 e7 z6 z7
        go_wp2_with (first | (refine wpList_load_row rfl 47 _ rfl w.heap.size rfl 47 _ (0, 0) _ HB3.out Try.underlying47 rfl (by kernel_rfl) ?_) | (refine wpList_store_rowTo rfl 47 _ _ rfl rfl (w.heap.size + 1) #[.int .i64 cir, .int .i64 cbs, .int .i64 eir, .int .i64 ebs, .bool cp, .bool false, .int .i64 (g - n), .int .i64 (m), .int .i64 (l)] rfl rfl 47 #[.int .i64 0, .int .i64 0, .int .i64 0, .int .i64 0, .bool false, .bool false, .int .i64 0, .int .i64 0, .int .i64 0] HN3.out hsz rfl hone ?_))
        have h5 := setRow_heap w3 (w.heap.size + 1) #[.int .i64 0, .int .i64 0, .int .i64 0, .int .i64 0, .bool false, .bool false, .int .i64 0, .int .i64 0, .int .i64 0] #[.int .i64 cir, .int .i64 cbs, .int .i64 eir, .int .i64 ebs, .bool cp, .bool false, .int .i64 (g - n), .int .i64 (m), .int .i64 (l)] 47 (0, 0) HN3.out
        have hG5 : w.grownBy (w3.setRow (w.heap.size + 1) #[.int .i64 cir, .int .i64 cbs, .int .i64 eir, .int .i64 ebs, .bool cp, .bool false, .int .i64 (g - n), .int .i64 (m), .int .i64 (l)]) none := grownNew HG3.out (grownSetRow _ _ _) (by omega)
        obtain ⟨x5, hx5⟩ : ∃ q : World, q = w3.setRow (w.heap.size + 1) #[.int .i64 cir, .int .i64 cbs, .int .i64 eir, .int .i64 ebs, .bool cp, .bool false, .int .i64 (g - n), .int .i64 (m), .int .i64 (l)] := ⟨_, rfl⟩
        rw [← hx5] at h5 hG5 ⊢
        have r0 := cell_of_row x5 (w.heap.size + 1) 0 _ 47 (0, 0) h5
        have r1 := cell_of_row x5 (w.heap.size + 1) 1 _ 47 (0, 0) h5
        have r2 := cell_of_row x5 (w.heap.size + 1) 2 _ 47 (0, 0) h5
        have r3 := cell_of_row x5 (w.heap.size + 1) 3 _ 47 (0, 0) h5
        have r4 := cell_of_row x5 (w.heap.size + 1) 4 _ 47 (0, 0) h5
        have r5 := cell_of_row x5 (w.heap.size + 1) 5 _ 47 (0, 0) h5
        have r6 := cell_of_row x5 (w.heap.size + 1) 6 _ 47 (0, 0) h5
        have r7 := cell_of_row x5 (w.heap.size + 1) 7 _ 47 (0, 0) h5
        have r8 := cell_of_row x5 (w.heap.size + 1) 8 _ 47 (0, 0) h5
        refine bodyPost_ret (v := .tuple #[.agg #[.int .i64 cir, .int .i64 cbs, .int .i64 eir, .int .i64 ebs, .bool cp, .bool false, .int .i64 (g - n), .int .i64 (m), .int .i64 (l)], .int .i64 1, .int .i64 0]) (by simp [results, Try.results15, go_sem, r0, r1, r2, r3, r4, r5, r6, r7, r8]) rfl ⟨rfl, hG5⟩
      by_cases hn2 : n ≤ m
      · skip
        have e : R = (⟨cir, cbs, eir, ebs, cp, false, g, m - n, l⟩, 2) := by rw [HR.out]; simp [hn1, hn2]
        subst e
        clear HR
        have hone : ((#[.int .i64 cir, .int .i64 cbs, .int .i64 eir, .int .i64 ebs, .bool cp, .bool false, .int .i64 (g), .int .i64 (m - n), .int .i64 (l)] : Array Value).all (·.oneCell')) = true := by kernel_rfl
        go_upto_region 13 with fail
        have hb3 := heap_setCell_same w2 w.heap.size 7 _ 47 (.int .i64 (m - n)) HB.out
        have hn3 := blk_far HN.out w.heap.size 7 (.int .i64 (m - n)) (by simp)
        have HG3 : Hid (w.grownBy (w2.setCell ⟨w.heap.size, 7, none⟩ (.int .i64 (m - n))) none) := Lib.hid (grownNew HG2.out (grownSet _ _ _ _) (Nat.le_refl _))
        obtain ⟨w3, hw3⟩ : ∃ q : World, q = w2.setCell ⟨w.heap.size, 7, none⟩ (.int .i64 (m - n)) := ⟨_, rfl⟩
        rw [← hw3] at hb3 hn3 HG3 ⊢
        have HB3 : Hid (w3.heap[w.heap.size]? = some (.cells #[.int .i64 cir, .int .i64 cbs, .int .i64 eir, .int .i64 ebs, .bool cp, .bool false, .int .i64 (g), .int .i64 (m - n), .int .i64 (l)] 47 (0, 0))) := Lib.hid hb3
        have HN3 := Lib.hid hn3
        clear hw3 hb3 hn3 HB HN e5 e6 e7 z6 z7
        go_wp2_with (first | (refine wpList_load_row rfl 47 _ rfl w.heap.size rfl 47 _ (0, 0) _ HB3.out Try.underlying47 rfl (by kernel_rfl) ?_) | (refine wpList_store_rowTo rfl 47 _ _ rfl rfl (w.heap.size + 1) #[.int .i64 cir, .int .i64 cbs, .int .i64 eir, .int .i64 ebs, .bool cp, .bool false, .int .i64 (g), .int .i64 (m - n), .int .i64 (l)] rfl rfl 47 #[.int .i64 0, .int .i64 0, .int .i64 0, .int .i64 0, .bool false, .bool false, .int .i64 0, .int .i64 0, .int .i64 0] HN3.out hsz rfl hone ?_))
        have h5 := setRow_heap w3 (w.heap.size + 1) #[.int .i64 0, .int .i64 0, .int .i64 0, .int .i64 0, .bool false, .bool false, .int .i64 0, .int .i64 0, .int .i64 0] #[.int .i64 cir, .int .i64 cbs, .int .i64 eir, .int .i64 ebs, .bool cp, .bool false, .int .i64 (g), .int .i64 (m - n), .int .i64 (l)] 47 (0, 0) HN3.out
        have hG5 : w.grownBy (w3.setRow (w.heap.size + 1) #[.int .i64 cir, .int .i64 cbs, .int .i64 eir, .int .i64 ebs, .bool cp, .bool false, .int .i64 (g), .int .i64 (m - n), .int .i64 (l)]) none := grownNew HG3.out (grownSetRow _ _ _) (by omega)
        obtain ⟨x5, hx5⟩ : ∃ q : World, q = w3.setRow (w.heap.size + 1) #[.int .i64 cir, .int .i64 cbs, .int .i64 eir, .int .i64 ebs, .bool cp, .bool false, .int .i64 (g), .int .i64 (m - n), .int .i64 (l)] := ⟨_, rfl⟩
        rw [← hx5] at h5 hG5 ⊢
        have r0 := cell_of_row x5 (w.heap.size + 1) 0 _ 47 (0, 0) h5
        have r1 := cell_of_row x5 (w.heap.size + 1) 1 _ 47 (0, 0) h5
        have r2 := cell_of_row x5 (w.heap.size + 1) 2 _ 47 (0, 0) h5
        have r3 := cell_of_row x5 (w.heap.size + 1) 3 _ 47 (0, 0) h5
        have r4 := cell_of_row x5 (w.heap.size + 1) 4 _ 47 (0, 0) h5
        have r5 := cell_of_row x5 (w.heap.size + 1) 5 _ 47 (0, 0) h5
        have r6 := cell_of_row x5 (w.heap.size + 1) 6 _ 47 (0, 0) h5
        have r7 := cell_of_row x5 (w.heap.size + 1) 7 _ 47 (0, 0) h5
        have r8 := cell_of_row x5 (w.heap.size + 1) 8 _ 47 (0, 0) h5
        refine bodyPost_ret (v := .tuple #[.agg #[.int .i64 cir, .int .i64 cbs, .int .i64 eir, .int .i64 ebs, .bool cp, .bool false, .int .i64 (g), .int .i64 (m - n), .int .i64 (l)], .int .i64 2, .int .i64 0]) (by simp [results, Try.results15, go_sem, r0, r1, r2, r3, r4, r5, r6, r7, r8]) rfl ⟨rfl, hG5⟩
      · skip
        have e : R = (⟨cir, cbs, eir, ebs, cp, false, g, m, l⟩, 3) := by rw [HR.out]; simp [hn1, hn2]
        subst e
        clear HR
        have hone : ((#[.int .i64 cir, .int .i64 cbs, .int .i64 eir, .int .i64 ebs, .bool cp, .bool false, .int .i64 (g), .int .i64 (m), .int .i64 (l)] : Array Value).all (·.oneCell')) = true := by kernel_rfl
        go_wp2_with (first | (refine wpList_load_row rfl 47 _ rfl w.heap.size rfl 47 _ (0, 0) _ HB.out Try.underlying47 rfl (by kernel_rfl) ?_) | (refine wpList_store_rowTo rfl 47 _ _ rfl rfl (w.heap.size + 1) #[.int .i64 cir, .int .i64 cbs, .int .i64 eir, .int .i64 ebs, .bool cp, .bool false, .int .i64 (g), .int .i64 (m), .int .i64 (l)] rfl rfl 47 #[.int .i64 0, .int .i64 0, .int .i64 0, .int .i64 0, .bool false, .bool false, .int .i64 0, .int .i64 0, .int .i64 0] HN.out hsz rfl hone ?_))
        have h5 := setRow_heap w2 (w.heap.size + 1) #[.int .i64 0, .int .i64 0, .int .i64 0, .int .i64 0, .bool false, .bool false, .int .i64 0, .int .i64 0, .int .i64 0] #[.int .i64 cir, .int .i64 cbs, .int .i64 eir, .int .i64 ebs, .bool cp, .bool false, .int .i64 (g), .int .i64 (m), .int .i64 (l)] 47 (0, 0) HN.out
        have hG5 : w.grownBy (w2.setRow (w.heap.size + 1) #[.int .i64 cir, .int .i64 cbs, .int .i64 eir, .int .i64 ebs, .bool cp, .bool false, .int .i64 (g), .int .i64 (m), .int .i64 (l)]) none := grownNew HG2.out (grownSetRow _ _ _) (by omega)
        obtain ⟨x5, hx5⟩ : ∃ q : World, q = w2.setRow (w.heap.size + 1) #[.int .i64 cir, .int .i64 cbs, .int .i64 eir, .int .i64 ebs, .bool cp, .bool false, .int .i64 (g), .int .i64 (m), .int .i64 (l)] := ⟨_, rfl⟩
        rw [← hx5] at h5 hG5 ⊢
        have r0 := cell_of_row x5 (w.heap.size + 1) 0 _ 47 (0, 0) h5
        have r1 := cell_of_row x5 (w.heap.size + 1) 1 _ 47 (0, 0) h5
        have r2 := cell_of_row x5 (w.heap.size + 1) 2 _ 47 (0, 0) h5
        have r3 := cell_of_row x5 (w.heap.size + 1) 3 _ 47 (0, 0) h5
        have r4 := cell_of_row x5 (w.heap.size + 1) 4 _ 47 (0, 0) h5
        have r5 := cell_of_row x5 (w.heap.size + 1) 5 _ 47 (0, 0) h5
        have r6 := cell_of_row x5 (w.heap.size + 1) 6 _ 47 (0, 0) h5
        have r7 := cell_of_row x5 (w.heap.size + 1) 7 _ 47 (0, 0) h5
        have r8 := cell_of_row x5 (w.heap.size + 1) 8 _ 47 (0, 0) h5
        refine bodyPost_ret (v := .tuple #[.agg #[.int .i64 cir, .int .i64 cbs, .int .i64 eir, .int .i64 ebs, .bool cp, .bool false, .int .i64 (g), .int .i64 (m), .int .i64 (l)], .int .i64 3, .int .i64 0]) (by simp [results, Try.results15, go_sem, r0, r1, r2, r3, r4, r5, r6, r7, r8]) rfl ⟨rfl, hG5⟩
    · by_cases hn2 : n ≤ m
      · skip
        have e : R = (⟨cir, cbs, eir, ebs, cp, true, g, m - n, l⟩, 2) := by rw [HR.out]; simp [hn2]
        subst e
        clear HR
        have hone : ((#[.int .i64 cir, .int .i64 cbs, .int .i64 eir, .int .i64 ebs, .bool cp, .bool true, .int .i64 (g), .int .i64 (m - n), .int .i64 (l)] : Array Value).all (·.oneCell')) = true := by kernel_rfl
        go_upto_region 13 with fail
        have hb3 := heap_setCell_same w2 w.heap.size 7 _ 47 (.int .i64 (m - n)) HB.out
        have hn3 := blk_far HN.out w.heap.size 7 (.int .i64 (m - n)) (by simp)
        have HG3 : Hid (w.grownBy (w2.setCell ⟨w.heap.size, 7, none⟩ (.int .i64 (m - n))) none) := Lib.hid (grownNew HG2.out (grownSet _ _ _ _) (Nat.le_refl _))
        obtain ⟨w3, hw3⟩ : ∃ q : World, q = w2.setCell ⟨w.heap.size, 7, none⟩ (.int .i64 (m - n)) := ⟨_, rfl⟩
        rw [← hw3] at hb3 hn3 HG3 ⊢
        have HB3 : Hid (w3.heap[w.heap.size]? = some (.cells #[.int .i64 cir, .int .i64 cbs, .int .i64 eir, .int .i64 ebs, .bool cp, .bool true, .int .i64 (g), .int .i64 (m - n), .int .i64 (l)] 47 (0, 0))) := Lib.hid hb3
        have HN3 := Lib.hid hn3
        clear hw3 hb3 hn3 HB HN e5 e6 e7 z6 z7
        go_wp2_with (first | (refine wpList_load_row rfl 47 _ rfl w.heap.size rfl 47 _ (0, 0) _ HB3.out Try.underlying47 rfl (by kernel_rfl) ?_) | (refine wpList_store_rowTo rfl 47 _ _ rfl rfl (w.heap.size + 1) #[.int .i64 cir, .int .i64 cbs, .int .i64 eir, .int .i64 ebs, .bool cp, .bool true, .int .i64 (g), .int .i64 (m - n), .int .i64 (l)] rfl rfl 47 #[.int .i64 0, .int .i64 0, .int .i64 0, .int .i64 0, .bool false, .bool false, .int .i64 0, .int .i64 0, .int .i64 0] HN3.out hsz rfl hone ?_))
        have h5 := setRow_heap w3 (w.heap.size + 1) #[.int .i64 0, .int .i64 0, .int .i64 0, .int .i64 0, .bool false, .bool false, .int .i64 0, .int .i64 0, .int .i64 0] #[.int .i64 cir, .int .i64 cbs, .int .i64 eir, .int .i64 ebs, .bool cp, .bool true, .int .i64 (g), .int .i64 (m - n), .int .i64 (l)] 47 (0, 0) HN3.out
        have hG5 : w.grownBy (w3.setRow (w.heap.size + 1) #[.int .i64 cir, .int .i64 cbs, .int .i64 eir, .int .i64 ebs, .bool cp, .bool true, .int .i64 (g), .int .i64 (m - n), .int .i64 (l)]) none := grownNew HG3.out (grownSetRow _ _ _) (by omega)
        obtain ⟨x5, hx5⟩ : ∃ q : World, q = w3.setRow (w.heap.size + 1) #[.int .i64 cir, .int .i64 cbs, .int .i64 eir, .int .i64 ebs, .bool cp, .bool true, .int .i64 (g), .int .i64 (m - n), .int .i64 (l)] := ⟨_, rfl⟩
        rw [← hx5] at h5 hG5 ⊢
        have r0 := cell_of_row x5 (w.heap.size + 1) 0 _ 47 (0, 0) h5
        have r1 := cell_of_row x5 (w.heap.size + 1) 1 _ 47 (0, 0) h5
        have r2 := cell_of_row x5 (w.heap.size + 1) 2 _ 47 (0, 0) h5
        have r3 := cell_of_row x5 (w.heap.size + 1) 3 _ 47 (0, 0) h5
        have r4 := cell_of_row x5 (w.heap.size + 1) 4 _ 47 (0, 0) h5
        have r5 := cell_of_row x5 (w.heap.size + 1) 5 _ 47 (0, 0) h5
        have r6 := cell_of_row x5 (w.heap.size + 1) 6 _ 47 (0, 0) h5
        have r7 := cell_of_row x5 (w.heap.size + 1) 7 _ 47 (0, 0) h5
        have r8 := cell_of_row x5 (w.heap.size + 1) 8 _ 47 (0, 0) h5
        refine bodyPost_ret (v := .tuple #[.agg #[.int .i64 cir, .int .i64 cbs, .int .i64 eir, .int .i64 ebs, .bool cp, .bool true, .int .i64 (g), .int .i64 (m - n), .int .i64 (l)], .int .i64 2, .int .i64 0]) (by simp [results, Try.results15, go_sem, r0, r1, r2, r3, r4, r5, r6, r7, r8]) rfl ⟨rfl, hG5⟩
      · skip
        have e : R = (⟨cir, cbs, eir, ebs, cp, true, g, m, l⟩, 3) := by rw [HR.out]; simp [hn2]
        subst e
        clear HR
        have hone : ((#[.int .i64 cir, .int .i64 cbs, .int .i64 eir, .int .i64 ebs, .bool cp, .bool true, .int .i64 (g), .int .i64 (m), .int .i64 (l)] : Array Value).all (·.oneCell')) = true := by kernel_rfl
        go_wp2_with (first | (refine wpList_load_row rfl 47 _ rfl w.heap.size rfl 47 _ (0, 0) _ HB.out Try.underlying47 rfl (by kernel_rfl) ?_) | (refine wpList_store_rowTo rfl 47 _ _ rfl rfl (w.heap.size + 1) #[.int .i64 cir, .int .i64 cbs, .int .i64 eir, .int .i64 ebs, .bool cp, .bool true, .int .i64 (g), .int .i64 (m), .int .i64 (l)] rfl rfl 47 #[.int .i64 0, .int .i64 0, .int .i64 0, .int .i64 0, .bool false, .bool false, .int .i64 0, .int .i64 0, .int .i64 0] HN.out hsz rfl hone ?_))
        have h5 := setRow_heap w2 (w.heap.size + 1) #[.int .i64 0, .int .i64 0, .int .i64 0, .int .i64 0, .bool false, .bool false, .int .i64 0, .int .i64 0, .int .i64 0] #[.int .i64 cir, .int .i64 cbs, .int .i64 eir, .int .i64 ebs, .bool cp, .bool true, .int .i64 (g), .int .i64 (m), .int .i64 (l)] 47 (0, 0) HN.out
        have hG5 : w.grownBy (w2.setRow (w.heap.size + 1) #[.int .i64 cir, .int .i64 cbs, .int .i64 eir, .int .i64 ebs, .bool cp, .bool true, .int .i64 (g), .int .i64 (m), .int .i64 (l)]) none := grownNew HG2.out (grownSetRow _ _ _) (by omega)
        obtain ⟨x5, hx5⟩ : ∃ q : World, q = w2.setRow (w.heap.size + 1) #[.int .i64 cir, .int .i64 cbs, .int .i64 eir, .int .i64 ebs, .bool cp, .bool true, .int .i64 (g), .int .i64 (m), .int .i64 (l)] := ⟨_, rfl⟩
        rw [← hx5] at h5 hG5 ⊢
        have r0 := cell_of_row x5 (w.heap.size + 1) 0 _ 47 (0, 0) h5
        have r1 := cell_of_row x5 (w.heap.size + 1) 1 _ 47 (0, 0) h5
        have r2 := cell_of_row x5 (w.heap.size + 1) 2 _ 47 (0, 0) h5
        have r3 := cell_of_row x5 (w.heap.size + 1) 3 _ 47 (0, 0) h5
        have r4 := cell_of_row x5 (w.heap.size + 1) 4 _ 47 (0, 0) h5
        have r5 := cell_of_row x5 (w.heap.size + 1) 5 _ 47 (0, 0) h5
        have r6 := cell_of_row x5 (w.heap.size + 1) 6 _ 47 (0, 0) h5
        have r7 := cell_of_row x5 (w.heap.size + 1) 7 _ 47 (0, 0) h5
        have r8 := cell_of_row x5 (w.heap.size + 1) 8 _ 47 (0, 0) h5
        refine bodyPost_ret (v := .tuple #[.agg #[.int .i64 cir, .int .i64 cbs, .int .i64 eir, .int .i64 ebs, .bool cp, .bool true, .int .i64 (g), .int .i64 (m), .int .i64 (l)], .int .i64 3, .int .i64 0]) (by simp [results, Try.results15, go_sem, r0, r1, r2, r3, r4, r5, r6, r7, r8]) rfl ⟨rfl, hG5⟩
  · skip
    have hone : ((#[.int .i64 cir, .int .i64 cbs, .int .i64 eir, .int .i64 ebs, .bool cp, .bool aw, .int .i64 (g), .int .i64 (m), .int .i64 (l)] : Array Value).all (·.oneCell')) = true := by kernel_rfl
    go_enter Try.func15, Try.ntmps15
    go_upto_region 6 with (first | (go_at_call 22; refine (hf _).mono ?_; rintro e w1 ⟨rfl, hg⟩; have hb1 := Lib.hid (blk_kept (heap2_old' w _ _) hg (by simp)); have hn1 := Lib.hid (blk_kept (heap2_new' w _ _) hg (by simp)); have G1 := Lib.hid (gtrans (gtrans (World.grownBy_alloc w _ none) (World.grownBy_alloc _ _ none) (.inl rfl)) hg (.inl rfl)); clear hg) | (refine wpList_store_rowTo rfl 47 _ _ rfl rfl w.heap.size #[.int .i64 cir, .int .i64 cbs, .int .i64 eir, .int .i64 ebs, .bool cp, .bool aw, .int .i64 (g), .int .i64 (m), .int .i64 (l)] rfl rfl 47 _ hb1.out hsz rfl hone ?_))
    have hb2 := setRow_heap w1 w.heap.size _ #[.int .i64 cir, .int .i64 cbs, .int .i64 eir, .int .i64 ebs, .bool cp, .bool aw, .int .i64 (g), .int .i64 (m), .int .i64 (l)] 47 (0, 0) hb1.out
    have hn2 := (setRow_other w1 w.heap.size (w.heap.size + 1) #[.int .i64 cir, .int .i64 cbs, .int .i64 eir, .int .i64 ebs, .bool cp, .bool aw, .int .i64 (g), .int .i64 (m), .int .i64 (l)] (by simp)).trans hn1.out
    have HG2 : Hid (w.grownBy (w1.setRow w.heap.size #[.int .i64 cir, .int .i64 cbs, .int .i64 eir, .int .i64 ebs, .bool cp, .bool aw, .int .i64 (g), .int .i64 (m), .int .i64 (l)]) none) := Lib.hid (grownNew G1.out (grownSetRow _ _ _) (Nat.le_refl _))
    obtain ⟨w2, hw2⟩ : ∃ q : World, q = w1.setRow w.heap.size #[.int .i64 cir, .int .i64 cbs, .int .i64 eir, .int .i64 ebs, .bool cp, .bool aw, .int .i64 (g), .int .i64 (m), .int .i64 (l)] := ⟨_, rfl⟩
    rw [← hw2] at hb2 hn2 HG2 ⊢
    have HB := Lib.hid hb2
    have HN := Lib.hid hn2
    clear hw2 hb1 hn1 G1 hn2 hf hone
    have e5 := (cell_of_row w2 (w.heap.size) 5 _ 47 (0, 0) hb2).trans (show _ = some (.bool aw) from rfl)
    have e6 := (cell_of_row w2 (w.heap.size) 6 _ 47 (0, 0) hb2).trans (show _ = some (.int .i64 (g)) from rfl)
    have e7 := (cell_of_row w2 (w.heap.size) 7 _ 47 (0, 0) hb2).trans (show _ = some (.int .i64 (m)) from rfl)
    have z6 := blk_frozen hb2 6
    have z7 := blk_frozen hb2 7
    clear hb2
    cases aw
    · skip
      by_cases hn1 : n ≤ g
      · skip
        have e : R = (⟨cir, cbs, eir, ebs, cp, false, g - n, m, l⟩, 1) := by rw [HR.out]; simp [hn1]
        subst e
        clear HR
        have hone : ((#[.int .i64 cir, .int .i64 cbs, .int .i64 eir, .int .i64 ebs, .bool cp, .bool false, .int .i64 (g - n), .int .i64 (m), .int .i64 (l)] : Array Value).all (·.oneCell')) = true := by kernel_rfl
        go_upto_region 10 with fail
        have hb3 := heap_setCell_same w2 w.heap.size 6 _ 47 (.int .i64 (g - n)) HB.out
        have hn3 := blk_far HN.out w.heap.size 6 (.int .i64 (g - n)) (by simp)
        have HG3 : Hid (w.grownBy (w2.setCell ⟨w.heap.size, 6, none⟩ (.int .i64 (g - n))) none) := Lib.hid (grownNew HG2.out (grownSet _ _ _ _) (Nat.le_refl _))
        obtain ⟨w3, hw3⟩ : ∃ q : World, q = w2.setCell ⟨w.heap.size, 6, none⟩ (.int .i64 (g - n)) := ⟨_, rfl⟩
        rw [← hw3] at hb3 hn3 HG3 ⊢
        have HB3 : Hid (w3.heap[w.heap.size]? = some (.cells #[.int .i64 cir, .int .i64 cbs, .int .i64 eir, .int .i64 ebs, .bool cp, .bool false, .int .i64 (g - n), .int .i64 (m), .int .i64 (l)] 47 (0, 0))) := Lib.hid hb3
        have HN3 := Lib.hid hn3
        clear hw3 hb3 hn3 HB HN e5 e6 e7 z6 z7
        go_wp2_with (first | (refine wpList_load_row rfl 47 _ rfl w.heap.size rfl 47 _ (0, 0) _ HB3.out Try.underlying47 rfl (by kernel_rfl) ?_) | (refine wpList_store_rowTo rfl 47 _ _ rfl rfl (w.heap.size + 1) #[.int .i64 cir, .int .i64 cbs, .int .i64 eir, .int .i64 ebs, .bool cp, .bool false, .int .i64 (g - n), .int .i64 (m), .int .i64 (l)] rfl rfl 47 #[.int .i64 0, .int .i64 0, .int .i64 0, .int .i64 0, .bool false, .bool false, .int .i64 0, .int .i64 0, .int .i64 0] HN3.out hsz rfl hone ?_))
        have h5 := setRow_heap w3 (w.heap.size + 1) #[.int .i64 0, .int .i64 0, .int .i64 0, .int .i64 0, .bool false, .bool false, .int .i64 0, .int .i64 0, .int .i64 0] #[.int .i64 cir, .int .i64 cbs, .int .i64 eir, .int .i64 ebs, .bool cp, .bool false, .int .i64 (g - n), .int .i64 (m), .int .i64 (l)] 47 (0, 0) HN3.out
        have hG5 : w.grownBy (w3.setRow (w.heap.size + 1) #[.int .i64 cir, .int .i64 cbs, .int .i64 eir, .int .i64 ebs, .bool cp, .bool false, .int .i64 (g - n), .int .i64 (m), .int .i64 (l)]) none := grownNew HG3.out (grownSetRow _ _ _) (by omega)
        obtain ⟨x5, hx5⟩ : ∃ q : World, q = w3.setRow (w.heap.size + 1) #[.int .i64 cir, .int .i64 cbs, .int .i64 eir, .int .i64 ebs, .bool cp, .bool false, .int .i64 (g - n), .int .i64 (m), .int .i64 (l)] := ⟨_, rfl⟩
        rw [← hx5] at h5 hG5 ⊢
        have r0 := cell_of_row x5 (w.heap.size + 1) 0 _ 47 (0, 0) h5
        have r1 := cell_of_row x5 (w.heap.size + 1) 1 _ 47 (0, 0) h5
        have r2 := cell_of_row x5 (w.heap.size + 1) 2 _ 47 (0, 0) h5
        have r3 := cell_of_row x5 (w.heap.size + 1) 3 _ 47 (0, 0) h5
        have r4 := cell_of_row x5 (w.heap.size + 1) 4 _ 47 (0, 0) h5
        have r5 := cell_of_row x5 (w.heap.size + 1) 5 _ 47 (0, 0) h5
        have r6 := cell_of_row x5 (w.heap.size + 1) 6 _ 47 (0, 0) h5
        have r7 := cell_of_row x5 (w.heap.size + 1) 7 _ 47 (0, 0) h5
        have r8 := cell_of_row x5 (w.heap.size + 1) 8 _ 47 (0, 0) h5
        refine bodyPost_ret (v := .tuple #[.agg #[.int .i64 cir, .int .i64 cbs, .int .i64 eir, .int .i64 ebs, .bool cp, .bool false, .int .i64 (g - n), .int .i64 (m), .int .i64 (l)], .int .i64 1, .int .i64 0]) (by simp [results, Try.results15, go_sem, r0, r1, r2, r3, r4, r5, r6, r7, r8]) rfl ⟨rfl, hG5⟩
      by_cases hn2 : n ≤ m
      · skip
        have e : R = (⟨cir, cbs, eir, ebs, cp, false, g, m - n, l⟩, 2) := by rw [HR.out]; simp [hn1, hn2]
        subst e
        clear HR
        have hone : ((#[.int .i64 cir, .int .i64 cbs, .int .i64 eir, .int .i64 ebs, .bool cp, .bool false, .int .i64 (g), .int .i64 (m - n), .int .i64 (l)] : Array Value).all (·.oneCell')) = true := by kernel_rfl
        go_upto_region 13 with fail
        have hb3 := heap_setCell_same w2 w.heap.size 7 _ 47 (.int .i64 (m - n)) HB.out
        have hn3 := blk_far HN.out w.heap.size 7 (.int .i64 (m - n)) (by simp)
        have HG3 : Hid (w.grownBy (w2.setCell ⟨w.heap.size, 7, none⟩ (.int .i64 (m - n))) none) := Lib.hid (grownNew HG2.out (grownSet _ _ _ _) (Nat.le_refl _))
        obtain ⟨w3, hw3⟩ : ∃ q : World, q = w2.setCell ⟨w.heap.size, 7, none⟩ (.int .i64 (m - n)) := ⟨_, rfl⟩
        rw [← hw3] at hb3 hn3 HG3 ⊢
        have HB3 : Hid (w3.heap[w.heap.size]? = some (.cells #[.int .i64 cir, .int .i64 cbs, .int .i64 eir, .int .i64 ebs, .bool cp, .bool false, .int .i64 (g), .int .i64 (m - n), .int .i64 (l)] 47 (0, 0))) := Lib.hid hb3
        have HN3 := Lib.hid hn3
        clear hw3 hb3 hn3 HB HN e5 e6 e7 z6 z7
        go_wp2_with (first | (refine wpList_load_row rfl 47 _ rfl w.heap.size rfl 47 _ (0, 0) _ HB3.out Try.underlying47 rfl (by kernel_rfl) ?_) | (refine wpList_store_rowTo rfl 47 _ _ rfl rfl (w.heap.size + 1) #[.int .i64 cir, .int .i64 cbs, .int .i64 eir, .int .i64 ebs, .bool cp, .bool false, .int .i64 (g), .int .i64 (m - n), .int .i64 (l)] rfl rfl 47 #[.int .i64 0, .int .i64 0, .int .i64 0, .int .i64 0, .bool false, .bool false, .int .i64 0, .int .i64 0, .int .i64 0] HN3.out hsz rfl hone ?_))
        have h5 := setRow_heap w3 (w.heap.size + 1) #[.int .i64 0, .int .i64 0, .int .i64 0, .int .i64 0, .bool false, .bool false, .int .i64 0, .int .i64 0, .int .i64 0] #[.int .i64 cir, .int .i64 cbs, .int .i64 eir, .int .i64 ebs, .bool cp, .bool false, .int .i64 (g), .int .i64 (m - n), .int .i64 (l)] 47 (0, 0) HN3.out
        have hG5 : w.grownBy (w3.setRow (w.heap.size + 1) #[.int .i64 cir, .int .i64 cbs, .int .i64 eir, .int .i64 ebs, .bool cp, .bool false, .int .i64 (g), .int .i64 (m - n), .int .i64 (l)]) none := grownNew HG3.out (grownSetRow _ _ _) (by omega)
        obtain ⟨x5, hx5⟩ : ∃ q : World, q = w3.setRow (w.heap.size + 1) #[.int .i64 cir, .int .i64 cbs, .int .i64 eir, .int .i64 ebs, .bool cp, .bool false, .int .i64 (g), .int .i64 (m - n), .int .i64 (l)] := ⟨_, rfl⟩
        rw [← hx5] at h5 hG5 ⊢
        have r0 := cell_of_row x5 (w.heap.size + 1) 0 _ 47 (0, 0) h5
        have r1 := cell_of_row x5 (w.heap.size + 1) 1 _ 47 (0, 0) h5
        have r2 := cell_of_row x5 (w.heap.size + 1) 2 _ 47 (0, 0) h5
        have r3 := cell_of_row x5 (w.heap.size + 1) 3 _ 47 (0, 0) h5
        have r4 := cell_of_row x5 (w.heap.size + 1) 4 _ 47 (0, 0) h5
        have r5 := cell_of_row x5 (w.heap.size + 1) 5 _ 47 (0, 0) h5
        have r6 := cell_of_row x5 (w.heap.size + 1) 6 _ 47 (0, 0) h5
        have r7 := cell_of_row x5 (w.heap.size + 1) 7 _ 47 (0, 0) h5
        have r8 := cell_of_row x5 (w.heap.size + 1) 8 _ 47 (0, 0) h5
        refine bodyPost_ret (v := .tuple #[.agg #[.int .i64 cir, .int .i64 cbs, .int .i64 eir, .int .i64 ebs, .bool cp, .bool false, .int .i64 (g), .int .i64 (m - n), .int .i64 (l)], .int .i64 2, .int .i64 0]) (by simp [results, Try.results15, go_sem, r0, r1, r2, r3, r4, r5, r6, r7, r8]) rfl ⟨rfl, hG5⟩
      · skip
        have e : R = (⟨cir, cbs, eir, ebs, cp, false, g, m, l⟩, 3) := by rw [HR.out]; simp [hn1, hn2]
        subst e
        clear HR
        have hone : ((#[.int .i64 cir, .int .i64 cbs, .int .i64 eir, .int .i64 ebs, .bool cp, .bool false, .int .i64 (g), .int .i64 (m), .int .i64 (l)] : Array Value).all (·.oneCell')) = true := by kernel_rfl
        go_wp2_with (first | (refine wpList_load_row rfl 47 _ rfl w.heap.size rfl 47 _ (0, 0) _ HB.out Try.underlying47 rfl (by kernel_rfl) ?_) | (refine wpList_store_rowTo rfl 47 _ _ rfl rfl (w.heap.size + 1) #[.int .i64 cir, .int .i64 cbs, .int .i64 eir, .int .i64 ebs, .bool cp, .bool false, .int .i64 (g), .int .i64 (m), .int .i64 (l)] rfl rfl 47 #[.int .i64 0, .int .i64 0, .int .i64 0, .int .i64 0, .bool false, .bool false, .int .i64 0, .int .i64 0, .int .i64 0] HN.out hsz rfl hone ?_))
        have h5 := setRow_heap w2 (w.heap.size + 1) #[.int .i64 0, .int .i64 0, .int .i64 0, .int .i64 0, .bool false, .bool false, .int .i64 0, .int .i64 0, .int .i64 0] #[.int .i64 cir, .int .i64 cbs, .int .i64 eir, .int .i64 ebs, .bool cp, .bool false, .int .i64 (g), .int .i64 (m), .int .i64 (l)] 47 (0, 0) HN.out
        have hG5 : w.grownBy (w2.setRow (w.heap.size + 1) #[.int .i64 cir, .int .i64 cbs, .int .i64 eir, .int .i64 ebs, .bool cp, .bool false, .int .i64 (g), .int .i64 (m), .int .i64 (l)]) none := grownNew HG2.out (grownSetRow _ _ _) (by omega)
        obtain ⟨x5, hx5⟩ : ∃ q : World, q = w2.setRow (w.heap.size + 1) #[.int .i64 cir, .int .i64 cbs, .int .i64 eir, .int .i64 ebs, .bool cp, .bool false, .int .i64 (g), .int .i64 (m), .int .i64 (l)] := ⟨_, rfl⟩
        rw [← hx5] at h5 hG5 ⊢
        have r0 := cell_of_row x5 (w.heap.size + 1) 0 _ 47 (0, 0) h5
        have r1 := cell_of_row x5 (w.heap.size + 1) 1 _ 47 (0, 0) h5
        have r2 := cell_of_row x5 (w.heap.size + 1) 2 _ 47 (0, 0) h5
        have r3 := cell_of_row x5 (w.heap.size + 1) 3 _ 47 (0, 0) h5
        have r4 := cell_of_row x5 (w.heap.size + 1) 4 _ 47 (0, 0) h5
        have r5 := cell_of_row x5 (w.heap.size + 1) 5 _ 47 (0, 0) h5
        have r6 := cell_of_row x5 (w.heap.size + 1) 6 _ 47 (0, 0) h5
        have r7 := cell_of_row x5 (w.heap.size + 1) 7 _ 47 (0, 0) h5
        have r8 := cell_of_row x5 (w.heap.size + 1) 8 _ 47 (0, 0) h5
        refine bodyPost_ret (v := .tuple #[.agg #[.int .i64 cir, .int .i64 cbs, .int .i64 eir, .int .i64 ebs, .bool cp, .bool false, .int .i64 (g), .int .i64 (m), .int .i64 (l)], .int .i64 3, .int .i64 0]) (by simp [results, Try.results15, go_sem, r0, r1, r2, r3, r4, r5, r6, r7, r8]) rfl ⟨rfl, hG5⟩
    · skip
      have e : R = (⟨cir, cbs, eir, ebs, cp, true, g, m, l⟩, 3) := by rw [HR.out]; simp []
      subst e
      clear HR
      have hone : ((#[.int .i64 cir, .int .i64 cbs, .int .i64 eir, .int .i64 ebs, .bool cp, .bool true, .int .i64 (g), .int .i64 (m), .int .i64 (l)] : Array Value).all (·.oneCell')) = true := by kernel_rfl
      go_wp2_with (first | (refine wpList_load_row rfl 47 _ rfl w.heap.size rfl 47 _ (0, 0) _ HB.out Try.underlying47 rfl (by kernel_rfl) ?_) | (refine wpList_store_rowTo rfl 47 _ _ rfl rfl (w.heap.size + 1) #[.int .i64 cir, .int .i64 cbs, .int .i64 eir, .int .i64 ebs, .bool cp, .bool true, .int .i64 (g), .int .i64 (m), .int .i64 (l)] rfl rfl 47 #[.int .i64 0, .int .i64 0, .int .i64 0, .int .i64 0, .bool false, .bool false, .int .i64 0, .int .i64 0, .int .i64 0] HN.out hsz rfl hone ?_))
      have h5 := setRow_heap w2 (w.heap.size + 1) #[.int .i64 0, .int .i64 0, .int .i64 0, .int .i64 0, .bool false, .bool false, .int .i64 0, .int .i64 0, .int .i64 0] #[.int .i64 cir, .int .i64 cbs, .int .i64 eir, .int .i64 ebs, .bool cp, .bool true, .int .i64 (g), .int .i64 (m), .int .i64 (l)] 47 (0, 0) HN.out
      have hG5 : w.grownBy (w2.setRow (w.heap.size + 1) #[.int .i64 cir, .int .i64 cbs, .int .i64 eir, .int .i64 ebs, .bool cp, .bool true, .int .i64 (g), .int .i64 (m), .int .i64 (l)]) none := grownNew HG2.out (grownSetRow _ _ _) (by omega)
      obtain ⟨x5, hx5⟩ : ∃ q : World, q = w2.setRow (w.heap.size + 1) #[.int .i64 cir, .int .i64 cbs, .int .i64 eir, .int .i64 ebs, .bool cp, .bool true, .int .i64 (g), .int .i64 (m), .int .i64 (l)] := ⟨_, rfl⟩
      rw [← hx5] at h5 hG5 ⊢
      have r0 := cell_of_row x5 (w.heap.size + 1) 0 _ 47 (0, 0) h5
      have r1 := cell_of_row x5 (w.heap.size + 1) 1 _ 47 (0, 0) h5
      have r2 := cell_of_row x5 (w.heap.size + 1) 2 _ 47 (0, 0) h5
      have r3 := cell_of_row x5 (w.heap.size + 1) 3 _ 47 (0, 0) h5
      have r4 := cell_of_row x5 (w.heap.size + 1) 4 _ 47 (0, 0) h5
      have r5 := cell_of_row x5 (w.heap.size + 1) 5 _ 47 (0, 0) h5
      have r6 := cell_of_row x5 (w.heap.size + 1) 6 _ 47 (0, 0) h5
      have r7 := cell_of_row x5 (w.heap.size + 1) 7 _ 47 (0, 0) h5
      have r8 := cell_of_row x5 (w.heap.size + 1) 8 _ 47 (0, 0) h5
      refine bodyPost_ret (v := .tuple #[.agg #[.int .i64 cir, .int .i64 cbs, .int .i64 eir, .int .i64 ebs, .bool cp, .bool true, .int .i64 (g), .int .i64 (m), .int .i64 (l)], .int .i64 3, .int .i64 0]) (by simp [results, Try.results15, go_sem, r0, r1, r2, r3, r4, r5, r6, r7, r8]) rfl ⟨rfl, hG5⟩
end Go.Proofs.Ytjddjijcfhgndaa.W
