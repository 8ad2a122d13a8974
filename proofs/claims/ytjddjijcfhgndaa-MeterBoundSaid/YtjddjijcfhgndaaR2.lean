/-
  What Fill of the reference of the package meter does, over any memory.
-/
import Derived.Test.YtjddjijcfhgndaaR1
set_option linter.unusedVariables false
set_option linter.unusedSimpArgs false
namespace Go.Proofs.Ytjddjijcfhgndaa.W
open Go.RowKit

theorem heap2_new' (w : World) (o q : Obj) : ((w.alloc o).alloc q).heap[w.heap.size + 1]? = some q := by
  show ((w.heap.push o).push q)[w.heap.size + 1]? = _
  rw [Array.getElem?_push, if_pos (by simp)]
theorem heap2_old' (w : World) (o q : Obj) : ((w.alloc o).alloc q).heap[w.heap.size]? = some o := by
  show ((w.heap.push o).push q)[w.heap.size]? = _
  rw [Array.getElem?_push, if_neg (by simp), Array.getElem?_push, if_pos rfl]
set_option maxHeartbeats 4000000 in
set_option maxRecDepth 100000 in
theorem rfill (s : MS) (t : Int) (w : World) (hs : Good s) (h1 : s.l ≤ t) (h2 : t ≤ 1099511627776) :
    Calls Try.prog 22 #[.agg (refA s), .int .i64 t] w fun e w' => e = .returned (.agg (refA (fillS s t))) ∧ w.grownBy w' none := by
  obtain ⟨cir, cbs, eir, ebs, cp, aw, g, m, l⟩ := s
  obtain ⟨q1, q2, q3, q4, q5, q6, q7, q8, q9, q10, q11, q12, q13, q14⟩ := hs
  obtain ⟨RA, hRA⟩ : ∃ q, q = refA (fillS ⟨cir, cbs, eir, ebs, cp, aw, g, m, l⟩ t) := ⟨_, rfl⟩
  rw [← hRA]
  have HRA := Lib.hid hRA
  clear hRA
  simp only [refA]
  simp only at *
  have hd : 0 ≤ t - l := by omega
  have hw0 : IntKind.i64.wrap (t - l) = t - l := IntWalk.i64_in _ (by omega)
  have hb1 := comes_bd cir (t - l) q1 hd
  have hb2 := comes_bd eir (t - l) q5 hd
  have hc1 := fun (W : World) => rcomes cir (t - l) W q1 hd
  have hc2 := fun (W : World) => rcomes eir (t - l) W q5 hd
  obtain ⟨y1, hy1⟩ : ∃ y, y = comes cir (t - l) := ⟨_, rfl⟩
  obtain ⟨y2, hy2⟩ : ∃ y, y = comes eir (t - l) := ⟨_, rfl⟩
  rw [← hy1] at hb1 hc1
  rw [← hy2] at hb2 hc2
  obtain ⟨d1, d2⟩ := hb1
  obtain ⟨d3, d4⟩ := hb2
  have hw1 : IntKind.i64.wrap (g + y1) = g + y1 := IntWalk.i64_in _ (by omega)
  have hw2 : IntKind.i64.wrap (m + y2) = m + y2 := IntWalk.i64_in _ (by omega)
  have HY1 := Lib.hid hy1
  have HY2 := Lib.hid hy2
  clear hy1 hy2
  have hsz : (Try.prog.info? 47).map (·.size) = some 9 := by kernel_rfl
  go_enter Try.func22, Try.ntmps22
  go_wp2
  go_quiet ((go_at_call 24; exact Calls.quiet_of_same (hc1 _)))
  go_upto_region 4 with fail
  have hbx := heap_setCell_same (((w.alloc (.cells #[.int .i64 cir, .int .i64 cbs, .int .i64 eir, .int .i64 ebs, .bool cp, .bool aw, .int .i64 g, .int .i64 m, .int .i64 l] 47)).alloc (.cells #[.int .i64 0, .int .i64 0, .int .i64 0, .int .i64 0, .bool false, .bool false, .int .i64 0, .int .i64 0, .int .i64 0] 47)).drewN nq) w.heap.size 6 _ 47 (.int .i64 (if cbs < g + y1 then cbs else g + y1)) (heap2_old' w (.cells #[.int .i64 cir, .int .i64 cbs, .int .i64 eir, .int .i64 ebs, .bool cp, .bool aw, .int .i64 g, .int .i64 m, .int .i64 l] 47) (.cells #[.int .i64 0, .int .i64 0, .int .i64 0, .int .i64 0, .bool false, .bool false, .int .i64 0, .int .i64 0, .int .i64 0] 47))
  have hnx := blk_far (heap2_new' w (.cells #[.int .i64 cir, .int .i64 cbs, .int .i64 eir, .int .i64 ebs, .bool cp, .bool aw, .int .i64 g, .int .i64 m, .int .i64 l] 47) (.cells #[.int .i64 0, .int .i64 0, .int .i64 0, .int .i64 0, .bool false, .bool false, .int .i64 0, .int .i64 0, .int .i64 0] 47)) w.heap.size 6 (.int .i64 (if cbs < g + y1 then cbs else g + y1)) (by simp)
  have hgx : w.grownBy ((((w.alloc (.cells #[.int .i64 cir, .int .i64 cbs, .int .i64 eir, .int .i64 ebs, .bool cp, .bool aw, .int .i64 g, .int .i64 m, .int .i64 l] 47)).alloc (.cells #[.int .i64 0, .int .i64 0, .int .i64 0, .int .i64 0, .bool false, .bool false, .int .i64 0, .int .i64 0, .int .i64 0] 47)).drewN nq).setCell ⟨w.heap.size, 6, none⟩ (.int .i64 (if cbs < g + y1 then cbs else g + y1))) none := gtrans (gtrans (gtrans (World.grownBy_alloc _ _ none) (World.grownBy_alloc _ _ none) (.inl rfl)) (grown_drewN _ nq none) (.inl rfl)) (grownSet _ _ _ _) (.inr (.inr ⟨_, rfl, Nat.le_refl _⟩))
  obtain ⟨u, hu⟩ : ∃ q : World, q = (((w.alloc (.cells #[.int .i64 cir, .int .i64 cbs, .int .i64 eir, .int .i64 ebs, .bool cp, .bool aw, .int .i64 g, .int .i64 m, .int .i64 l] 47)).alloc (.cells #[.int .i64 0, .int .i64 0, .int .i64 0, .int .i64 0, .bool false, .bool false, .int .i64 0, .int .i64 0, .int .i64 0] 47)).drewN nq).setCell ⟨w.heap.size, 6, none⟩ (.int .i64 (if cbs < g + y1 then cbs else g + y1)) := ⟨_, rfl⟩
  have hnx' : u.heap[w.heap.size + 1]? = some (.cells #[.int .i64 0, .int .i64 0, .int .i64 0, .int .i64 0, .bool false, .bool false, .int .i64 0, .int .i64 0, .int .i64 0] 47 (0, 0)) := by rw [hu]; exact hnx
  rw [← hu] at hbx hgx ⊢
  clear hu hnx
  have hbx' : u.heap[w.heap.size]? = some (.cells #[.int .i64 cir, .int .i64 cbs, .int .i64 eir, .int .i64 ebs, .bool cp, .bool aw, .int .i64 (if cbs < g + y1 then cbs else g + y1), .int .i64 m, .int .i64 l] 47 (0, 0)) := hbx
  clear hbx
  obtain ⟨gv, hgv⟩ : ∃ x : Int, x = (if cbs < g + y1 then cbs else g + y1) := ⟨_, rfl⟩
  rw [← hgv] at hbx'
  have gb1 : gv ≤ g + y1 := by rw [hgv]; split <;> omega
  have gb2 : 0 ≤ gv := by rw [hgv]; split <;> omega
  have HGV := Lib.hid hgv
  clear hgv
  have e0 := (cell_of_row u w.heap.size 0 _ 47 (0, 0) hbx').trans (show _ = some (.int .i64 cir) from rfl)
  have e1 := (cell_of_row u w.heap.size 1 _ 47 (0, 0) hbx').trans (show _ = some (.int .i64 cbs) from rfl)
  have e2 := (cell_of_row u w.heap.size 2 _ 47 (0, 0) hbx').trans (show _ = some (.int .i64 eir) from rfl)
  have e3 := (cell_of_row u w.heap.size 3 _ 47 (0, 0) hbx').trans (show _ = some (.int .i64 ebs) from rfl)
  have e4 := (cell_of_row u w.heap.size 4 _ 47 (0, 0) hbx').trans (show _ = some (.bool cp) from rfl)
  have e5 := (cell_of_row u w.heap.size 5 _ 47 (0, 0) hbx').trans (show _ = some (.bool aw) from rfl)
  have e6 := (cell_of_row u w.heap.size 6 _ 47 (0, 0) hbx').trans (show _ = some (.int .i64 gv) from rfl)
  have e7 := (cell_of_row u w.heap.size 7 _ 47 (0, 0) hbx').trans (show _ = some (.int .i64 m) from rfl)
  have e8 := (cell_of_row u w.heap.size 8 _ 47 (0, 0) hbx').trans (show _ = some (.int .i64 l) from rfl)
  have z7 := blk_frozen hbx' 7
  have z8 := blk_frozen hbx' 8
  have HB := Lib.hid hbx'
  have HN := Lib.hid hnx'
  have HG := Lib.hid hgx
  clear hbx' hnx' hgx
  go_quiet ((go_at_call 24; exact Calls.quiet_of_same (hc2 _)))
  cases cp
  · skip
    go_upto_region 8 with fail
    have hbx := heap_setCell_same (u.drewN nq) w.heap.size 7 _ 47 (.int .i64 (if ebs < m + y2 then ebs else m + y2)) HB.out
    have hnx := blk_far (show (u.drewN nq).heap[w.heap.size + 1]? = _ from HN.out) w.heap.size 7 (.int .i64 (if ebs < m + y2 then ebs else m + y2)) (by simp)
    have hgx : w.grownBy ((u.drewN nq).setCell ⟨w.heap.size, 7, none⟩ (.int .i64 (if ebs < m + y2 then ebs else m + y2))) none := grownNew (gtrans HG.out (grown_drewN u nq none) (.inl rfl)) (grownSet _ _ _ _) (Nat.le_refl _)
    obtain ⟨x, hx⟩ : ∃ q : World, q = (u.drewN nq).setCell ⟨w.heap.size, 7, none⟩ (.int .i64 (if ebs < m + y2 then ebs else m + y2)) := ⟨_, rfl⟩
    have hnx' : x.heap[w.heap.size + 1]? = some (.cells #[.int .i64 0, .int .i64 0, .int .i64 0, .int .i64 0, .bool false, .bool false, .int .i64 0, .int .i64 0, .int .i64 0] 47 (0, 0)) := by rw [hx]; exact hnx
    rw [← hx] at hbx hgx ⊢
    clear hx hnx e0 e1 e2 e3 e4 e5 e6 e7 e8 z7 z8
    have hbx' : x.heap[w.heap.size]? = some (.cells #[.int .i64 cir, .int .i64 cbs, .int .i64 eir, .int .i64 ebs, .bool false, .bool aw, .int .i64 gv, .int .i64 (if ebs < m + y2 then ebs else m + y2), .int .i64 l] 47 (0, 0)) := hbx
    clear hbx
    obtain ⟨mv, hmv⟩ : ∃ y : Int, y = (if ebs < m + y2 then ebs else m + y2) := ⟨_, rfl⟩
    rw [← hmv] at hbx'
    have HMV := Lib.hid hmv
    clear hmv
    have e8 := (cell_of_row x w.heap.size 8 _ 47 (0, 0) hbx').trans (show _ = some (.int .i64 l) from rfl)
    have z8 := blk_frozen hbx' 8
    have HB2 := Lib.hid hbx'
    have HN2 := Lib.hid hnx'
    have HG2 := Lib.hid hgx
    clear hbx' hnx' hgx HB HN HG
    have hone : ((#[.int .i64 cir, .int .i64 cbs, .int .i64 eir, .int .i64 ebs, .bool false, .bool aw, .int .i64 gv, .int .i64 mv, .int .i64 t] : Array Value).all (·.oneCell')) = true := by kernel_rfl
    have HE : Hid (RA = refA ⟨cir, cbs, eir, ebs, false, aw, gv, mv, t⟩) := Lib.hid (by
      rw [HRA.out]
      congr 1
      simp only [fillS, ← HY1.out, ← HY2.out, ← HGV.out]
      rw [HMV.out]
      simp)
    go_wp2_with (first | (refine wpList_load_row rfl 47 _ rfl w.heap.size rfl 47 _ (0, 0) _ (heap_setCell_same x w.heap.size 8 _ 47 (.int .i64 t) HB2.out) Try.underlying47 rfl (by kernel_rfl) ?_) | (refine wpList_store_rowTo rfl 47 _ _ rfl rfl (w.heap.size + 1) #[.int .i64 cir, .int .i64 cbs, .int .i64 eir, .int .i64 ebs, .bool false, .bool aw, .int .i64 gv, .int .i64 mv, .int .i64 t] rfl rfl 47 #[.int .i64 0, .int .i64 0, .int .i64 0, .int .i64 0, .bool false, .bool false, .int .i64 0, .int .i64 0, .int .i64 0] (blk_far HN2.out w.heap.size 8 _ (by simp)) hsz rfl hone ?_))
    all_goals
      have h5 := setRow_heap (x.setCell ⟨w.heap.size, 8, none⟩ (.int .i64 t)) (w.heap.size + 1) #[.int .i64 0, .int .i64 0, .int .i64 0, .int .i64 0, .bool false, .bool false, .int .i64 0, .int .i64 0, .int .i64 0] #[.int .i64 cir, .int .i64 cbs, .int .i64 eir, .int .i64 ebs, .bool false, .bool aw, .int .i64 gv, .int .i64 mv, .int .i64 t] 47 (0, 0) (blk_far HN2.out w.heap.size 8 _ (by simp))
      have hG5 : w.grownBy ((x.setCell ⟨w.heap.size, 8, none⟩ (.int .i64 t)).setRow (w.heap.size + 1) #[.int .i64 cir, .int .i64 cbs, .int .i64 eir, .int .i64 ebs, .bool false, .bool aw, .int .i64 gv, .int .i64 mv, .int .i64 t]) none := grownNew (grownNew HG2.out (grownSet _ _ _ _) (Nat.le_refl _)) (grownSetRow _ _ _) (by omega)
      obtain ⟨x5, hx5⟩ : ∃ q : World, q = (x.setCell ⟨w.heap.size, 8, none⟩ (.int .i64 t)).setRow (w.heap.size + 1) #[.int .i64 cir, .int .i64 cbs, .int .i64 eir, .int .i64 ebs, .bool false, .bool aw, .int .i64 gv, .int .i64 mv, .int .i64 t] := ⟨_, rfl⟩
      rw [← hx5] at h5 hG5 ⊢
      have r0 := cell_of_row x5 (w.heap.size + 1) 0 _ 47 (0, 0) h5
      have r1 := cell_of_row x5 (w.heap.size + 1) 1 _ 47 (0, 0) h5
      have r2 := cell_of_row x5 (w.heap.size + 1) 2 _ 47 (0, 0) h5
      have r3 := cell_of_row x5 (w.heap.size + 1) 3 _ 47 (0, 0) h5
      have r4 := cell_of_row x5 (w.heap.size + 1) 4 _ 47 (0, 0) h5
      have r5 := cell_of_row x5 (w.heap.size + 1) 5 _ 47 (0, 0) h5
      have r6 := cell_of_row x5 (w.heap.size + 1) 6 _ 47 (0, 0) h5
      have r7 := cell_of_row x5 (w.heap.size + 1) 7 _ 47 (0, 0) h5
      have r8 := cell_of_row x5 (w.heap.size + 1) 8 _ 47 (0, 0) h5
      refine bodyPost_ret (v := .agg #[.int .i64 cir, .int .i64 cbs, .int .i64 eir, .int .i64 ebs, .bool false, .bool aw, .int .i64 gv, .int .i64 mv, .int .i64 t]) (by simp [results, Try.results22, go_sem, r0, r1, r2, r3, r4, r5, r6, r7, r8]) rfl ⟨?_, hG5⟩
      rw [HE.out]
      rfl
  · skip
    go_upto_region 8 with fail
    have hbx := heap_setCell_same (u.drewN nq) w.heap.size 7 _ 47 (.int .i64 (if ebs < m + y2 + (g + y1) - gv then ebs else m + y2 + (g + y1) - gv)) HB.out
    have hnx := blk_far (show (u.drewN nq).heap[w.heap.size + 1]? = _ from HN.out) w.heap.size 7 (.int .i64 (if ebs < m + y2 + (g + y1) - gv then ebs else m + y2 + (g + y1) - gv)) (by simp)
    have hgx : w.grownBy ((u.drewN nq).setCell ⟨w.heap.size, 7, none⟩ (.int .i64 (if ebs < m + y2 + (g + y1) - gv then ebs else m + y2 + (g + y1) - gv))) none := grownNew (gtrans HG.out (grown_drewN u nq none) (.inl rfl)) (grownSet _ _ _ _) (Nat.le_refl _)
    obtain ⟨x, hx⟩ : ∃ q : World, q = (u.drewN nq).setCell ⟨w.heap.size, 7, none⟩ (.int .i64 (if ebs < m + y2 + (g + y1) - gv then ebs else m + y2 + (g + y1) - gv)) := ⟨_, rfl⟩
    have hnx' : x.heap[w.heap.size + 1]? = some (.cells #[.int .i64 0, .int .i64 0, .int .i64 0, .int .i64 0, .bool false, .bool false, .int .i64 0, .int .i64 0, .int .i64 0] 47 (0, 0)) := by rw [hx]; exact hnx
    rw [← hx] at hbx hgx ⊢
    clear hx hnx e0 e1 e2 e3 e4 e5 e6 e7 e8 z7 z8
    have hbx' : x.heap[w.heap.size]? = some (.cells #[.int .i64 cir, .int .i64 cbs, .int .i64 eir, .int .i64 ebs, .bool true, .bool aw, .int .i64 gv, .int .i64 (if ebs < m + y2 + (g + y1) - gv then ebs else m + y2 + (g + y1) - gv), .int .i64 l] 47 (0, 0)) := hbx
    clear hbx
    obtain ⟨mv, hmv⟩ : ∃ y : Int, y = (if ebs < m + y2 + (g + y1) - gv then ebs else m + y2 + (g + y1) - gv) := ⟨_, rfl⟩
    rw [← hmv] at hbx'
    have HMV := Lib.hid hmv
    clear hmv
    have e8 := (cell_of_row x w.heap.size 8 _ 47 (0, 0) hbx').trans (show _ = some (.int .i64 l) from rfl)
    have z8 := blk_frozen hbx' 8
    have HB2 := Lib.hid hbx'
    have HN2 := Lib.hid hnx'
    have HG2 := Lib.hid hgx
    clear hbx' hnx' hgx HB HN HG
    have hone : ((#[.int .i64 cir, .int .i64 cbs, .int .i64 eir, .int .i64 ebs, .bool true, .bool aw, .int .i64 gv, .int .i64 mv, .int .i64 t] : Array Value).all (·.oneCell')) = true := by kernel_rfl
    have HE : Hid (RA = refA ⟨cir, cbs, eir, ebs, true, aw, gv, mv, t⟩) := Lib.hid (by
      rw [HRA.out]
      congr 1
      simp only [fillS, ← HY1.out, ← HY2.out, ← HGV.out]
      rw [HMV.out]
      simp [show m + y2 + (g + y1 - gv) = m + y2 + (g + y1) - gv by omega])
    go_wp2_with (first | (refine wpList_load_row rfl 47 _ rfl w.heap.size rfl 47 _ (0, 0) _ (heap_setCell_same x w.heap.size 8 _ 47 (.int .i64 t) HB2.out) Try.underlying47 rfl (by kernel_rfl) ?_) | (refine wpList_store_rowTo rfl 47 _ _ rfl rfl (w.heap.size + 1) #[.int .i64 cir, .int .i64 cbs, .int .i64 eir, .int .i64 ebs, .bool true, .bool aw, .int .i64 gv, .int .i64 mv, .int .i64 t] rfl rfl 47 #[.int .i64 0, .int .i64 0, .int .i64 0, .int .i64 0, .bool false, .bool false, .int .i64 0, .int .i64 0, .int .i64 0] (blk_far HN2.out w.heap.size 8 _ (by simp)) hsz rfl hone ?_))
    all_goals
      have h5 := setRow_heap (x.setCell ⟨w.heap.size, 8, none⟩ (.int .i64 t)) (w.heap.size + 1) #[.int .i64 0, .int .i64 0, .int .i64 0, .int .i64 0, .bool false, .bool false, .int .i64 0, .int .i64 0, .int .i64 0] #[.int .i64 cir, .int .i64 cbs, .int .i64 eir, .int .i64 ebs, .bool true, .bool aw, .int .i64 gv, .int .i64 mv, .int .i64 t] 47 (0, 0) (blk_far HN2.out w.heap.size 8 _ (by simp))
      have hG5 : w.grownBy ((x.setCell ⟨w.heap.size, 8, none⟩ (.int .i64 t)).setRow (w.heap.size + 1) #[.int .i64 cir, .int .i64 cbs, .int .i64 eir, .int .i64 ebs, .bool true, .bool aw, .int .i64 gv, .int .i64 mv, .int .i64 t]) none := grownNew (grownNew HG2.out (grownSet _ _ _ _) (Nat.le_refl _)) (grownSetRow _ _ _) (by omega)
      obtain ⟨x5, hx5⟩ : ∃ q : World, q = (x.setCell ⟨w.heap.size, 8, none⟩ (.int .i64 t)).setRow (w.heap.size + 1) #[.int .i64 cir, .int .i64 cbs, .int .i64 eir, .int .i64 ebs, .bool true, .bool aw, .int .i64 gv, .int .i64 mv, .int .i64 t] := ⟨_, rfl⟩
      rw [← hx5] at h5 hG5 ⊢
      have r0 := cell_of_row x5 (w.heap.size + 1) 0 _ 47 (0, 0) h5
      have r1 := cell_of_row x5 (w.heap.size + 1) 1 _ 47 (0, 0) h5
      have r2 := cell_of_row x5 (w.heap.size + 1) 2 _ 47 (0, 0) h5
      have r3 := cell_of_row x5 (w.heap.size + 1) 3 _ 47 (0, 0) h5
      have r4 := cell_of_row x5 (w.heap.size + 1) 4 _ 47 (0, 0) h5
      have r5 := cell_of_row x5 (w.heap.size + 1) 5 _ 47 (0, 0) h5
      have r6 := cell_of_row x5 (w.heap.size + 1) 6 _ 47 (0, 0) h5
      have r7 := cell_of_row x5 (w.heap.size + 1) 7 _ 47 (0, 0) h5
      have r8 := cell_of_row x5 (w.heap.size + 1) 8 _ 47 (0, 0) h5
      refine bodyPost_ret (v := .agg #[.int .i64 cir, .int .i64 cbs, .int .i64 eir, .int .i64 ebs, .bool true, .bool aw, .int .i64 gv, .int .i64 mv, .int .i64 t]) (by simp [results, Try.results22, go_sem, r0, r1, r2, r3, r4, r5, r6, r7, r8]) rfl ⟨?_, hG5⟩
      rw [HE.out]
      rfl
end Go.Proofs.Ytjddjijcfhgndaa.W
