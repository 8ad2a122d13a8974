/-
  What filled makes of a meter, over any memory.
-/
import Derived.Test.YtjddjijcfhgndaaW1
import Derived.Deep.RegionHeld3
import Derived.Great.BuildSlice
set_option linter.unusedVariables false
set_option linter.unusedSimpArgs false
namespace Go.Proofs.Ytjddjijcfhgndaa.W
open Go.RowKit

/-- It, filled up to a tick. -/
def fillS (s : MS) (t : Int) : MS :=
  let all := s.g + comes s.cir (t - s.l)
  let g' := if s.cbs < all then s.cbs else all
  let mm := s.m + comes s.eir (t - s.l) + (if s.cp then all - g' else 0)
  { s with g := g', m := if s.ebs < mm then s.ebs else mm, l := t }
theorem fill_good (s : MS) (t : Int) (h : Good s) (h1 : s.l ≤ t) (h2 : t ≤ 1099511627776) : Good (fillS s t) := by
  obtain ⟨a0, a1, b0, b1, c0, c1, d0, d1, g0, g1, m0, m1, l0, l1⟩ := h
  have k1 := comes_bd s.cir (t - s.l) a0 (by omega)
  have k2 := comes_bd s.eir (t - s.l) c0 (by omega)
  refine ⟨a0, a1, b0, b1, c0, c1, d0, d1, ?_, ?_, ?_, ?_, by show (0:Int) ≤ t; omega, h2⟩ <;> simp only [fillS]
  · split <;> omega
  · split <;> omega
  · cases s.cp <;> simp <;> (repeat' split) <;> omega
  · cases s.cp <;> simp <;> (repeat' split) <;> omega

theorem grownNew {w v x : World} {k : Nat} (h1 : w.grownBy v none) (h2 : v.grownBy x (some k)) (hk : w.heap.size ≤ k) : w.grownBy x none :=
  gtrans h1 h2 (.inr (.inr ⟨k, rfl, hk⟩))
theorem grownSetRow (w : World) (b : Nat) (cs : Array Value) : w.grownBy (w.setRow b cs) (some b) :=
  ⟨rfl, rfl, rfl, Nat.le_of_eq (by simp), fun i hi hne => setRow_other w b i cs (fun e => hne (by rw [e]))⟩
set_option maxHeartbeats 8000000 in
set_option maxRecDepth 100000 in
theorem filled_of (b : Nat) (s : MS) (t : Int) (w : World) (h : MH w b s) (hs : Good s) (h1 : s.l ≤ t) (h2 : t ≤ 1099511627776) :
    Calls Try.prog 20 #[.pointer (some ⟨b, 0, none⟩), .int .i64 t] w fun e w' => e = .returned (.agg (cellsA (fillS s t))) ∧ w.grownBy w' none := by
  obtain ⟨c0, c1, c2, c3, c4, c5, c6, c7, c8, c9⟩ := h.cells
  have hlt := h.lt
  obtain ⟨cir, cbs, eir, ebs, cp, aw, g, m, l⟩ := s
  simp only [MH, cellsA] at *
  obtain ⟨q1, q2, q3, q4, q5, q6, q7, q8, q9, q10, q11, q12, q13, q14⟩ := hs
  simp only at q1 q2 q3 q4 q5 q6 q7 q8 q9 q10 q11 q12 q13 q14
  have hd : 0 ≤ t - l := by omega
  have hw : wrap64 (t - l) = t - l := IntWalk.wrap64_in _ ⟨by omega, by omega⟩
  go_enter Try.func20, Try.ntmps20
  go_wp2
  generalize hn : w.heap.size = n at *
  obtain ⟨v, hv⟩ : ∃ v : World, v = ((w.alloc (.cells #[.int .i64 0, .int .i64 0, .int .i64 0, .int .i64 0, .bool false, .bool false, .int .i64 0, .int .i64 0, .int .i64 0, .bool false] 58)).alloc (.cells #[.int .i64 cir, .int .i64 cbs, .int .i64 eir, .int .i64 ebs, .bool cp, .bool aw, .int .i64 g, .int .i64 m, .int .i64 l, .bool true] 58)).alloc (.cells #[.int .i64 (t - l)] 3) := ⟨_, rfl⟩
  rw [← hv]
  have hGv : Hid (w.grownBy v none) := Lib.hid (by rw [hv]; exact gtrans (gtrans (World.grownBy_alloc _ _ none) (World.grownBy_alloc _ _ none) (.inl rfl)) (World.grownBy_alloc _ _ none) (.inl rfl))
  have hq : v.cell? ⟨n + 1 + 1, 0, none⟩ = some (.int .i64 (t - l)) := by rw [hv, ← hn]; simp [go_sem]
  have ho : v.heap[n + 1]? = some (.cells #[.int .i64 cir, .int .i64 cbs, .int .i64 eir, .int .i64 ebs, .bool cp, .bool aw, .int .i64 g, .int .i64 m, .int .i64 l, .bool true] 58 (0, 0)) := by
    rw [hv, ← hn]
    show (((w.heap.push _).push _).push _)[w.heap.size + 1]? = _
    rw [Array.getElem?_push, if_neg (by simp), Array.getElem?_push, if_pos (by simp)]
  have hz : v.heap.size = n + 3 := by rw [hv, ← hn]; simp
  have hnv : Hid (v.heap[n]? = some (.cells #[.int .i64 0, .int .i64 0, .int .i64 0, .int .i64 0, .bool false, .bool false, .int .i64 0, .int .i64 0, .int .i64 0, .bool false] 58 (0, 0))) := by
    rw [hv, ← hn]
    apply Lib.hid
    show (((w.heap.push _).push _).push _)[w.heap.size]? = _
    rw [Array.getElem?_push, if_neg (by simp; omega), Array.getElem?_push, if_neg (by simp), Array.getElem?_push, if_pos (by simp)]
  clear hv
  have hbn : b ≠ n + 1 := by omega
  have hb1 := comes_bd cir (t - l) q1 hd
  have hb2 := comes_bd eir (t - l) q5 hd
  have hc1 := fun (k : Nat) => comes_any cir (t - l) (n + 1 + 1) (v.drewN k) hq q1 hd
  have hc2 := fun (k : Nat) => comes_any eir (t - l) (n + 1 + 1) (v.drewN k) hq q5 hd
  obtain ⟨y1, hy1⟩ : ∃ y, y = comes cir (t - l) := ⟨_, rfl⟩
  obtain ⟨y2, hy2⟩ : ∃ y, y = comes eir (t - l) := ⟨_, rfl⟩
  rw [← hy1] at hb1 hc1
  rw [← hy2] at hb2 hc2
  obtain ⟨d1, d2⟩ := hb1
  obtain ⟨d3, d4⟩ := hb2
  have hw1 : IntKind.i64.wrap (g + y1) = g + y1 := IntWalk.i64_in _ (by omega)
  obtain ⟨v0, v1, v2, v3, v4, v5, v6, v7, v8, v9⟩ := (show MH v b ⟨cir, cbs, eir, ebs, cp, aw, g, m, l⟩ from blk_kept h hGv.out (by simp)).cells
  simp only at v0 v1 v2 v3 v4 v5 v6 v7 v8 v9
  have o6 := (cell_of_row v (n + 1) 6 _ 58 (0, 0) ho).trans rfl
  have o7 := (cell_of_row v (n + 1) 7 _ 58 (0, 0) ho).trans rfl
  have o8 := (cell_of_row v (n + 1) 8 _ 58 (0, 0) ho).trans rfl
  have of6 : v.frozen? ⟨n + 1, 6, none⟩ = false := blk_frozen ho 6
  have of7 : v.frozen? ⟨n + 1, 7, none⟩ = false := blk_frozen ho 7
  have of8 : v.frozen? ⟨n + 1, 8, none⟩ = false := blk_frozen ho 8
  have HO := Lib.hid ho
  have HH := Lib.hid h
  have HN := Lib.hid hn
  have HY1 := Lib.hid hy1
  have HY2 := Lib.hid hy2
  clear c0 c1 c2 c3 c4 c5 c6 c7 c8 c9 hw ho h hy1 hy2 hlt
  have hw2 : IntKind.i64.wrap (m + y2) = m + y2 := IntWalk.i64_in _ (by omega)
  by_cases hm1 : cbs < g + y1
  · cases cp
    · have HM1 := Lib.hid hm1
      have hw3 : IntKind.i64.wrap (m + y2 + 0) = m + y2 + 0 := IntWalk.i64_in _ (by omega)
      go_quiet ((go_at_call 23; exact Calls.quiet_of (hc1 _)))
      go_wp2
      obtain ⟨u, hu⟩ : ∃ u : World, u = (v.drewN nq).setCell ⟨n + 1, 6, none⟩ (.int .i64 (cbs)) := ⟨_, rfl⟩
      rw [← hu]
      have hGu : Hid (v.grownBy u (some (n + 1))) := Lib.hid (by rw [hu]; exact gtrans (grown_drewN v nq _) (grownSet _ _ _ _) (.inl rfl))
      have hOu : Hid (u.heap[n + 1]? = some (.cells #[.int .i64 cir, .int .i64 cbs, .int .i64 eir, .int .i64 ebs, .bool false, .bool aw, .int .i64 (cbs), .int .i64 m, .int .i64 l, .bool true] 58 (0, 0))) := Lib.hid (by rw [hu]; exact heap_setCell_same (v.drewN nq) (n + 1) 6 _ 58 (.int .i64 (cbs)) HO.out)
      have hqu : u.cell? ⟨n + 1 + 1, 0, none⟩ = some (.int .i64 (t - l)) := by rw [hu]; simp [go_sem, hq]
      clear hu hc1 hc2 hw1 hq v0 v1 v2 v3 v4 v5 v6 v7 v8 v9 of6 of7 of8 o6 o7 o8
      have hc2 := fun (k : Nat) => comes_any eir (t - l) (n + 1 + 1) (u.drewN k) hqu q5 hd
      rw [← HY2.out] at hc2
      have HU : Hid (MH u b ⟨cir, cbs, eir, ebs, false, aw, g, m, l⟩) := Lib.hid (blk_kept (blk_kept HH.out hGv.out (by simp)) hGu.out (by simpa using hbn))
      obtain ⟨v0, v1, v2, v3, v4, v5, v6, v7, v8, v9⟩ := HU.out.cells
      simp only at v0 v1 v2 v3 v4 v5 v6 v7 v8 v9
      have of7 : u.frozen? ⟨n + 1, 7, none⟩ = false := blk_frozen hOu.out 7
      have o7 := (cell_of_row u (n + 1) 7 _ 58 (0, 0) hOu.out).trans (show _ = some (.int .i64 m) from rfl)
      have hK : Hid (∀ w' : World, u.grownBy w' (some (n + 1)) → w'.cell? ⟨b, 2, none⟩ = some (.int .i64 eir) ∧ w'.cell? ⟨b, 3, none⟩ = some (.int .i64 ebs) ∧ w'.cell? ⟨b, 7, none⟩ = some (.int .i64 m) ∧ w'.cell? ⟨n + 1 + 1, 0, none⟩ = some (.int .i64 (t - l))) := Lib.hid (fun w' hg => by
        obtain ⟨_, _, x2, x3, _, _, _, x7, _, _⟩ := (HU.out.kept hg (by simpa using hbn)).cells
        exact ⟨x2, x3, x7, hg.cell hqu (by simp)⟩)
      have hc3 := fun (W : World) (hq : W.cell? ⟨n + 1 + 1, 0, none⟩ = some (.int .i64 (t - l))) => comes_any eir (t - l) (n + 1 + 1) W hq q5 hd
      rw [← HY2.out] at hc3
      clear hc2
      go_region_held3 (fun w' => w'.cell? ⟨b, 2, none⟩ = some (.int .i64 eir) ∧ w'.cell? ⟨b, 3, none⟩ = some (.int .i64 ebs) ∧ w'.cell? ⟨b, 7, none⟩ = some (.int .i64 m) ∧ w'.cell? ⟨n + 1 + 1, 0, none⟩ = some (.int .i64 (t - l)))
        (first | exact hK.out _ (grown_drewN _ _ _) | exact hK.out _ (gtrans (grown_drewN _ _ _) (grown_drewN _ _ _) (.inl rfl)) | exact hK.out _ (gtrans (grown_drewN _ _ _) (grownSet _ _ _ _) (.inl rfl)) | exact hK.out _ (gtrans (gtrans (grown_drewN _ _ _) (grown_drewN _ _ _) (.inl rfl)) (grownSet _ _ _ _) (.inl rfl)))
        (first | (go_at_call 23; go_split_ands; refine (hc3 _ (by assumption)).mono ?_; rintro e wN ⟨rfl, nk, rfl⟩))
      obtain ⟨mv, hmv⟩ : ∃ x : Int, x = if ebs < m + y2 then ebs else m + y2 := ⟨_, rfl⟩
      rw [← hmv]
      have HMV := Lib.hid hmv
      obtain ⟨x, hx⟩ : ∃ x : World, x = (u.drewN (1 + nk)).setCell ⟨n + 1, 7, none⟩ (.int .i64 mv) := ⟨_, rfl⟩
      rw [← hx]
      have hGx : Hid (u.grownBy x (some (n + 1))) := Lib.hid (by rw [hx]; exact gtrans (grown_drewN u _ _) (grownSet _ _ _ _) (.inl rfl))
      have hOx : x.heap[n + 1]? = some (.cells #[.int .i64 cir, .int .i64 cbs, .int .i64 eir, .int .i64 ebs, .bool false, .bool aw, .int .i64 (cbs), .int .i64 mv, .int .i64 l, .bool true] 58 (0, 0)) := by rw [hx]; exact heap_setCell_same (u.drewN (1 + nk)) (n + 1) 7 _ 58 (.int .i64 mv) hOu.out
      have hwx : Hid (w.grownBy x none) := Lib.hid (grownNew hGv.out (gtrans hGu.out hGx.out (.inl rfl)) (by omega))
      have hnx : Hid (x.heap[n]? = some (.cells #[.int .i64 0, .int .i64 0, .int .i64 0, .int .i64 0, .bool false, .bool false, .int .i64 0, .int .i64 0, .int .i64 0, .bool false] 58 (0, 0))) := Lib.hid (blk_kept (blk_kept hnv.out hGu.out (by simp)) hGx.out (by simp))
      have o8 := (cell_of_row x (n + 1) 8 _ 58 (0, 0) hOx).trans (show _ = some (.int .i64 l) from rfl)
      have of8 : x.frozen? ⟨n + 1, 8, none⟩ = false := blk_frozen hOx 8
      have HOX := Lib.hid hOx
      clear hOx hx hmv hc3 hK v0 v1 v2 v3 v4 v5 v6 v7 v8 v9
      have hone : ((#[.int .i64 cir, .int .i64 cbs, .int .i64 eir, .int .i64 ebs, .bool false, .bool aw, .int .i64 (cbs), .int .i64 mv, .int .i64 t, .bool true] : Array Value).all (·.oneCell')) = true := by kernel_rfl
      have hsz : (Try.prog.info? 58).map (·.size) = some 10 := by kernel_rfl
      go_wp2_with (first | (refine wpList_load_row rfl 58 _ rfl (n + 1) rfl 58 _ (0, 0) _ (heap_setCell_same x (n + 1) 8 _ 58 (.int .i64 t) HOX.out) Try.underlying58 rfl (by kernel_rfl) ?_) | (refine wpList_store_rowTo rfl 58 _ _ rfl rfl n #[.int .i64 cir, .int .i64 cbs, .int .i64 eir, .int .i64 ebs, .bool false, .bool aw, .int .i64 (cbs), .int .i64 mv, .int .i64 t, .bool true] rfl rfl 58 _ (blk_far hnx.out (n + 1) 8 _ (by simp)) hsz rfl hone ?_))
      have h5 := setRow_heap (x.setCell ⟨n + 1, 8, none⟩ (.int .i64 t)) n _ #[.int .i64 cir, .int .i64 cbs, .int .i64 eir, .int .i64 ebs, .bool false, .bool aw, .int .i64 (cbs), .int .i64 mv, .int .i64 t, .bool true] 58 (0, 0) (blk_far hnx.out (n + 1) 8 _ (by simp))
      have hG5 : Hid (w.grownBy ((x.setCell ⟨n + 1, 8, none⟩ (.int .i64 t)).setRow n #[.int .i64 cir, .int .i64 cbs, .int .i64 eir, .int .i64 ebs, .bool false, .bool aw, .int .i64 (cbs), .int .i64 mv, .int .i64 t, .bool true]) none) := Lib.hid (grownNew (grownNew hwx.out (grownSet _ _ _ _) (by omega)) (grownSetRow _ _ _) (by omega))
      obtain ⟨x5, hx5⟩ : ∃ q : World, q = (x.setCell ⟨n + 1, 8, none⟩ (.int .i64 t)).setRow n #[.int .i64 cir, .int .i64 cbs, .int .i64 eir, .int .i64 ebs, .bool false, .bool aw, .int .i64 (cbs), .int .i64 mv, .int .i64 t, .bool true] := ⟨_, rfl⟩
      rw [← hx5] at h5 hG5 ⊢
      have r0 := cell_of_row x5 n 0 _ 58 (0, 0) h5
      have r1 := cell_of_row x5 n 1 _ 58 (0, 0) h5
      have r2 := cell_of_row x5 n 2 _ 58 (0, 0) h5
      have r3 := cell_of_row x5 n 3 _ 58 (0, 0) h5
      have r4 := cell_of_row x5 n 4 _ 58 (0, 0) h5
      have r5 := cell_of_row x5 n 5 _ 58 (0, 0) h5
      have r6 := cell_of_row x5 n 6 _ 58 (0, 0) h5
      have r7 := cell_of_row x5 n 7 _ 58 (0, 0) h5
      have r8 := cell_of_row x5 n 8 _ 58 (0, 0) h5
      have r9 := cell_of_row x5 n 9 _ 58 (0, 0) h5
      refine bodyPost_ret (v := .agg #[.int .i64 cir, .int .i64 cbs, .int .i64 eir, .int .i64 ebs, .bool false, .bool aw, .int .i64 (cbs), .int .i64 mv, .int .i64 t, .bool true]) (by simp [results, Try.results20, go_sem, r0, r1, r2, r3, r4, r5, r6, r7, r8, r9]) rfl ⟨?_, hG5.out⟩
      simp only [fillS, cellsA, ← HY1.out, ← HY2.out, if_pos HM1.out, HMV.out]
      simp
    · have HM1 := Lib.hid hm1
      have hw3 : IntKind.i64.wrap (m + y2 + (g + y1 - cbs)) = m + y2 + (g + y1 - cbs) := IntWalk.i64_in _ (by omega)
      go_quiet ((go_at_call 23; exact Calls.quiet_of (hc1 _)))
      go_wp2
      obtain ⟨u, hu⟩ : ∃ u : World, u = (v.drewN nq).setCell ⟨n + 1, 6, none⟩ (.int .i64 (cbs)) := ⟨_, rfl⟩
      rw [← hu]
      have hGu : Hid (v.grownBy u (some (n + 1))) := Lib.hid (by rw [hu]; exact gtrans (grown_drewN v nq _) (grownSet _ _ _ _) (.inl rfl))
      have hOu : Hid (u.heap[n + 1]? = some (.cells #[.int .i64 cir, .int .i64 cbs, .int .i64 eir, .int .i64 ebs, .bool true, .bool aw, .int .i64 (cbs), .int .i64 m, .int .i64 l, .bool true] 58 (0, 0))) := Lib.hid (by rw [hu]; exact heap_setCell_same (v.drewN nq) (n + 1) 6 _ 58 (.int .i64 (cbs)) HO.out)
      have hqu : u.cell? ⟨n + 1 + 1, 0, none⟩ = some (.int .i64 (t - l)) := by rw [hu]; simp [go_sem, hq]
      clear hu hc1 hc2 hw1 hq v0 v1 v2 v3 v4 v5 v6 v7 v8 v9 of6 of7 of8 o6 o7 o8
      have hc2 := fun (k : Nat) => comes_any eir (t - l) (n + 1 + 1) (u.drewN k) hqu q5 hd
      rw [← HY2.out] at hc2
      have HU : Hid (MH u b ⟨cir, cbs, eir, ebs, true, aw, g, m, l⟩) := Lib.hid (blk_kept (blk_kept HH.out hGv.out (by simp)) hGu.out (by simpa using hbn))
      obtain ⟨v0, v1, v2, v3, v4, v5, v6, v7, v8, v9⟩ := HU.out.cells
      simp only at v0 v1 v2 v3 v4 v5 v6 v7 v8 v9
      have of7 : u.frozen? ⟨n + 1, 7, none⟩ = false := blk_frozen hOu.out 7
      have o7 := (cell_of_row u (n + 1) 7 _ 58 (0, 0) hOu.out).trans (show _ = some (.int .i64 m) from rfl)
      have hK : Hid (∀ w' : World, u.grownBy w' (some (n + 1)) → w'.cell? ⟨b, 2, none⟩ = some (.int .i64 eir) ∧ w'.cell? ⟨b, 3, none⟩ = some (.int .i64 ebs) ∧ w'.cell? ⟨b, 7, none⟩ = some (.int .i64 m) ∧ w'.cell? ⟨n + 1 + 1, 0, none⟩ = some (.int .i64 (t - l))) := Lib.hid (fun w' hg => by
        obtain ⟨_, _, x2, x3, _, _, _, x7, _, _⟩ := (HU.out.kept hg (by simpa using hbn)).cells
        exact ⟨x2, x3, x7, hg.cell hqu (by simp)⟩)
      have hc3 := fun (W : World) (hq : W.cell? ⟨n + 1 + 1, 0, none⟩ = some (.int .i64 (t - l))) => comes_any eir (t - l) (n + 1 + 1) W hq q5 hd
      rw [← HY2.out] at hc3
      clear hc2
      go_region_held3 (fun w' => w'.cell? ⟨b, 2, none⟩ = some (.int .i64 eir) ∧ w'.cell? ⟨b, 3, none⟩ = some (.int .i64 ebs) ∧ w'.cell? ⟨b, 7, none⟩ = some (.int .i64 m) ∧ w'.cell? ⟨n + 1 + 1, 0, none⟩ = some (.int .i64 (t - l)))
        (first | exact hK.out _ (grown_drewN _ _ _) | exact hK.out _ (gtrans (grown_drewN _ _ _) (grown_drewN _ _ _) (.inl rfl)) | exact hK.out _ (gtrans (grown_drewN _ _ _) (grownSet _ _ _ _) (.inl rfl)) | exact hK.out _ (gtrans (gtrans (grown_drewN _ _ _) (grown_drewN _ _ _) (.inl rfl)) (grownSet _ _ _ _) (.inl rfl)))
        (first | (go_at_call 23; go_split_ands; refine (hc3 _ (by assumption)).mono ?_; rintro e wN ⟨rfl, nk, rfl⟩))
      obtain ⟨mv, hmv⟩ : ∃ x : Int, x = if ebs < m + y2 + (g + y1 - cbs) then ebs else m + y2 + (g + y1 - cbs) := ⟨_, rfl⟩
      rw [← hmv]
      have HMV := Lib.hid hmv
      obtain ⟨x, hx⟩ : ∃ x : World, x = (u.drewN (1 + nk)).setCell ⟨n + 1, 7, none⟩ (.int .i64 mv) := ⟨_, rfl⟩
      rw [← hx]
      have hGx : Hid (u.grownBy x (some (n + 1))) := Lib.hid (by rw [hx]; exact gtrans (grown_drewN u _ _) (grownSet _ _ _ _) (.inl rfl))
      have hOx : x.heap[n + 1]? = some (.cells #[.int .i64 cir, .int .i64 cbs, .int .i64 eir, .int .i64 ebs, .bool true, .bool aw, .int .i64 (cbs), .int .i64 mv, .int .i64 l, .bool true] 58 (0, 0)) := by rw [hx]; exact heap_setCell_same (u.drewN (1 + nk)) (n + 1) 7 _ 58 (.int .i64 mv) hOu.out
      have hwx : Hid (w.grownBy x none) := Lib.hid (grownNew hGv.out (gtrans hGu.out hGx.out (.inl rfl)) (by omega))
      have hnx : Hid (x.heap[n]? = some (.cells #[.int .i64 0, .int .i64 0, .int .i64 0, .int .i64 0, .bool false, .bool false, .int .i64 0, .int .i64 0, .int .i64 0, .bool false] 58 (0, 0))) := Lib.hid (blk_kept (blk_kept hnv.out hGu.out (by simp)) hGx.out (by simp))
      have o8 := (cell_of_row x (n + 1) 8 _ 58 (0, 0) hOx).trans (show _ = some (.int .i64 l) from rfl)
      have of8 : x.frozen? ⟨n + 1, 8, none⟩ = false := blk_frozen hOx 8
      have HOX := Lib.hid hOx
      clear hOx hx hmv hc3 hK v0 v1 v2 v3 v4 v5 v6 v7 v8 v9
      have hone : ((#[.int .i64 cir, .int .i64 cbs, .int .i64 eir, .int .i64 ebs, .bool true, .bool aw, .int .i64 (cbs), .int .i64 mv, .int .i64 t, .bool true] : Array Value).all (·.oneCell')) = true := by kernel_rfl
      have hsz : (Try.prog.info? 58).map (·.size) = some 10 := by kernel_rfl
      go_wp2_with (first | (refine wpList_load_row rfl 58 _ rfl (n + 1) rfl 58 _ (0, 0) _ (heap_setCell_same x (n + 1) 8 _ 58 (.int .i64 t) HOX.out) Try.underlying58 rfl (by kernel_rfl) ?_) | (refine wpList_store_rowTo rfl 58 _ _ rfl rfl n #[.int .i64 cir, .int .i64 cbs, .int .i64 eir, .int .i64 ebs, .bool true, .bool aw, .int .i64 (cbs), .int .i64 mv, .int .i64 t, .bool true] rfl rfl 58 _ (blk_far hnx.out (n + 1) 8 _ (by simp)) hsz rfl hone ?_))
      have h5 := setRow_heap (x.setCell ⟨n + 1, 8, none⟩ (.int .i64 t)) n _ #[.int .i64 cir, .int .i64 cbs, .int .i64 eir, .int .i64 ebs, .bool true, .bool aw, .int .i64 (cbs), .int .i64 mv, .int .i64 t, .bool true] 58 (0, 0) (blk_far hnx.out (n + 1) 8 _ (by simp))
      have hG5 : Hid (w.grownBy ((x.setCell ⟨n + 1, 8, none⟩ (.int .i64 t)).setRow n #[.int .i64 cir, .int .i64 cbs, .int .i64 eir, .int .i64 ebs, .bool true, .bool aw, .int .i64 (cbs), .int .i64 mv, .int .i64 t, .bool true]) none) := Lib.hid (grownNew (grownNew hwx.out (grownSet _ _ _ _) (by omega)) (grownSetRow _ _ _) (by omega))
      obtain ⟨x5, hx5⟩ : ∃ q : World, q = (x.setCell ⟨n + 1, 8, none⟩ (.int .i64 t)).setRow n #[.int .i64 cir, .int .i64 cbs, .int .i64 eir, .int .i64 ebs, .bool true, .bool aw, .int .i64 (cbs), .int .i64 mv, .int .i64 t, .bool true] := ⟨_, rfl⟩
      rw [← hx5] at h5 hG5 ⊢
      have r0 := cell_of_row x5 n 0 _ 58 (0, 0) h5
      have r1 := cell_of_row x5 n 1 _ 58 (0, 0) h5
      have r2 := cell_of_row x5 n 2 _ 58 (0, 0) h5
      have r3 := cell_of_row x5 n 3 _ 58 (0, 0) h5
      have r4 := cell_of_row x5 n 4 _ 58 (0, 0) h5
      have r5 := cell_of_row x5 n 5 _ 58 (0, 0) h5
      have r6 := cell_of_row x5 n 6 _ 58 (0, 0) h5
      have r7 := cell_of_row x5 n 7 _ 58 (0, 0) h5
      have r8 := cell_of_row x5 n 8 _ 58 (0, 0) h5
      have r9 := cell_of_row x5 n 9 _ 58 (0, 0) h5
      refine bodyPost_ret (v := .agg #[.int .i64 cir, .int .i64 cbs, .int .i64 eir, .int .i64 ebs, .bool true, .bool aw, .int .i64 (cbs), .int .i64 mv, .int .i64 t, .bool true]) (by simp [results, Try.results20, go_sem, r0, r1, r2, r3, r4, r5, r6, r7, r8, r9]) rfl ⟨?_, hG5.out⟩
      simp only [fillS, cellsA, ← HY1.out, ← HY2.out, if_pos HM1.out, HMV.out]
      simp
  · cases cp
    · have HM1 := Lib.hid hm1
      have hw3 : IntKind.i64.wrap (m + y2 + 0) = m + y2 + 0 := IntWalk.i64_in _ (by omega)
      go_quiet ((go_at_call 23; exact Calls.quiet_of (hc1 _)))
      go_wp2
      obtain ⟨u, hu⟩ : ∃ u : World, u = (v.drewN nq).setCell ⟨n + 1, 6, none⟩ (.int .i64 (g + y1)) := ⟨_, rfl⟩
      rw [← hu]
      have hGu : Hid (v.grownBy u (some (n + 1))) := Lib.hid (by rw [hu]; exact gtrans (grown_drewN v nq _) (grownSet _ _ _ _) (.inl rfl))
      have hOu : Hid (u.heap[n + 1]? = some (.cells #[.int .i64 cir, .int .i64 cbs, .int .i64 eir, .int .i64 ebs, .bool false, .bool aw, .int .i64 (g + y1), .int .i64 m, .int .i64 l, .bool true] 58 (0, 0))) := Lib.hid (by rw [hu]; exact heap_setCell_same (v.drewN nq) (n + 1) 6 _ 58 (.int .i64 (g + y1)) HO.out)
      have hqu : u.cell? ⟨n + 1 + 1, 0, none⟩ = some (.int .i64 (t - l)) := by rw [hu]; simp [go_sem, hq]
      clear hu hc1 hc2 hw1 hq v0 v1 v2 v3 v4 v5 v6 v7 v8 v9 of6 of7 of8 o6 o7 o8
      have hc2 := fun (k : Nat) => comes_any eir (t - l) (n + 1 + 1) (u.drewN k) hqu q5 hd
      rw [← HY2.out] at hc2
      have HU : Hid (MH u b ⟨cir, cbs, eir, ebs, false, aw, g, m, l⟩) := Lib.hid (blk_kept (blk_kept HH.out hGv.out (by simp)) hGu.out (by simpa using hbn))
      obtain ⟨v0, v1, v2, v3, v4, v5, v6, v7, v8, v9⟩ := HU.out.cells
      simp only at v0 v1 v2 v3 v4 v5 v6 v7 v8 v9
      have of7 : u.frozen? ⟨n + 1, 7, none⟩ = false := blk_frozen hOu.out 7
      have o7 := (cell_of_row u (n + 1) 7 _ 58 (0, 0) hOu.out).trans (show _ = some (.int .i64 m) from rfl)
      have hK : Hid (∀ w' : World, u.grownBy w' (some (n + 1)) → w'.cell? ⟨b, 2, none⟩ = some (.int .i64 eir) ∧ w'.cell? ⟨b, 3, none⟩ = some (.int .i64 ebs) ∧ w'.cell? ⟨b, 7, none⟩ = some (.int .i64 m) ∧ w'.cell? ⟨n + 1 + 1, 0, none⟩ = some (.int .i64 (t - l))) := Lib.hid (fun w' hg => by
        obtain ⟨_, _, x2, x3, _, _, _, x7, _, _⟩ := (HU.out.kept hg (by simpa using hbn)).cells
        exact ⟨x2, x3, x7, hg.cell hqu (by simp)⟩)
      have hc3 := fun (W : World) (hq : W.cell? ⟨n + 1 + 1, 0, none⟩ = some (.int .i64 (t - l))) => comes_any eir (t - l) (n + 1 + 1) W hq q5 hd
      rw [← HY2.out] at hc3
      clear hc2
      go_region_held3 (fun w' => w'.cell? ⟨b, 2, none⟩ = some (.int .i64 eir) ∧ w'.cell? ⟨b, 3, none⟩ = some (.int .i64 ebs) ∧ w'.cell? ⟨b, 7, none⟩ = some (.int .i64 m) ∧ w'.cell? ⟨n + 1 + 1, 0, none⟩ = some (.int .i64 (t - l)))
        (first | exact hK.out _ (grown_drewN _ _ _) | exact hK.out _ (gtrans (grown_drewN _ _ _) (grown_drewN _ _ _) (.inl rfl)) | exact hK.out _ (gtrans (grown_drewN _ _ _) (grownSet _ _ _ _) (.inl rfl)) | exact hK.out _ (gtrans (gtrans (grown_drewN _ _ _) (grown_drewN _ _ _) (.inl rfl)) (grownSet _ _ _ _) (.inl rfl)))
        (first | (go_at_call 23; go_split_ands; refine (hc3 _ (by assumption)).mono ?_; rintro e wN ⟨rfl, nk, rfl⟩))
      obtain ⟨mv, hmv⟩ : ∃ x : Int, x = if ebs < m + y2 then ebs else m + y2 := ⟨_, rfl⟩
      rw [← hmv]
      have HMV := Lib.hid hmv
      obtain ⟨x, hx⟩ : ∃ x : World, x = (u.drewN (1 + nk)).setCell ⟨n + 1, 7, none⟩ (.int .i64 mv) := ⟨_, rfl⟩
      rw [← hx]
      have hGx : Hid (u.grownBy x (some (n + 1))) := Lib.hid (by rw [hx]; exact gtrans (grown_drewN u _ _) (grownSet _ _ _ _) (.inl rfl))
      have hOx : x.heap[n + 1]? = some (.cells #[.int .i64 cir, .int .i64 cbs, .int .i64 eir, .int .i64 ebs, .bool false, .bool aw, .int .i64 (g + y1), .int .i64 mv, .int .i64 l, .bool true] 58 (0, 0)) := by rw [hx]; exact heap_setCell_same (u.drewN (1 + nk)) (n + 1) 7 _ 58 (.int .i64 mv) hOu.out
      have hwx : Hid (w.grownBy x none) := Lib.hid (grownNew hGv.out (gtrans hGu.out hGx.out (.inl rfl)) (by omega))
      have hnx : Hid (x.heap[n]? = some (.cells #[.int .i64 0, .int .i64 0, .int .i64 0, .int .i64 0, .bool false, .bool false, .int .i64 0, .int .i64 0, .int .i64 0, .bool false] 58 (0, 0))) := Lib.hid (blk_kept (blk_kept hnv.out hGu.out (by simp)) hGx.out (by simp))
      have o8 := (cell_of_row x (n + 1) 8 _ 58 (0, 0) hOx).trans (show _ = some (.int .i64 l) from rfl)
      have of8 : x.frozen? ⟨n + 1, 8, none⟩ = false := blk_frozen hOx 8
      have HOX := Lib.hid hOx
      clear hOx hx hmv hc3 hK v0 v1 v2 v3 v4 v5 v6 v7 v8 v9
      have hone : ((#[.int .i64 cir, .int .i64 cbs, .int .i64 eir, .int .i64 ebs, .bool false, .bool aw, .int .i64 (g + y1), .int .i64 mv, .int .i64 t, .bool true] : Array Value).all (·.oneCell')) = true := by kernel_rfl
      have hsz : (Try.prog.info? 58).map (·.size) = some 10 := by kernel_rfl
      go_wp2_with (first | (refine wpList_load_row rfl 58 _ rfl (n + 1) rfl 58 _ (0, 0) _ (heap_setCell_same x (n + 1) 8 _ 58 (.int .i64 t) HOX.out) Try.underlying58 rfl (by kernel_rfl) ?_) | (refine wpList_store_rowTo rfl 58 _ _ rfl rfl n #[.int .i64 cir, .int .i64 cbs, .int .i64 eir, .int .i64 ebs, .bool false, .bool aw, .int .i64 (g + y1), .int .i64 mv, .int .i64 t, .bool true] rfl rfl 58 _ (blk_far hnx.out (n + 1) 8 _ (by simp)) hsz rfl hone ?_))
      have h5 := setRow_heap (x.setCell ⟨n + 1, 8, none⟩ (.int .i64 t)) n _ #[.int .i64 cir, .int .i64 cbs, .int .i64 eir, .int .i64 ebs, .bool false, .bool aw, .int .i64 (g + y1), .int .i64 mv, .int .i64 t, .bool true] 58 (0, 0) (blk_far hnx.out (n + 1) 8 _ (by simp))
      have hG5 : Hid (w.grownBy ((x.setCell ⟨n + 1, 8, none⟩ (.int .i64 t)).setRow n #[.int .i64 cir, .int .i64 cbs, .int .i64 eir, .int .i64 ebs, .bool false, .bool aw, .int .i64 (g + y1), .int .i64 mv, .int .i64 t, .bool true]) none) := Lib.hid (grownNew (grownNew hwx.out (grownSet _ _ _ _) (by omega)) (grownSetRow _ _ _) (by omega))
      obtain ⟨x5, hx5⟩ : ∃ q : World, q = (x.setCell ⟨n + 1, 8, none⟩ (.int .i64 t)).setRow n #[.int .i64 cir, .int .i64 cbs, .int .i64 eir, .int .i64 ebs, .bool false, .bool aw, .int .i64 (g + y1), .int .i64 mv, .int .i64 t, .bool true] := ⟨_, rfl⟩
      rw [← hx5] at h5 hG5 ⊢
      have r0 := cell_of_row x5 n 0 _ 58 (0, 0) h5
      have r1 := cell_of_row x5 n 1 _ 58 (0, 0) h5
      have r2 := cell_of_row x5 n 2 _ 58 (0, 0) h5
      have r3 := cell_of_row x5 n 3 _ 58 (0, 0) h5
      have r4 := cell_of_row x5 n 4 _ 58 (0, 0) h5
      have r5 := cell_of_row x5 n 5 _ 58 (0, 0) h5
      have r6 := cell_of_row x5 n 6 _ 58 (0, 0) h5
      have r7 := cell_of_row x5 n 7 _ 58 (0, 0) h5
      have r8 := cell_of_row x5 n 8 _ 58 (0, 0) h5
      have r9 := cell_of_row x5 n 9 _ 58 (0, 0) h5
      refine bodyPost_ret (v := .agg #[.int .i64 cir, .int .i64 cbs, .int .i64 eir, .int .i64 ebs, .bool false, .bool aw, .int .i64 (g + y1), .int .i64 mv, .int .i64 t, .bool true]) (by simp [results, Try.results20, go_sem, r0, r1, r2, r3, r4, r5, r6, r7, r8, r9]) rfl ⟨?_, hG5.out⟩
      simp only [fillS, cellsA, ← HY1.out, ← HY2.out, if_neg (Int.not_lt.2 HM1.out), HMV.out]
      simp
    · have HM1 := Lib.hid hm1
      have hw3 : IntKind.i64.wrap (m + y2 + 0) = m + y2 + 0 := IntWalk.i64_in _ (by omega)
      go_quiet ((go_at_call 23; exact Calls.quiet_of (hc1 _)))
      go_wp2
      obtain ⟨u, hu⟩ : ∃ u : World, u = (v.drewN nq).setCell ⟨n + 1, 6, none⟩ (.int .i64 (g + y1)) := ⟨_, rfl⟩
      rw [← hu]
      have hGu : Hid (v.grownBy u (some (n + 1))) := Lib.hid (by rw [hu]; exact gtrans (grown_drewN v nq _) (grownSet _ _ _ _) (.inl rfl))
      have hOu : Hid (u.heap[n + 1]? = some (.cells #[.int .i64 cir, .int .i64 cbs, .int .i64 eir, .int .i64 ebs, .bool true, .bool aw, .int .i64 (g + y1), .int .i64 m, .int .i64 l, .bool true] 58 (0, 0))) := Lib.hid (by rw [hu]; exact heap_setCell_same (v.drewN nq) (n + 1) 6 _ 58 (.int .i64 (g + y1)) HO.out)
      have hqu : u.cell? ⟨n + 1 + 1, 0, none⟩ = some (.int .i64 (t - l)) := by rw [hu]; simp [go_sem, hq]
      clear hu hc1 hc2 hw1 hq v0 v1 v2 v3 v4 v5 v6 v7 v8 v9 of6 of7 of8 o6 o7 o8
      have hc2 := fun (k : Nat) => comes_any eir (t - l) (n + 1 + 1) (u.drewN k) hqu q5 hd
      rw [← HY2.out] at hc2
      have HU : Hid (MH u b ⟨cir, cbs, eir, ebs, true, aw, g, m, l⟩) := Lib.hid (blk_kept (blk_kept HH.out hGv.out (by simp)) hGu.out (by simpa using hbn))
      obtain ⟨v0, v1, v2, v3, v4, v5, v6, v7, v8, v9⟩ := HU.out.cells
      simp only at v0 v1 v2 v3 v4 v5 v6 v7 v8 v9
      have of7 : u.frozen? ⟨n + 1, 7, none⟩ = false := blk_frozen hOu.out 7
      have o7 := (cell_of_row u (n + 1) 7 _ 58 (0, 0) hOu.out).trans (show _ = some (.int .i64 m) from rfl)
      have hK : Hid (∀ w' : World, u.grownBy w' (some (n + 1)) → w'.cell? ⟨b, 2, none⟩ = some (.int .i64 eir) ∧ w'.cell? ⟨b, 3, none⟩ = some (.int .i64 ebs) ∧ w'.cell? ⟨b, 7, none⟩ = some (.int .i64 m) ∧ w'.cell? ⟨n + 1 + 1, 0, none⟩ = some (.int .i64 (t - l))) := Lib.hid (fun w' hg => by
        obtain ⟨_, _, x2, x3, _, _, _, x7, _, _⟩ := (HU.out.kept hg (by simpa using hbn)).cells
        exact ⟨x2, x3, x7, hg.cell hqu (by simp)⟩)
      have hc3 := fun (W : World) (hq : W.cell? ⟨n + 1 + 1, 0, none⟩ = some (.int .i64 (t - l))) => comes_any eir (t - l) (n + 1 + 1) W hq q5 hd
      rw [← HY2.out] at hc3
      clear hc2
      go_region_held3 (fun w' => w'.cell? ⟨b, 2, none⟩ = some (.int .i64 eir) ∧ w'.cell? ⟨b, 3, none⟩ = some (.int .i64 ebs) ∧ w'.cell? ⟨b, 7, none⟩ = some (.int .i64 m) ∧ w'.cell? ⟨n + 1 + 1, 0, none⟩ = some (.int .i64 (t - l)))
        (first | exact hK.out _ (grown_drewN _ _ _) | exact hK.out _ (gtrans (grown_drewN _ _ _) (grown_drewN _ _ _) (.inl rfl)) | exact hK.out _ (gtrans (grown_drewN _ _ _) (grownSet _ _ _ _) (.inl rfl)) | exact hK.out _ (gtrans (gtrans (grown_drewN _ _ _) (grown_drewN _ _ _) (.inl rfl)) (grownSet _ _ _ _) (.inl rfl)))
        (first | (go_at_call 23; go_split_ands; refine (hc3 _ (by assumption)).mono ?_; rintro e wN ⟨rfl, nk, rfl⟩))
      obtain ⟨mv, hmv⟩ : ∃ x : Int, x = if ebs < m + y2 then ebs else m + y2 := ⟨_, rfl⟩
      rw [← hmv]
      have HMV := Lib.hid hmv
      obtain ⟨x, hx⟩ : ∃ x : World, x = (u.drewN (1 + nk)).setCell ⟨n + 1, 7, none⟩ (.int .i64 mv) := ⟨_, rfl⟩
      rw [← hx]
      have hGx : Hid (u.grownBy x (some (n + 1))) := Lib.hid (by rw [hx]; exact gtrans (grown_drewN u _ _) (grownSet _ _ _ _) (.inl rfl))
      have hOx : x.heap[n + 1]? = some (.cells #[.int .i64 cir, .int .i64 cbs, .int .i64 eir, .int .i64 ebs, .bool true, .bool aw, .int .i64 (g + y1), .int .i64 mv, .int .i64 l, .bool true] 58 (0, 0)) := by rw [hx]; exact heap_setCell_same (u.drewN (1 + nk)) (n + 1) 7 _ 58 (.int .i64 mv) hOu.out
      have hwx : Hid (w.grownBy x none) := Lib.hid (grownNew hGv.out (gtrans hGu.out hGx.out (.inl rfl)) (by omega))
      have hnx : Hid (x.heap[n]? = some (.cells #[.int .i64 0, .int .i64 0, .int .i64 0, .int .i64 0, .bool false, .bool false, .int .i64 0, .int .i64 0, .int .i64 0, .bool false] 58 (0, 0))) := Lib.hid (blk_kept (blk_kept hnv.out hGu.out (by simp)) hGx.out (by simp))
      have o8 := (cell_of_row x (n + 1) 8 _ 58 (0, 0) hOx).trans (show _ = some (.int .i64 l) from rfl)
      have of8 : x.frozen? ⟨n + 1, 8, none⟩ = false := blk_frozen hOx 8
      have HOX := Lib.hid hOx
      clear hOx hx hmv hc3 hK v0 v1 v2 v3 v4 v5 v6 v7 v8 v9
      have hone : ((#[.int .i64 cir, .int .i64 cbs, .int .i64 eir, .int .i64 ebs, .bool true, .bool aw, .int .i64 (g + y1), .int .i64 mv, .int .i64 t, .bool true] : Array Value).all (·.oneCell')) = true := by kernel_rfl
      have hsz : (Try.prog.info? 58).map (·.size) = some 10 := by kernel_rfl
      go_wp2_with (first | (refine wpList_load_row rfl 58 _ rfl (n + 1) rfl 58 _ (0, 0) _ (heap_setCell_same x (n + 1) 8 _ 58 (.int .i64 t) HOX.out) Try.underlying58 rfl (by kernel_rfl) ?_) | (refine wpList_store_rowTo rfl 58 _ _ rfl rfl n #[.int .i64 cir, .int .i64 cbs, .int .i64 eir, .int .i64 ebs, .bool true, .bool aw, .int .i64 (g + y1), .int .i64 mv, .int .i64 t, .bool true] rfl rfl 58 _ (blk_far hnx.out (n + 1) 8 _ (by simp)) hsz rfl hone ?_))
      have h5 := setRow_heap (x.setCell ⟨n + 1, 8, none⟩ (.int .i64 t)) n _ #[.int .i64 cir, .int .i64 cbs, .int .i64 eir, .int .i64 ebs, .bool true, .bool aw, .int .i64 (g + y1), .int .i64 mv, .int .i64 t, .bool true] 58 (0, 0) (blk_far hnx.out (n + 1) 8 _ (by simp))
      have hG5 : Hid (w.grownBy ((x.setCell ⟨n + 1, 8, none⟩ (.int .i64 t)).setRow n #[.int .i64 cir, .int .i64 cbs, .int .i64 eir, .int .i64 ebs, .bool true, .bool aw, .int .i64 (g + y1), .int .i64 mv, .int .i64 t, .bool true]) none) := Lib.hid (grownNew (grownNew hwx.out (grownSet _ _ _ _) (by omega)) (grownSetRow _ _ _) (by omega))
      obtain ⟨x5, hx5⟩ : ∃ q : World, q = (x.setCell ⟨n + 1, 8, none⟩ (.int .i64 t)).setRow n #[.int .i64 cir, .int .i64 cbs, .int .i64 eir, .int .i64 ebs, .bool true, .bool aw, .int .i64 (g + y1), .int .i64 mv, .int .i64 t, .bool true] := ⟨_, rfl⟩
      rw [← hx5] at h5 hG5 ⊢
      have r0 := cell_of_row x5 n 0 _ 58 (0, 0) h5
      have r1 := cell_of_row x5 n 1 _ 58 (0, 0) h5
      have r2 := cell_of_row x5 n 2 _ 58 (0, 0) h5
      have r3 := cell_of_row x5 n 3 _ 58 (0, 0) h5
      have r4 := cell_of_row x5 n 4 _ 58 (0, 0) h5
      have r5 := cell_of_row x5 n 5 _ 58 (0, 0) h5
      have r6 := cell_of_row x5 n 6 _ 58 (0, 0) h5
      have r7 := cell_of_row x5 n 7 _ 58 (0, 0) h5
      have r8 := cell_of_row x5 n 8 _ 58 (0, 0) h5
      have r9 := cell_of_row x5 n 9 _ 58 (0, 0) h5
      refine bodyPost_ret (v := .agg #[.int .i64 cir, .int .i64 cbs, .int .i64 eir, .int .i64 ebs, .bool true, .bool aw, .int .i64 (g + y1), .int .i64 mv, .int .i64 t, .bool true]) (by simp [results, Try.results20, go_sem, r0, r1, r2, r3, r4, r5, r6, r7, r8, r9]) rfl ⟨?_, hG5.out⟩
      simp only [fillS, cellsA, ← HY1.out, ← HY2.out, if_neg (Int.not_lt.2 HM1.out), HMV.out]
      simp
end Go.Proofs.Ytjddjijcfhgndaa.W
