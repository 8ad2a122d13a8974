/-
  A link's Twin, Set and New.
-/
import Derived.Test.YtaidfcehicffbaaA5
set_option linter.unusedVariables false
set_option linter.unusedSimpArgs false
namespace Go.Proofs.Ytaidfcehicffbaa.W
open Go.RowKit Go.Deep

theorem Wr.drew {w : World} {b : Nat} {dn : Bool} {G : Rows4} (h : Wr w b dn G) : Wr w.drew b dn G := h.kept (grown_drew _ _)
theorem twin_bad (b : Nat) (d n : Int) (w : World) (h : w.cell? ⟨b, 0, none⟩ = some (.bool true)) (hd : dOK d = false) : Calls Try.prog 13 #[.pointer (some ⟨b, 0, none⟩), .int .i64 d, .int .i64 n] w fun e w' => e = .returned (.int .i64 5) ∧ w' = w := by
  have hI := is_of b d w h
  rw [hd] at hI
  have I := Lib.hid hI
  have N := Lib.hid (none_of b w h)
  clear h hI
  go_enter Try.func13, Try.ntmps13
  go_wp2_with (first | (go_at_call 29; refine I.out.mono ?_; rintro e w1 ⟨rfl, rfl⟩) | (go_at_call 34; refine N.out.mono ?_; rintro e w1 ⟨rfl, rfl⟩))
  go_ret
  exact ⟨rfl, rfl⟩
theorem twin_out (b d : Nat) (n : Int) (dn : Bool) (G : Rows4) (w : World) (h : Wr w b dn G) (hd : d < 2) (hn : (G d).length ≤ 1000) (hr : inR (G d) n = false) : Calls Try.prog 13 #[.pointer (some ⟨b, 0, none⟩), .int .i64 (d : Int), .int .i64 n] w fun e w' => e = .returned (.int .i64 5) ∧ w' = w := by
  have hI := is_of b d w h.cells.1
  rw [dOK_nat hd] at hI
  have I := Lib.hid hI
  have N := Lib.hid (none_of b w h.cells.1)
  have hH := has_w b (2 + d) d dn G n w h (by omega) rfl hn
  rw [hr] at hH
  have H := Lib.hid hH
  clear h hI hH hr
  go_enter Try.func13, Try.ntmps13
  go_wp2_with (first | (go_at_call 29; refine I.out.mono ?_; rintro e w1 ⟨rfl, rfl⟩) | (go_at_call 34; refine N.out.mono ?_; rintro e w1 ⟨rfl, rfl⟩) | (go_at_call 35; refine H.out.mono ?_; rintro e w1 ⟨rfl, rfl⟩))
  go_ret
  exact ⟨rfl, rfl⟩
theorem twin_many (b d : Nat) (n : Int) (dn : Bool) (G : Rows4) (w : World) (h : Wr w b dn G) (hd : d < 2) (hn : (G d).length ≤ 1000) (hr : inR (G d) n = true) (hq : 32 ≤ (G d).length) : Calls Try.prog 13 #[.pointer (some ⟨b, 0, none⟩), .int .i64 (d : Int), .int .i64 n] w fun e w' => e = .returned (.int .i64 3) ∧ w' = w := by
  have hI := is_of b d w h.cells.1
  rw [dOK_nat hd] at hI
  have I := Lib.hid hI
  have N := Lib.hid (none_of b w h.cells.1)
  have hH := has_w b (2 + d) d dn G n w h (by omega) rfl hn
  rw [hr] at hH
  have H := Lib.hid hH
  obtain ⟨a, c, hc⟩ := h.cell (show d < 4 by omega)
  clear h hI hH hr
  go_enter Try.func13, Try.ntmps13
  go_wp2_with (first | (go_at_call 29; refine I.out.mono ?_; rintro e w1 ⟨rfl, rfl⟩) | (go_at_call 34; refine N.out.mono ?_; rintro e w1 ⟨rfl, rfl⟩) | (go_at_call 35; refine H.out.mono ?_; rintro e w1 ⟨rfl, rfl⟩))
  go_ret
  exact ⟨rfl, rfl⟩
set_option maxHeartbeats 1000000 in
theorem twin_ok (b d n : Nat) (dn : Bool) (G : Rows4) (w : World) (h : Wr w b dn G) (hd : d < 2) (hr : n < (G d).length) (hq : (G d).length < 32) : Calls Try.prog 13 #[.pointer (some ⟨b, 0, none⟩), .int .i64 (d : Int), .int .i64 (n : Int)] w fun e w' => e = .returned (.int .i64 0) ∧ Wr w' b dn (upd G d (G d ++ [(G d).getD n []])) ∧ w.grownBy w' (some b) := by
  have hI := is_of b d w h.cells.1
  rw [dOK_nat hd] at hI
  have I := Lib.hid hI
  have N := Lib.hid (none_of b w h.cells.1)
  have hH := has_w b (2 + d) d dn G n w h (by omega) rfl (by omega)
  rw [show inR (G d) n = true by unfold inR; simp; omega] at hH
  have H := Lib.hid hH
  obtain ⟨g, c, a, l, ac, hc, he, hb, hl⟩ := h.elem (show d < 4 by omega) hr
  have P := Lib.hid (put_w b (2 + d) d dn G (.slice a l ac) _ w.drew h.drew (by omega) rfl (hb.kept (grown_drew _ none) (by simp)) hl (by omega))
  clear h hI hH hb
  generalize (G d).length = L at *
  have q1 : (0 : Int) ≤ (d : Int) := by omega
  have q2 : (d : Int) < 2 := by omega
  have q3 : (0 : Int) ≤ (n : Int) := by omega
  have q4 : (n : Int) < (L : Int) := by omega
  go_enter Try.func13, Try.ntmps13
  go_upto_region 7 with (first | (go_at_call 29; refine I.out.mono ?_; rintro e w ⟨rfl, rfl⟩) | (go_at_call 34; refine N.out.mono ?_; rintro e w ⟨rfl, rfl⟩) | (go_at_call 35; refine H.out.mono ?_; rintro e w ⟨rfl, rfl⟩))
  have hc2 : w.drew.cell? ⟨b, 2 + d, none⟩ = some (.slice (some ⟨g, 0, none⟩) L c) := hc
  have he2 : w.drew.cell? ⟨g, n, none⟩ = some (.slice a l ac) := he
  go_region_with ((go_at_call 32; refine P.out.mono ?_; rintro e w1 ⟨rfl, h1, h2⟩; have H1 := Lib.hid h1; have H2 := Lib.hid h2; clear h1 h2))
  all_goals
    go_wp2
    go_ret
    exact ⟨rfl, H1.out, gn2 (grown_drew _ _) H2.out⟩

theorem new_of (w : World) : Calls Try.prog 7 #[] w fun e w' => ∃ b, e = .returned (.pointer (some ⟨b, 0, none⟩)) ∧ w.heap.size ≤ b ∧ Wr w' b false (fun _ => []) ∧ w.grownBy w' none := by
  go_enter Try.func7, Try.ntmps7
  go_wp2
  go_ret
  refine ⟨_, rfl, Nat.le_refl _, ⟨fun _ => .slice none 0 0, fun _ => [], heap_alloc_new w _, fun k hk => ⟨⟨World.ownsRow_nil _ _ _ _, fun p hp => by simp at hp⟩, rfl⟩⟩, World.grownBy_alloc _ _ _⟩
def clr : Rows4 := fun _ => []
def sumL (G : Rows4) : Nat := (G 0).length + (G 2).length + ((G 1).length + (G 3).length)
def sumK (G : Rows4) : Nat → Nat
  | 0 => 0
  | k + 1 => sumK G k + ((G k).length + (G (2 + k)).length)
theorem Wr.down {w : World} {b : Nat} {dn : Bool} {G : Rows4} (h : Wr w b dn G) (dn' : Bool) : Wr (w.setCell ⟨b, 1, none⟩ (.bool dn')) b dn' G := by
  obtain ⟨rv, F, hb, hF⟩ := h.ex
  exact ⟨rv, F, heap_setCell_same w b 1 _ 60 _ hb, fun k hk => ⟨(hF k hk).1.box hb (grownSet _ _ _ _), (hF k hk).2⟩⟩
set_option maxHeartbeats 2000000 in
theorem set_up (b : Nat) (dn : Bool) (G : Rows4) (w : World) (h : Wr w b dn G) (hn : ∀ k, k < 4 → (G k).length ≤ 1000) : Calls Try.prog 18 #[.pointer (some ⟨b, 0, none⟩), .bool true] w fun e w' => e = .returned (.int .i64 0) ∧ Wr w' b false G ∧ w.grownBy w' (some b) := by
  have N := Lib.hid (none_of b w h.cells.1)
  have c1 := h.cells.2.1
  have z1 := h.cells.2.2
  obtain ⟨W1, hW1⟩ : ∃ x : World, x = w.setCell ⟨b, 1, none⟩ (.bool false) := ⟨_, rfl⟩
  have h1 := h.down false
  have hg1 := grownSet w b 1 (.bool false)
  rw [← hW1] at h1 hg1
  have HG1 := Lib.hid hg1
  have HW := Lib.hid h1
  have HN := Lib.hid hn
  clear h hn h1 hg1
  go_enter Try.func18, Try.ntmps18
  go_wp2_with (first | (go_at_call 34; refine N.out.mono ?_; rintro e w ⟨rfl, rfl⟩))
  rw [← hW1]
  clear hW1 c1 z1 N
  go_loopw [5, 14] (fun nv iv wr => ∃ k q : Nat, nv = .int .i64 (sumK G k : Int) ∧ iv = .int .i64 (k : Int) ∧ k ≤ 2 ∧ wr = W1.drewN q) (fun _ iv _ => 2 - (intOf iv).toNat)
  case atStart => exact ⟨0, 0, rfl, rfl, by omega, rfl⟩
  case round =>
    obtain ⟨k, q, rfl, rfl, hk, rfl⟩ := hrel
    by_cases hlt : k < 2
    · obtain ⟨a, c, hc⟩ := HW.out.cell (show k < 4 by omega)
      obtain ⟨a2, c2, hc2⟩ := HW.out.cell (show 2 + k < 4 by omega)
      have hb1 := HN.out k (by omega)
      have hb2 := HN.out (2 + k) (by omega)
      have hs : sumK G k ≤ 2000 := by
        have h0 := HN.out 0 (by omega)
        have h2 := HN.out (2 + 0) (by omega)
        match k, hlt with
        | 0, _ => simp [sumK]
        | 1, _ => simp only [sumK]; omega
      have hsk : sumK G (k + 1) = sumK G k + ((G k).length + (G (2 + k)).length) := rfl
      have HSK := Lib.hid hsk
      clear hsk
      have e1 : ∀ q, (W1.drewN q).cell? ⟨b, 2 + k, none⟩ = some (.slice a (G k).length c) := fun q => hc
      have e2 : ∀ q, (W1.drewN q).cell? ⟨b, 4 + k, none⟩ = some (.slice a2 (G (2 + k)).length c2) := fun q => by
        have : 2 + (2 + k) = 4 + k := by omega
        rw [this] at hc2
        exact hc2
      generalize sumK G k = s at *
      generalize (G k).length = l1 at *
      generalize (G (2 + k)).length = l2 at *
      clear hc hc2
      have q1 : (0 : Int) ≤ (k : Int) := by omega
      have q2 : (k : Int) < 2 := by omega
      go_wp2
      go_quiet (fail)
      go_wp2
      refine ⟨⟨k + 1, q + nq, ?_, by go_num, by omega, rfl⟩, ?_⟩
      · rw [HSK.out]
        push_cast
        rfl
      · simp [intOf]
        omega
    · obtain rfl : k = 2 := by omega
      go_wp2
      go_ret
      exact ⟨rfl, HW.out.kept (grown_drewN _ _ _), gn HG1.out (grown_drewN _ _ _)⟩
set_option maxHeartbeats 2000000 in
theorem set_down (b : Nat) (dn : Bool) (G : Rows4) (w : World) (h : Wr w b dn G) (hn : ∀ k, k < 4 → (G k).length ≤ 1000) : Calls Try.prog 18 #[.pointer (some ⟨b, 0, none⟩), .bool false] w fun e w' => e = .returned (.int .i64 (sumL G : Int)) ∧ Wr w' b true clr ∧ w.grownBy w' (some b) := by
  have N := Lib.hid (none_of b w h.cells.1)
  have c1 := h.cells.2.1
  have z1 := h.cells.2.2
  obtain ⟨W1, hW1⟩ : ∃ x : World, x = w.setCell ⟨b, 1, none⟩ (.bool true) := ⟨_, rfl⟩
  have h1 := h.down true
  have hg1 := grownSet w b 1 (.bool true)
  rw [← hW1] at h1 hg1
  have HG1 := Lib.hid hg1
  have HW := Lib.hid h1
  have HN := Lib.hid hn
  clear h hn h1 hg1
  go_enter Try.func18, Try.ntmps18
  go_wp2_with (first | (go_at_call 34; refine N.out.mono ?_; rintro e w ⟨rfl, rfl⟩))
  rw [← hW1]
  clear hW1 c1 z1 N
  go_loopw [5, 14] (fun nv iv wr => ∃ k q : Nat, nv = .int .i64 (sumK G k : Int) ∧ iv = .int .i64 (k : Int) ∧ k ≤ 2 ∧ wr = W1.drewN q) (fun _ iv _ => 2 - (intOf iv).toNat)
  case atStart => exact ⟨0, 0, rfl, rfl, by omega, rfl⟩
  case round =>
    obtain ⟨k, q, rfl, rfl, hk, rfl⟩ := hrel
    by_cases hlt : k < 2
    · obtain ⟨a, c, hc⟩ := HW.out.cell (show k < 4 by omega)
      obtain ⟨a2, c2, hc2⟩ := HW.out.cell (show 2 + k < 4 by omega)
      have hb1 := HN.out k (by omega)
      have hb2 := HN.out (2 + k) (by omega)
      have hs : sumK G k ≤ 2000 := by
        have h0 := HN.out 0 (by omega)
        have h2 := HN.out (2 + 0) (by omega)
        match k, hlt with
        | 0, _ => simp [sumK]
        | 1, _ => simp only [sumK]; omega
      have hsk : sumK G (k + 1) = sumK G k + ((G k).length + (G (2 + k)).length) := rfl
      have HSK := Lib.hid hsk
      clear hsk
      have e1 : ∀ q, (W1.drewN q).cell? ⟨b, 2 + k, none⟩ = some (.slice a (G k).length c) := fun q => hc
      have e2 : ∀ q, (W1.drewN q).cell? ⟨b, 4 + k, none⟩ = some (.slice a2 (G (2 + k)).length c2) := fun q => by
        have : 2 + (2 + k) = 4 + k := by omega
        rw [this] at hc2
        exact hc2
      generalize sumK G k = s at *
      generalize (G k).length = l1 at *
      generalize (G (2 + k)).length = l2 at *
      clear hc hc2
      have q1 : (0 : Int) ≤ (k : Int) := by omega
      have q2 : (k : Int) < 2 := by omega
      go_wp2
      go_quiet (fail)
      go_wp2
      refine ⟨⟨k + 1, q + nq, ?_, by go_num, by omega, rfl⟩, ?_⟩
      · rw [HSK.out]
        push_cast
        rfl
      · simp [intOf]
        omega
    · obtain rfl : k = 2 := by omega
      have HX := Lib.hid (HW.out.kept (grown_drewN W1 q none))
      have HG2 := Lib.hid (gn HG1.out (grown_drewN W1 q none))
      obtain ⟨x, hx⟩ : ∃ x : World, x = W1.drewN q := ⟨_, rfl⟩
      rw [← hx] at HX HG2 ⊢
      clear hx HG1
      have hs : (sumK G 2 : Int) = (sumL G : Int) := by simp only [sumK, sumL]; push_cast; omega
      rw [hs]
      clear hs
      have hx2 := HX.out
      obtain ⟨rv, F, hb, hF⟩ := hx2.ex
      have HB := Lib.hid hb
      have HF := Lib.hid hF
      have c2 := (cell_of_row x b 2 _ 60 (0, 0) hb).trans (csOf_get (show 0 < 4 by omega))
      have c3 := (cell_of_row x b 3 _ 60 (0, 0) hb).trans (csOf_get (show 1 < 4 by omega))
      have c4 := (cell_of_row x b 4 _ 60 (0, 0) hb).trans (csOf_get (show 2 < 4 by omega))
      have c5 := (cell_of_row x b 5 _ 60 (0, 0) hb).trans (csOf_get (show 3 < 4 by omega))
      have z2 := blk_frozen hb 2
      have z3 := blk_frozen hb 3
      have z4 := blk_frozen hb 4
      have z5 := blk_frozen hb 5
      clear hx2 hb hF
      go_wp2
      go_ret
      have h2 := heap_setCell_same x b 2 _ 60 (.slice none 0 0) HB.out
      have h3 := heap_setCell_same _ b 3 _ 60 (.slice none 0 0) h2
      have h4 := heap_setCell_same _ b 4 _ 60 (.slice none 0 0) h3
      have h5 := heap_setCell_same _ b 5 _ 60 (.slice none 0 0) h4
      exact ⟨rfl, ⟨fun _ => .slice none 0 0, fun _ => [], h5, fun k hk => ⟨⟨World.ownsRow_nil _ _ _ _, fun p hp => by simp at hp⟩, rfl⟩⟩, gtrans (gtrans (gtrans (gtrans HG2.out (grownSet _ _ _ _) (.inl rfl)) (grownSet _ _ _ _) (.inl rfl)) (grownSet _ _ _ _) (.inl rfl)) (grownSet _ _ _ _) (.inl rfl)⟩
end Go.Proofs.Ytaidfcehicffbaa.W
