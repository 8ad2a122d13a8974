/-
  What Mark and Levels of a meter do that New made, over any memory.
-/
import Derived.Test.YtjddjijcfhgndaaW2
import Derived.Test.YtjddjijcfhgndaaW3
import Derived.Laws.ResultCell
import Derived.Great.BuildSlice
import Derived.OwnWalk
set_option linter.unusedVariables false
set_option linter.unusedSimpArgs false
namespace Go.Proofs.Ytjddjijcfhgndaa.W
open Go.RowKit

/-- A frame's size and colour may be. -/
def okf (n c : Int) : Prop := 1 ≤ n ∧ n ≤ 2048 ∧ 1 ≤ c ∧ c ≤ 3
/-- What Mark leaves and tells. -/
def markS (s : MS) (t n c : Int) : MS × Int :=
  let s' := fillS s t
  let c' := if s.aw then c else 1
  if c' = 1 ∧ n ≤ s'.g then ({ s' with g := s'.g - n }, 1)
  else if c' ≤ 2 ∧ n ≤ s'.m then ({ s' with m := s'.m - n }, 2)
  else (s', 3)

theorem mark_late (b : Nat) (s : MS) (t n c : Int) (w : World) (h : MH w b s) (hs : Good s) (h1 : ¬ (s.l ≤ t ∧ t ≤ 1099511627776)) :
    Calls Try.prog 10 #[.pointer (some ⟨b, 0, none⟩), .int .i64 t, .int .i64 n, .int .i64 c] w fun e w' => e = .returned (.tuple #[.int .i64 0, .int .i64 1]) ∧ w = w' := by
  obtain ⟨_, _, _, _, _, _, _, _, h8, h9⟩ := h.cells
  have H1 := Lib.hid h1
  clear h1 hs h
  go_enter Try.func10, Try.ntmps10
  go_wp2_with (first | (go_at_call 18; refine (none_made _ _ h9).mono ?_; rintro e w' ⟨rfl, rfl⟩) | (go_at_call 19; refine (timed_no _ _ _ _ h8 H1.out).mono ?_; rintro e w' ⟨rfl, rfl⟩))
  go_ret2
  exact ⟨rfl, rfl⟩
theorem mark_bad (b : Nat) (s : MS) (t n c : Int) (w : World) (h : MH w b s) (h1 : s.l ≤ t) (h2 : t ≤ 1099511627776) (h3 : ¬ okf n c) :
    Calls Try.prog 10 #[.pointer (some ⟨b, 0, none⟩), .int .i64 t, .int .i64 n, .int .i64 c] w fun e w' => e = .returned (.tuple #[.int .i64 0, .int .i64 310]) ∧ w = w' := by
  obtain ⟨_, _, _, _, _, _, _, _, h8, h9⟩ := h.cells
  have H1 := Lib.hid h1
  have H2 := Lib.hid h2
  clear h1 h2 h
  by_cases k1 : n < 1
  · clear h3
    go_enter Try.func10, Try.ntmps10
    go_wp2_with (first | (go_at_call 18; refine (none_made _ _ h9).mono ?_; rintro e w' ⟨rfl, rfl⟩) | (go_at_call 19; refine (timed_yes _ _ _ _ h8 H1.out H2.out).mono ?_; rintro e w' ⟨rfl, rfl⟩))
    go_ret2
    exact ⟨rfl, rfl⟩
  by_cases k2 : 2048 < n
  · clear h3
    go_enter Try.func10, Try.ntmps10
    go_wp2_with (first | (go_at_call 18; refine (none_made _ _ h9).mono ?_; rintro e w' ⟨rfl, rfl⟩) | (go_at_call 19; refine (timed_yes _ _ _ _ h8 H1.out H2.out).mono ?_; rintro e w' ⟨rfl, rfl⟩))
    go_ret2
    exact ⟨rfl, rfl⟩
  by_cases k3 : c < 1
  · clear h3
    go_enter Try.func10, Try.ntmps10
    go_wp2_with (first | (go_at_call 18; refine (none_made _ _ h9).mono ?_; rintro e w' ⟨rfl, rfl⟩) | (go_at_call 19; refine (timed_yes _ _ _ _ h8 H1.out H2.out).mono ?_; rintro e w' ⟨rfl, rfl⟩))
    go_ret2
    exact ⟨rfl, rfl⟩
  have k4 : 3 < c := by simp only [okf] at h3; omega
  clear h3
  go_enter Try.func10, Try.ntmps10
  go_wp2_with (first | (go_at_call 18; refine (none_made _ _ h9).mono ?_; rintro e w' ⟨rfl, rfl⟩) | (go_at_call 19; refine (timed_yes _ _ _ _ h8 H1.out H2.out).mono ?_; rintro e w' ⟨rfl, rfl⟩))
  go_ret2
  exact ⟨rfl, rfl⟩

set_option maxHeartbeats 4000000 in
theorem mark_of (b : Nat) (s : MS) (t n c : Int) (w : World) (h : MH w b s) (hs : Good s) (h1 : s.l ≤ t) (h2 : t ≤ 1099511627776) (h3 : okf n c) :
    Calls Try.prog 10 #[.pointer (some ⟨b, 0, none⟩), .int .i64 t, .int .i64 n, .int .i64 c] w fun e w' => e = .returned (.tuple #[.int .i64 (markS s t n c).2, .int .i64 0]) ∧ MH w' b (markS s t n c).1 ∧ w.grownBy w' (some b) := by
  obtain ⟨c0, c1, c2, c3, c4, c5, c6, c7, c8, c9⟩ := h.cells
  have hlt := h.lt
  obtain ⟨k1, k2, k3, k4⟩ := h3
  have hf := filled_of b s t
  have hg2 := fill_good s t hs h1 h2
  simp only [markS]
  have haw : (fillS s t).aw = s.aw := rfl
  obtain ⟨s2, hs2⟩ : ∃ s2, s2 = fillS s t := ⟨_, rfl⟩
  rw [← hs2] at hf hg2 haw ⊢
  rw [← haw]
  obtain ⟨R, hR⟩ : ∃ R : MS × Int, R = if (if s2.aw = true then c else 1) = 1 ∧ n ≤ s2.g then ({ s2 with g := s2.g - n }, 1) else if (if s2.aw = true then c else 1) ≤ 2 ∧ n ≤ s2.m then ({ s2 with m := s2.m - n }, 2) else (s2, 3) := ⟨_, rfl⟩
  rw [← hR]
  have HR := Lib.hid hR
  clear hR
  have HF := Lib.hid (hf w h hs h1 h2)
  have HM := Lib.hid h
  have H1 := Lib.hid h1
  have H2 := Lib.hid h2
  obtain ⟨a0, a1, b0, b1, c0', c1', d0, d1, g0, g1, m0, m1, l0, l1⟩ := hg2
  clear hs2 haw hf h hs h1 h2
  obtain ⟨cir, cbs, eir, ebs, cp, aw, g, m, l⟩ := s2
  simp only [cellsA] at *
  go_enter Try.func10, Try.ntmps10
  go_wp2_with (first | (go_at_call 18; refine (none_made _ _ c9).mono ?_; rintro e w' ⟨rfl, rfl⟩) | (go_at_call 19; refine (timed_yes _ _ _ _ c8 H1.out H2.out).mono ?_; rintro e w' ⟨rfl, rfl⟩))
  refine HF.out.mono ?_
  rintro e w1 ⟨rfl, hg⟩
  have HM1 := Lib.hid (MH.kept HM.out hg (by simp))
  have HG := Lib.hid hg
  clear hg
  have hone : (((#[.int .i64 cir, .int .i64 cbs, .int .i64 eir, .int .i64 ebs, .bool cp, .bool aw, .int .i64 g, .int .i64 m, .int .i64 l, .bool true] : Array Value)).all (·.oneCell')) = true := by kernel_rfl
  have hsz : (Try.prog.info? 58).map (·.size) = some 10 := by kernel_rfl
  go_upto_region 8 with (refine wpList_store_rowTo rfl 58 _ _ rfl rfl b #[.int .i64 cir, .int .i64 cbs, .int .i64 eir, .int .i64 ebs, .bool cp, .bool aw, .int .i64 g, .int .i64 m, .int .i64 l, .bool true] rfl rfl 58 (cellsA s) HM1.out hsz rfl hone ?_)
  have hM2 := setRow_heap w1 b _ #[.int .i64 cir, .int .i64 cbs, .int .i64 eir, .int .i64 ebs, .bool cp, .bool aw, .int .i64 g, .int .i64 m, .int .i64 l, .bool true] 58 (0, 0) HM1.out
  have HG2 : Hid (w.grownBy (w1.setRow b #[.int .i64 cir, .int .i64 cbs, .int .i64 eir, .int .i64 ebs, .bool cp, .bool aw, .int .i64 g, .int .i64 m, .int .i64 l, .bool true]) (some b)) := Lib.hid (gn2 HG.out (grownSetRow _ _ _))
  obtain ⟨w2, hw2⟩ : ∃ x : World, x = w1.setRow b #[.int .i64 cir, .int .i64 cbs, .int .i64 eir, .int .i64 ebs, .bool cp, .bool aw, .int .i64 g, .int .i64 m, .int .i64 l, .bool true] := ⟨_, rfl⟩
  rw [← hw2] at hM2 HG2 ⊢
  have HM2 : Hid (MH w2 b ⟨cir, cbs, eir, ebs, cp, aw, g, m, l⟩) := Lib.hid hM2
  clear hM2 hw2 c0 c1 c2 c3 c4 c5 c6 c7 c8 c9 hone hsz HF HM1 HG
  obtain ⟨e0, e1, e2, e3, e4, e5, e6, e7, e8, e9⟩ := HM2.out.cells
  simp only at e0 e1 e2 e3 e4 e5 e6 e7 e8 e9
  have z6 := blk_frozen HM2.out 6
  have z7 := blk_frozen HM2.out 7
  cases aw
  · skip
    by_cases hn1 : n ≤ g
    · skip
      have e : R = (⟨cir, cbs, eir, ebs, cp, false, g - n, m, l⟩, 1) := by rw [HR.out]; simp [hn1]
      subst e
      clear HR
      go_wp2
      go_ret2
      exact ⟨rfl, heap_setCell_same w2 b 6 _ 58 (.int .i64 (g - n)) HM2.out, gtrans HG2.out (grownSet _ _ _ _) (.inl rfl)⟩
    by_cases hn2 : n ≤ m
    · skip
      have e : R = (⟨cir, cbs, eir, ebs, cp, false, g, m - n, l⟩, 2) := by rw [HR.out]; simp [hn1, hn2]
      subst e
      clear HR
      go_wp2
      go_ret2
      exact ⟨rfl, heap_setCell_same w2 b 7 _ 58 (.int .i64 (m - n)) HM2.out, gtrans HG2.out (grownSet _ _ _ _) (.inl rfl)⟩
    · skip
      have e : R = (⟨cir, cbs, eir, ebs, cp, false, g, m, l⟩, 3) := by rw [HR.out]; simp [hn1, hn2]
      subst e
      clear HR
      go_wp2
      go_ret2
      exact ⟨rfl, HM2.out, HG2.out⟩
  · have h123 : c = 1 ∨ c = 2 ∨ c = 3 := by omega
    clear k3 k4
    rcases h123 with rfl | rfl | rfl
    · skip
      by_cases hn1 : n ≤ g
      · skip
        have e : R = (⟨cir, cbs, eir, ebs, cp, true, g - n, m, l⟩, 1) := by rw [HR.out]; simp [hn1]
        subst e
        clear HR
        go_wp2
        go_ret2
        exact ⟨rfl, heap_setCell_same w2 b 6 _ 58 (.int .i64 (g - n)) HM2.out, gtrans HG2.out (grownSet _ _ _ _) (.inl rfl)⟩
      by_cases hn2 : n ≤ m
      · skip
        have e : R = (⟨cir, cbs, eir, ebs, cp, true, g, m - n, l⟩, 2) := by rw [HR.out]; simp [hn1, hn2]
        subst e
        clear HR
        go_wp2
        go_ret2
        exact ⟨rfl, heap_setCell_same w2 b 7 _ 58 (.int .i64 (m - n)) HM2.out, gtrans HG2.out (grownSet _ _ _ _) (.inl rfl)⟩
      · skip
        have e : R = (⟨cir, cbs, eir, ebs, cp, true, g, m, l⟩, 3) := by rw [HR.out]; simp [hn1, hn2]
        subst e
        clear HR
        go_wp2
        go_ret2
        exact ⟨rfl, HM2.out, HG2.out⟩
    · by_cases hn2 : n ≤ m
      · skip
        have e : R = (⟨cir, cbs, eir, ebs, cp, true, g, m - n, l⟩, 2) := by rw [HR.out]; simp [hn2]
        subst e
        clear HR
        go_wp2
        go_ret2
        exact ⟨rfl, heap_setCell_same w2 b 7 _ 58 (.int .i64 (m - n)) HM2.out, gtrans HG2.out (grownSet _ _ _ _) (.inl rfl)⟩
      · skip
        have e : R = (⟨cir, cbs, eir, ebs, cp, true, g, m, l⟩, 3) := by rw [HR.out]; simp [hn2]
        subst e
        clear HR
        go_wp2
        go_ret2
        exact ⟨rfl, HM2.out, HG2.out⟩
    · skip
      have e : R = (⟨cir, cbs, eir, ebs, cp, true, g, m, l⟩, 3) := by rw [HR.out]; simp []
      subst e
      clear HR
      go_wp2
      go_ret2
      exact ⟨rfl, HM2.out, HG2.out⟩
end Go.Proofs.Ytjddjijcfhgndaa.W
