/-
  What awake tells, and what Fork and Levels do, over any memory.
-/
import Derived.Test.YtjddjijcfhgndaaW4
set_option linter.unusedVariables false
set_option linter.unusedSimpArgs false
namespace Go.Proofs.Ytjddjijcfhgndaa.W
open Go.RowKit

theorem mark_good (s : MS) (t n c : Int) (h : Good s) (h1 : s.l ≤ t) (h2 : t ≤ 1099511627776) (h3 : okf n c) : Good (markS s t n c).1 := by
  have hg := fill_good s t h h1 h2
  obtain ⟨k1, k2, k3, k4⟩ := h3
  simp only [markS]
  generalize fillS s t = s2 at *
  obtain ⟨a0, a1, b0, b1, c0, c1, d0, d1, g0, g1, m0, m1, l0, l1⟩ := hg
  by_cases hk : (if s.aw = true then c else 1) = 1 ∧ n ≤ s2.g
  · rw [if_pos hk]
    have hh := hk.2
    exact ⟨a0, a1, b0, b1, c0, c1, d0, d1, by show 0 ≤ s2.g - n; omega, by show s2.g - n ≤ s2.cbs; omega, m0, m1, l0, l1⟩
  rw [if_neg hk]
  by_cases hk2 : (if s.aw = true then c else 1) ≤ 2 ∧ n ≤ s2.m
  · rw [if_pos hk2]
    have hh := hk2.2
    exact ⟨a0, a1, b0, b1, c0, c1, d0, d1, g0, g1, by show 0 ≤ s2.m - n; omega, by show s2.m - n ≤ s2.ebs; omega, l0, l1⟩
  · rw [if_neg hk2]
    exact ⟨a0, a1, b0, b1, c0, c1, d0, d1, g0, g1, m0, m1, l0, l1⟩

theorem mark_lit (b : Nat) (s s' : MS) (t n c r : Int) (w : World) (h : MH w b s ∧ Good s) (h1 : s.l ≤ t) (h2 : t ≤ 1099511627776) (h3 : okf n c) (he : markS s t n c = (s', r)) :
    Calls Try.prog 10 #[.pointer (some ⟨b, 0, none⟩), .int .i64 t, .int .i64 n, .int .i64 c] w fun e w' => e = .returned (.tuple #[.int .i64 r, .int .i64 0]) ∧ (MH w' b s' ∧ Good s') ∧ w.grownBy w' (some b) := by
  have h4 := mark_of b s t n c w h.1 h.2 h1 h2 h3
  have h5 := mark_good s t n c h.2 h1 h2 h3
  rw [he] at h4 h5
  exact h4.mono fun e w' k => ⟨k.1, ⟨k.2.1, h5⟩, k.2.2⟩

theorem mk1 : markS ⟨10, 100, 0, 50, false, false, 100, 50, 0⟩ 0 100 1 = (⟨10, 100, 0, 50, false, false, 0, 50, 0⟩, 1) := by kernel_rfl
theorem mk2 : markS ⟨10, 100, 0, 50, false, false, 0, 50, 0⟩ 0 50 1 = (⟨10, 100, 0, 50, false, false, 0, 0, 0⟩, 2) := by kernel_rfl
theorem mk3 : markS ⟨10, 100, 0, 50, false, false, 0, 0, 0⟩ 0 1 1 = (⟨10, 100, 0, 50, false, false, 0, 0, 0⟩, 3) := by kernel_rfl
theorem mk4 : markS ⟨10, 100, 0, 50, false, false, 0, 0, 0⟩ 1 10 1 = (⟨10, 100, 0, 50, false, false, 0, 0, 1⟩, 1) := by kernel_rfl

theorem call1 (b : Nat) (w : World) (h : MH w b ⟨10, 100, 0, 50, false, false, 100, 50, 0⟩ ∧ Good ⟨10, 100, 0, 50, false, false, 100, 50, 0⟩) : Calls Try.prog 10 #[.pointer (some ⟨b, 0, none⟩), .int .i64 0, .int .i64 100, .int .i64 1] w fun e w' => e = .returned (.tuple #[.int .i64 1, .int .i64 0]) ∧ (MH w' b ⟨10, 100, 0, 50, false, false, 0, 50, 0⟩ ∧ Good ⟨10, 100, 0, 50, false, false, 0, 50, 0⟩) ∧ w.grownBy w' (some b) := mark_lit b _ _ 0 100 1 1 w h (by simp) (by simp) (by simp [okf]) mk1
theorem call2 (b : Nat) (w : World) (h : MH w b ⟨10, 100, 0, 50, false, false, 0, 50, 0⟩ ∧ Good ⟨10, 100, 0, 50, false, false, 0, 50, 0⟩) : Calls Try.prog 10 #[.pointer (some ⟨b, 0, none⟩), .int .i64 0, .int .i64 50, .int .i64 1] w fun e w' => e = .returned (.tuple #[.int .i64 2, .int .i64 0]) ∧ (MH w' b ⟨10, 100, 0, 50, false, false, 0, 0, 0⟩ ∧ Good ⟨10, 100, 0, 50, false, false, 0, 0, 0⟩) ∧ w.grownBy w' (some b) := mark_lit b _ _ 0 50 1 2 w h (by simp) (by simp) (by simp [okf]) mk2
theorem call3 (b : Nat) (w : World) (h : MH w b ⟨10, 100, 0, 50, false, false, 0, 0, 0⟩ ∧ Good ⟨10, 100, 0, 50, false, false, 0, 0, 0⟩) : Calls Try.prog 10 #[.pointer (some ⟨b, 0, none⟩), .int .i64 0, .int .i64 1, .int .i64 1] w fun e w' => e = .returned (.tuple #[.int .i64 3, .int .i64 0]) ∧ (MH w' b ⟨10, 100, 0, 50, false, false, 0, 0, 0⟩ ∧ Good ⟨10, 100, 0, 50, false, false, 0, 0, 0⟩) ∧ w.grownBy w' (some b) := mark_lit b _ _ 0 1 1 3 w h (by simp) (by simp) (by simp [okf]) mk3
theorem call4 (b : Nat) (w : World) (h : MH w b ⟨10, 100, 0, 50, false, false, 0, 0, 0⟩ ∧ Good ⟨10, 100, 0, 50, false, false, 0, 0, 0⟩) : Calls Try.prog 10 #[.pointer (some ⟨b, 0, none⟩), .int .i64 1, .int .i64 10, .int .i64 1] w fun e w' => e = .returned (.tuple #[.int .i64 1, .int .i64 0]) ∧ (MH w' b ⟨10, 100, 0, 50, false, false, 0, 0, 1⟩ ∧ Good ⟨10, 100, 0, 50, false, false, 0, 0, 1⟩) ∧ w.grownBy w' (some b) := mark_lit b _ _ 1 10 1 1 w h (by simp) (by simp) (by simp [okf]) mk4
theorem call5 (b : Nat) (w : World) (h : MH w b ⟨10, 100, 0, 50, false, false, 0, 0, 1⟩ ∧ Good ⟨10, 100, 0, 50, false, false, 0, 0, 1⟩) : Calls Try.prog 10 #[.pointer (some ⟨b, 0, none⟩), .int .i64 0, .int .i64 1, .int .i64 1] w fun e w' => e = .returned (.tuple #[.int .i64 0, .int .i64 1]) ∧ w = w' := mark_late b _ 0 1 1 w h.1 h.2 (by simp)
theorem call6 (b : Nat) (w : World) (h : MH w b ⟨10, 100, 0, 50, false, false, 0, 0, 1⟩ ∧ Good ⟨10, 100, 0, 50, false, false, 0, 0, 1⟩) : Calls Try.prog 17 #[.pointer (some ⟨b, 0, none⟩)] w fun e w' => e = .returned (.int .i64 1) ∧ w = w' := last_of b _ w h.1
theorem new_lit (w : World) : Calls Try.prog 8 #[.agg #[.int .i64 10, .int .i64 100, .int .i64 0, .int .i64 50, .bool false, .bool false]] w fun e w' => ∃ b, e = .returned (.tuple #[.pointer (some ⟨b, 0, none⟩), .int .i64 0]) ∧ (MH w' b ⟨10, 100, 0, 50, false, false, 100, 50, 0⟩ ∧ Good ⟨10, 100, 0, 50, false, false, 100, 50, 0⟩) ∧ w.grownBy w' none ∧ w.heap.size ≤ b :=
  have hok : okc ⟨10, 100, 0, 50, false, false, 0, 0, 0⟩ := by simp [okc]
  (new_ok ⟨10, 100, 0, 50, false, false, 0, 0, 0⟩ w hok).mono fun e w' ⟨b, h1, h2, h3⟩ => ⟨b, h1, ⟨h2, new_good _ hok⟩, h3⟩
theorem bad_lit (w : World) : Calls Try.prog 13 #[.agg #[.int .i64 (-1), .int .i64 0, .int .i64 0, .int .i64 0, .bool false, .bool false]] w fun e w' => e = .returned (.int .i64 310) ∧ w.grownBy w' none :=
  check_bad ⟨-1, 0, 0, 0, false, false, 0, 0, 0⟩ w (by simp [okc])

set_option maxHeartbeats 2000000 in
theorem awake_any (w : World) : Calls Try.prog 9 #[] w fun e w' => e = .returned (.bool true) ∧ w.grownBy w' none := by
  go_enter Try.func9, Try.ntmps9
  go_wp2_with (first
    | (go_at_call 8; refine (new_lit _).mono ?_; rintro e w1 ⟨b, rfl, hM, hg, hb⟩; have H1 := Lib.hid hM; have G1 := Lib.hid hg; have HB := Lib.hid hb; clear hM hg hb)
    | (go_at_call 10; with_reducible refine (call1 b w1 H1.out).mono ?_; rintro e w2 ⟨rfl, hM, hg⟩; have H2 := Lib.hid hM; have G2 := Lib.hid hg; clear hM hg)
    | (go_at_call 10; with_reducible refine (call2 b w2 H2.out).mono ?_; rintro e w3 ⟨rfl, hM, hg⟩; have H3 := Lib.hid hM; have G3 := Lib.hid hg; clear hM hg)
    | (go_at_call 10; with_reducible refine (call3 b w3 H3.out).mono ?_; rintro e w4 ⟨rfl, hM, hg⟩; have H4 := Lib.hid hM; have G4 := Lib.hid hg; clear hM hg)
    | (go_at_call 10; with_reducible refine (call4 b w4 H4.out).mono ?_; rintro e w5 ⟨rfl, hM, hg⟩; have H5 := Lib.hid hM; have G5 := Lib.hid hg; clear hM hg)
    | (go_at_call 10; with_reducible refine (call5 b w5 H5.out).mono ?_; rintro e w6 ⟨rfl, rfl⟩)
    | (go_at_call 17; refine (call6 b _ H5.out).mono ?_; rintro e w6 ⟨rfl, rfl⟩)
    | (go_at_call 13; refine (bad_lit _).mono ?_; rintro e w6 ⟨rfl, hg⟩; have G6 := Lib.hid hg; clear hg))
  go_ret
  have hx : some b = none ∨ (some b = none ∨ ∃ q, some b = some q ∧ w.heap.size ≤ q) := .inr (.inr ⟨b, rfl, HB.out⟩)
  exact ⟨rfl, gtrans (gtrans (gtrans (gtrans (gtrans G1.out G2.out hx) G3.out hx) G4.out hx) G5.out hx) G6.out (.inl rfl)⟩
end Go.Proofs.Ytjddjijcfhgndaa.W
