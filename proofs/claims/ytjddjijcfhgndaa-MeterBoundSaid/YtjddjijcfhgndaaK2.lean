/-
  The plain law of MeterKept: what comes within the rate and the burst that are committed is Green.
-/
import Derived.Test.YtjddjijcfhgndaaW5
set_option linter.unusedVariables false
set_option linter.unusedSimpArgs false
namespace Go.Proofs.Ytjddjijcfhgndaa.W

structure KI (s : MS) (t o : Int) (i : Nat) : Prop where
  good : Good s
  r0 : 1 ≤ s.cir
  r1 : s.cir ≤ 300
  b0 : 2048 ≤ s.cbs
  b1 : s.cbs ≤ 5047
  o0 : 0 ≤ o
  o1 : o ≤ s.cbs
  l0 : s.l ≤ t
  t0 : 0 ≤ t
  tot : t + o ≤ 2048 * i
  lvl : s.cbs - o ≤ s.g + comes s.cir (t - s.l)

theorem comes_next (r d : Int) (hr : 1 ≤ r) (hd : 0 ≤ d) : comes r d + r ≤ comes r (d + 1) ∨ comes r (d + 1) = 8589934592 := by
  by_cases h : 8589934592 / r < d + 1
  · right
    unfold comes
    rw [if_pos ⟨by omega, h⟩]
  · left
    unfold comes
    rw [if_neg (fun hh : 0 < r ∧ 8589934592 / r < d => h (Int.lt_of_lt_of_le hh.2 (by omega))), if_neg (fun hh => h hh.2), Int.mul_add, Int.mul_one]
    exact Int.le_refl _

theorem KI.wait {s : MS} {t o n : Int} {i : Nat} (h : KI s t o i) (hn : n ≤ 2048) (hw : s.cbs < o + n) : KI s (t + 1) (if s.cir < o then o - s.cir else 0) i ∧ 1 ≤ o := by
  obtain ⟨g, r0, r1, b0, b1, o0, o1, l0, t0, tot, lvl⟩ := h
  have hg := g.g0
  have hst := comes_next s.cir (t - s.l) r0 (by omega)
  have e : t + 1 - s.l = t - s.l + 1 := by omega
  refine ⟨⟨g, r0, r1, b0, b1, ?_, ?_, by omega, by omega, ?_, ?_⟩, by omega⟩
  · split <;> omega
  · split <;> omega
  · split <;> omega
  · rw [e]
    split <;> omega

theorem KI.mark {s : MS} {t o n : Int} {i : Nat} (h : KI s t o i) (hn : 1 ≤ n) (hw : o + n ≤ s.cbs) (hn2 : n ≤ 2048) (hi : i ≤ 100) :
    ∃ s', markS s t n 1 = (s', 1) ∧ s'.cir = s.cir ∧ s'.cbs = s.cbs ∧ KI s' t (o + n) (i + 1) := by
  have ht : t ≤ 1099511627776 := by have := h.tot; have := h.o0; omega
  have hgd := mark_good s t n 1 h.good h.l0 ht ⟨hn, hn2, by omega, by omega⟩
  obtain ⟨g, r0, r1, b0, b1, o0, o1, l0, t0, tot, lvl⟩ := h
  have hf : s.cbs - o ≤ (fillS s t).g := by
    simp only [fillS]
    split <;> omega
  have e : markS s t n 1 = ({ fillS s t with g := (fillS s t).g - n }, 1) := by
    simp only [markS]
    rw [if_pos]
    exact ⟨by split <;> rfl, by omega⟩
  rw [e] at hgd
  refine ⟨_, e, rfl, rfl, hgd, r0, r1, b0, b1, by omega, hw, by show t ≤ t; omega, t0, by omega, ?_⟩
  have hc := (comes_bd s.cir (t - t) (by omega) (by omega)).1
  show s.cbs - (o + n) ≤ (fillS s t).g - n + comes s.cir (t - t)
  omega

theorem KI.first {s : MS} (h : okc s) (r0 : 1 ≤ s.cir) (r1 : s.cir ≤ 300) (b0 : 2048 ≤ s.cbs) (b1 : s.cbs ≤ 5047) : KI (newS s) 0 0 0 :=
  ⟨new_good s h, r0, r1, b0, b1, by omega, by show (0:Int) ≤ s.cbs; omega, by show (0:Int) ≤ 0; omega, by omega, by simp, by
    have hc := (comes_bd s.cir (0 - 0) (by omega) (by omega)).1
    show s.cbs - 0 ≤ s.cbs + comes s.cir (0 - 0)
    omega⟩
end Go.Proofs.Ytjddjijcfhgndaa.W
