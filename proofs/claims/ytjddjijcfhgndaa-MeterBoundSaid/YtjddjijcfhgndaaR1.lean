/-
  What comes, Is and New of the reference of the package meter do, over any memory.
-/
import Derived.Test.YtjddjijcfhgndaaW4
set_option linter.unusedVariables false
set_option linter.unusedSimpArgs false
namespace Go.Proofs.Ytjddjijcfhgndaa.W
open Go.RowKit

def refA (s : MS) : Array Value := #[.int .i64 s.cir, .int .i64 s.cbs, .int .i64 s.eir, .int .i64 s.ebs, .bool s.cp, .bool s.aw, .int .i64 s.g, .int .i64 s.m, .int .i64 s.l]

theorem rcomes (r t : Int) (w : World) (hr : 0 ≤ r) (ht : 0 ≤ t) : Calls Try.prog 24 #[.int .i64 r, .int .i64 t] w fun e w' => e = .returned (.int .i64 (comes r t)) ∧ w' = w := by
  have hbd := comes_bd r t hr ht
  by_cases h0 : r = 0
  · have e : comes r t = 0 := by unfold comes; rw [if_neg (by omega), h0, Int.zero_mul]
    rw [e]
    subst h0
    go_enter Try.func24, Try.ntmps24
    go_wp2
    go_ret
    exact ⟨rfl, rfl⟩
  by_cases h1 : t = 0
  · have e : comes r t = 0 := by
      subst h1
      unfold comes
      rw [if_neg, Int.mul_zero]
      intro hh
      have := Int.ediv_nonneg (a := 8589934592) (b := r) (by omega) hr
      omega
    rw [e]
    subst h1
    go_enter Try.func24, Try.ntmps24
    go_wp2
    go_ret
    exact ⟨rfl, rfl⟩
  have h2 : 0 < r := by omega
  have hb0 : (r == 0) = false := by simpa using h0
  have hb1 : (t == 0) = false := by simpa using h1
  by_cases h3 : 8589934592 / r < t
  · have e : comes r t = 8589934592 := by unfold comes; rw [if_pos ⟨h2, h3⟩]
    rw [e]
    clear e hbd
    go_enter Try.func24, Try.ntmps24
    go_wp2
    go_ret
    exact ⟨rfl, rfl⟩
  · have e : comes r t = r * t := by unfold comes; rw [if_neg (fun hh => h3 hh.2)]
    rw [e] at hbd ⊢
    clear e
    have hw : Hid (wrap64 (r * t) = r * t) := Lib.hid (IntWalk.wrap64_in _ ⟨by omega, by omega⟩)
    clear hbd
    go_enter Try.func24, Try.ntmps24
    go_wp2
    go_ret
    exact ⟨by show Ending.returned (.int .i64 (wrap64 (r * t))) = _; rw [hw.out], rfl⟩

theorem ris_ok (s : MS) (w : World) (h : okc s) : Calls Try.prog 21 #[.agg (confA s)] w fun e w' => e = .returned (.bool true) ∧ w.grownBy w' none := by
  obtain ⟨cir, cbs, eir, ebs, cp, aw, g, m, l⟩ := s
  obtain ⟨⟨a0, a1⟩, ⟨b0, b1⟩, ⟨c0, c1⟩, ⟨d0, d1⟩⟩ := h
  simp only [confA] at *
  go_enter Try.func21, Try.ntmps21
  go_wp2
  go_ret
  exact ⟨by simp [*], World.grownBy_alloc _ _ _⟩

theorem ris_bad (s : MS) (w : World) (h : ¬ okc s) : Calls Try.prog 21 #[.agg (confA s)] w fun e w' => e = .returned (.bool false) ∧ w.grownBy w' none := by
  obtain ⟨cir, cbs, eir, ebs, cp, aw, g, m, l⟩ := s
  have H := Lib.hid h
  clear h
  simp only [confA] at *
  by_cases a0 : 0 ≤ cir
  · by_cases a1 : cir ≤ 1073741824
    · by_cases b0 : 0 ≤ cbs
      · by_cases b1 : cbs ≤ 1073741824
        · by_cases c0 : 0 ≤ eir
          · by_cases c1 : eir ≤ 1073741824
            · by_cases d0 : 0 ≤ ebs
              · by_cases d1 : ebs ≤ 1073741824
                · exact absurd ⟨⟨a0, a1⟩, ⟨b0, b1⟩, ⟨c0, c1⟩, ⟨d0, d1⟩⟩ H.out
                · go_enter Try.func21, Try.ntmps21
                  go_wp2
                  go_ret
                  exact ⟨by simp [*], World.grownBy_alloc _ _ _⟩
              · go_enter Try.func21, Try.ntmps21
                go_wp2
                go_ret
                exact ⟨by simp [*], World.grownBy_alloc _ _ _⟩
            · go_enter Try.func21, Try.ntmps21
              go_wp2
              go_ret
              exact ⟨by simp [*], World.grownBy_alloc _ _ _⟩
          · go_enter Try.func21, Try.ntmps21
            go_wp2
            go_ret
            exact ⟨by simp [*], World.grownBy_alloc _ _ _⟩
        · go_enter Try.func21, Try.ntmps21
          go_wp2
          go_ret
          exact ⟨by simp [*], World.grownBy_alloc _ _ _⟩
      · go_enter Try.func21, Try.ntmps21
        go_wp2
        go_ret
        exact ⟨by simp [*], World.grownBy_alloc _ _ _⟩
    · go_enter Try.func21, Try.ntmps21
      go_wp2
      go_ret
      exact ⟨by simp [*], World.grownBy_alloc _ _ _⟩
  · go_enter Try.func21, Try.ntmps21
    go_wp2
    go_ret
    exact ⟨by simp [*], World.grownBy_alloc _ _ _⟩
end Go.Proofs.Ytjddjijcfhgndaa.W
