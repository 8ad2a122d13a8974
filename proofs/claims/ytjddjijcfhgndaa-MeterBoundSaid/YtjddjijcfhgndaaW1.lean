/-
  What Check, New, none, timed, Last, Fork and filled of the package meter do, over any memory.
-/
import Derived.Test.YtjddjijcfhgndaaChecked
import Derived.Test.YtjddjijcfhgndaaBase
set_option linter.unusedVariables false
set_option linter.unusedSimpArgs false
namespace Go.Proofs.Ytjddjijcfhgndaa.W
open Go.RowKit

/-- A meter's settings and how it stands. -/
structure MS where
  cir : Int
  cbs : Int
  eir : Int
  ebs : Int
  cp : Bool
  aw : Bool
  g : Int
  m : Int
  l : Int

def confA (s : MS) : Array Value := #[.int .i64 s.cir, .int .i64 s.cbs, .int .i64 s.eir, .int .i64 s.ebs, .bool s.cp, .bool s.aw]
def cellsA (s : MS) : Array Value := #[.int .i64 s.cir, .int .i64 s.cbs, .int .i64 s.eir, .int .i64 s.ebs, .bool s.cp, .bool s.aw, .int .i64 s.g, .int .i64 s.m, .int .i64 s.l, .bool true]
def MH (w : World) (b : Nat) (s : MS) : Prop := w.heap[b]? = some (.cells (cellsA s) 58 (0, 0))
structure Good (s : MS) : Prop where
  a0 : 0 ≤ s.cir
  a1 : s.cir ≤ 1073741824
  b0 : 0 ≤ s.cbs
  b1 : s.cbs ≤ 1073741824
  c0 : 0 ≤ s.eir
  c1 : s.eir ≤ 1073741824
  d0 : 0 ≤ s.ebs
  d1 : s.ebs ≤ 1073741824
  g0 : 0 ≤ s.g
  g1 : s.g ≤ s.cbs
  m0 : 0 ≤ s.m
  m1 : s.m ≤ s.ebs
  l0 : 0 ≤ s.l
  l1 : s.l ≤ 1099511627776

theorem MH.lt {w : World} {b : Nat} {s : MS} (h : MH w b s) : b < w.heap.size := blk_lt h
theorem MH.kept {w w' : World} {b : Nat} {s : MS} {row : Option Nat} (h : MH w b s) (hg : w.grownBy w' row) (hne : some b ≠ row) : MH w' b s := blk_kept h hg hne
theorem MH.cell {w : World} {b : Nat} {s : MS} (h : MH w b s) (i : Nat) : w.cell? ⟨b, i, none⟩ = (cellsA s)[i]? := cell_of_row w b i _ 58 (0, 0) h
theorem MH.cells {w : World} {b : Nat} {s : MS} (h : MH w b s) :
    w.cell? ⟨b, 0, none⟩ = some (.int .i64 s.cir) ∧ w.cell? ⟨b, 1, none⟩ = some (.int .i64 s.cbs) ∧ w.cell? ⟨b, 2, none⟩ = some (.int .i64 s.eir) ∧ w.cell? ⟨b, 3, none⟩ = some (.int .i64 s.ebs) ∧
    w.cell? ⟨b, 4, none⟩ = some (.bool s.cp) ∧ w.cell? ⟨b, 5, none⟩ = some (.bool s.aw) ∧ w.cell? ⟨b, 6, none⟩ = some (.int .i64 s.g) ∧ w.cell? ⟨b, 7, none⟩ = some (.int .i64 s.m) ∧ w.cell? ⟨b, 8, none⟩ = some (.int .i64 s.l) ∧ w.cell? ⟨b, 9, none⟩ = some (.bool true) := by
  refine ⟨?_, ?_, ?_, ?_, ?_, ?_, ?_, ?_, ?_, ?_⟩ <;> rw [h.cell] <;> rfl

theorem none_made (b : Nat) (w : World) (h : w.cell? ⟨b, 9, none⟩ = some (.bool true)) : Calls Try.prog 18 #[.pointer (some ⟨b, 0, none⟩)] w fun e w' => e = .returned (.bool false) ∧ w = w' := by
  go_enter Try.func18, Try.ntmps18
  go_wp2
  go_ret
  exact ⟨rfl, rfl⟩
/-- A meter that nobody made: nil, or one that New did not make. -/
def Nob (w : World) (p : Value) : Prop := p = .pointer none ∨ ∃ b, p = .pointer (some ⟨b, 0, none⟩) ∧ b < w.heap.size ∧ w.cell? ⟨b, 9, none⟩ = some (.bool false)
theorem none_nob (p : Value) (w : World) (h : Nob w p) : Calls Try.prog 18 #[p] w fun e w' => e = .returned (.bool true) ∧ w = w' := by
  rcases h with rfl | ⟨b, rfl, _, h⟩
  · go_enter Try.func18, Try.ntmps18
    go_wp2
    go_ret
    exact ⟨rfl, rfl⟩
  · go_enter Try.func18, Try.ntmps18
    go_wp2
    go_ret
    exact ⟨rfl, rfl⟩

theorem timed_yes (b : Nat) (l t : Int) (w : World) (h : w.cell? ⟨b, 8, none⟩ = some (.int .i64 l)) (h1 : l ≤ t) (h2 : t ≤ 1099511627776) : Calls Try.prog 19 #[.pointer (some ⟨b, 0, none⟩), .int .i64 t] w fun e w' => e = .returned (.bool true) ∧ w = w' := by
  go_enter Try.func19, Try.ntmps19
  go_wp2
  go_ret
  exact ⟨by simp [h2], rfl⟩
theorem timed_no (b : Nat) (l t : Int) (w : World) (h : w.cell? ⟨b, 8, none⟩ = some (.int .i64 l)) (h1 : ¬ (l ≤ t ∧ t ≤ 1099511627776)) : Calls Try.prog 19 #[.pointer (some ⟨b, 0, none⟩), .int .i64 t] w fun e w' => e = .returned (.bool false) ∧ w = w' := by
  by_cases h3 : l ≤ t
  · have h4 : 1099511627776 < t := by omega
    clear h1
    go_enter Try.func19, Try.ntmps19
    go_wp2
    go_ret
    exact ⟨by simp [h4], rfl⟩
  · clear h1
    go_enter Try.func19, Try.ntmps19
    go_wp2
    go_ret
    exact ⟨by simp, rfl⟩

/-- What comes at a rate in so many ticks. -/
def comes (r t : Int) : Int := if 0 < r ∧ 8589934592 / r < t then 8589934592 else r * t
theorem comes_bd (r t : Int) (hr : 0 ≤ r) (ht : 0 ≤ t) : 0 ≤ comes r t ∧ comes r t ≤ 8589934592 := by
  unfold comes
  split
  · omega
  · rename_i h
    refine ⟨Int.mul_nonneg hr ht, ?_⟩
    rcases Int.lt_or_eq_of_le hr with h0 | h0
    · have h1 : t ≤ 8589934592 / r := by
        rcases Int.lt_or_le (8589934592 / r) t with h2 | h2
        · exact absurd ⟨h0, h2⟩ h
        · exact h2
      have h2 := Int.mul_le_mul_of_nonneg_left h1 hr
      have h3 := Int.mul_ediv_self_le (x := 8589934592) (k := r) (by omega)
      omega
    · subst h0
      simp

theorem comes_any (r t : Int) (q : Nat) (w : World) (h : w.cell? ⟨q, 0, none⟩ = some (.int .i64 t)) (hr : 0 ≤ r) (ht : 0 ≤ t) :
    Calls Try.prog 23 #[.int .i64 r, .pointer (some ⟨q, 0, none⟩)] w fun e w' => e = .returned (.int .i64 (comes r t)) ∧ ∃ n, w' = w.drewN n := by
  have hbd := comes_bd r t hr ht
  by_cases h0 : 0 < r
  · have hd : decide (0 < r) = true := by simpa using h0
    by_cases h1 : 8589934592 / r < t
    · have e : comes r t = 8589934592 := by unfold comes; rw [if_pos ⟨h0, h1⟩]
      rw [e]
      clear e hbd
      go_enter Try.func23, Try.ntmps23
      go_wp2
      go_quiet (fail)
      go_wp2
      go_ret
      exact ⟨rfl, nq, rfl⟩
    · have e : comes r t = r * t := by unfold comes; rw [if_neg (fun hh => h1 hh.2)]
      rw [e] at hbd ⊢
      clear e
      have hw : Hid (wrap64 (r * t) = r * t) := Lib.hid (IntWalk.wrap64_in _ ⟨by omega, by omega⟩)
      clear hbd
      go_enter Try.func23, Try.ntmps23
      go_wp2
      go_quiet (fail)
      go_wp2
      go_ret
      exact ⟨by show Ending.returned (.int .i64 (wrap64 (r * t))) = _; rw [hw.out], nq, rfl⟩
  · have e : comes r t = r * t := by unfold comes; rw [if_neg (fun hh => h0 hh.1)]
    have e0 : r = 0 := by omega
    have hd : decide (0 < r) = false := by simpa using h0
    rw [e]
    clear e hbd
    have hw : Hid (wrap64 (r * t) = r * t) := by rw [e0, Int.zero_mul]; exact Lib.hid (by unfold wrap64; omega)
    clear e0 h0
    go_enter Try.func23, Try.ntmps23
    go_wp2
    go_quiet (fail)
    go_wp2
    go_ret
    exact ⟨by show Ending.returned (.int .i64 (wrap64 (r * t))) = _; rw [hw.out], nq, rfl⟩

/-! ### Check and New -/
def okc (s : MS) : Prop := (0 ≤ s.cir ∧ s.cir ≤ 1073741824) ∧ (0 ≤ s.cbs ∧ s.cbs ≤ 1073741824) ∧ (0 ≤ s.eir ∧ s.eir ≤ 1073741824) ∧ (0 ≤ s.ebs ∧ s.ebs ≤ 1073741824)
instance (s : MS) : Decidable (okc s) := by unfold okc; infer_instance

theorem idx4 (x0 x1 x2 x3 : Int) (k : Nat) (hk : k < 4) (w : World) : (Instr.index 64 (.agg #[.int .i64 x0, .int .i64 x1, .int .i64 x2, .int .i64 x3]) (.int .i64 k)).run Try.prog w = .ok (.int .i64 ([x0, x1, x2, x3].getD k 0)) w := by
  match k, hk with
  | 0, _ => rfl
  | 1, _ => rfl
  | 2, _ => rfl
  | 3, _ => rfl

theorem check_ok (s : MS) (w : World) (h : okc s) : Calls Try.prog 13 #[.agg (confA s)] w fun e w' => e = .returned (.int .i64 0) ∧ w.grownBy w' none := by
  obtain ⟨cir, cbs, eir, ebs, cp, aw, g, m, l⟩ := s
  have hb : ∀ k : Nat, k < 4 → 0 ≤ [cir, cbs, eir, ebs].getD k 0 ∧ [cir, cbs, eir, ebs].getD k 0 ≤ 1073741824 := by
    intro k hk
    obtain ⟨h0, h1, h2, h3⟩ := h
    match k, hk with
    | 0, _ => exact h0
    | 1, _ => exact h1
    | 2, _ => exact h2
    | 3, _ => exact h3
  have HB := Lib.hid hb
  clear hb h
  simp only [confA]
  go_enter Try.func13, Try.ntmps13
  go_wp2
  go_loop [14] (fun i => ∃ k : Nat, k ≤ 4 ∧ i = .int .i64 k) (fun i => 4 - (intOf i).toNat)
  case atStart => exact ⟨0, Nat.zero_le _, rfl⟩
  case round =>
    obtain ⟨k, hk, rfl⟩ := hrel
    by_cases hlt : k < 4
    · have hi := fun W => idx4 cir cbs eir ebs k hlt W
      obtain ⟨h1, h2⟩ := HB.out k hlt
      generalize [cir, cbs, eir, ebs].getD k 0 = y at hi h1 h2
      go_wp2
      go_round
      case rel => exact ⟨k + 1, by omega, by go_num⟩
      case measure => simp [intOf]; omega
    · go_wp2
      go_ret
      exact ⟨rfl, World.grownBy_alloc _ _ _⟩
theorem check_bad (s : MS) (w : World) (h : ¬ okc s) : Calls Try.prog 13 #[.agg (confA s)] w fun e w' => e = .returned (.int .i64 310) ∧ w.grownBy w' none := by
  obtain ⟨cir, cbs, eir, ebs, cp, aw, g, m, l⟩ := s
  have hb : ∃ j : Nat, j < 4 ∧ ([cir, cbs, eir, ebs].getD j 0 < 0 ∨ 1073741824 < [cir, cbs, eir, ebs].getD j 0) ∧ ∀ k : Nat, k < j → 0 ≤ [cir, cbs, eir, ebs].getD k 0 ∧ [cir, cbs, eir, ebs].getD k 0 ≤ 1073741824 := by
    simp only [okc] at h
    by_cases h0 : 0 ≤ cir ∧ cir ≤ 1073741824
    · by_cases h1 : 0 ≤ cbs ∧ cbs ≤ 1073741824
      · by_cases h2 : 0 ≤ eir ∧ eir ≤ 1073741824
        · have h3 : ¬ (0 ≤ ebs ∧ ebs ≤ 1073741824) := fun h3 => h ⟨h0, h1, h2, h3⟩
          refine ⟨3, by omega, by simp; omega, fun k hk => ?_⟩
          match k, hk with
          | 0, _ => exact h0
          | 1, _ => exact h1
          | 2, _ => exact h2
        · refine ⟨2, by omega, by simp; omega, fun k hk => ?_⟩
          match k, hk with
          | 0, _ => exact h0
          | 1, _ => exact h1
      · refine ⟨1, by omega, by simp; omega, fun k hk => ?_⟩
        match k, hk with
        | 0, _ => exact h0
    · exact ⟨0, by omega, by simp; omega, fun k hk => by omega⟩
  obtain ⟨j, hj, hbad, hgood⟩ := hb
  have HB := Lib.hid hbad
  have HG := Lib.hid hgood
  clear hbad hgood h
  simp only [confA]
  go_enter Try.func13, Try.ntmps13
  go_wp2
  go_loop [14] (fun i => ∃ k : Nat, k ≤ j ∧ i = .int .i64 k) (fun i => 4 - (intOf i).toNat)
  case atStart => exact ⟨0, Nat.zero_le _, rfl⟩
  case round =>
    obtain ⟨k, hk, rfl⟩ := hrel
    have hi := fun W => idx4 cir cbs eir ebs k (by omega) W
    by_cases hlt : k < j
    · obtain ⟨h1, h2⟩ := HG.out k hlt
      generalize [cir, cbs, eir, ebs].getD k 0 = y at hi h1 h2
      go_wp2
      go_round
      case rel => exact ⟨k + 1, by omega, by go_num⟩
      case measure => simp [intOf]; omega
    · obtain rfl : k = j := by omega
      have hb := HB.out
      generalize [cir, cbs, eir, ebs].getD k 0 = y at hi hb
      rcases hb with hb | hb
      · go_wp2
        go_ret
        exact ⟨rfl, World.grownBy_alloc _ _ _⟩
      · have hb2 : 0 ≤ y := by omega
        go_wp2
        go_ret
        exact ⟨rfl, World.grownBy_alloc _ _ _⟩
end Go.Proofs.Ytjddjijcfhgndaa.W
