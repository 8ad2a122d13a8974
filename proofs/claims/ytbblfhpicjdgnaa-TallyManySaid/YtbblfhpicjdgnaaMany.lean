/-
  The call of TallyMany returns true, at every byte and in every memory, and turns nothing that was there.
-/
import Derived.Test.YtbblfhpicjdgnaaW3
set_option linter.unusedVariables false
set_option linter.unusedSimpArgs false
namespace Go.Proofs.Ytbblfhpicjdgnaa.W
open Go.RowKit

def nsAt (K : Int) (j : Nat) : List Int := zeros.set K.toNat (j * 1073741824)
theorem nsAt_get (K : Int) (j : Nat) (h1 : 1 ≤ K) (h2 : K ≤ 14) : (nsAt K j).getD K.toNat 0 = j * 1073741824 := by
  unfold nsAt
  rw [List.getD_eq_getElem?_getD, List.getElem?_set_self (by simp [zeros]; omega)]
  rfl
theorem nsAt_zero (K : Int) (h1 : 1 ≤ K) (h2 : K ≤ 14) : nsAt K 0 = zeros := by
  unfold nsAt zeros
  apply List.ext_getElem?
  intro i
  rw [List.getElem?_set]
  split
  · rename_i h
    subst h
    rw [if_pos (by simp; omega), List.getElem?_replicate, if_pos (by omega)]
    simp
  · rfl
theorem nsAt_bd (K : Int) (j : Nat) (h : j ≤ 1048576) : Bounded (nsAt K j) := by
  intro i
  unfold nsAt
  rw [List.getD_eq_getElem?_getD, List.getElem?_set]
  have := bounded_zero i
  split
  · split
    · simp only [Option.getD_some]; omega
    · simp
  · rw [← List.getD_eq_getElem?_getD]; exact this
theorem nsAt_set (K : Int) (i j : Nat) : (nsAt K i).set K.toNat (j * 1073741824) = nsAt K j := by
  unfold nsAt
  rw [List.set_set]

theorem many_add (b : Nat) (K : Int) (j : Nat) (w : World) (h : Holds w b (nsAt K j)) (h1 : 1 ≤ K) (h2 : K ≤ 14) (hj : j < 1048576) :
    Calls Try.prog 10 #[.pointer (some ⟨b, 0, none⟩), .int .i64 K, .int .i64 1073741824] w fun e w' => e = .returned (.int .i64 0) ∧ Holds w' b (nsAt K (j + 1)) ∧ w.grownBy w' (some b) := by
  have hg := nsAt_get K j h1 h2
  have e1 : addCode (nsAt K j) K 1073741824 = 0 := by
    unfold addCode
    rw [if_neg (by omega), if_neg (by rw [hg]; omega)]
  have e2 : addNs (nsAt K j) K 1073741824 = nsAt K (j + 1) := by
    unfold addNs
    rw [if_pos e1, hg, ← nsAt_set K j (j + 1), show ((j + 1 : Nat) : Int) * 1073741824 = j * 1073741824 + 1073741824 from by omega]
  have := add_spec b (nsAt K j) K 1073741824 w h (nsAt_bd K j (by omega))
  rwa [e1, e2] at this
theorem many_full (b j : Nat) (K : Int) (w : World) (hj : Hid (j = 1048576)) (h : Holds w b (nsAt K j)) (h1 : 1 ≤ K) (h2 : K ≤ 14) :
    Calls Try.prog 10 #[.pointer (some ⟨b, 0, none⟩), .int .i64 K, .int .i64 1] w fun e w' => e = .returned (.int .i64 3) ∧ Holds w' b (nsAt K j) ∧ w.grownBy w' (some b) := by
  have hg := nsAt_get K j h1 h2
  have e1 : addCode (nsAt K j) K 1 = 3 := by
    unfold addCode
    rw [if_neg (by omega), if_pos (by rw [hg]; have := hj.out; omega)]
  have e2 : addNs (nsAt K j) K 1 = nsAt K j := by
    unfold addNs
    rw [if_neg (by omega)]
  have := add_spec b (nsAt K j) K 1 w h (nsAt_bd K j (by have := hj.out; omega))
  rwa [e1, e2] at this
theorem many_zero (b j : Nat) (K : Int) (w : World) (hj : Hid (j = 1048576)) (h : Holds w b (nsAt K j)) (h1 : 1 ≤ K) (h2 : K ≤ 14) :
    Calls Try.prog 10 #[.pointer (some ⟨b, 0, none⟩), .int .i64 K, .int .i64 0] w fun e w' => e = .returned (.int .i64 0) ∧ Holds w' b (nsAt K j) ∧ w.grownBy w' (some b) := by
  have hg := nsAt_get K j h1 h2
  have e1 : addCode (nsAt K j) K 0 = 0 := by
    unfold addCode
    rw [if_neg (by omega), if_neg (by rw [hg]; have := hj.out; omega)]
  have e2 : addNs (nsAt K j) K 0 = nsAt K j := by
    unfold addNs
    rw [if_pos e1, hg, Int.add_zero, nsAt_set]
  have := add_spec b (nsAt K j) K 0 w h (nsAt_bd K j (by have := hj.out; omega))
  rwa [e1, e2] at this
theorem many_get (b j : Nat) (K : Int) (w : World) (hj : Hid (j = 1048576)) (h : Holds w b (nsAt K j)) (h1 : 1 ≤ K) (h2 : K ≤ 14) :
    Calls Try.prog 11 #[.pointer (some ⟨b, 0, none⟩), .int .i64 K] w fun e w' => e = .returned (.int .i64 1125899906842624) ∧ w = w' := by
  have hg := nsAt_get K j h1 h2
  have e1 : getV (nsAt K j) K = 1125899906842624 := by
    unfold getV
    rw [if_pos (by omega), hg]
    have := hj.out
    omega
  have := get_spec b (nsAt K j) K w h
  rwa [e1] at this

set_option maxRecDepth 100000 in
theorem walkMany (x : Int) (wx : (Lit.int .u8 x).wf = true) (w : World) : Calls Try.prog 3 #[.int .u8 x] w fun e w' => e = .returned (.bool true) ∧ Below w.heap.size w w' := by
  have hx : 0 ≤ x ∧ x ≤ 255 := by simpa [Lit.wf, IntKind.min, IntKind.max, IntKind.signed, IntKind.bits] using wx
  obtain ⟨hx0, hx1⟩ := hx
  clear wx
  go_enter Try.func3, Try.ntmps3
  go_wp2_with (first | (go_at_call 8; refine (new_spec _).mono ?_; rintro e w1 ⟨rfl, hH, hG⟩) | (go_at_call 9; refine (awake_any _).mono ?_; rintro e w2 ⟨rfl, hG2⟩))
  have hK1 : 1 ≤ 1 + x % 14 := by omega
  have hK2 : 1 + x % 14 ≤ 14 := by omega
  have hH2 : Holds w2 w.heap.size zeros := hH.kept hG2 (by simp)
  rw [← nsAt_zero (1 + x % 14) hK1 hK2] at hH2
  have hB2 : Below w.heap.size w w2 := gbelow (gtrans hG hG2 (.inl rfl)) (by simp)
  clear hG hG2 hH
  generalize 1 + x % 14 = K at hK1 hK2 hH2
  go_loopw [5] (fun v wr => ∃ j : Nat, j ≤ 1048576 ∧ v = .int .i64 j ∧ Holds wr w.heap.size (nsAt K j) ∧ Below w.heap.size w wr) (fun v _ => 1048576 - (intOf v).toNat)
  case atStart => exact ⟨0, Nat.zero_le _, rfl, hH2, hB2⟩
  case round =>
    obtain ⟨j, hj, rfl, hHj, hBj⟩ := hrel
    clear hH2 hB2
    by_cases hlt : j < 1048576
    · have hl2 := Lib.hid hlt
      have hlt2 : decide ((j : Int) < 1048576) = true := by rw [decide_eq_true_iff]; omega
      clear hlt
      go_wp2_with (first | (go_at_call 10; refine (many_add _ _ j _ hHj hK1 hK2 hl2.out).mono ?_; rintro e w3 ⟨rfl, hH3, hG3⟩))
      go_roundw
      case rel => exact ⟨j + 1, hl2.out, by go_num, hH3, hBj.grown hG3 hBj.size (by rintro k ⟨⟩; exact Nat.le_refl _)⟩
      case measure => have := hl2.out; simp only [intOf, Array.getD, Act.put]; simp; omega
    · have hje := Lib.hid (show j = 1048576 by omega)
      have hlt2 : decide ((j : Int) < 1048576) = false := by rw [decide_eq_false_iff_not]; omega
      go_wp2_with (first | (go_at_call 11; refine (many_get _ _ _ _ hje hH4 hK1 hK2).mono ?_; rintro e w5 ⟨rfl, rfl⟩) | (go_at_call 10; (with_reducible refine (many_full _ _ _ _ hje hHj hK1 hK2).mono ?_); rintro e w3 ⟨rfl, hH3, hG3⟩) | (go_at_call 10; refine (many_zero _ _ _ _ hje hH3 hK1 hK2).mono ?_; rintro e w4 ⟨rfl, hH4, hG4⟩))
      go_ret
      exact ⟨rfl, (hBj.grown hG3 hBj.size (by rintro k ⟨⟩; exact Nat.le_refl _)).grown hG4 (Nat.le_trans hBj.size hG3.size) (by rintro k ⟨⟩; exact Nat.le_refl _)⟩
end Go.Proofs.Ytbblfhpicjdgnaa.W
