/-
  What slices.Index, slices.Contains and Sum do over a slice of numbers that is read and a tally.
-/
import Derived.Test.YtbblfhpicjdgnaaW1
import Derived.LoopTactic
import Derived.Deep.LoopGhost
import Derived.Lib.Hide
set_option linter.unusedVariables false
set_option linter.unusedSimpArgs false
namespace Go.Proofs.Ytbblfhpicjdgnaa.W
open Go.RowKit

/-- A slice of ints that is read. -/
def RInts (w : World) (a : Option Addr) (n : Nat) (xs : List Int) : Prop :=
  xs.length = n ∧ n ≤ 9223372036854775807 ∧ (0 < n → ∃ b o, a = some ⟨b, o, none⟩ ∧ b < w.heap.size ∧ ∀ j, j < n → w.cell? ⟨b, o + j, none⟩ = some (.int .i64 (xs.getD j 0)))

def idx (xs : List Int) (v : Int) : Nat → Int
  | 0 => -1
  | d + 1 => if xs.getD (xs.length - (d + 1)) 0 = v then ((xs.length - (d + 1) : Nat) : Int) else idx xs v d

theorem idx_neg (xs : List Int) (v : Int) (d : Nat) (hd : d ≤ xs.length) : (idx xs v d < 0 ↔ ¬ v ∈ xs.drop (xs.length - d)) ∧ -1 ≤ idx xs v d := by
  induction d with
  | zero => simp [idx]
  | succ d ih =>
    obtain ⟨i1, i2⟩ := ih (by omega)
    have hl : xs.length - (d + 1) < xs.length := by omega
    have e : xs.drop (xs.length - (d + 1)) = xs.getD (xs.length - (d + 1)) 0 :: xs.drop (xs.length - d) := by
      rw [List.drop_eq_getElem_cons hl, List.getD_eq_getElem?_getD, List.getElem?_eq_getElem hl]
      simp only [Option.getD_some]
      congr 2
      omega
    rw [e]
    unfold idx
    by_cases h : xs.getD (xs.length - (d + 1)) 0 = v
    · rw [if_pos h]
      refine ⟨⟨fun h2 => absurd h2 (by omega), fun h2 => ?_⟩, by omega⟩
      exact absurd (by rw [h]; exact List.mem_cons_self) h2
    · rw [if_neg h]
      refine ⟨?_, i2⟩
      rw [i1, List.mem_cons]
      constructor
      · rintro h1 (h2 | h2)
        · exact h h2.symm
        · exact h1 h2
      · intro h1 h2
        exact h1 (.inr h2)

theorem index_any (a : Option Addr) (n c : Nat) (xs : List Int) (v R : Int) (w : World) (h : RInts w a n xs) (HR : Hid (idx xs v n = R)) :
    Calls Try.prog 33 #[.slice a n c, .int .i64 v] w fun e w' => e = .returned (.int .i64 R) ∧ w = w' := by
  obtain ⟨hl, hn, hc⟩ := h
  have HL := Lib.hid hl
  clear hl
  go_enter Try.func33, Try.ntmps33
  go_wp2
  go_loop [8] (fun i => ∃ k : Nat, k ≤ n ∧ i = .int .i64 k ∧ Hid (idx xs v (n - k) = R)) (fun i => n - (intOf i).toNat)
  case atStart => exact ⟨0, Nat.zero_le _, rfl, HR⟩
  case round =>
    obtain ⟨k, hk, rfl, hi⟩ := hrel
    by_cases hlt : k < n
    · obtain ⟨b, o, rfl, hb, hcell⟩ := hc (by omega)
      have hk1 := hcell k hlt
      clear hcell hc
      have hii := hi.out
      rw [show n - k = (n - (k + 1)) + 1 from by omega] at hii
      unfold idx at hii
      rw [show xs.length - (n - (k + 1) + 1) = k from by have := HL.out; omega] at hii
      generalize xs.getD k 0 = y at hk1 hii
      by_cases hy : y = v
      · rw [if_pos hy] at hii
        have hii2 := Lib.hid hii
        have hy2 : (v == y) = true := by rw [hy]; exact beq_self_eq_true _
        clear hy hi hii
        go_wp2
        go_ret
        exact ⟨by rw [← hii2.out]; rfl, rfl⟩
      · rw [if_neg hy] at hii
        have hii2 := Lib.hid hii
        have hy2 : (v == y) = false := by rw [beq_eq_false_iff_ne]; exact fun h => hy h.symm
        clear hy hi hii
        go_wp2
        go_round
        case rel => exact ⟨k + 1, by omega, by go_num, hii2⟩
        case measure => simp [intOf]; omega
    · have hi2 : Hid ((-1 : Int) = R) := by
        have h2 := hi.out
        rw [show n - k = 0 from by omega] at h2
        exact h2
      clear hi hc
      go_wp2
      go_ret
      exact ⟨by rw [← hi2.out]; rfl, rfl⟩

theorem contains_yes (a : Option Addr) (n c : Nat) (xs : List Int) (v : Int) (w : World) (h : RInts w a n xs) (hv : v ∈ xs) :
    Calls Try.prog 32 #[.slice a n c, .int .i64 v] w fun e w' => e = .returned (.bool true) ∧ w = w' := by
  have h0 : 0 ≤ idx xs v n := by
    have h1 := (idx_neg xs v n (by have := h.1; omega)).1
    rw [show xs.length - n = 0 from by have := h.1; omega, List.drop_zero] at h1
    rcases Int.lt_or_le (idx xs v n) 0 with hlt | hle
    · exact absurd hv (h1.1 hlt)
    · exact hle
  generalize hz : idx xs v n = z at h0
  have HZ := Lib.hid hz
  clear hz
  have H := Lib.hid h
  clear h hv
  go_enter Try.func32, Try.ntmps32
  go_wp2_with (first | (go_at_call 33; refine (index_any _ _ _ _ _ _ _ H.out HZ).mono ?_; rintro e w' ⟨rfl, rfl⟩))
  go_ret
  exact ⟨rfl, rfl⟩
theorem contains_no (a : Option Addr) (n c : Nat) (xs : List Int) (v : Int) (w : World) (h : RInts w a n xs) (hv : ¬ v ∈ xs) :
    Calls Try.prog 32 #[.slice a n c, .int .i64 v] w fun e w' => e = .returned (.bool false) ∧ w = w' := by
  have h0 : idx xs v n < 0 := by
    have h1 := (idx_neg xs v n (by have := h.1; omega)).1
    rw [show xs.length - n = 0 from by have := h.1; omega, List.drop_zero] at h1
    exact h1.2 hv
  generalize hz : idx xs v n = z at h0
  have HZ := Lib.hid hz
  clear hz
  have H := Lib.hid h
  clear h hv
  go_enter Try.func32, Try.ntmps32
  go_wp2_with (first | (go_at_call 33; refine (index_any _ _ _ _ _ _ _ H.out HZ).mono ?_; rintro e w' ⟨rfl, rfl⟩))
  go_ret
  exact ⟨by show Ending.returned (.bool (decide (0 ≤ z))) = _; rw [decide_eq_false (by omega)], rfl⟩

def sumTo (ns xs : List Int) : Nat → Int
  | 0 => 0
  | k + 1 => sumTo ns xs k + if ((k + 1 : Nat) : Int) ∈ xs then ns.getD (k + 1) 0 else 0
def Bounded (ns : List Int) : Prop := ∀ i, 0 ≤ ns.getD i 0 ∧ ns.getD i 0 ≤ 1125899906842624
theorem sumTo_le (ns xs : List Int) (hb : Bounded ns) (k : Nat) : 0 ≤ sumTo ns xs k ∧ sumTo ns xs k ≤ k * 1125899906842624 := by
  induction k with
  | zero => simp [sumTo]
  | succ k ih =>
    unfold sumTo
    have := hb (k + 1)
    split <;> omega

theorem sum_any (b : Nat) (ns xs : List Int) (a : Option Addr) (n c : Nat) (w : World) (h : Holds w b ns) (hr : RInts w a n xs) (hb : Bounded ns) :
    Calls Try.prog 23 #[.pointer (some ⟨b, 0, none⟩), .slice a n c] w fun e w' => e = .returned (.int .i64 (sumTo ns xs 14)) ∧ w = w' := by
  have H := Lib.hid h
  have HR := Lib.hid hr
  have HB := Lib.hid hb
  clear h hr hb
  go_enter Try.func23, Try.ntmps23
  go_wp2
  go_loop [5, 6] (fun s i => ∃ (k : Nat) (z : Int), k ≤ 14 ∧ s = .int .i64 z ∧ i = .int .i64 ((k : Int) + 1) ∧ Hid (sumTo ns xs k = z)) (fun _ i => 15 - (intOf i).toNat)
  case atStart => exact ⟨0, 0, Nat.zero_le _, rfl, rfl, rfl⟩
  case round =>
    obtain ⟨k, z, hk, rfl, rfl, hz⟩ := hrel
    have hz1 : 0 ≤ z ∧ z ≤ k * 1125899906842624 := by rw [← hz.out]; exact sumTo_le ns xs HB.out k
    by_cases hlt : k < 14
    · have hg := HB.out (k + 1)
      have hstep : sumTo ns xs (k + 1) = z + if ((k + 1 : Nat) : Int) ∈ xs then ns.getD (k + 1) 0 else 0 := by rw [← hz.out]; rfl
      by_cases hin : ((k : Int) + 1) ∈ xs
      · rw [if_pos (by simpa using hin)] at hstep
        have hgv : ∃ y, y = ns.getD (k + 1) 0 := ⟨_, rfl⟩
        obtain ⟨y, hy⟩ := hgv
        rw [← hy] at hstep hg
        have HS := Lib.hid hstep
        have HY := Lib.hid hy
        have HIN := Lib.hid hin
        clear hstep hz hy hin
        go_wp2_with (first | (go_at_call 32; refine (contains_yes _ _ _ _ _ _ HR.out HIN.out).mono ?_; rintro e w' ⟨rfl, rfl⟩) | (go_at_call 11; refine (get_ok _ _ (k + 1) _ H.out (by omega) (by omega)).mono ?_; rintro e w' ⟨rfl, rfl⟩; rw [← HY.out]))
        go_round
        case rel => exact ⟨k + 1, z + y, by omega, rfl, by go_num, HS.out⟩
        case measure => simp [intOf]; omega
      · rw [if_neg (by simpa using hin)] at hstep
        have HS := Lib.hid hstep
        have HIN := Lib.hid hin
        clear hstep hz hin hg
        go_wp2_with (first | (go_at_call 32; refine (contains_no _ _ _ _ _ _ HR.out HIN.out).mono ?_; rintro e w' ⟨rfl, rfl⟩))
        go_round
        case rel => exact ⟨k + 1, z, by omega, rfl, by go_num, by have := HS.out; rw [Int.add_zero] at this; exact this⟩
        case measure => simp [intOf]; omega
    · obtain rfl : k = 14 := by omega
      clear hlt
      go_wp2
      go_ret
      exact ⟨by rw [hz.out]; rfl, rfl⟩
end Go.Proofs.Ytbblfhpicjdgnaa.W
