/-
  What All, and few, New, Get and Same of the reference do, over any memory.
-/
import Derived.Test.YtbblfhpicjdgnaaW5
import Derived.Test.YtbblfhpicjdgnaaIs
set_option linter.unusedVariables false
set_option linter.unusedSimpArgs false
namespace Go.Proofs.Ytbblfhpicjdgnaa.W
open Go.RowKit

theorem all_any (b : Nat) (ns : List Int) (w : World) (h : Holds w b ns) :
    Calls Try.prog 22 #[.pointer (some ⟨b, 0, none⟩)] w fun e w' => ∃ g' c', e = .returned (.slice (some ⟨g', 0, none⟩) 15 c') ∧ Row15 w' g' c' ns ∧ w.grownBy w' none := by
  have hm := h.made
  have H := Lib.hid h
  clear h
  go_enter Try.func22, Try.ntmps22
  go_wp2_with (first | (go_at_call 26; refine (none_made _ _ hm).mono ?_; rintro e w' ⟨rfl, rfl⟩) | (go_at_call 31; refine (clone15 _ _ ns _ H.out.cells).mono ?_; rintro e w' ⟨g, c, rfl, hR, hG⟩))
  go_ret
  exact ⟨g, c, rfl, hR, hG⟩

theorem rnew_any (w : World) : Calls Try.prog 17 #[] w fun e w' => ∃ g c, e = .returned (.agg #[.slice (some ⟨g, 0, none⟩) 15 c]) ∧ Row15 w' g c zeros ∧ w.grownBy w' none := by
  have hmk : ∀ W : World, (Instr.makeSlice 37 (.int .i64 15) (.int .i64 15)).run Try.prog W = .ok (.slice (some ⟨W.heap.size, 0, none⟩) 15 15) (W.alloc (.cells #[.int .i64 0, .int .i64 0, .int .i64 0, .int .i64 0, .int .i64 0, .int .i64 0, .int .i64 0, .int .i64 0, .int .i64 0, .int .i64 0, .int .i64 0, .int .i64 0, .int .i64 0, .int .i64 0, .int .i64 0] 3)) := fun W => by kernel_rfl
  go_enter Try.func17, Try.ntmps17
  go_wp2
  refine bodyPost_ret (v := .agg #[.slice (some ⟨w.heap.size + 1, 0, none⟩) 15 15]) (by simp [results, Try.results17, go_sem]) rfl ⟨w.heap.size + 1, 15, rfl, ?_, gtrans (World.grownBy_alloc _ _ _) (World.grownBy_alloc _ _ _) (.inl rfl)⟩
  have h := World.ownsRow_lit (base := 0) (e := 3) (size := 1) (w.alloc (.cells #[.slice (some ⟨w.heap.size + 1, 0, none⟩) 15 15] 39)) #[.int .i64 0, .int .i64 0, .int .i64 0, .int .i64 0, .int .i64 0, .int .i64 0, .int .i64 0, .int .i64 0, .int .i64 0, .int .i64 0, .int .i64 0, .int .i64 0, .int .i64 0, .int .i64 0, .int .i64 0] 15 (Nat.zero_le _) (by simp [maxLen]) rfl
  rw [World.size_alloc] at h
  exact h

theorem rget_any (g c : Nat) (ns : List Int) (k : Int) (w : World) (h : Row15 w g c ns) :
    Calls Try.prog 20 #[.agg #[.slice (some ⟨g, 0, none⟩) 15 c], .int .i64 k] w fun e w' => e = .returned (.int .i64 (getV ns k)) ∧ w.grownBy w' none := by
  by_cases h1 : 1 ≤ k ∧ k ≤ 14
  · obtain ⟨j, rfl⟩ := Int.eq_ofNat_of_zero_le (show 0 ≤ k by omega)
    have hc := h.cell j (by omega)
    have e1 : getV ns j = ns.getD j 0 := by unfold getV; rw [if_pos h1, Int.toNat_natCast]
    rw [e1]
    have hj1 : 1 ≤ (j : Int) := h1.1
    have hj2 : (j : Int) ≤ 14 := h1.2
    have hlt := h.lt
    clear h1 e1 h
    generalize ns.getD j 0 = v at hc
    go_enter Try.func20, Try.ntmps20
    go_wp2_with (first | (go_at_call 30; refine (ris_yes _ _ hj1 hj2).mono ?_; rintro e w' ⟨rfl, rfl⟩))
    go_ret
    exact ⟨rfl, World.grownBy_alloc _ _ _⟩
  · have e1 : getV ns k = 0 := by unfold getV; rw [if_neg h1]
    rw [e1]
    clear h e1
    go_enter Try.func20, Try.ntmps20
    go_wp2_with (first | (go_at_call 30; refine (ris_no _ _ h1).mono ?_; rintro e w' ⟨rfl, rfl⟩))
    go_ret
    exact ⟨rfl, World.grownBy_alloc _ _ _⟩

theorem RInts.drewN {w : World} {a : Option Addr} {n : Nat} {xs : List Int} (h : RInts w a n xs) (m : Nat) : RInts (w.drewN m) a n xs := h
theorem RInts.at_ {w : World} {a : Option Addr} {n : Nat} {xs : List Int} (h : RInts w a n xs) (i : Nat) (hi : i < n) : ∃ b o, a = some ⟨b, o, none⟩ ∧ b < w.heap.size ∧ w.cell? ⟨b, o + i, none⟩ = some (.int .i64 (xs.getD i 0)) := by
  obtain ⟨b, o, e, hb, hc⟩ := h.2.2 (by omega)
  exact ⟨b, o, e, hb, hc i hi⟩

theorem same_eq (a1 a2 : Option Addr) (n c1 c2 : Nat) (xs : List Int) (w : World) (h1 : RInts w a1 n xs) (h2 : RInts w a2 n xs) :
    Calls Try.prog 21 #[.slice a1 n c1, .slice a2 n c2] w fun e w' => e = .returned (.bool true) ∧ ∃ m, w' = w.drewN m := by
  have hn := h1.2.1
  have H1 := Lib.hid h1
  have H2 := Lib.hid h2
  clear h1 h2
  go_enter Try.func21, Try.ntmps21
  go_wp2
  go_loopw [5] (fun i wr => ∃ k m : Nat, k ≤ n ∧ i = .int .i64 k ∧ wr = w.drewN m) (fun i _ => n - (intOf i).toNat)
  case atStart => exact ⟨0, 0, Nat.zero_le _, rfl, rfl⟩
  case round =>
    obtain ⟨k, m, hk, rfl, rfl⟩ := hrel
    by_cases hlt : k < n
    · obtain ⟨b1, o1, rfl, hb1, hc1⟩ := H1.out.at_ k hlt
      obtain ⟨b2, o2, rfl, hb2, hc2⟩ := H2.out.at_ k hlt
      generalize xs.getD k 0 = y at hc1 hc2
      go_wp2
      go_quiet (fail)
      go_wp2
      go_roundw
      case rel => exact ⟨k + 1, m + nq, by omega, by go_num, rfl⟩
      case measure => simp [intOf]; omega
    · go_wp2
      go_ret
      exact ⟨rfl, m, rfl⟩

theorem RInts.take_ {w : World} {a : Option Addr} {n : Nat} {xs : List Int} (h : RInts w a n xs) (i : Nat) (hi : i ≤ n) : RInts w a i (xs.take i) := by
  refine ⟨by rw [List.length_take, h.1]; omega, by have := h.2.1; omega, fun hp => ?_⟩
  obtain ⟨b, o, e, hb, hc⟩ := h.2.2 (by omega)
  refine ⟨b, o, e, hb, fun j hj => ?_⟩
  rw [hc j (by omega)]
  simp [List.getD_eq_getElem?_getD, hj]

theorem few_any (a : Option Addr) (n c : Nat) (xs : List Int) (w : World) (h : RInts w a n xs) (hc : n ≤ c) :
    Calls Try.prog 16 #[.slice a n c] w fun e w' => ∃ m, e = .returned (.slice a m c) ∧ RInts w a m (xs.take m) ∧ m ≤ 30 ∧ m ≤ n ∧ w = w' := by
  have hn := h.2.1
  by_cases hl : 30 < n
  · have H := Lib.hid h
    clear h
    go_enter Try.func16, Try.ntmps16
    go_wp2
    go_outline
    go_ret
    exact ⟨30, rfl, H.out.take_ 30 (by omega), by omega, by omega, rfl⟩
  · have h2 := h.take_ n (by omega)
    have H := Lib.hid h2
    clear h h2
    go_enter Try.func16, Try.ntmps16
    go_wp2
    go_ret
    exact ⟨n, rfl, H.out, by omega, by omega, rfl⟩
end Go.Proofs.Ytbblfhpicjdgnaa.W
