/-
  What the methods of a tally that nobody made tell, and what Diff makes, over any memory.
-/
import Derived.Test.YtbblfhpicjdgnaaW8
set_option linter.unusedVariables false
set_option linter.unusedSimpArgs false
namespace Go.Proofs.Ytbblfhpicjdgnaa.W
open Go.RowKit

/-- A tally that nobody made: nil, or one that New did not make. -/
def Nob (w : World) (p : Value) : Prop := p = .pointer none ∨ ∃ b, p = .pointer (some ⟨b, 0, none⟩) ∧ b < w.heap.size ∧ w.cell? ⟨b, 15, none⟩ = some (.bool false)
theorem Nob.below {w w' : World} {p : Value} (h : Nob w p) (hb : Below w.heap.size w w') : Nob w' p := by
  rcases h with h | ⟨b, h1, h2, h3⟩
  · exact .inl h
  · exact .inr ⟨b, h1, Nat.lt_of_lt_of_le h2 hb.size, (hb.cell (p := ⟨b, 15, none⟩) h2).trans h3⟩
theorem Nob.grown {w w' : World} {p : Value} (h : Nob w p) (hg : w.grownBy w' none) : Nob w' p := h.below (gbelow hg (by simp))

theorem none_nob (p : Value) (w : World) (h : Nob w p) : Calls Try.prog 26 #[p] w fun e w' => e = .returned (.bool true) ∧ w = w' := by
  rcases h with rfl | ⟨b, rfl, _, h⟩
  · exact none_nil w
  · exact none_raw b w h
theorem add_nob (p : Value) (k n : Int) (w : World) (h : Nob w p) : Calls Try.prog 10 #[p, .int .i64 k, .int .i64 n] w fun e w' => e = .returned (.int .i64 4) ∧ w = w' := by
  have H := Lib.hid h
  clear h
  go_enter Try.func10, Try.ntmps10
  go_wp2_with (first | (go_at_call 26; refine (none_nob _ _ H.out).mono ?_; rintro e w' ⟨rfl, rfl⟩))
  go_ret
  exact ⟨rfl, rfl⟩
theorem get_nob (p : Value) (k : Int) (w : World) (h : Nob w p) : Calls Try.prog 11 #[p, .int .i64 k] w fun e w' => e = .returned (.int .i64 0) ∧ w = w' := by
  have H := Lib.hid h
  clear h
  go_enter Try.func11, Try.ntmps11
  go_wp2_with (first | (go_at_call 26; refine (none_nob _ _ H.out).mono ?_; rintro e w' ⟨rfl, rfl⟩))
  go_ret
  exact ⟨rfl, rfl⟩
theorem fork_nob (p : Value) (w : World) (h : Nob w p) : Calls Try.prog 18 #[p] w fun e w' => e = .returned (.pointer none) ∧ w = w' := by
  have H := Lib.hid h
  clear h
  go_enter Try.func18, Try.ntmps18
  go_wp2_with (first | (go_at_call 26; refine (none_nob _ _ H.out).mono ?_; rintro e w' ⟨rfl, rfl⟩))
  go_ret
  exact ⟨rfl, rfl⟩
theorem all_nob (p : Value) (w : World) (h : Nob w p) : Calls Try.prog 22 #[p] w fun e w' => e = .returned (.slice none 0 0) ∧ w = w' := by
  have H := Lib.hid h
  clear h
  go_enter Try.func22, Try.ntmps22
  go_wp2_with (first | (go_at_call 26; refine (none_nob _ _ H.out).mono ?_; rintro e w' ⟨rfl, rfl⟩))
  go_ret
  exact ⟨rfl, rfl⟩
theorem sum_nob (p : Value) (xs : List Int) (a : Option Addr) (n c : Nat) (w : World) (h : Nob w p) (hr : RInts w a n xs) :
    Calls Try.prog 23 #[p, .slice a n c] w fun e w' => e = .returned (.int .i64 0) ∧ w = w' := by
  have H := Lib.hid h
  have HR := Lib.hid hr
  clear h hr
  go_enter Try.func23, Try.ntmps23
  go_wp2
  go_loop [5, 6] (fun s i => ∃ k : Nat, k ≤ 14 ∧ s = .int .i64 0 ∧ i = .int .i64 ((k : Int) + 1)) (fun _ i => 15 - (intOf i).toNat)
  case atStart => exact ⟨0, Nat.zero_le _, rfl, rfl⟩
  case round =>
    obtain ⟨k, hk, rfl, rfl⟩ := hrel
    by_cases hlt : k < 14
    · by_cases hin : ((k : Int) + 1) ∈ xs
      · have HIN := Lib.hid hin
        clear hin
        go_wp2_with (first | (go_at_call 32; refine (contains_yes _ _ _ _ _ _ HR.out HIN.out).mono ?_; rintro e w' ⟨rfl, rfl⟩) | (go_at_call 11; refine (get_nob _ _ _ H.out).mono ?_; rintro e w' ⟨rfl, rfl⟩))
        go_round
        case rel => exact ⟨k + 1, by omega, rfl, by go_num⟩
        case measure => simp [intOf]; omega
      · have HIN := Lib.hid hin
        clear hin
        go_wp2_with (first | (go_at_call 32; refine (contains_no _ _ _ _ _ _ HR.out HIN.out).mono ?_; rintro e w' ⟨rfl, rfl⟩))
        go_round
        case rel => exact ⟨k + 1, by omega, rfl, by go_num⟩
        case measure => simp [intOf]; omega
    · obtain rfl : k = 14 := by omega
      clear hlt
      go_wp2
      go_ret
      exact ⟨rfl, rfl⟩

/-! ### Diff -/
/-- What Get tells of a tally, whatever comes behind what is there. -/
def Tells (w : World) (p : Value) (f : Int → Int) : Prop := ∀ W : World, Below w.heap.size w W → ∀ k : Int, Calls Try.prog 11 #[p, .int .i64 k] W fun e w' => e = .returned (.int .i64 (f k)) ∧ W = w'
theorem Holds.tells {w : World} {b : Nat} {ns : List Int} (h : Holds w b ns) : Tells w (.pointer (some ⟨b, 0, none⟩)) (getV ns) :=
  fun W hb k => get_spec b ns k W (h.below hb h.lt)
theorem Nob.tells {w : World} {p : Value} (h : Nob w p) : Tells w p (fun _ => 0) := fun W hb k => get_nob p k W (h.below hb)
def dl (f : Int → Int) (i : Nat) : List Int := (List.range 15).map fun j => if j < i then f j else 0
theorem dl_zero (f : Int → Int) : dl f 0 = zeros := by
  unfold dl zeros
  apply List.ext_getElem?
  intro i
  rw [List.getElem?_map, List.getElem?_replicate]
  by_cases hi : i < 15
  · simp [hi]
  · simp [hi]
theorem dl_set (f : Int → Int) (i : Nat) (hi : i < 15) : (dl f i).set i (f i) = dl f (i + 1) := by
  unfold dl
  apply List.ext_getElem?
  intro j
  rw [List.getElem?_set]
  simp only [List.getElem?_map, List.length_map, List.length_range]
  by_cases hij : i = j
  · subst hij
    simp [hi]
  · rw [if_neg hij]
    by_cases hj : j < 15
    · simp only [List.getElem?_range hj, Option.map_some]
      congr 1
      by_cases h1 : j < i
      · rw [if_pos h1, if_pos (by omega)]
      · rw [if_neg h1, if_neg (by omega)]
    · simp [hj]
theorem dl_get (f : Int → Int) (i j : Nat) (hj : j < 15) (hi : j < i) : (dl f i).getD j 0 = f j := by
  unfold dl
  simp [List.getD_eq_getElem?_getD, hj, hi]

theorem made15 (w : World) : Row15 (w.alloc (.cells #[.int .i64 0, .int .i64 0, .int .i64 0, .int .i64 0, .int .i64 0, .int .i64 0, .int .i64 0, .int .i64 0, .int .i64 0, .int .i64 0, .int .i64 0, .int .i64 0, .int .i64 0, .int .i64 0, .int .i64 0] 3)) w.heap.size 15 zeros := by
  have h := World.ownsRow_lit (base := 0) (e := 3) (size := 1) w #[.int .i64 0, .int .i64 0, .int .i64 0, .int .i64 0, .int .i64 0, .int .i64 0, .int .i64 0, .int .i64 0, .int .i64 0, .int .i64 0, .int .i64 0, .int .i64 0, .int .i64 0, .int .i64 0, .int .i64 0] 15 (Nat.zero_le _) (by simp [maxLen]) rfl
  exact h

theorem diff_any (p1 p2 : Value) (f1 f2 : Int → Int) (w : World) (h1 : Tells w p1 f1) (h2 : Tells w p2 f2) (b1 : ∀ k, 0 ≤ f1 k ∧ f1 k ≤ 1125899906842624) (b2 : ∀ k, 0 ≤ f2 k ∧ f2 k ≤ 1125899906842624) :
    Calls Try.prog 25 #[p1, p2] w fun e w' => ∃ g, e = .returned (.slice (some ⟨g, 0, none⟩) 15 15) ∧ Row15 w' g 15 (dl (fun k => f1 k - f2 k) 15) ∧ w.grownBy w' none := by
  have hmk : ∀ W : World, (Instr.makeSlice 37 (.int .i64 15) (.int .i64 15)).run Try.prog W = .ok (.slice (some ⟨W.heap.size, 0, none⟩) 15 15) (W.alloc (.cells #[.int .i64 0, .int .i64 0, .int .i64 0, .int .i64 0, .int .i64 0, .int .i64 0, .int .i64 0, .int .i64 0, .int .i64 0, .int .i64 0, .int .i64 0, .int .i64 0, .int .i64 0, .int .i64 0, .int .i64 0] 3)) := fun W => by kernel_rfl
  have T1 := Lib.hid h1
  have T2 := Lib.hid h2
  have B1 := Lib.hid b1
  have B2 := Lib.hid b2
  clear h1 h2 b1 b2
  go_enter Try.func25, Try.ntmps25
  go_wp2
  have hrow := made15 w
  have hgr : Below w.heap.size w _ := (Below.refl _ _).alloc (Nat.le_refl _) (.cells #[.int .i64 0, .int .i64 0, .int .i64 0, .int .i64 0, .int .i64 0, .int .i64 0, .int .i64 0, .int .i64 0, .int .i64 0, .int .i64 0, .int .i64 0, .int .i64 0, .int .i64 0, .int .i64 0, .int .i64 0] 3)
  rw [← dl_zero (fun k => f1 k - f2 k)] at hrow
  have HROW := Lib.hid hrow
  have HGR := Lib.hid hgr
  clear hrow hgr hmk
  go_loopw [10] (fun i wr => ∃ k : Nat, k ≤ 15 ∧ i = .int .i64 k ∧ Hid (Row15 wr w.heap.size 15 (dl (fun k => f1 k - f2 k) k)) ∧ Hid (Below w.heap.size w wr)) (fun i _ => 15 - (intOf i).toNat)
  case atStart => exact ⟨0, Nat.zero_le _, rfl, HROW, HGR⟩
  case round =>
    clear HROW HGR
    obtain ⟨k, hk, rfl, HR, HB⟩ := hrel
    by_cases hlt : k < 15
    · obtain ⟨y1, hy1⟩ : ∃ y, y = f1 k := ⟨_, rfl⟩
      obtain ⟨y2, hy2⟩ : ∃ y, y = f2 k := ⟨_, rfl⟩
      have hb1 := B1.out k
      have hb2 := B2.out k
      rw [← hy1] at hb1
      rw [← hy2] at hb2
      have HY1 := Lib.hid hy1
      have HY2 := Lib.hid hy2
      clear hy1 hy2
      obtain ⟨hb10, hb11⟩ := hb1
      obtain ⟨hb20, hb21⟩ := hb2
      have hc := HR.out.cell k hlt
      have hf := HR.out.frozen k
      have hgl := HR.out.lt
      have C1 := Lib.hid (show Calls Try.prog 11 #[p1, .int .i64 (k : Int)] wr fun e w' => e = .returned (.int .i64 y1) ∧ wr = w' by rw [HY1.out]; exact T1.out _ HB.out _)
      have C2 := Lib.hid (show Calls Try.prog 11 #[p2, .int .i64 (k : Int)] wr fun e w' => e = .returned (.int .i64 y2) ∧ wr = w' by rw [HY2.out]; exact T2.out _ HB.out _)
      go_wp2_with (first | (go_at_call 11; (with_reducible refine C1.out.mono ?_); rintro e w' ⟨rfl, rfl⟩) | (go_at_call 11; (with_reducible refine C2.out.mono ?_); rintro e w' ⟨rfl, rfl⟩))
      go_roundw
      case rel =>
        refine ⟨k + 1, by omega, by go_num, ?_, ?_⟩
        · have h := (HR.out.set_ k (y1 - y2)).1
          rw [HY1.out, HY2.out, dl_set (fun k => f1 k - f2 k) k hlt] at h
          rw [← HY1.out, ← HY2.out] at h
          exact Lib.hid h
        · exact Lib.hid (HB.out.setCell (Nat.le_refl _) _)
      case measure => simp [intOf]; omega
    · obtain rfl : k = 15 := by omega
      clear hlt
      go_wp2
      go_ret
      exact ⟨w.heap.size, rfl, HR.out, ⟨HB.out.os, HB.out.tape, HB.out.output, HB.out.size, fun i hi _ => HB.out.block i hi⟩⟩
end Go.Proofs.Ytbblfhpicjdgnaa.W
