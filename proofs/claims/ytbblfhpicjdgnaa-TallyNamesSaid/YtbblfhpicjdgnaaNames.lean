/-
  The call of TallyNames returns true, at every counter and every string, in every memory, and turns nothing that was there.
-/
import Derived.Test.YtbblfhpicjdgnaaNm
import Derived.Test.YtbblfhpicjdgnaaIs
set_option linter.unusedVariables false
set_option linter.unusedSimpArgs false
namespace Go.Proofs.Ytbblfhpicjdgnaa.W
open Go.RowKit

theorem name_in (k : Nat) (w : World) (h1 : 1 ≤ k) (h2 : k ≤ 14) : Calls Try.prog 14 #[.int .i64 k] w fun e w' => e = .returned (.string (nm k)) ∧ w.grownBy w' none := by
  have hi := fun W => index_names k (by omega) W
  go_enter Try.func14, Try.ntmps14
  go_wp2_with (first | (go_at_call 27; refine (is_yes _ _ (by omega) (by omega)).mono ?_; rintro e w' ⟨rfl, rfl⟩) | (go_at_call 28; refine (names_any _).mono ?_; rintro e w1 ⟨rfl, hG⟩))
  go_ret
  exact ⟨rfl, hG⟩
theorem name_out (k : Int) (w : World) (h : ¬ (1 ≤ k ∧ k ≤ 14)) : Calls Try.prog 14 #[.int .i64 k] w fun e w' => e = .returned (.string ⟨#[]⟩) ∧ w.grownBy w' none := by
  go_enter Try.func14, Try.ntmps14
  go_wp2_with (first | (go_at_call 27; refine (is_no _ _ h).mono ?_; rintro e w' ⟨rfl, rfl⟩))
  go_ret
  exact ⟨rfl, World.grownBy.refl _ _⟩
theorem rname_in (k : Nat) (w : World) (h1 : 1 ≤ k) (h2 : k ≤ 14) : Calls Try.prog 15 #[.int .i64 k] w fun e w' => e = .returned (.string (nm k)) ∧ w.grownBy w' none := by
  go_enter Try.func15, Try.ntmps15
  go_wp2_with (first | (go_at_call 30; refine (ris_yes _ _ (by omega) (by omega)).mono ?_; rintro e w' ⟨rfl, rfl⟩) | (go_at_call 29; refine (names2_any _).mono ?_; rintro e w1 ⟨rfl, hN, hG⟩; have hc := hN k (by omega)))
  go_ret
  exact ⟨rfl, hG⟩
theorem rname_out (k : Int) (w : World) (h : ¬ (1 ≤ k ∧ k ≤ 14)) : Calls Try.prog 15 #[.int .i64 k] w fun e w' => e = .returned (.string ⟨#[]⟩) ∧ w.grownBy w' none := by
  go_enter Try.func15, Try.ntmps15
  go_wp2_with (first | (go_at_call 30; refine (ris_no _ _ h).mono ?_; rintro e w' ⟨rfl, rfl⟩))
  go_ret
  exact ⟨rfl, World.grownBy.refl _ _⟩

theorem beqs_true {a b : ByteArray} (h : a = b) : (a.toList == b.toList) = true := by rw [h]; exact beq_self_eq_true _
theorem beqs_false {a b : ByteArray} (h : a ≠ b) : (a.toList == b.toList) = false := by
  rw [beq_eq_false_iff_ne]
  intro e
  rw [ByteArray.toList_eq, ByteArray.toList_eq] at e
  exact h (ByteArray.ext (Array.ext' e))

theorem parse_yes (k : Nat) (w : World) (h1 : 1 ≤ k) (h2 : k ≤ 14) : Calls Try.prog 12 #[.string (nm k)] w fun e w' => e = .returned (.tuple #[.int .i64 k, .bool true]) ∧ w.grownBy w' none := by
  go_enter Try.func12, Try.ntmps12
  go_wp2_with (first | (go_at_call 28; refine (names_any _).mono ?_; rintro e w1 ⟨rfl, hG⟩))
  go_loop [7] (fun i => ∃ j : Nat, j ≤ k ∧ i = .int .i64 j) (fun i => 15 - (intOf i).toNat)
  case atStart => exact ⟨0, Nat.zero_le _, rfl⟩
  case round =>
    obtain ⟨j, hj, rfl⟩ := hrel
    have hi := fun W => index_names j (by omega) W
    by_cases he : j = k
    · subst he
      have hq := beqs_true (rfl : nm j = nm j)
      go_wp2
      go_ret2
      exact ⟨rfl, hG⟩
    · have hq := beqs_false (nm_ne (show j < 15 by omega) (show k < 15 by omega) he)
      have hl := Lib.hid (show j < k by omega)
      clear he
      go_wp2
      all_goals
        go_round
        case rel => exact ⟨j + 1, by have := hl.out; omega, by go_num⟩
        case measure => simp [intOf]; omega
def NoName (s : ByteArray) : Prop := ∀ j, 1 ≤ j → j ≤ 14 → nm j ≠ s
theorem parse_no (s : ByteArray) (w : World) (h : NoName s) : Calls Try.prog 12 #[.string s] w fun e w' => e = .returned (.tuple #[.int .i64 0, .bool false]) ∧ w.grownBy w' none := by
  go_enter Try.func12, Try.ntmps12
  go_wp2_with (first | (go_at_call 28; refine (names_any _).mono ?_; rintro e w1 ⟨rfl, hG⟩))
  go_loop [7] (fun i => ∃ j : Nat, j ≤ 15 ∧ i = .int .i64 j) (fun i => 15 - (intOf i).toNat)
  case atStart => exact ⟨0, Nat.zero_le _, rfl⟩
  case round =>
    obtain ⟨j, hj, rfl⟩ := hrel
    by_cases hlt : j < 15
    · have hi := fun W => index_names j hlt W
      by_cases h0 : 1 ≤ j
      · have hq := beqs_false (h j h0 (by omega))
        go_wp2
        all_goals
          go_round
          case rel => exact ⟨j + 1, by omega, by go_num⟩
          case measure => simp [intOf]; omega
      · obtain rfl : j = 0 := by omega
        have hi0 : ∀ W, (Instr.index 59 namesV (.int .i64 0)).run Try.prog W = .ok (.string (nm 0)) W := fun W => index_names 0 (by omega) W
        clear hi
        go_wp2
        all_goals
          go_round
          case rel => exact ⟨1, by omega, by go_num⟩
          case measure => simp [intOf]
    · go_wp2
      go_ret2
      exact ⟨rfl, hG⟩
theorem rparse_yes (k : Nat) (w : World) (h1 : 1 ≤ k) (h2 : k ≤ 14) : Calls Try.prog 13 #[.string (nm k)] w fun e w' => e = .returned (.tuple #[.int .i64 k, .bool true]) ∧ w.grownBy w' none := by
  go_enter Try.func13, Try.ntmps13
  go_wp2_with (first | (go_at_call 29; refine (names2_any _).mono ?_; rintro e w1 ⟨rfl, hN, hG⟩))
  go_loop [5] (fun i => ∃ j : Nat, 1 ≤ j ∧ j ≤ k ∧ i = .int .i64 j) (fun i => 15 - (intOf i).toNat)
  case atStart => exact ⟨1, Nat.le_refl _, h1, rfl⟩
  case round =>
    obtain ⟨j, hj1, hj, rfl⟩ := hrel
    have hc := hN j (by omega)
    by_cases he : j = k
    · subst he
      have hq := beqs_true (rfl : nm j = nm j)
      go_wp2
      go_ret2
      exact ⟨rfl, hG⟩
    · have hq := beqs_false (nm_ne (show j < 15 by omega) (show k < 15 by omega) he)
      have hl := Lib.hid (show j < k by omega)
      clear he
      go_wp2
      all_goals
        go_round
        case rel => exact ⟨j + 1, by omega, by have := hl.out; omega, by go_num⟩
        case measure => simp [intOf]; omega
theorem rparse_no (s : ByteArray) (w : World) (h : NoName s) : Calls Try.prog 13 #[.string s] w fun e w' => e = .returned (.tuple #[.int .i64 0, .bool false]) ∧ w.grownBy w' none := by
  go_enter Try.func13, Try.ntmps13
  go_wp2_with (first | (go_at_call 29; refine (names2_any _).mono ?_; rintro e w1 ⟨rfl, hN, hG⟩))
  go_loop [5] (fun i => ∃ j : Nat, 1 ≤ j ∧ j ≤ 15 ∧ i = .int .i64 j) (fun i => 15 - (intOf i).toNat)
  case atStart => exact ⟨1, Nat.le_refl _, by omega, rfl⟩
  case round =>
    obtain ⟨j, hj1, hj, rfl⟩ := hrel
    by_cases hlt : j < 15
    · have hc := hN j hlt
      have hq := beqs_false (h j hj1 (by omega))
      go_wp2
      all_goals
        go_round
        case rel => exact ⟨j + 1, by omega, by omega, by go_num⟩
        case measure => simp [intOf]; omega
    · go_wp2
      go_ret2
      exact ⟨rfl, hG⟩

theorem parse_yes2 (t : ByteArray) (k : Nat) (w : World) (h : Hid (nm k = t)) (h1 : 1 ≤ k) (h2 : k ≤ 14) : Calls Try.prog 12 #[.string t] w fun e w' => e = .returned (.tuple #[.int .i64 k, .bool true]) ∧ w.grownBy w' none := by
  rw [← h.out]; exact parse_yes k w h1 h2
theorem rparse_yes2 (t : ByteArray) (k : Nat) (w : World) (h : Hid (nm k = t)) (h1 : 1 ≤ k) (h2 : k ≤ 14) : Calls Try.prog 13 #[.string t] w fun e w' => e = .returned (.tuple #[.int .i64 k, .bool true]) ∧ w.grownBy w' none := by
  rw [← h.out]; exact rparse_yes k w h1 h2
theorem noname_empty : NoName ⟨#[]⟩ := fun j h1 h2 => nm_ne (show j < 15 by omega) (show 0 < 15 by omega) (by omega)
theorem name_or (t : ByteArray) : (∃ k, 1 ≤ k ∧ k ≤ 14 ∧ nm k = t) ∨ NoName t := by
  by_cases h : ∃ k, 1 ≤ k ∧ k ≤ 14 ∧ nm k = t
  · exact .inl h
  · exact .inr fun j h1 h2 he => h ⟨j, h1, h2, he⟩

-- all cases
set_option maxHeartbeats 1000000 in
theorem wn_siy (s : ByteArray) (a : Nat) (ha : 1 ≤ a) (ha2 : a ≤ 14) (k : Nat) (hk : 1 ≤ k) (hk2 : k ≤ 14) (ht : Hid (nm k = s)) (hl : ¬ 60 < s.size) (hs : s.size ≤ 140737488351232) (w : World) :
    Calls Try.prog 4 #[.int .i64 ↑a, .string s] w fun e w' => e = .returned (.bool true) ∧ w.grownBy w' none := by
  have q1 := beqs_true (rfl : nm a = nm a)
  have q2 := beqs_true ht.out
  go_enter Try.func4, Try.ntmps4
  go_wp2_with (first | (go_at_call 12; (with_reducible refine (parse_yes2 s k _ ht hk hk2).mono ?_); rintro e w1 ⟨rfl, hw1⟩) | (go_at_call 13; (with_reducible refine (rparse_yes2 s k _ ht hk hk2).mono ?_); rintro e w2 ⟨rfl, hw2⟩) | (go_at_call 14; (with_reducible refine (name_in a _ ha ha2).mono ?_); rintro e w3 ⟨rfl, hw3⟩) | (go_at_call 12; (with_reducible refine (parse_yes a _ ha ha2).mono ?_); rintro e w4 ⟨rfl, hw4⟩) | (go_at_call 15; (with_reducible refine (rname_in a _ ha ha2).mono ?_); rintro e w5 ⟨rfl, hw5⟩) | (go_at_call 14; (with_reducible refine (name_in k _ hk hk2).mono ?_); rintro e w6 ⟨rfl, hw6⟩) | (go_at_call 9; (with_reducible refine (awake_any _).mono ?_); rintro e w7 ⟨rfl, hw7⟩))
  go_ret
  exact ⟨rfl, gtrans (gtrans (gtrans (gtrans (gtrans (gtrans (hw1) hw2 (.inl rfl)) hw3 (.inl rfl)) hw4 (.inl rfl)) hw5 (.inl rfl)) hw6 (.inl rfl)) hw7 (.inl rfl)⟩
set_option maxHeartbeats 1000000 in
theorem wn_sin (s : ByteArray) (a : Nat) (ha : 1 ≤ a) (ha2 : a ≤ 14) (ht : NoName s) (hl : ¬ 60 < s.size) (hs : s.size ≤ 140737488351232) (w : World) :
    Calls Try.prog 4 #[.int .i64 ↑a, .string s] w fun e w' => e = .returned (.bool true) ∧ w.grownBy w' none := by
  have q1 := beqs_true (rfl : nm a = nm a)
  go_enter Try.func4, Try.ntmps4
  go_wp2_with (first | (go_at_call 12; (with_reducible refine (parse_no s _ ht).mono ?_); rintro e w1 ⟨rfl, hw1⟩) | (go_at_call 13; (with_reducible refine (rparse_no s _ ht).mono ?_); rintro e w2 ⟨rfl, hw2⟩) | (go_at_call 14; (with_reducible refine (name_in a _ ha ha2).mono ?_); rintro e w3 ⟨rfl, hw3⟩) | (go_at_call 12; (with_reducible refine (parse_yes a _ ha ha2).mono ?_); rintro e w4 ⟨rfl, hw4⟩) | (go_at_call 15; (with_reducible refine (rname_in a _ ha ha2).mono ?_); rintro e w5 ⟨rfl, hw5⟩) | (go_at_call 9; (with_reducible refine (awake_any _).mono ?_); rintro e w7 ⟨rfl, hw7⟩))
  go_ret
  exact ⟨rfl, gtrans (gtrans (gtrans (gtrans (gtrans (hw1) hw2 (.inl rfl)) hw3 (.inl rfl)) hw4 (.inl rfl)) hw5 (.inl rfl)) hw7 (.inl rfl)⟩
set_option maxHeartbeats 1000000 in
theorem wn_soy (s : ByteArray) (a : Int) (ha : ¬ (1 ≤ a ∧ a ≤ 14)) (k : Nat) (hk : 1 ≤ k) (hk2 : k ≤ 14) (ht : Hid (nm k = s)) (hl : ¬ 60 < s.size) (hs : s.size ≤ 140737488351232) (w : World) :
    Calls Try.prog 4 #[.int .i64 a, .string s] w fun e w' => e = .returned (.bool true) ∧ w.grownBy w' none := by
  have q1 := beqs_true (rfl : (⟨#[]⟩ : ByteArray) = ⟨#[]⟩)
  have q2 := beqs_true ht.out
  by_cases c1 : 1 ≤ a
  · have c2 : 14 < a := by omega
    have ha0 := Lib.hid ha
    clear ha
    go_enter Try.func4, Try.ntmps4
    go_wp2_with (first | (go_at_call 12; (with_reducible refine (parse_yes2 s k _ ht hk hk2).mono ?_); rintro e w1 ⟨rfl, hw1⟩) | (go_at_call 13; (with_reducible refine (rparse_yes2 s k _ ht hk hk2).mono ?_); rintro e w2 ⟨rfl, hw2⟩) | (go_at_call 14; (with_reducible refine (name_out a _ ha0.out).mono ?_); rintro e w3 ⟨rfl, hw3⟩) | (go_at_call 12; (with_reducible refine (parse_no ⟨#[]⟩ _ noname_empty).mono ?_); rintro e w4 ⟨rfl, hw4⟩) | (go_at_call 15; (with_reducible refine (rname_out a _ ha0.out).mono ?_); rintro e w5 ⟨rfl, hw5⟩) | (go_at_call 14; (with_reducible refine (name_in k _ hk hk2).mono ?_); rintro e w6 ⟨rfl, hw6⟩) | (go_at_call 9; (with_reducible refine (awake_any _).mono ?_); rintro e w7 ⟨rfl, hw7⟩))
    go_ret
    exact ⟨by show Ending.returned (.bool (!decide (a ≤ 14))) = _; rw [decide_eq_false (by omega)]; rfl, gtrans (gtrans (gtrans (gtrans (gtrans (gtrans (hw1) hw2 (.inl rfl)) hw3 (.inl rfl)) hw4 (.inl rfl)) hw5 (.inl rfl)) hw6 (.inl rfl)) hw7 (.inl rfl)⟩
  · skip
    have ha0 := Lib.hid ha
    clear ha
    go_enter Try.func4, Try.ntmps4
    go_wp2_with (first | (go_at_call 12; (with_reducible refine (parse_yes2 s k _ ht hk hk2).mono ?_); rintro e w1 ⟨rfl, hw1⟩) | (go_at_call 13; (with_reducible refine (rparse_yes2 s k _ ht hk hk2).mono ?_); rintro e w2 ⟨rfl, hw2⟩) | (go_at_call 14; (with_reducible refine (name_out a _ ha0.out).mono ?_); rintro e w3 ⟨rfl, hw3⟩) | (go_at_call 12; (with_reducible refine (parse_no ⟨#[]⟩ _ noname_empty).mono ?_); rintro e w4 ⟨rfl, hw4⟩) | (go_at_call 15; (with_reducible refine (rname_out a _ ha0.out).mono ?_); rintro e w5 ⟨rfl, hw5⟩) | (go_at_call 14; (with_reducible refine (name_in k _ hk hk2).mono ?_); rintro e w6 ⟨rfl, hw6⟩) | (go_at_call 9; (with_reducible refine (awake_any _).mono ?_); rintro e w7 ⟨rfl, hw7⟩))
    go_ret
    exact ⟨rfl, gtrans (gtrans (gtrans (gtrans (gtrans (gtrans (hw1) hw2 (.inl rfl)) hw3 (.inl rfl)) hw4 (.inl rfl)) hw5 (.inl rfl)) hw6 (.inl rfl)) hw7 (.inl rfl)⟩
set_option maxHeartbeats 1000000 in
theorem wn_son (s : ByteArray) (a : Int) (ha : ¬ (1 ≤ a ∧ a ≤ 14)) (ht : NoName s) (hl : ¬ 60 < s.size) (hs : s.size ≤ 140737488351232) (w : World) :
    Calls Try.prog 4 #[.int .i64 a, .string s] w fun e w' => e = .returned (.bool true) ∧ w.grownBy w' none := by
  have q1 := beqs_true (rfl : (⟨#[]⟩ : ByteArray) = ⟨#[]⟩)
  by_cases c1 : 1 ≤ a
  · have c2 : 14 < a := by omega
    have ha0 := Lib.hid ha
    clear ha
    go_enter Try.func4, Try.ntmps4
    go_wp2_with (first | (go_at_call 12; (with_reducible refine (parse_no s _ ht).mono ?_); rintro e w1 ⟨rfl, hw1⟩) | (go_at_call 13; (with_reducible refine (rparse_no s _ ht).mono ?_); rintro e w2 ⟨rfl, hw2⟩) | (go_at_call 14; (with_reducible refine (name_out a _ ha0.out).mono ?_); rintro e w3 ⟨rfl, hw3⟩) | (go_at_call 12; (with_reducible refine (parse_no ⟨#[]⟩ _ noname_empty).mono ?_); rintro e w4 ⟨rfl, hw4⟩) | (go_at_call 15; (with_reducible refine (rname_out a _ ha0.out).mono ?_); rintro e w5 ⟨rfl, hw5⟩) | (go_at_call 9; (with_reducible refine (awake_any _).mono ?_); rintro e w7 ⟨rfl, hw7⟩))
    go_ret
    exact ⟨by show Ending.returned (.bool (!decide (a ≤ 14))) = _; rw [decide_eq_false (by omega)]; rfl, gtrans (gtrans (gtrans (gtrans (gtrans (hw1) hw2 (.inl rfl)) hw3 (.inl rfl)) hw4 (.inl rfl)) hw5 (.inl rfl)) hw7 (.inl rfl)⟩
  · skip
    have ha0 := Lib.hid ha
    clear ha
    go_enter Try.func4, Try.ntmps4
    go_wp2_with (first | (go_at_call 12; (with_reducible refine (parse_no s _ ht).mono ?_); rintro e w1 ⟨rfl, hw1⟩) | (go_at_call 13; (with_reducible refine (rparse_no s _ ht).mono ?_); rintro e w2 ⟨rfl, hw2⟩) | (go_at_call 14; (with_reducible refine (name_out a _ ha0.out).mono ?_); rintro e w3 ⟨rfl, hw3⟩) | (go_at_call 12; (with_reducible refine (parse_no ⟨#[]⟩ _ noname_empty).mono ?_); rintro e w4 ⟨rfl, hw4⟩) | (go_at_call 15; (with_reducible refine (rname_out a _ ha0.out).mono ?_); rintro e w5 ⟨rfl, hw5⟩) | (go_at_call 9; (with_reducible refine (awake_any _).mono ?_); rintro e w7 ⟨rfl, hw7⟩))
    go_ret
    exact ⟨rfl, gtrans (gtrans (gtrans (gtrans (gtrans (hw1) hw2 (.inl rfl)) hw3 (.inl rfl)) hw4 (.inl rfl)) hw5 (.inl rfl)) hw7 (.inl rfl)⟩
set_option maxHeartbeats 1000000 in
theorem wn_liy (s : ByteArray) (a : Nat) (ha : 1 ≤ a) (ha2 : a ≤ 14) (k : Nat) (hk : 1 ≤ k) (hk2 : k ≤ 14) (ht : Hid (nm k = (s.extract 0 60))) (hl : 60 < s.size) (hs : s.size ≤ 140737488351232) (w : World) :
    Calls Try.prog 4 #[.int .i64 ↑a, .string s] w fun e w' => e = .returned (.bool true) ∧ w.grownBy w' none := by
  have q1 := beqs_true (rfl : nm a = nm a)
  have q2 := beqs_true ht.out
  go_enter Try.func4, Try.ntmps4
  go_wp2_with (first | (go_at_call 12; (with_reducible refine (parse_yes2 (s.extract 0 60) k _ ht hk hk2).mono ?_); rintro e w1 ⟨rfl, hw1⟩) | (go_at_call 13; (with_reducible refine (rparse_yes2 (s.extract 0 60) k _ ht hk hk2).mono ?_); rintro e w2 ⟨rfl, hw2⟩) | (go_at_call 14; (with_reducible refine (name_in a _ ha ha2).mono ?_); rintro e w3 ⟨rfl, hw3⟩) | (go_at_call 12; (with_reducible refine (parse_yes a _ ha ha2).mono ?_); rintro e w4 ⟨rfl, hw4⟩) | (go_at_call 15; (with_reducible refine (rname_in a _ ha ha2).mono ?_); rintro e w5 ⟨rfl, hw5⟩) | (go_at_call 14; (with_reducible refine (name_in k _ hk hk2).mono ?_); rintro e w6 ⟨rfl, hw6⟩) | (go_at_call 9; (with_reducible refine (awake_any _).mono ?_); rintro e w7 ⟨rfl, hw7⟩))
  go_ret
  exact ⟨rfl, gtrans (gtrans (gtrans (gtrans (gtrans (gtrans (hw1) hw2 (.inl rfl)) hw3 (.inl rfl)) hw4 (.inl rfl)) hw5 (.inl rfl)) hw6 (.inl rfl)) hw7 (.inl rfl)⟩
set_option maxHeartbeats 1000000 in
theorem wn_lin (s : ByteArray) (a : Nat) (ha : 1 ≤ a) (ha2 : a ≤ 14) (ht : NoName (s.extract 0 60)) (hl : 60 < s.size) (hs : s.size ≤ 140737488351232) (w : World) :
    Calls Try.prog 4 #[.int .i64 ↑a, .string s] w fun e w' => e = .returned (.bool true) ∧ w.grownBy w' none := by
  have q1 := beqs_true (rfl : nm a = nm a)
  go_enter Try.func4, Try.ntmps4
  go_wp2_with (first | (go_at_call 12; (with_reducible refine (parse_no (s.extract 0 60) _ ht).mono ?_); rintro e w1 ⟨rfl, hw1⟩) | (go_at_call 13; (with_reducible refine (rparse_no (s.extract 0 60) _ ht).mono ?_); rintro e w2 ⟨rfl, hw2⟩) | (go_at_call 14; (with_reducible refine (name_in a _ ha ha2).mono ?_); rintro e w3 ⟨rfl, hw3⟩) | (go_at_call 12; (with_reducible refine (parse_yes a _ ha ha2).mono ?_); rintro e w4 ⟨rfl, hw4⟩) | (go_at_call 15; (with_reducible refine (rname_in a _ ha ha2).mono ?_); rintro e w5 ⟨rfl, hw5⟩) | (go_at_call 9; (with_reducible refine (awake_any _).mono ?_); rintro e w7 ⟨rfl, hw7⟩))
  go_ret
  exact ⟨rfl, gtrans (gtrans (gtrans (gtrans (gtrans (hw1) hw2 (.inl rfl)) hw3 (.inl rfl)) hw4 (.inl rfl)) hw5 (.inl rfl)) hw7 (.inl rfl)⟩
set_option maxHeartbeats 1000000 in
theorem wn_loy (s : ByteArray) (a : Int) (ha : ¬ (1 ≤ a ∧ a ≤ 14)) (k : Nat) (hk : 1 ≤ k) (hk2 : k ≤ 14) (ht : Hid (nm k = (s.extract 0 60))) (hl : 60 < s.size) (hs : s.size ≤ 140737488351232) (w : World) :
    Calls Try.prog 4 #[.int .i64 a, .string s] w fun e w' => e = .returned (.bool true) ∧ w.grownBy w' none := by
  have q1 := beqs_true (rfl : (⟨#[]⟩ : ByteArray) = ⟨#[]⟩)
  have q2 := beqs_true ht.out
  by_cases c1 : 1 ≤ a
  · have c2 : 14 < a := by omega
    have ha0 := Lib.hid ha
    clear ha
    go_enter Try.func4, Try.ntmps4
    go_wp2_with (first | (go_at_call 12; (with_reducible refine (parse_yes2 (s.extract 0 60) k _ ht hk hk2).mono ?_); rintro e w1 ⟨rfl, hw1⟩) | (go_at_call 13; (with_reducible refine (rparse_yes2 (s.extract 0 60) k _ ht hk hk2).mono ?_); rintro e w2 ⟨rfl, hw2⟩) | (go_at_call 14; (with_reducible refine (name_out a _ ha0.out).mono ?_); rintro e w3 ⟨rfl, hw3⟩) | (go_at_call 12; (with_reducible refine (parse_no ⟨#[]⟩ _ noname_empty).mono ?_); rintro e w4 ⟨rfl, hw4⟩) | (go_at_call 15; (with_reducible refine (rname_out a _ ha0.out).mono ?_); rintro e w5 ⟨rfl, hw5⟩) | (go_at_call 14; (with_reducible refine (name_in k _ hk hk2).mono ?_); rintro e w6 ⟨rfl, hw6⟩) | (go_at_call 9; (with_reducible refine (awake_any _).mono ?_); rintro e w7 ⟨rfl, hw7⟩))
    go_ret
    exact ⟨by show Ending.returned (.bool (!decide (a ≤ 14))) = _; rw [decide_eq_false (by omega)]; rfl, gtrans (gtrans (gtrans (gtrans (gtrans (gtrans (hw1) hw2 (.inl rfl)) hw3 (.inl rfl)) hw4 (.inl rfl)) hw5 (.inl rfl)) hw6 (.inl rfl)) hw7 (.inl rfl)⟩
  · skip
    have ha0 := Lib.hid ha
    clear ha
    go_enter Try.func4, Try.ntmps4
    go_wp2_with (first | (go_at_call 12; (with_reducible refine (parse_yes2 (s.extract 0 60) k _ ht hk hk2).mono ?_); rintro e w1 ⟨rfl, hw1⟩) | (go_at_call 13; (with_reducible refine (rparse_yes2 (s.extract 0 60) k _ ht hk hk2).mono ?_); rintro e w2 ⟨rfl, hw2⟩) | (go_at_call 14; (with_reducible refine (name_out a _ ha0.out).mono ?_); rintro e w3 ⟨rfl, hw3⟩) | (go_at_call 12; (with_reducible refine (parse_no ⟨#[]⟩ _ noname_empty).mono ?_); rintro e w4 ⟨rfl, hw4⟩) | (go_at_call 15; (with_reducible refine (rname_out a _ ha0.out).mono ?_); rintro e w5 ⟨rfl, hw5⟩) | (go_at_call 14; (with_reducible refine (name_in k _ hk hk2).mono ?_); rintro e w6 ⟨rfl, hw6⟩) | (go_at_call 9; (with_reducible refine (awake_any _).mono ?_); rintro e w7 ⟨rfl, hw7⟩))
    go_ret
    exact ⟨rfl, gtrans (gtrans (gtrans (gtrans (gtrans (gtrans (hw1) hw2 (.inl rfl)) hw3 (.inl rfl)) hw4 (.inl rfl)) hw5 (.inl rfl)) hw6 (.inl rfl)) hw7 (.inl rfl)⟩
set_option maxHeartbeats 1000000 in
theorem wn_lon (s : ByteArray) (a : Int) (ha : ¬ (1 ≤ a ∧ a ≤ 14)) (ht : NoName (s.extract 0 60)) (hl : 60 < s.size) (hs : s.size ≤ 140737488351232) (w : World) :
    Calls Try.prog 4 #[.int .i64 a, .string s] w fun e w' => e = .returned (.bool true) ∧ w.grownBy w' none := by
  have q1 := beqs_true (rfl : (⟨#[]⟩ : ByteArray) = ⟨#[]⟩)
  by_cases c1 : 1 ≤ a
  · have c2 : 14 < a := by omega
    have ha0 := Lib.hid ha
    clear ha
    go_enter Try.func4, Try.ntmps4
    go_wp2_with (first | (go_at_call 12; (with_reducible refine (parse_no (s.extract 0 60) _ ht).mono ?_); rintro e w1 ⟨rfl, hw1⟩) | (go_at_call 13; (with_reducible refine (rparse_no (s.extract 0 60) _ ht).mono ?_); rintro e w2 ⟨rfl, hw2⟩) | (go_at_call 14; (with_reducible refine (name_out a _ ha0.out).mono ?_); rintro e w3 ⟨rfl, hw3⟩) | (go_at_call 12; (with_reducible refine (parse_no ⟨#[]⟩ _ noname_empty).mono ?_); rintro e w4 ⟨rfl, hw4⟩) | (go_at_call 15; (with_reducible refine (rname_out a _ ha0.out).mono ?_); rintro e w5 ⟨rfl, hw5⟩) | (go_at_call 9; (with_reducible refine (awake_any _).mono ?_); rintro e w7 ⟨rfl, hw7⟩))
    go_ret
    exact ⟨by show Ending.returned (.bool (!decide (a ≤ 14))) = _; rw [decide_eq_false (by omega)]; rfl, gtrans (gtrans (gtrans (gtrans (gtrans (hw1) hw2 (.inl rfl)) hw3 (.inl rfl)) hw4 (.inl rfl)) hw5 (.inl rfl)) hw7 (.inl rfl)⟩
  · skip
    have ha0 := Lib.hid ha
    clear ha
    go_enter Try.func4, Try.ntmps4
    go_wp2_with (first | (go_at_call 12; (with_reducible refine (parse_no (s.extract 0 60) _ ht).mono ?_); rintro e w1 ⟨rfl, hw1⟩) | (go_at_call 13; (with_reducible refine (rparse_no (s.extract 0 60) _ ht).mono ?_); rintro e w2 ⟨rfl, hw2⟩) | (go_at_call 14; (with_reducible refine (name_out a _ ha0.out).mono ?_); rintro e w3 ⟨rfl, hw3⟩) | (go_at_call 12; (with_reducible refine (parse_no ⟨#[]⟩ _ noname_empty).mono ?_); rintro e w4 ⟨rfl, hw4⟩) | (go_at_call 15; (with_reducible refine (rname_out a _ ha0.out).mono ?_); rintro e w5 ⟨rfl, hw5⟩) | (go_at_call 9; (with_reducible refine (awake_any _).mono ?_); rintro e w7 ⟨rfl, hw7⟩))
    go_ret
    exact ⟨rfl, gtrans (gtrans (gtrans (gtrans (gtrans (hw1) hw2 (.inl rfl)) hw3 (.inl rfl)) hw4 (.inl rfl)) hw5 (.inl rfl)) hw7 (.inl rfl)⟩

theorem walkNames (a : Int) (s : ByteArray) (hs : s.size ≤ 140737488351232) (w : World) :
    Calls Try.prog 4 #[.int .i64 a, .string s] w fun e w' => e = .returned (.bool true) ∧ w.grownBy w' none := by
  by_cases hl : 60 < s.size
  · rcases name_or (s.extract 0 60) with ⟨k, hk, hk2, ht⟩ | ht
    · by_cases ha : 1 ≤ a ∧ a ≤ 14
      · obtain ⟨j, rfl⟩ := Int.eq_ofNat_of_zero_le (show 0 ≤ a by omega)
        exact wn_liy s j (by omega) (by omega) k hk hk2 ht hl hs w
      · exact wn_loy s a ha k hk hk2 ht hl hs w
    · by_cases ha : 1 ≤ a ∧ a ≤ 14
      · obtain ⟨j, rfl⟩ := Int.eq_ofNat_of_zero_le (show 0 ≤ a by omega)
        exact wn_lin s j (by omega) (by omega) ht hl hs w
      · exact wn_lon s a ha ht hl hs w
  · rcases name_or s with ⟨k, hk, hk2, ht⟩ | ht
    · by_cases ha : 1 ≤ a ∧ a ≤ 14
      · obtain ⟨j, rfl⟩ := Int.eq_ofNat_of_zero_le (show 0 ≤ a by omega)
        exact wn_siy s j (by omega) (by omega) k hk hk2 ht hl hs w
      · exact wn_soy s a ha k hk hk2 ht hl hs w
    · by_cases ha : 1 ≤ a ∧ a ≤ 14
      · obtain ⟨j, rfl⟩ := Int.eq_ofNat_of_zero_le (show 0 ≤ a by omega)
        exact wn_sin s j (by omega) (by omega) ht hl hs w
      · exact wn_son s a ha ht hl hs w
end Go.Proofs.Ytbblfhpicjdgnaa.W
