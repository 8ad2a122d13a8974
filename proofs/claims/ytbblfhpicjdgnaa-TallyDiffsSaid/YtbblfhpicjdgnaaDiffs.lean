/-
  The call of TallyDiffs returns true, at any calls, counter and number, in every memory, and turns nothing that was there.
-/
import Derived.Test.YtbblfhpicjdgnaaW9
import Derived.Test.YtbblfhpicjdgnaaRuns
set_option linter.unusedVariables false
set_option linter.unusedSimpArgs false
namespace Go.Proofs.Ytbblfhpicjdgnaa.W
open Go.RowKit

theorem addNs_zero {ns : List Int} (h : ns.getD 0 0 = 0) (k n : Int) : (addNs ns k n).getD 0 0 = 0 := by
  unfold addNs
  split
  · rename_i hc
    have hc := addCode_ok hc
    rw [List.getD_eq_getElem?_getD, List.getElem?_set, if_neg (by omega), ← List.getD_eq_getElem?_getD]
    exact h
  · exact h
theorem dl_all {ms : List Int} (hl : ms.length = 15) (h0 : ms.getD 0 0 = 0) : dl (fun k => getV ms k - 0) 15 = ms := by
  apply List.ext_getElem?
  intro i
  by_cases hi : i < 15
  · rw [List.getElem?_eq_getElem (show i < ms.length by omega)]
    unfold dl
    rw [List.getElem?_map, List.getElem?_range hi]
    simp only [Option.map_some, if_pos hi]
    congr 1
    have hg : ms.getD i 0 = ms[i]'(by omega) := by rw [List.getD_eq_getElem?_getD, List.getElem?_eq_getElem (show i < ms.length by omega)]; rfl
    unfold getV
    by_cases h1 : i = 0
    · subst h1
      rw [if_neg (by omega), ← hg, h0]; rfl
    · rw [if_pos (by omega), Int.toNat_natCast, hg]; omega
  · rw [List.getElem?_eq_none (show (dl (fun k => getV ms k - 0) 15).length ≤ i by simp only [dl, List.length_map, List.length_range]; omega), List.getElem?_eq_none (by omega)]
/-- Adding to one turns just one counter. -/
theorem diff_one {ns : List Int} (hl : ns.length = 15) (k n : Int) (i : Nat) (hi : i < 15) :
    getV (addNs ns k n) i - getV ns i = if addCode ns k n = 0 ∧ (i : Int) = k then n else 0 := by
  by_cases hc : addCode ns k n = 0
  · have h := addCode_ok hc
    have e : addNs ns k n = ns.set k.toNat (ns.getD k.toNat 0 + n) := by unfold addNs; rw [if_pos hc]
    rw [e]
    unfold getV
    by_cases hik : (i : Int) = k
    · subst hik
      rw [if_pos (by omega), if_pos (by omega), if_pos ⟨hc, rfl⟩, Int.toNat_natCast, List.getD_eq_getElem?_getD, List.getElem?_set_self (by omega)]
      simp only [Option.getD_some]
      omega
    · rw [if_neg (show ¬ (addCode ns k n = 0 ∧ (i : Int) = k) from fun h => hik h.2)]
      split
      · rw [Int.toNat_natCast, List.getD_eq_getElem?_getD, List.getElem?_set, if_neg (by omega), ← List.getD_eq_getElem?_getD]
        omega
      · rfl
  · have e : addNs ns k n = ns := by unfold addNs; rw [if_neg hc]
    rw [e, if_neg (fun h => hc h.1)]
    omega

theorem diff_nil (b : Nat) (ns : List Int) (w : World) (h : Holds w b ns) (hb : Bounded ns) (h0 : ns.getD 0 0 = 0) :
    Calls Try.prog 25 #[.pointer (some ⟨b, 0, none⟩), .pointer none] w fun e w' => ∃ g, e = .returned (.slice (some ⟨g, 0, none⟩) 15 15) ∧ Row15 w' g 15 ns ∧ w.grownBy w' none := by
  have hd := diff_any (.pointer (some ⟨b, 0, none⟩)) (.pointer none) (getV ns) (fun _ => 0) w h.tells (Nob.tells (.inl rfl)) (getV_bd hb) (fun _ => ⟨Int.le_refl _, by omega⟩)
  rw [dl_all h.2 h0] at hd
  exact hd

set_option maxRecDepth 100000 in
set_option maxHeartbeats 2000000 in
theorem walkDiffs (a : Option Addr) (n c : Nat) (d k m : Nat → Int) (kk nn : Int) (w : World) (hops : ROps w a n d k m) :
    Calls Try.prog 6 #[.slice a n c, .int .i64 kk, .int .i64 nn] w fun e w' => e = .returned (.bool true) ∧ Below w.heap.size w w' := by
  have hn := hops.1
  have HO := Lib.hid hops
  clear hops
  go_enter Try.func6, Try.ntmps6
  go_wp2_with (first | (go_at_call 8; refine (new_spec _).mono ?_; rintro e w1 ⟨rfl, hH, hG⟩) | (go_at_call 9; refine (awake_any _).mono ?_; rintro e w3 ⟨rfl, hG3⟩))
  have hH3 := Lib.hid (hH.kept hG3 (by simp))
  have hB3 := Lib.hid (gbelow (gtrans hG hG3 (.inl rfl)) (by simp))
  clear hH hG hG3
  go_loopw [8] (fun i wr => ∃ (j : Nat) (ns : List Int), j ≤ n ∧ i = .int .i64 j ∧ Hid (Holds wr w.heap.size ns) ∧ Hid (Bounded ns) ∧ Hid (ns.getD 0 0 = 0) ∧ Hid (Below w.heap.size w wr)) (fun i _ => n - (intOf i).toNat)
  case atStart => exact ⟨0, zeros, Nat.zero_le _, rfl, hH3, Lib.hid bounded_zero, Lib.hid rfl, hB3⟩
  case round =>
    clear hH3 hB3
    obtain ⟨j, ns, hj, rfl, hH, hBd, hZ, hB⟩ := hrel
    by_cases hlt : j < n ∧ j < 40
    · obtain ⟨hlt, h40⟩ := hlt
      obtain ⟨bo, oo, rfl, hbo, hcells⟩ := HO.out.2.2 (by omega)
      obtain ⟨e1, e2, e3⟩ := hcells j hlt
      have f2 := below_cell hB.out hbo e2
      have f3 := below_cell hB.out hbo e3
      clear hcells e1 e2 e3
      generalize k j = kj at f2
      generalize m j = mj at f3
      go_wp2
      go_region_with (first | (go_at_call 10; refine (add_spec _ ns kj mj _ ?_ hBd.out).mono ?_; exact hH.out; rintro e w4 ⟨rfl, hH4, hG4⟩))
      all_goals
        go_wp2
        go_roundw
        case rel => exact ⟨j + 1, _, by omega, by go_num, Lib.hid hH4, Lib.hid (bounded_add hBd.out _ _), Lib.hid (addNs_zero hZ.out _ _), Lib.hid (hB.out.drew.grown hG4 hB.out.size (by rintro k ⟨⟩; exact Nat.le_refl _))⟩
        case measure => simp [intOf]; omega
    · rcases (show ¬ j < n ∨ (j < n ∧ ¬ j < 40) by omega) with h1 | ⟨h1, h2⟩
      all_goals
        clear hlt
        have hbn := hBd.out
        have HBm := Lib.hid (bounded_add hBd.out kk nn)
        go_wp2_with (first | (go_at_call 18; refine (fork_any _ ns _ hH.out).mono ?_; rintro e w4 ⟨rfl, hH4, hG4⟩; have H4 := Lib.hid (And.intro hH4 (And.intro (hH.out.kept hG4 (by simp)) hG4)); clear hH4 hG4) | (go_at_call 10; refine (add_spec _ ns kk nn _ H4.out.2.1 hBd.out).mono ?_; rintro e w5 ⟨rfl, hH5, hG5⟩; have H5 := Lib.hid (And.intro hH5 hG5); clear hH5 hG5))
        have hfb : some wr.heap.size ≠ some w.heap.size := by
          have := hH.out.lt
          intro e
          injection e with e
          omega
        have HT1 := Lib.hid H5.out.1.tells
        have HT2 := Lib.hid (H4.out.1.kept H5.out.2 hfb).tells
        have HB5 : Hid (Below w.heap.size w w5) := Lib.hid ((hB.out.grown H4.out.2.2 hB.out.size (by simp)).grown H5.out.2 (Nat.le_trans hB.out.size H4.out.2.2.size) (by rintro k ⟨⟩; exact Nat.le_refl _))
        have HZm := Lib.hid (addNs_zero hZ.out kk nn)
        have hno : some w.heap.size ≠ (none : Option Nat) := by simp
        go_wp2_with (first | (go_at_call 25; (with_reducible refine (diff_any _ (.pointer (some ⟨wr.heap.size, 0, none⟩)) _ _ w5 HT1.out HT2.out (getV_bd HBm.out) (getV_bd hBd.out)).mono ?_); rintro e w6 ⟨g6, rfl, hR6, hG6⟩; have R6 := Lib.hid (And.intro hR6 hG6); clear hR6 hG6) | (go_at_call 25; (with_reducible refine (diff_nil _ _ w6 (H5.out.1.kept R6.out.2 hno) HBm.out HZm.out).mono ?_); rintro e w7 ⟨g7, rfl, hR7, hG7⟩; have R7 := Lib.hid (And.intro hR7 hG7); clear hR7 hG7) | (go_at_call 22; refine (all_any _ _ w7 ((H5.out.1.kept R6.out.2 (by simp)).kept R7.out.2 (by simp))).mono ?_; rintro e w8 ⟨g8, c8, rfl, hR8, hG8⟩; have R8 := Lib.hid (And.intro hR8 hG8); clear hR8 hG8) | (go_at_call 21; refine (same_g _ _ _ _ _ (addNs ns kk nn) w8 (R7.out.1.kept R8.out.2 (by simp)).rints R8.out.1.rints).mono ?_; rintro e w9 ⟨rfl, hG9⟩; have R9 := Lib.hid hG9; clear hG9))
        have R69 := Lib.hid (((R6.out.1.kept R7.out.2 (by simp)).kept R8.out.2 (by simp)).kept R9.out (by simp))
        have HB9 : Hid (Below w.heap.size w w9) := Lib.hid ((((HB5.out.grown R6.out.2 HB5.out.size (by simp)).grown R7.out.2 (Nat.le_trans HB5.out.size R6.out.2.size) (by simp)).grown R8.out.2 (Nat.le_trans (Nat.le_trans HB5.out.size R6.out.2.size) R7.out.2.size) (by simp)).grown R9.out (Nat.le_trans (Nat.le_trans (Nat.le_trans HB5.out.size R6.out.2.size) R7.out.2.size) R8.out.2.size) (by simp))
        have HD : Hid (∀ q : Nat, q < 15 → (dl (fun k => getV (addNs ns kk nn) k - getV ns k) 15).getD q 0 = if addCode ns kk nn = 0 ∧ (q : Int) = kk then nn else 0) := Lib.hid (fun q hq => by
          have hl : ns.length = 15 := H4.out.1.2
          rw [dl_get _ 15 q hq hq, diff_one hl kk nn q hq])
        have HN : Hid (addCode ns kk nn = 0 → 0 ≤ nn) := Lib.hid (fun h => (addCode_ok h).2.2.1)
        generalize addCode ns kk nn = cd at *
        generalize dl (fun k => getV (addNs ns kk nn) k - getV ns k) 15 = D at *
        clear R6 R7 R8 R9 H4 H5 HT1 HT2 HB5 HZm HBm
        go_loop [12] (fun i => ∃ q : Nat, q ≤ 15 ∧ i = .int .i64 q) (fun i => 15 - (intOf i).toNat)
        case atStart => exact ⟨0, Nat.zero_le _, rfl⟩
        case round =>
          obtain ⟨q, hq, rfl⟩ := hrel
          by_cases hql : q < 15
          · have hy := R69.out.cell q hql
            rw [HD.out q hql] at hy
            by_cases hcd : cd = 0
            · by_cases hqk : (q : Int) = kk
              · rw [if_pos ⟨hcd, hqk⟩] at hy
                have hnn := HN.out hcd
                have c1 : (cd == 0) = true := by rw [hcd]; rfl
                have c2 : ((q : Int) == kk) = true := by rw [hqk]; exact beq_self_eq_true _
                clear hcd hqk
                go_wp2
                go_round
                case rel => exact ⟨q + 1, by omega, by go_num⟩
                case measure => simp [intOf]; omega
              · rw [if_neg (fun h => hqk h.2)] at hy
                have c1 : (cd == 0) = true := by rw [hcd]; rfl
                have c2 : ((q : Int) == kk) = false := by rw [beq_eq_false_iff_ne]; exact hqk
                clear hcd hqk
                go_wp2
                go_round
                case rel => exact ⟨q + 1, by omega, by go_num⟩
                case measure => simp [intOf]; omega
            · rw [if_neg (fun h => hcd h.1)] at hy
              have c1 : (cd == 0) = false := by rw [beq_eq_false_iff_ne]; exact hcd
              clear hcd
              go_wp2
              go_round
              case rel => exact ⟨q + 1, by omega, by go_num⟩
              case measure => simp [intOf]; omega
          · go_wp2
            go_ret
            exact ⟨rfl, HB9.out⟩
end Go.Proofs.Ytbblfhpicjdgnaa.W
