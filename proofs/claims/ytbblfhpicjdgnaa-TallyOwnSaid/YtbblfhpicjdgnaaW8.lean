/-
  What Sum of the reference does, over any memory.
-/
import Derived.Test.YtbblfhpicjdgnaaW7
set_option linter.unusedVariables false
set_option linter.unusedSimpArgs false
namespace Go.Proofs.Ytbblfhpicjdgnaa.W
open Go.RowKit

theorem RInts.grown {w w' : World} {a : Option Addr} {n : Nat} {xs : List Int} (h : RInts w a n xs) (hg : w.grownBy w' none) : RInts w' a n xs := by
  refine ⟨h.1, h.2.1, fun hp => ?_⟩
  obtain ⟨b, o, e, hb, hc⟩ := h.2.2 hp
  refine ⟨b, o, e, Nat.lt_of_lt_of_le hb hg.size, fun j hj => ?_⟩
  exact (World.cell?_of_block (w := w) (hg.block b hb (by simp))).trans (hc j hj)
theorem grown_drewN (w : World) (m : Nat) (row : Option Nat) : w.grownBy (w.drewN m) row := ⟨rfl, rfl, rfl, Nat.le_refl _, fun _ _ _ => rfl⟩
theorem Row15.grown {w w' : World} {g c : Nat} {ns : List Int} (h : Row15 w g c ns) (hg : w.grownBy w' none) : Row15 w' g c ns := h.kept hg (by simp)

/-- has x stood among the first k? -/
def seenB (xs : List Int) (i k : Nat) : Bool := decide (xs.getD i 0 ∈ xs.take k)
theorem seenB_zero (xs : List Int) (i : Nat) : seenB xs i 0 = false := by simp [seenB]
theorem seenB_succ (xs : List Int) (i k : Nat) (hk : k < xs.length) : seenB xs i (k + 1) = (seenB xs i k || (xs.getD k 0 == xs.getD i 0)) := by
  unfold seenB
  rw [List.take_succ_eq_append_getElem hk, Bool.eq_iff_iff]
  simp only [decide_eq_true_eq, Bool.or_eq_true, beq_iff_eq, List.mem_append, List.mem_singleton, List.getD_eq_getElem?_getD, List.getElem?_eq_getElem hk, Option.getD_some]
  constructor
  · rintro (h | h)
    · exact .inl h
    · exact .inr h.symm
  · rintro (h | h)
    · exact .inl h
    · exact .inr h.symm

set_option maxHeartbeats 1000000 in
theorem rsum_any (g c : Nat) (ns xs : List Int) (a : Option Addr) (n cc : Nat) (w : World) (h : Row15 w g c ns) (hb : Bounded ns) (hr : RInts w a n xs) (hn : n ≤ 30) :
    Calls Try.prog 24 #[.agg #[.slice (some ⟨g, 0, none⟩) 15 c], .slice a n cc] w fun e w' => e = .returned (.int .i64 (sumTo ns xs 14)) ∧ w.grownBy w' none := by
  have H := Lib.hid h
  have HB := Lib.hid hb
  have HR := Lib.hid hr
  have hxl := Lib.hid hr.1
  clear h hb hr
  go_enter Try.func24, Try.ntmps24
  go_wp2
  generalize hW0 : w.alloc (.cells #[.slice (some ⟨g, 0, none⟩) 15 c] 39) = W0
  have hbox : W0.heap[w.heap.size]? = some (.cells #[.slice (some ⟨g, 0, none⟩) 15 c] 39 (0, 0)) := by rw [← hW0]; exact heap_alloc_new w _
  have hG0 : w.grownBy W0 none := by rw [← hW0]; exact World.grownBy_alloc _ _ _
  have HW0 := Lib.hid hW0
  have HBOX := Lib.hid hbox
  clear hW0 hbox
  go_loopw [5, 6] (fun s i wr => ∃ (k : Nat) (z : Int), k ≤ n ∧ s = .int .i64 z ∧ i = .int .i64 k ∧ Hid (sumTo ns (xs.take k) 14 = z) ∧ W0.grownBy wr none) (fun _ i _ => n - (intOf i).toNat)
  case atStart => exact ⟨0, 0, Nat.zero_le _, rfl, rfl, by simp [Hid, sumTo_nil], World.grownBy.refl _ _⟩
  case round =>
    obtain ⟨k, z, hk, rfl, rfl, hz, hGr⟩ := hrel
    have hz1 : 0 ≤ z ∧ z ≤ 14 * 1125899906842624 := by rw [← hz.out]; have := sumTo_le ns (xs.take k) HB.out 14; omega
    by_cases hlt : k < n
    · have hRr : RInts wr a n xs := HR.out.grown (gtrans hG0 hGr (.inl rfl))
      obtain ⟨b, o, rfl, hbl, hck⟩ := hRr.at_ k hlt
      have hbx : wr.cell? ⟨w.heap.size, 0, none⟩ = some (.slice (some ⟨g, 0, none⟩) 15 c) := by
        have := hGr.block w.heap.size (Array.getElem?_eq_some_iff.1 HBOX.out).1 (by simp)
        exact (blk_cell0 (this.trans HBOX.out)).1
      have hcells := hRr.2.2 (by omega)
      have HRr := Lib.hid hRr
      have HGr := Lib.hid hGr
      have HC := Lib.hid hcells
      clear hGr hRr hcells
      go_wp2
      obtain ⟨wo, hwo⟩ : ∃ wo : World, wo = wr := ⟨_, rfl⟩
      subst hwo
      have hyk : ∃ yk, yk = xs.getD k 0 := ⟨_, rfl⟩
      obtain ⟨yk, hyk⟩ := hyk
      rw [← hyk] at hck
      have HYK := Lib.hid hyk
      clear hyk
      go_loopw [7, 8] (fun s i wi => ∃ (q m : Nat), q ≤ k ∧ s = .bool (seenB xs k q) ∧ i = .int .i64 q ∧ wi = wo.drewN m) (fun _ i _ => k - (intOf i).toNat)
      case atStart => exact ⟨0, 0, Nat.zero_le _, by rw [seenB_zero], rfl, rfl⟩
      case round =>
        obtain ⟨q, m, hq, rfl, rfl, rfl⟩ := hrel
        by_cases hql : q < k
        · have hcq : wo.cell? ⟨b, o + q, none⟩ = some (.int .i64 (xs.getD q 0)) := by
            obtain ⟨b', o', e', _, h'⟩ := HC.out
            injection e' with e'
            injection e' with e1 e2
            subst e1
            subst e2
            exact h' q (by omega)
          obtain ⟨yq, hyq⟩ : ∃ yq, yq = xs.getD q 0 := ⟨_, rfl⟩
          rw [← hyq] at hcq
          have hstep := seenB_succ xs k q (by have := hxl.out; omega)
          rw [← hyq, ← HYK.out] at hstep
          have HS := Lib.hid hstep
          clear hstep hyq
          cases hsb : seenB xs k q with
          | true =>
            have HSB := Lib.hid hsb
            clear hsb
            go_wp2
            go_quiet (fail)
            go_wp2
            go_roundw
            case rel => exact ⟨q + 1, _, by omega, by rw [HS.out, HSB.out]; rfl, by go_num, rfl⟩
            case measure => simp [intOf]; omega
          | false =>
            have HSB := Lib.hid hsb
            clear hsb
            go_wp2
            go_quiet (fail)
            go_wp2
            go_roundw
            case rel => exact ⟨q + 1, _, by omega, by rw [HS.out, HSB.out]; rfl, by go_num, rfl⟩
            case measure => simp [intOf]; omega
        · obtain rfl : q = k := by omega
          clear hql hq
          have hstep := sumTo_get ns (xs.take q) yk
          rw [HYK.out, List.getD_eq_getElem?_getD, List.getElem?_eq_getElem (show q < xs.length by have := hxl.out; omega), Option.getD_some, ← List.take_succ_eq_append_getElem (show q < xs.length by have := hxl.out; omega), hz.out] at hstep
          have hyk2 : xs[q]'(by have := hxl.out; omega) = yk := by rw [HYK.out, List.getD_eq_getElem?_getD, List.getElem?_eq_getElem (show q < xs.length by have := hxl.out; omega), Option.getD_some]
          rw [hyk2] at hstep
          cases hsb : seenB xs q q with
          | true =>
            have hin : yk ∈ xs.take q := by
              have := hsb
              unfold seenB at this
              rw [← HYK.out] at this
              exact of_decide_eq_true this
            rw [if_pos hin] at hstep
            have HS := Lib.hid hstep
            clear hstep hyk2 hsb hin
            go_wp2
            go_roundw
            case rel => exact ⟨q + 1, z, by omega, rfl, by go_num, by rw [HS.out]; simp [Hid], gtrans HGr.out (grown_drewN _ _ _) (.inl rfl)⟩
            case measure => simp [intOf]; omega
          | false =>
            have hin : ¬ yk ∈ xs.take q := by
              have := hsb
              unfold seenB at this
              rw [← HYK.out] at this
              exact of_decide_eq_false this
            rw [if_neg hin] at hstep
            have hgb := getV_bd HB.out yk
            have HS := Lib.hid hstep
            clear hstep hyk2 hsb hin
            have HROW : Hid (Row15 wo g c ns) := Lib.hid (H.out.grown (gtrans hG0 HGr.out (.inl rfl)))
            go_wp2
            go_region_with (first | (go_at_call 20; refine (rget_any _ _ ns _ _ ?_).mono ?_; exact HROW.out; rintro e w2 ⟨rfl, hG2⟩))
            all_goals
              go_wp2
              go_roundw
              case rel => exact ⟨q + 1, _, by omega, rfl, by go_num, HS.out, gtrans (gtrans HGr.out (grown_drewN _ (m + 1) _) (.inl rfl)) hG2 (.inl rfl)⟩
              case measure => simp [intOf]; omega
    · obtain rfl : k = n := by omega
      have hz2 : Hid (sumTo ns xs 14 = z) := by
        have := hz.out
        rw [List.take_of_length_le (by have := hxl.out; omega)] at this
        exact this
      have HGr := Lib.hid hGr
      clear hz hGr hk hlt
      go_wp2
      go_ret
      exact ⟨by rw [hz2.out]; rfl, gtrans hG0 HGr.out (.inl rfl)⟩
end Go.Proofs.Ytbblfhpicjdgnaa.W
