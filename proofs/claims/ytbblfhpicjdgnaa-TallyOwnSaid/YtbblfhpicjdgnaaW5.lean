/-
  What slices.Clone, All, and New, Get, Same and Add of the reference do, over any memory.
-/
import Derived.Test.YtbblfhpicjdgnaaW4
import Derived.Deep.AppendLies
set_option linter.unusedVariables false
set_option linter.unusedSimpArgs false
namespace Go.Proofs.Ytbblfhpicjdgnaa.W
open Go.RowKit

theorem nums_len (xs : List Int) : (nums xs).length = xs.length := by simp [nums]
theorem nums_one (xs : List Int) : ∀ u ∈ nums xs, u.oneCell' = true := by
  intro u hu
  simp only [nums, List.mem_map] at hu
  obtain ⟨q, _, rfl⟩ := hu
  rfl
theorem row_of_own {w : World} {v : Value} {ns : List Int} (h : w.ownsRow 0 3 1 v 15 (nums ns)) : ∃ g c, v = .slice (some ⟨g, 0, none⟩) 15 c ∧ Row15 w g c ns := by
  obtain ⟨g, cap, rfl, _, _⟩ := h.form (by omega)
  exact ⟨g, cap, rfl, h⟩

/-- 15 cells of numbers at the head of a block. -/
def Cells15 (w : World) (b : Nat) (ns : List Int) : Prop := ns.length = 15 ∧ ∀ i, i < 15 → w.cell? ⟨b, i, none⟩ = some (.int .i64 (ns.getD i 0))
theorem Cells15.news {w : World} {b : Nat} {ns : List Int} (h : Cells15 w b ns) : ∀ j u, (nums ns)[j]? = some u → w.cell? ((⟨b, 0, none⟩ : Addr).add j) = some u := by
  intro j u hu
  have ha : (⟨b, 0, none⟩ : Addr).add j = ⟨b, j, none⟩ := by unfold Addr.add; split <;> simp_all
  have hj : j < ns.length := by
    rcases Nat.lt_or_ge j ns.length with h | h
    · exact h
    · simp [nums, List.getElem?_eq_none h] at hu
  rw [ha, h.2 j (by rw [← h.1]; exact hj)]
  simp [nums, List.getElem?_eq_getElem hj] at hu
  subst hu
  simp [List.getD_eq_getElem?_getD, List.getElem?_eq_getElem hj]
theorem Cells15.alloc {w : World} {b : Nat} {ns : List Int} (h : Cells15 w b ns) (o : Obj) : Cells15 (w.alloc o) b ns :=
  ⟨h.1, fun i hi => by
    have := h.2 i hi
    exact (World.cell?_of_block (w := w) (Below.heap_alloc w o b (World.block_lt_of_cell? w _ this))).trans this⟩
theorem Holds.cells {w : World} {b : Nat} {ns : List Int} (h : Holds w b ns) : Cells15 w b ns := ⟨h.2, fun i hi => h.cell i hi⟩
theorem Row15.cells15 {w : World} {g c : Nat} {ns : List Int} (h : Row15 w g c ns) : Cells15 w g ns := ⟨h.len, fun i hi => h.cell i hi⟩

theorem clone15 (b c : Nat) (ns : List Int) (w : World) (h : Cells15 w b ns) :
    Calls Try.prog 31 #[.slice (some ⟨b, 0, none⟩) 15 c] w fun e w' => ∃ g' c', e = .returned (.slice (some ⟨g', 0, none⟩) 15 c') ∧ Row15 w' g' c' ns ∧ w.grownBy w' none := by
  obtain ⟨i0, hi, hz0, hz1, hz2⟩ := info_parts info3
  have HI := Lib.hid hi
  have HZ := Lib.hid hz0
  have HZ1 := Lib.hid hz1
  have HZ2 := Lib.hid hz2
  have H := Lib.hid h
  clear hi hz0 hz1 hz2 h
  have hnil := fun W : World => Lib.run_eql_slice_nil (P := Try.prog) W 37 3 (some ⟨b, 0, none⟩) 15 c 0 0 Try.underlying37
  go_enter Try.func31, Try.ntmps31
  go_wp2_with (first | (at_builtin; refine wpList_append_own_at _ rfl _ _ 37 rfl 0 3 i0 (.int .i64 0) 1 8 Try.underlying37 HI.out HZ.out HZ1.out HZ2.out rfl (by decide) _ 0 [] rfl (World.ownsRow_made w #[] 0 (Nat.zero_le _) (by simp [maxLen]) (by simp)) ⟨b, 0, none⟩ 15 _ (nums ns) rfl (by rw [nums_len, H.out.1]) (H.out.alloc _).news (nums_one ns) (by simp [maxLen]) (by omega) (Nat.zero_le _) ?_; intro v' w1 hown hg _ _))
  obtain ⟨g, c2, hv, hrow⟩ := row_of_own (v := v') (w := w1) (ns := ns) hown
  rw [hv]
  go_wp2
  go_ret
  exact ⟨g, c2, rfl, hrow, gtrans (World.grownBy_alloc w _ none) hg (.inr (.inr ⟨_, rfl, Nat.le_refl _⟩))⟩
end Go.Proofs.Ytbblfhpicjdgnaa.W
