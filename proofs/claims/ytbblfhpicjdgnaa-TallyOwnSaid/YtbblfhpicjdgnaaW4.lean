/-
  What Fork and All of the package tally, slices.Clone, and New, Get, Same and Add of its reference do, over any memory.
-/
import Derived.Test.YtbblfhpicjdgnaaW3
import Derived.Laws.AppendOwn
import Derived.Laws.MakeOwn
import Derived.Laws.OwnMore
import Derived.Maps.AppendAt
import Derived.OwnWalk
import Derived.Laws.ResultCell
set_option linter.unusedVariables false
set_option linter.unusedSimpArgs false
namespace Go.Proofs.Ytbblfhpicjdgnaa.W
open Go.RowKit

def nums (xs : List Int) : List Value := xs.map (Value.int .i64)
/-- A row of 15 numbers that lies at the begin of a block of its own. -/
def Row15 (w : World) (g c : Nat) (ns : List Int) : Prop := w.ownsRow 0 3 1 (.slice (some ⟨g, 0, none⟩) 15 c) 15 (nums ns)

theorem Row15.len {w : World} {g c : Nat} {ns : List Int} (h : Row15 w g c ns) : ns.length = 15 := by have := h.1; simpa [nums] using this
theorem Row15.heap {w : World} {g c : Nat} {ns : List Int} (h : Row15 w g c ns) : ∃ cur, w.heap[g]? = some (.cells cur 3 (0, 0)) ∧ 15 ≤ c ∧ c ≤ maxLen ∧ cur.size = c ∧ cur.toList.take 15 = nums ns := by
  rcases h.2 with ⟨h1, _⟩ | ⟨g', cap, cur, h1, _, h2, h3, h4, h5, h6⟩
  · cases h1
  · injection h1 with e1 e2 e3
    injection e1 with e1
    injection e1 with e1
    subst e1
    subst e3
    exact ⟨cur, h2, h3, h4, by omega, by simpa using h6⟩
theorem Row15.lt {w : World} {g c : Nat} {ns : List Int} (h : Row15 w g c ns) : g < w.heap.size := by
  obtain ⟨cur, h1, _⟩ := h.heap
  exact (Array.getElem?_eq_some_iff.1 h1).1
theorem Row15.cell {w : World} {g c : Nat} {ns : List Int} (h : Row15 w g c ns) (i : Nat) (hi : i < 15) : w.cell? ⟨g, i, none⟩ = some (.int .i64 (ns.getD i 0)) := by
  have h1 := h.cells (g := g) rfl i (.int .i64 (ns.getD i 0)) (by simp [nums, List.getElem?_eq_getElem (show i < ns.length by rw [h.len]; exact hi), List.getD_eq_getElem?_getD])
  have : (⟨g, 0, none⟩ : Addr).add i = ⟨g, i, none⟩ := by unfold Addr.add; split <;> simp_all
  rwa [this] at h1
theorem Row15.frozen {w : World} {g c : Nat} {ns : List Int} (h : Row15 w g c ns) (i : Nat) : w.frozen? ⟨g, i, none⟩ = false := by
  obtain ⟨cur, h1, _⟩ := h.heap
  simp [World.frozen?, h1]
theorem Row15.kept {w w' : World} {g c : Nat} {ns : List Int} {row : Option Nat} (h : Row15 w g c ns) (hg : w.grownBy w' row) (hne : some g ≠ row) : Row15 w' g c ns :=
  World.ownsRow.kept h hg (.inr hne)
theorem Row15.ne {w : World} {g c b : Nat} {ns ms : List Int} (h : Row15 w g c ns) (hb : Holds w b ms) : g ≠ b := by
  obtain ⟨cur, h1, _⟩ := h.heap
  rintro rfl
  have := hb.1
  rw [h1] at this
  simp [TB] at this
theorem Row15.rints {w : World} {g c : Nat} {ns : List Int} (h : Row15 w g c ns) : RInts w (some ⟨g, 0, none⟩) 15 ns :=
  ⟨h.len, by omega, fun _ => ⟨g, 0, rfl, h.lt, fun j hj => by rw [Nat.zero_add]; exact h.cell j hj⟩⟩

theorem info3 : (Try.prog.info? 3).map (fun i => (i.zero, i.size, i.bytes)) = some (some (.int .i64 0), 1, 8) := by kernel_rfl

theorem len15 (ns : List Int) (h : ns.length = 15) : ∃ n0 n1 n2 n3 n4 n5 n6 n7 n8 n9 n10 n11 n12 n13 n14 : Int, ns = [n0, n1, n2, n3, n4, n5, n6, n7, n8, n9, n10, n11, n12, n13, n14] := by
  match ns, h with
  | [n0, n1, n2, n3, n4, n5, n6, n7, n8, n9, n10, n11, n12, n13, n14], _ => exact ⟨n0, n1, n2, n3, n4, n5, n6, n7, n8, n9, n10, n11, n12, n13, n14, rfl⟩

set_option maxRecDepth 100000 in
theorem fork_any (b : Nat) (ns : List Int) (w : World) (h : Holds w b ns) : Calls Try.prog 18 #[.pointer (some ⟨b, 0, none⟩)] w fun e w' => e = .returned (.pointer (some ⟨w.heap.size, 0, none⟩)) ∧ Holds w' w.heap.size ns ∧ w.grownBy w' none := by
  have hm := h.made
  obtain ⟨n0, n1, n2, n3, n4, n5, n6, n7, n8, n9, n10, n11, n12, n13, n14, rfl⟩ := len15 ns h.2
  have hh : w.heap[b]? = some (.cells #[.int .i64 n0, .int .i64 n1, .int .i64 n2, .int .i64 n3, .int .i64 n4, .int .i64 n5, .int .i64 n6, .int .i64 n7, .int .i64 n8, .int .i64 n9, .int .i64 n10, .int .i64 n11, .int .i64 n12, .int .i64 n13, .int .i64 n14, .bool true] 55 (0, 0)) := h.1
  have H := Lib.hid hh
  clear hh
  go_enter Try.func18, Try.ntmps18
  go_wp2_with (first | (go_at_call 26; refine (none_made _ _ hm).mono ?_; rintro e w' ⟨rfl, rfl⟩) | (refine wpList_load_row rfl 55 _ rfl b rfl 55 _ (0, 0) _ H.out Try.underlying55 rfl (by kernel_rfl) ?_))
  go_ret
  exact ⟨rfl, ⟨heap_alloc_new w _, rfl⟩, World.grownBy_alloc _ _ _⟩
end Go.Proofs.Ytbblfhpicjdgnaa.W
