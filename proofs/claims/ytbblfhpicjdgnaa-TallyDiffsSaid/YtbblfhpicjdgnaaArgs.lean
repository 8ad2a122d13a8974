/-
  How the arguments of the laws of layer 22 read: a slice of calls, a slice of counters.
-/
import Derived.Test.YtbblfhpicjdgnaaRuns
import Derived.Test.YtbblfhpicjdgnaaOpen
set_option linter.unusedVariables false
namespace Go.Proofs.Ytbblfhpicjdgnaa.W
open Go.Deep

theorem u8_bd {x : Int} (h : (Lit.int .u8 x).wf = true) : 0 ≤ x ∧ x ≤ 255 := by
  simpa [Lit.wf, IntKind.min, IntKind.max, IntKind.signed, IntKind.bits] using h

theorem rops_of {H : Type} {enc : TypeId × Value → H} {W : World} {a : Option Addr} {len cap : Nat} {d : DataW H} {p : List MemPlace} (h : DataW.Trod enc Try.prog W 0 (fun _ => true) true 34 (.slice a len cap) d p) :
    ∃ d k m, ROps W a len d k m := by
  obtain ⟨h1, h2, h3⟩ := open_cells (m := 3) (fun cs => ∃ a b c, cs = [.int .u8 a, .int .i64 b, .int .i64 c] ∧ (Lit.int .u8 a).wf = true ∧ (Lit.int .i64 b).wf = true ∧ (Lit.int .i64 c).wf = true) Try.underlying34 (by kernel_rfl) (by decide) h
    (fun n cs x hx => open_three Try.underlying42 (by kernel_rfl) rfl rfl rfl (by kernel_rfl) (by kernel_rfl) (by kernel_rfl) Try.underlying5 Try.underlying22 Try.underlying3 hx)
  by_cases h0 : 0 < len
  · obtain ⟨b, o, rfl, hb, hc⟩ := h3 h0
    obtain ⟨f, hf⟩ := choose_lt (α := Int × Int × Int) (n := len) (p := fun i x => (0 ≤ x.1 ∧ x.1 ≤ 255) ∧ W.cell? ⟨b, o + i * 3, none⟩ = some (.int .u8 x.1) ∧ W.cell? ⟨b, o + i * 3 + 1, none⟩ = some (.int .i64 x.2.1) ∧ W.cell? ⟨b, o + i * 3 + 2, none⟩ = some (.int .i64 x.2.2)) (fun i hi => by
      obtain ⟨cs, ⟨x, y, z, rfl, wx, _, _⟩, hcs⟩ := hc i hi
      exact ⟨(x, y, z), u8_bd wx, hcs 0 _ rfl (by decide), hcs 1 _ rfl (by decide), hcs 2 _ rfl (by decide)⟩)
    exact ⟨fun i => (f i).1, fun i => (f i).2.1, fun i => (f i).2.2, by omega, fun j hj => (hf j hj).1, fun _ => ⟨b, o, rfl, hb, fun j hj => (hf j hj).2⟩⟩
  · exact ⟨fun _ => 0, fun _ => 0, fun _ => 0, by omega, fun j hj => by omega, fun h => by omega⟩

theorem rints_of {H : Type} {enc : TypeId × Value → H} {W : World} {a : Option Addr} {len cap : Nat} {d : DataW H} {p : List MemPlace} (h : DataW.Trod enc Try.prog W 0 (fun _ => true) true 35 (.slice a len cap) d p) :
    len ≤ cap ∧ ∃ xs, RInts W a len xs := by
  obtain ⟨h1, h2, h3⟩ := open_cells (m := 1) (fun cs => ∃ a, cs = [.int .i64 a]) Try.underlying35 (by kernel_rfl) (by decide) h
    (fun n cs x hx => by obtain ⟨y, hy, _, _⟩ := DataW.trod_int Try.underlying22 hx; exact ⟨y, hy⟩)
  refine ⟨h1, ?_⟩
  by_cases h0 : 0 < len
  · obtain ⟨b, o, rfl, hb, hc⟩ := h3 h0
    obtain ⟨f, hf⟩ := choose_lt (α := Int) (n := len) (p := fun i x => W.cell? ⟨b, o + i, none⟩ = some (.int .i64 x)) (fun i hi => by
      obtain ⟨cs, ⟨x, rfl⟩, hcs⟩ := hc i hi
      have := hcs 0 _ rfl (by decide)
      rw [Nat.mul_one] at this
      exact ⟨x, this⟩)
    refine ⟨(List.range len).map f, by simp, by omega, fun _ => ⟨b, o, rfl, hb, fun j hj => ?_⟩⟩
    rw [hf j hj]
    simp [List.getD_eq_getElem?_getD, hj]
  · exact ⟨[], by simp; omega, by omega, fun h => by omega⟩
end Go.Proofs.Ytbblfhpicjdgnaa.W
