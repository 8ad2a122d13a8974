/-
  How the arguments of MeterKept read: settings, a slice of numbers of 16 bits.
-/
import Derived.Test.YtjddjijcfhgndaaK3
import Derived.Lib.SmallJoins
import Derived.WideShapes
import Derived.ChangeArms
set_option linter.unusedVariables false
namespace Go.Proofs.Ytjddjijcfhgndaa.W
open Go.Deep Go.RowKit Go.WideShapes
theorem ru_of {H : Type} {enc : TypeId × Value → H} {W : World} {a : Option Addr} {len cap : Nat} {d : DataW H} {p : List MemPlace} (h : DataW.Trod enc Try.prog W 0 (fun _ => true) true 24 (.slice a len cap) d p) :
    ∃ f, RU W a len f := by
  obtain ⟨h1, h2, h3⟩ := open_cells (m := 1) (fun cs => ∃ a, cs = [.int .u16 a] ∧ (Lit.int .u16 a).wf = true) Try.underlying24 (by kernel_rfl) (by decide) h
    (fun n cs x hx => by obtain ⟨y, hy, _, hw⟩ := DataW.trod_int Try.underlying31 hx; exact ⟨y, hy, hw⟩)
  by_cases h0 : 0 < len
  · obtain ⟨b, o, rfl, hb, hc⟩ := h3 h0
    obtain ⟨f, hf⟩ := choose_lt (α := Int) (n := len) (p := fun i x => (0 ≤ x ∧ x ≤ 65535) ∧ W.cell? ⟨b, o + i, none⟩ = some (.int .u16 x)) (fun i hi => by
      obtain ⟨cs, ⟨x, rfl, hw⟩, hcs⟩ := hc i hi
      have := hcs 0 _ rfl (by decide)
      rw [Nat.mul_one] at this
      exact ⟨x, u16_bd hw, this⟩)
    exact ⟨f, by omega, fun j hj => (hf j hj).1, fun _ => ⟨b, o, rfl, hb, fun j hj => (hf j hj).2⟩⟩
  · exact ⟨fun _ => 0, by omega, fun j hj => by omega, fun h => by omega⟩
theorem six {α : Type} (l : Array α) (h : l.size = 6) : ∃ a b c d e f, l = #[a, b, c, d, e, f] := by
  obtain ⟨l⟩ := l
  match l, h with
  | [a, b, c, d, e, f], _ => exact ⟨a, b, c, d, e, f, rfl⟩
theorem conf_of {H : Type} {enc : TypeId × Value → H} {W : World} {v : Value} {base : Nat} {r : Reach} {d : DataW H} {p : List MemPlace} (hv : Value.okWide Try.prog W r base 23 v) (h : DataW.Trod enc Try.prog W 0 (fun _ => true) true 23 v d p) :
    ∃ (x0 x1 x2 x3 : Int) (cp aw : Bool), v = .agg #[.int .i64 x0, .int .i64 x1, .int .i64 x2, .int .i64 x3, .bool cp, .bool aw] := by
  obtain ⟨cs, rfl, hsz⟩ := okWide_struct Try.underlying23 hv
  have hC : Try.prog.cellsOf 23 = 6 := by kernel_rfl
  have h3 : Try.prog.cellsOf 3 = 1 := by kernel_rfl
  have h4 : Try.prog.cellsOf 4 = 1 := by kernel_rfl
  obtain ⟨a0, a1, a2, a3, a4, a5, rfl⟩ := six cs (hsz.trans hC)
  obtain ⟨fuel, hf⟩ := h
  obtain ⟨xs, m, _, _, hl, hxl, hg⟩ := DataW.trod_struct Try.underlying23 hf
  have hx6 : xs.length = 6 := by simpa using hxl
  have g0 := hg 0 _ rfl
  have g1 := hg 1 _ rfl
  have g2 := hg 2 _ rfl
  have g3 := hg 3 _ rfl
  have g4 := hg 4 _ rfl
  have g5 := hg 5 _ rfl
  simp [Value.cells, h3, h4] at g0 g1 g2 g3 g4 g5
  rw [List.getElem?_eq_getElem (by omega)] at g0 g1 g2 g3 g4 g5
  obtain ⟨x0, e0, _, _⟩ := DataW.trod_int Try.underlying3 g0
  obtain ⟨x1, e1, _, _⟩ := DataW.trod_int Try.underlying3 g1
  obtain ⟨x2, e2, _, _⟩ := DataW.trod_int Try.underlying3 g2
  obtain ⟨x3, e3, _, _⟩ := DataW.trod_int Try.underlying3 g3
  obtain ⟨x4, e4, _⟩ := DataW.trod_bool Try.underlying4 g4
  obtain ⟨x5, e5, _⟩ := DataW.trod_bool Try.underlying4 g5
  simp at e0 e1 e2 e3 e4 e5
  subst e0 e1 e2 e3 e4 e5
  exact ⟨x0, x1, x2, x3, x4, x5, rfl⟩
end Go.Proofs.Ytjddjijcfhgndaa.W
