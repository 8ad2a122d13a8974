/-
  How the frames of an argument read: a slice of structs of two numbers, a colour and a bool.
-/
import Derived.Test.YtjddjijcfhgndaaK4
import Derived.Test.YtjddjijcfhgndaaM2
set_option linter.unusedVariables false
namespace Go.Proofs.Ytjddjijcfhgndaa.W
open Go.Deep Go.RowKit Go.WideShapes
theorem open_op {H : Type} {enc : TypeId × Value → H} {W : World} {n : Nat} {cs : List Value} {x : DataW H × List MemPlace} (h : DataW.trod enc Try.prog W 0 (fun _ => true) true n 40 cs = some x) :
    ∃ (a b c : Int) (f : Bool), cs = [.int .i64 a, .int .i64 b, .int .i64 c, .bool f] ∧ (Lit.int .i64 a).wf = true := by
  have hC : Try.prog.cellsOf 40 = 4 := by kernel_rfl
  have h3 : Try.prog.cellsOf 3 = 1 := by kernel_rfl
  have h32 : Try.prog.cellsOf 32 = 1 := by kernel_rfl
  have h4 : Try.prog.cellsOf 4 = 1 := by kernel_rfl
  obtain ⟨xs, m, _, _, hl, hxl, hg⟩ := DataW.trod_struct Try.underlying40 h
  rw [hC] at hl
  match cs, hl with
  | [v0, v1, v2, v3], _ =>
    have hx4 : xs.length = 4 := by simpa using hxl
    have g0 := hg 0 _ rfl
    have g1 := hg 1 _ rfl
    have g2 := hg 2 _ rfl
    have g3 := hg 3 _ rfl
    simp [h3, h4, h32] at g0 g1 g2 g3
    rw [List.getElem?_eq_getElem (by omega)] at g0 g1 g2 g3
    obtain ⟨x0, e0, _, w0⟩ := DataW.trod_int Try.underlying3 g0
    obtain ⟨x1, e1, _, _⟩ := DataW.trod_int Try.underlying3 g1
    obtain ⟨x2, e2, _, _⟩ := DataW.trod_int Try.underlying32 g2
    obtain ⟨x3, e3, _⟩ := DataW.trod_bool Try.underlying4 g3
    simp at e0 e1 e2 e3
    subst e0 e1 e2 e3
    exact ⟨x0, x1, x2, x3, rfl, w0⟩
theorem rf_of {H : Type} {enc : TypeId × Value → H} {W : World} {a : Option Addr} {len cap : Nat} {d : DataW H} {p : List MemPlace} (h : DataW.Trod enc Try.prog W 0 (fun _ => true) true 36 (.slice a len cap) d p) :
    ∃ la sz co fk, RF W a len la sz co fk := by
  obtain ⟨h1, h2, h3⟩ := open_cells (m := 4) (fun cs => ∃ (a b c : Int) (f : Bool), cs = [.int .i64 a, .int .i64 b, .int .i64 c, .bool f] ∧ (Lit.int .i64 a).wf = true) Try.underlying36 (by kernel_rfl) (by decide) h
    (fun n cs x hx => open_op hx)
  by_cases h0 : 0 < len
  · obtain ⟨b, o, rfl, hb, hc⟩ := h3 h0
    obtain ⟨f, hf⟩ := choose_lt (α := Int × Int × Int × Bool) (n := len) (p := fun i x => (-9223372036854775808 ≤ x.1 ∧ x.1 ≤ 9223372036854775807) ∧ W.cell? ⟨b, o + i * 4, none⟩ = some (.int .i64 x.1) ∧ W.cell? ⟨b, o + i * 4 + 1, none⟩ = some (.int .i64 x.2.1) ∧ W.cell? ⟨b, o + i * 4 + 2, none⟩ = some (.int .i64 x.2.2.1) ∧ W.cell? ⟨b, o + i * 4 + 3, none⟩ = some (.bool x.2.2.2)) (fun i hi => by
      obtain ⟨cs, ⟨x, y, z, f, rfl, hw⟩, hcs⟩ := hc i hi
      exact ⟨(x, y, z, f), i64_bd hw, hcs 0 _ rfl (by decide), hcs 1 _ rfl (by decide), hcs 2 _ rfl (by decide), hcs 3 _ rfl (by decide)⟩)
    exact ⟨fun i => (f i).1, fun i => (f i).2.1, fun i => (f i).2.2.1, fun i => (f i).2.2.2, by omega, fun j hj => (hf j hj).1, fun _ => ⟨b, o, rfl, hb, fun j hj => (hf j hj).2⟩⟩
  · exact ⟨fun _ => 0, fun _ => 0, fun _ => 0, fun _ => false, by omega, fun j hj => by omega, fun h => by omega⟩
theorem walkRuns (cir cbs eir ebs : Int) (cp aw : Bool) (a : Option Addr) (len cap : Nat) (la sz co : Nat → Int) (fk : Nat → Bool) (raw : Int) (w : World) (hf : RF w a len la sz co fk) :
    Calls Try.prog 5 #[.agg #[.int .i64 cir, .int .i64 cbs, .int .i64 eir, .int .i64 ebs, .bool cp, .bool aw], .slice a len cap, .int .i64 raw] w fun e w' => e = .returned (.bool true) ∧ Below w.heap.size w w' := by
  by_cases hok : okc ⟨cir, cbs, eir, ebs, cp, aw, 0, 0, 0⟩
  · exact walkRuns_ok cir cbs eir ebs cp aw a len cap la sz co fk raw w hf hok
  · exact walkRuns_bad cir cbs eir ebs cp aw a len cap la sz co fk raw w hf hok
end Go.Proofs.Ytjddjijcfhgndaa.W
