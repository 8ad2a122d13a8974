/-
  How the arguments of the queue's laws read: a slice of structs of a number and a slice of bytes.
-/
import Derived.Test.YtocicajjbkdbnaaV2
import Derived.Lib.SmallJoins
import Derived.WideShapes
import Derived.ChangeArms
set_option linter.unusedVariables false
set_option linter.unusedSimpArgs false
namespace Go.Proofs.Ytocicajjbkdbnaa.W
open Go.Deep Go.RowKit Go.WideShapes
theorem bt_of {H : Type} {enc : TypeId × Value → H} {W : World} {n : Nat} {v : Value} {x : DataW H × List MemPlace} (h : DataW.trod enc Try.prog W 0 (fun _ => true) true n 29 [v] = some x) :
    ∃ xs, Bt W v xs ∧ xs.length ≤ 9223372036854775807 ∧ ∀ a l c, v = .slice a l c → c ≤ 9223372036854775807 := by
  have ho := open_slice (cs := [v]) Try.underlying29 h
  rcases ho with ⟨hcs, _⟩ | ⟨ad, l, c, k, m, D, Pl, hcs, _, hl, hc, _⟩
  · injection hcs with hcs _
    subst hcs
    exact ⟨[], .inl ⟨rfl, rfl⟩, by simp, fun a l c e => by injection e with _ _ e; omega⟩
  · injection hcs with hcs _
    subst hcs
    obtain ⟨h1, h2, h3⟩ := open_cells (m := 1) (len := l) (cap := c) (fun cs => ∃ a, cs = [.int .u8 a]) Try.underlying29 (by kernel_rfl) (by decide) ⟨n, h⟩
      (fun n cs x hx => by obtain ⟨y, hy, _, hw⟩ := DataW.trod_int Try.underlying5 hx; exact ⟨y, hy⟩)
    by_cases h0 : 0 < l
    · obtain ⟨b, o, hb, hlt, hcell⟩ := h3 h0
      obtain ⟨f, hf⟩ := choose_lt (α := Int) (n := l) (p := fun i x => W.cell? ⟨b, o + i, none⟩ = some (.int .u8 x)) (fun i hi => by
        obtain ⟨cs, ⟨x, rfl⟩, hcs⟩ := hcell i hi
        have := hcs 0 _ rfl (by decide)
        rw [Nat.mul_one] at this
        exact ⟨x, this⟩)
      injection hb with hb
      subst hb
      have hlen : ((List.range l).map f).length = l := by simp
      refine ⟨(List.range l).map f, .inr (.inl ⟨b, o, c, by rw [hlen], by rw [hlen]; exact h1, fun _ => hlt, fun i hi => ?_⟩), by rw [hlen]; omega, fun a l c e => by injection e with _ _ e; omega⟩
      rw [hlen] at hi
      rw [hf i hi]
      simp [List.getD_eq_getElem?_getD, hi]
    · obtain rfl : l = 0 := by omega
      exact ⟨[], .inr (.inr ⟨ad, c, rfl, rfl⟩), by simp, fun a l c e => by injection e with _ _ e; omega⟩
theorem open_qop {H : Type} {enc : TypeId × Value → H} {W : World} {n : Nat} {cs : List Value} {x : DataW H × List MemPlace} (h : DataW.trod enc Try.prog W 0 (fun _ => true) true n 31 cs = some x) :
    ∃ (k : Int) (v : Value) (xs : List Int), cs = [.int .i64 k, v] ∧ Bt W v xs ∧ xs.length ≤ 9223372036854775807 ∧ ∀ a l c, v = .slice a l c → c ≤ 9223372036854775807 := by
  have hC : Try.prog.cellsOf 31 = 2 := by kernel_rfl
  have h3 : Try.prog.cellsOf 3 = 1 := by kernel_rfl
  have h29 : Try.prog.cellsOf 29 = 1 := by kernel_rfl
  obtain ⟨xs, m, _, _, hl, hxl, hg⟩ := DataW.trod_struct Try.underlying31 h
  rw [hC] at hl
  match cs, hl with
  | [v0, v1], _ =>
    have hx2 : xs.length = 2 := by simpa using hxl
    have g0 := hg 0 _ rfl
    have g1 := hg 1 _ rfl
    simp [h3, h29] at g0 g1
    rw [List.getElem?_eq_getElem (by omega)] at g0 g1
    obtain ⟨x0, e0, _, _⟩ := DataW.trod_int Try.underlying3 g0
    obtain ⟨ys, b1, b2, b3⟩ := bt_of g1
    simp at e0
    subst e0
    exact ⟨x0, v1, ys, rfl, b1, b2, b3⟩
theorem rq_of {H : Type} {enc : TypeId × Value → H} {W : World} {a : Option Addr} {len cap : Nat} {d : DataW H} {p : List MemPlace} (h : DataW.Trod enc Try.prog W 0 (fun _ => true) true 22 (.slice a len cap) d p) :
    ∃ kd bv bx, RQ W a len kd bv bx := by
  obtain ⟨h1, h2, h3⟩ := open_cells (m := 2) (fun cs => ∃ (k : Int) (v : Value) (xs : List Int), cs = [.int .i64 k, v] ∧ Bt W v xs ∧ xs.length ≤ 9223372036854775807 ∧ ∀ a l c, v = .slice a l c → c ≤ 9223372036854775807) Try.underlying22 (by kernel_rfl) (by decide) h
    (fun n cs x hx => open_qop hx)
  by_cases h0 : 0 < len
  · obtain ⟨b, o, rfl, hb, hc⟩ := h3 h0
    obtain ⟨f, hf⟩ := choose_lt (α := Int × Value × List Int) (n := len) (p := fun i x => (Bt W x.2.1 x.2.2 ∧ x.2.2.length ≤ 9223372036854775807 ∧ ∀ a l c, x.2.1 = .slice a l c → c ≤ 9223372036854775807) ∧ W.cell? ⟨b, o + i * 2, none⟩ = some (.int .i64 x.1) ∧ W.cell? ⟨b, o + i * 2 + 1, none⟩ = some x.2.1) (fun i hi => by
      obtain ⟨cs, ⟨k, v, xs, rfl, hw⟩, hcs⟩ := hc i hi
      exact ⟨(k, v, xs), hw, hcs 0 _ rfl (by decide), hcs 1 _ rfl (by decide)⟩)
    exact ⟨fun i => (f i).1, fun i => (f i).2.1, fun i => (f i).2.2, by omega, fun _ => ⟨b, o, rfl, hb, fun j hj => (hf j hj).2⟩, fun j hj => (hf j hj).1⟩
  · exact ⟨fun _ => 0, fun _ => .slice none 0 0, fun _ => [], by omega, fun h => by omega, fun j hj => by omega⟩
theorem walkRuns (room : Int) (a : Option Addr) (len cap : Nat) (kd : Nat → Int) (bv : Nat → Value) (bx : Nat → List Int) (w : World) (hq : RQ w a len kd bv bx) :
    Calls Try.prog 4 #[.int .i64 room, .slice a len cap] w fun e w' => e = .returned (.bool true) ∧ Below w.heap.size w w' := by
  by_cases h : 1 ≤ room ∧ room ≤ 32
  · obtain ⟨n, rfl⟩ : ∃ n : Nat, room = (n : Int) := ⟨room.toNat, by omega⟩
    exact walkRuns_ok n a len cap kd bv bx w hq (by omega) (by omega)
  · exact walkRuns_bad room a len cap w hq.hlen (by omega)
end Go.Proofs.Ytocicajjbkdbnaa.W
