/-
  How the meter and the row of marked frames stand in the midst of MeterBound.
-/
import Derived.Test.YtjddjijcfhgndaaB1
import Derived.Test.YtjddjijcfhgndaaM1
import Derived.Test.YtjddjijcfhgndaaK1
set_option linter.unusedVariables false
set_option linter.unusedSimpArgs false
namespace Go.Proofs.Ytjddjijcfhgndaa.W
open Go.RowKit

def mkC (x : Mk) : List Value := [.int .i64 x.a, .int .i64 x.n, .int .i64 x.c]
def confB (y0 y1 y2 y3 : Int) (cp aw : Bool) : Array Value := #[.int .i64 y0, .int .i64 y1, .int .i64 y2, .int .i64 y3, .bool cp, .bool aw]
structure QB (w0 w : World) (b Bc : Nat) (y0 y1 y2 y3 : Int) (cp aw : Bool) (s : MS) (D : List Mk) (dv : Value) : Prop where
  made : MH w b s
  bi : BI s D
  e0 : s.cir = y0
  e1 : s.cbs = y1
  e2 : s.eir = y2
  e3 : s.ebs = y3
  conf : w.heap[Bc]? = some (.cells (confB y0 y1 y2 y3 cp aw) 23 (0, 0))
  row : w.ownsRow w0.heap.size 44 3 dv D.length (D.flatMap mkC)
  below : Below w0.heap.size w0 w
  hb : w0.heap.size ≤ b

theorem own_kept {w w' : World} {B n size : Nat} {e : TypeId} {v : Value} {xs : List Value} {row : Option Nat} (h : w.ownsRow B e size v n xs) (hg : w.grownBy w' row) (hne : ∀ r, row = some r → v.ownBlock ≠ some r) : w'.ownsRow B e size v n xs :=
  World.ownsRow.kept h hg (by
    cases ho : v.ownBlock with
    | none => exact .inl rfl
    | some k =>
      refine .inr fun e => ?_
      exact hne k e.symm ho)
theorem own_row {w : World} {B n size : Nat} {e : TypeId} {v : Value} {xs : List Value} {k : Nat} (h : w.ownsRow B e size v n xs) (hk : v.ownBlock = some k) : ∃ cur, w.heap[k]? = some (.cells cur e (0, 0)) := by
  rcases h.2 with ⟨rfl, _⟩ | ⟨g, cap, cur, rfl, _, hg, _⟩
  · simp [Value.ownBlock] at hk
  · simp only [Value.ownBlock, Option.some.injEq] at hk
    subst hk
    exact ⟨cur, hg⟩
theorem own_far {w : World} {B n size : Nat} {e : TypeId} {v : Value} {xs : List Value} {r : Nat} {o : Obj} (h : w.ownsRow B e size v n xs) (ho : w.heap[r]? = some o) (hne : ∀ cur fr, o ≠ .cells cur e fr) : v.ownBlock ≠ some r := fun hk => by
  obtain ⟨cur, hc⟩ := own_row h hk
  rw [ho] at hc
  exact hne cur (0, 0) (by simpa using hc)
theorem own_len {w : World} {B n size : Nat} {e : TypeId} {v : Value} {xs : List Value} (h : w.ownsRow B e size v n xs) : ∃ a c, v = .slice a n c := by
  rcases h.2 with ⟨rfl, rfl⟩ | ⟨g, c, _, rfl, _⟩
  · exact ⟨_, _, rfl⟩
  · exact ⟨_, _, rfl⟩

section
variable {w0 w w' : World} {b Bc : Nat} {y0 y1 y2 y3 : Int} {cp aw : Bool} {s : MS} {D : List Mk} {dv : Value}
theorem QB.grown (h : QB w0 w b Bc y0 y1 y2 y3 cp aw s D dv) (hg : w.grownBy w' none) : QB w0 w' b Bc y0 y1 y2 y3 cp aw s D dv :=
  ⟨h.made.kept hg (by simp), h.bi, h.e0, h.e1, h.e2, h.e3, blk_kept h.conf hg (by simp), own_kept h.row hg (by simp), h.below.grown hg h.below.size (by simp), h.hb⟩
theorem QB.nec (h : QB w0 w b Bc y0 y1 y2 y3 cp aw s D dv) : Bc ≠ b := by
  rintro rfl
  have h1 : w.heap[Bc]? = _ := h.made
  rw [h.conf] at h1
  simp at h1
theorem QB.ned (h : QB w0 w b Bc y0 y1 y2 y3 cp aw s D dv) : dv.ownBlock ≠ some b := own_far h.row (show w.heap[b]? = _ from h.made) (by simp)
/-- Behind Mark: the row still lacks the frame. -/
structure QM (w0 w : World) (b Bc : Nat) (y0 y1 y2 y3 : Int) (cp aw : Bool) (s : MS) (D : List Mk) (dv : Value) (x : Mk) : Prop where
  made : MH w b s
  bi : BI s (D ++ [x])
  e0 : s.cir = y0
  e1 : s.cbs = y1
  e2 : s.eir = y2
  e3 : s.ebs = y3
  conf : w.heap[Bc]? = some (.cells (confB y0 y1 y2 y3 cp aw) 23 (0, 0))
  row : w.ownsRow w0.heap.size 44 3 dv D.length (D.flatMap mkC)
  below : Below w0.heap.size w0 w
  hb : w0.heap.size ≤ b
theorem QB.mark {t n c : Int} (h : QB w0 w b Bc y0 y1 y2 y3 cp aw s D dv) (h1 : s.l ≤ t) (h2 : t ≤ 1099511627776) (h3 : okf n c) (hM : MH w' b (markS s t n c).1) (hg : w.grownBy w' (some b)) :
    QM w0 w' b Bc y0 y1 y2 y3 cp aw (markS s t n c).1 D dv ⟨t, n, (markS s t n c).2⟩ := by
  obtain ⟨e1, e2, e3, e4, _, _, _⟩ := mark_sets s t n c
  exact ⟨hM, h.bi.mark t n c h1 h2 h3, e1.trans h.e0, e2.trans h.e1, e3.trans h.e2, e4.trans h.e3, blk_kept h.conf hg (by simpa using h.nec), own_kept h.row hg (by rintro _ ⟨⟩; exact h.ned), h.below.grown hg h.below.size (by rintro _ ⟨⟩; exact h.hb), h.hb⟩
theorem QM.grown {x : Mk} (h : QM w0 w b Bc y0 y1 y2 y3 cp aw s D dv x) (hg : w.grownBy w' none) : QM w0 w' b Bc y0 y1 y2 y3 cp aw s D dv x :=
  ⟨h.made.kept hg (by simp), h.bi, h.e0, h.e1, h.e2, h.e3, blk_kept h.conf hg (by simp), own_kept h.row hg (by simp), h.below.grown hg h.below.size (by simp), h.hb⟩
theorem QM.app {x : Mk} {dv' : Value} (h : QM w0 w b Bc y0 y1 y2 y3 cp aw s D dv x) (ho : w'.ownsRow w0.heap.size 44 3 dv' (D.length + 1) (D.flatMap mkC ++ mkC x)) (hg : w.grownBy w' dv.ownBlock) : QB w0 w' b Bc y0 y1 y2 y3 cp aw s (D ++ [x]) dv' := by
  have h1 : dv.ownBlock ≠ some b := own_far h.row (show w.heap[b]? = _ from h.made) (by simp)
  have h2 : dv.ownBlock ≠ some Bc := own_far h.row h.conf (by simp)
  refine ⟨h.made.kept hg (fun e => h1 e.symm), h.bi, h.e0, h.e1, h.e2, h.e3, blk_kept h.conf hg (fun e => h2 e.symm), ?_, h.below.grown hg h.below.size (fun r hr => (h.row.lt r hr).1), h.hb⟩
  rw [List.length_append, List.flatMap_append]
  simpa using ho
end
theorem flat_get (D : List Mk) (i j : Nat) (hi : i < D.length) (hj : j < 3) : (D.flatMap mkC)[i * 3 + j]? = (mkC (D.getD i default))[j]? := by
  induction D generalizing i with
  | nil => simp at hi
  | cons x D ih =>
    cases i with
    | zero =>
      rw [List.flatMap_cons, List.getElem?_append_left (by simp [mkC]; omega)]
      simp
    | succ i =>
      rw [List.flatMap_cons, List.getElem?_append_right (by simp [mkC]; omega)]
      have := ih i (by simpa using hi)
      simp only [mkC, List.length_cons, List.length_nil] at this ⊢
      rw [show (i + 1) * 3 + j - (0 + 1 + 1 + 1) = i * 3 + j by omega, this]
      simp
theorem row_cells {w : World} {B : Nat} {dv : Value} {D : List Mk} (h : w.ownsRow B 44 3 dv D.length (D.flatMap mkC)) (h0 : 0 < D.length) : ∃ g c, dv = .slice (some ⟨g, 0, none⟩) D.length c ∧ ∀ i, i < D.length →
    w.cell? ⟨g, i * 3, none⟩ = some (.int .i64 (D.getD i default).a) ∧ w.cell? ⟨g, i * 3 + 1, none⟩ = some (.int .i64 (D.getD i default).n) ∧ w.cell? ⟨g, i * 3 + 2, none⟩ = some (.int .i64 (D.getD i default).c) := by
  have h' := h
  rcases h.2 with ⟨_, hn⟩ | ⟨g, c, _, rfl, _⟩
  · omega
  · refine ⟨g, c, rfl, fun i hi => ?_⟩
    rw [show i * 3 = i * 3 + 0 by omega, h'.cellAt _ (by omega), h'.cellAt _ (by omega), h'.cellAt _ (by omega), flat_get D i 0 hi (by omega), flat_get D i (0 + 1) hi (by omega), flat_get D i (0 + 2) hi (by omega)]
    exact ⟨rfl, rfl, rfl⟩
theorem info44 : (Try.prog.info? 44).map (fun i => (i.zero, i.size, i.bytes)) = some (some (.agg #[.int .i64 0, .int .i64 0, .int .i64 0]), 3, 24) := by kernel_rfl
theorem cells3_new (W : World) (t : TypeId) (x y z : Value) : ∀ j u, [x, y, z][j]? = some u → (W.alloc (.cells #[x, y, z] t)).cell? ((⟨W.heap.size, 0, none⟩ : Addr).add j) = some u := by
  intro j u hj
  have e : (⟨W.heap.size, 0, none⟩ : Addr).add j = ⟨W.heap.size, j, none⟩ := by unfold Addr.add; split <;> simp_all
  rw [e, cell_of_row _ W.heap.size j _ t (0, 0) (heap_alloc_new W _)]
  simpa using hj
theorem QM.alloc {w0 w : World} {b Bc : Nat} {y0 y1 y2 y3 : Int} {cp aw : Bool} {s : MS} {D : List Mk} {dv : Value} {x : Mk} (h : QM w0 w b Bc y0 y1 y2 y3 cp aw s D dv x) (o : Obj) : QM w0 (w.alloc o) b Bc y0 y1 y2 y3 cp aw s D dv x := h.grown (World.grownBy_alloc _ _ _)
/-- What Levels tells ahead of a frame that is Red, and behind it. -/
theorem red_same (s : MS) (t n c : Int) (hg : Good s) (h1 : s.l ≤ t) (h2 : t ≤ 1099511627776) (h : (markS s t n c).2 = 3) : fillS (markS s t n c).1 t = fillS s t := by
  have hc := mark_col s t n c
  have e : (markS s t n c).1 = fillS s t := by
    rcases hc with hc | hc | hc
    · omega
    · omega
    · exact hc.2
  rw [e]
  exact fill_idem (fillS s t) (fill_good s t hg h1 h2)
theorem mark_xc (s : MS) (t n c : Int) : (markS s t n c).2 = 1 ∨ (markS s t n c).2 = 2 ∨ (markS s t n c).2 = 3 := by
  have := mark_col s t n c
  omega
theorem mul_bd (y d m k : Int) (h0 : 0 ≤ y) (h1 : y ≤ m) (h2 : -k ≤ d) (h3 : d ≤ k) (hm : 0 ≤ m) (hk : 0 ≤ k) : -(m * k) ≤ y * d ∧ y * d ≤ m * k := by
  constructor
  · have b1 : y * (-k) ≤ y * d := Int.mul_le_mul_of_nonneg_left h2 h0
    have b2 : y * k ≤ m * k := Int.mul_le_mul_of_nonneg_right h1 hk
    rw [Int.mul_neg] at b1
    omega
  · have b1 : y * d ≤ y * k := Int.mul_le_mul_of_nonneg_left h3 h0
    have b2 : y * k ≤ m * k := Int.mul_le_mul_of_nonneg_right h1 hk
    omega
end Go.Proofs.Ytjddjijcfhgndaa.W
