/-
  How the queue and the row of what is wanted stand in the midst of QueueOrder.
-/
import Derived.Test.YtocicajjbkdbnaaO1
set_option linter.unusedVariables false
set_option linter.unusedSimpArgs false
namespace Go.Proofs.Ytocicajjbkdbnaa.W
open Go.RowKit Go.Deep Go.Conc

theorem BO.chan {B : Nat} {w w' : World} {v : Value} {xs : List Int} {cb cap : Nat} {vs : List Value} (h : BO B w v xs) (hq : QC w cb cap vs) (hg : w.grownBy w' (some cb)) : BO B w' v xs := by
  obtain ⟨s, r, hc⟩ := hq
  refine h.kept hg ?_
  rintro _ ⟨⟩
  exact h.ne hc (by simp)
/-- No slice of P lies in block r. -/
def Far (P : List Pr) (r : Nat) : Prop := ∀ p ∈ P, p.1.ownBlock ≠ some r
structure QO (w0 w : World) (b cb n : Nat) (P W : List Pr) (wv : Value) : Prop where
  q : QH w b cb n (P.map Prod.fst)
  p : RO w0.heap.size w P
  wr : WR w0.heap.size w wv W
  wo : RO w0.heap.size w W
  below : Below w0.heap.size w0 w
  lc : w0.heap.size ≤ cb
  len : P.length ≤ n
  top : n ≤ 8
  sep : ∀ p ∈ P, ∀ r, p.1.ownBlock = some r → Far W r
theorem QC.obj {w : World} {cb cap : Nat} {vs : List Value} (h : QC w cb cap vs) (cur : Array Value) (t : TypeId) : w.heap[cb]? ≠ some (.cells cur t (0, 0)) := by
  obtain ⟨s, r, h⟩ := h
  rw [h]
  simp
theorem QO.grown {w0 w w' : World} {b cb n : Nat} {P W : List Pr} {wv : Value} (h : QO w0 w b cb n P W wv) (hg : w.grownBy w' none) : QO w0 w' b cb n P W wv :=
  ⟨h.q.kept hg (by simp) (by simp), h.p.kept hg (by simp), h.wr.kept hg (by simp), h.wo.kept hg (by simp), h.below.grown hg h.below.size (by simp), h.lc, h.len, h.top, h.sep⟩
/-- Another content of the queue. -/
theorem QO.on {w0 w w' : World} {b cb n : Nat} {P P' W : List Pr} {wv : Value} (h : QO w0 w b cb n P W wv) (hq : QH w' b cb n (P'.map Prod.fst)) (hp : RO w0.heap.size w' P') (hl : P'.length ≤ n) (hs : ∀ p ∈ P', ∀ r, p.1.ownBlock = some r → Far W r) (hg : w.grownBy w' (some cb)) : QO w0 w' b cb n P' W wv :=
  ⟨hq, hp, h.wr.kept hg (by rintro _ ⟨⟩ cur; exact h.q.chan.obj cur 29), h.wo.chan h.q.chan hg, h.below.grown hg h.below.size (by rintro _ ⟨⟩; exact h.lc), h.lc, hl, h.top, hs⟩
theorem RO.fresh {B : Nat} {w : World} {P : List Pr} (h : RO B w P) {r : Nat} (hr : r < B) : Far P r := fun p hp ho => by
  have := (h p hp).1.lt ho
  omega
theorem RO.old {B : Nat} {w : World} {P : List Pr} (h : RO B w P) {r : Nat} (hr : w.heap.size ≤ r) : Far P r := fun p hp ho => by
  have := (h p hp).1.lt ho
  omega
theorem QO.put {w0 w w' : World} {b cb n : Nat} {P W : List Pr} {wv v : Value} {xs : List Int} (h : QO w0 w b cb n P W wv) (hq : QH w' b cb n (P.map Prod.fst ++ [v])) (hb : BO w.heap.size w' v xs) (hl : xs.length ≤ 2048) (hn : P.length < n) (hg : w.grownBy w' (some cb)) : QO w0 w' b cb n (P ++ [(v, xs)]) W wv := by
  refine h.on (by simpa using hq) ((h.p.chan h.q.chan hg).app (.one (hb.le h.below.size) hl)) (by simp; omega) (fun p hp r hr => ?_) hg
  rcases List.mem_append.1 hp with hp | hp
  · exact h.sep p hp r hr
  · rw [List.mem_singleton] at hp
    subst hp
    exact h.wo.old (hb.lt hr).1
theorem QO.take {w0 w w' : World} {b cb n : Nat} {p : Pr} {P W : List Pr} {wv : Value} (h : QO w0 w b cb n (p :: P) W wv) (hq : QH w' b cb n (P.map Prod.fst)) (hg : w.grownBy w' (some cb)) : QO w0 w' b cb n P W wv ∧ BO w0.heap.size w' p.1 p.2 :=
  have h1 := h.p.chan h.q.chan hg
  ⟨h.on hq (fun q hq => h1 q (List.mem_cons_of_mem _ hq)) (by have := h.len; simp at this; omega) (fun q hq => h.sep q (List.mem_cons_of_mem _ hq)) hg, (h1 p List.mem_cons_self).1⟩
theorem QO.tail {w0 w : World} {b cb n : Nat} {p : Pr} {P W : List Pr} {wv wv' : Value} (h : QO w0 w b cb n P (p :: W) wv) (hw : WR w0.heap.size w wv' W) : QO w0 w b cb n P W wv' :=
  ⟨h.q, h.p, hw, fun q hq => h.wo q (List.mem_cons_of_mem _ hq), h.below, h.lc, h.len, h.top, fun q hq r hr => fun u hu => h.sep q hq r hr u (List.mem_cons_of_mem _ hu)⟩
/-- want = append(want, x), x in memory that nobody of the queue has. -/
theorem QO.want {w0 w w' : World} {b cb n : Nat} {P W : List Pr} {wv wv' : Value} {p : Pr} (h : QO w0 w b cb n P W wv) (hb : BO w0.heap.size w p.1 p.2) (hl : p.2.length ≤ 2048) (hf : ∀ r, p.1.ownBlock = some r → Far P r) (hw : WR w0.heap.size w' wv' (W ++ [p]))
    (hg : w.grownBy w' none ∨ ∃ r cur, w.heap[r]? = some (.cells cur 29 (0, 0)) ∧ w0.heap.size ≤ r ∧ w.grownBy w' (some r)) : QO w0 w' b cb n P (W ++ [p]) wv' := by
  have hsep : ∀ q ∈ P, ∀ r, q.1.ownBlock = some r → Far (W ++ [p]) r := fun q hq r hr u hu => by
    rcases List.mem_append.1 hu with hu | hu
    · exact h.sep q hq r hr u hu
    · rw [List.mem_singleton] at hu
      subst hu
      exact fun ho => hf r ho q hq hr
  rcases hg with hg | ⟨r, cur, hc, hr, hg⟩
  · exact ⟨h.q.kept hg (by simp) (by simp), h.p.kept hg (by simp), hw, (h.wo.kept hg (by simp)).app (.one (hb.kept hg (by simp)) hl), h.below.grown hg h.below.size (by simp), h.lc, h.len, h.top, hsep⟩
  · have h5 : ∀ c fr, (Obj.cells cur 29 (0, 0)) ≠ .cells c 5 fr := by simp
    refine ⟨h.q.kept hg (fun e => ?_) (fun e => ?_), h.p.kept hg (by rintro _ ⟨⟩; exact h.p.far hc h5), hw, (h.wo.kept hg (by rintro _ ⟨⟩; exact h.wo.far hc h5)).app (.one (hb.kept hg (by rintro _ ⟨⟩; exact hb.ne hc h5)) hl), h.below.grown hg h.below.size (by rintro _ ⟨⟩; exact hr), h.lc, h.len, h.top, hsep⟩
    · injection e with e
      subst e
      rw [h.q.box] at hc
      simp at hc
    · injection e with e
      subst e
      exact h.q.chan.obj _ _ hc
/-- A byte is turned where neither the queue nor what is wanted lies. -/
theorem QO.set {w0 w : World} {b cb n g j : Nat} {P W : List Pr} {wv : Value} (h : QO w0 w b cb n P W wv) {cur : Array Value} (hc : w.heap[g]? = some (.cells cur 5 (0, 0))) (hg : w0.heap.size ≤ g) (h1 : Far P g) (h2 : Far W g) (y : Value) : QO w0 (w.setCell ⟨g, j, none⟩ y) b cb n P W wv := by
  have hs := grownSet w g j y
  refine ⟨h.q.kept hs (fun e => ?_) (fun e => ?_), h.p.kept hs (by rintro _ ⟨⟩; exact h1), h.wr.kept hs (by rintro _ ⟨⟩ c e; rw [hc] at e; simp at e), h.wo.kept hs (by rintro _ ⟨⟩; exact h2), h.below.grown hs h.below.size (by rintro _ ⟨⟩; exact hg), h.lc, h.len, h.top, h.sep⟩
  · injection e with e
    subst e
    rw [h.q.box] at hc
    simp at hc
  · injection e with e
    subst e
    exact h.q.chan.obj _ _ hc

/-- Behind All: its row, whose bytes are turned. -/
structure QT (w0 w : World) (b cb n : Nat) (P W X : List Pr) (wv xv : Value) : Prop where
  qo : QO w0 w b cb n P W wv
  row : w.ownsRow w0.heap.size 29 1 xv X.length (X.map Prod.fst)
  bl : ∀ p ∈ X, BL w0.heap.size w p.1 p.2.length
  far : ∀ p ∈ X, ∀ r, p.1.ownBlock = some r → Far P r ∧ Far W r
theorem QO.all {w0 w w' : World} {b cb n : Nat} {P P' W : List Pr} {wv v : Value} (h : QO w0 w b cb n P W wv) (hs : P'.map Prod.snd = P.map Prod.snd) (ho : w'.ownsRow w.heap.size 29 1 v P.length (P.map Prod.fst)) (hq : QH w' b cb n (P'.map Prod.fst)) (hr' : RO w.heap.size w' P') (hg : w.grownBy w' (some cb)) : QT w0 w' b cb n P' W P wv v := by
  have hl : P'.length = P.length := by simpa using congrArg List.length hs
  have hp := h.p.chan h.q.chan hg
  refine ⟨h.on hq (hr'.le h.below.size) (by have := h.len; omega) (fun p hp r hr => h.wo.old ((hr' p hp).1.lt hr).1) hg, Joins.ownsRow_le ho h.below.size, fun p hp' => (hp p hp').1.bl, fun p hp' r hr => ⟨hr'.fresh ?_, h.sep p hp' r hr⟩⟩
  exact ((h.p p hp').1.lt hr).2
theorem QT.set {w0 w : World} {b cb n g j : Nat} {P W X : List Pr} {wv xv : Value} (h : QT w0 w b cb n P W X wv xv) {p : Pr} (hp : p ∈ X) (hg : p.1.ownBlock = some g) (y : Int) : QT w0 (w.setCell ⟨g, j, none⟩ (.int .u8 y)) b cb n P W X wv xv := by
  obtain ⟨xs, hl, hb⟩ := h.bl p hp
  obtain ⟨cur, hc⟩ := own_row hb hg
  obtain ⟨f1, f2⟩ := h.far p hp g hg
  exact ⟨h.qo.set hc (World.ownsRow.lt hb g hg).1 f1 f2 _, own_kept h.row (grownSet w g j _) (by rintro _ ⟨⟩; exact own_far h.row hc (by simp)), fun q hq => (h.bl q hq).set y, h.far⟩
theorem QT.grown {w0 w w' : World} {b cb n : Nat} {P W X : List Pr} {wv xv : Value} (h : QT w0 w b cb n P W X wv xv) (hg : w.grownBy w' none) : QT w0 w' b cb n P W X wv xv :=
  ⟨h.qo.grown hg, own_kept h.row hg (by simp), fun p hp => (h.bl p hp).kept hg (by simp), h.far⟩
end Go.Proofs.Ytocicajjbkdbnaa.W
