/-
  Small laws on worlds and blocks, and how a slice that came in reads, cell by cell.
-/
import Derived.WalkKit
import Derived.ProofKit
import Derived.Deep.Slices
import Derived.DataReads
import Derived.WalkLawsBesides
import Derived.WalkSpells
import Derived.RegionTactic
import Derived.Deep.QuietTactic
import Derived.BigQuiet
import Derived.Outline
import Derived.LoopTactic
import Derived.Deep.LoopGhost
import Derived.Lib.Hide
import Derived.Laws.AppendOwn
import Derived.Laws.MakeOwn
import Derived.Laws.OwnMore
import Derived.Maps.AppendAt
import Derived.OwnWalk
import Derived.Laws.ResultCell
import Derived.Deep.AppendLies
import Derived.Deep.RegionWith
import Derived.Deep.RegionHeld3
import Derived.Deep.DeepCutAuto
import Derived.StillTailTactics
set_option linter.unusedVariables false
set_option linter.unusedSimpArgs false
namespace Go.Proofs.Ytaidfcehicffbaa.W
open Go.RowKit Go.Deep

theorem gtrans {w w1 w2 : World} {row row2 : Option Nat} (h : w.grownBy w1 row) (k : w1.grownBy w2 row2) (hr : row2 = row ∨ row2 = none ∨ ∃ b, row2 = some b ∧ w.heap.size ≤ b) : w.grownBy w2 row :=
  ⟨k.os.trans h.os, k.tape.trans h.tape, k.output.trans h.output, Nat.le_trans h.size k.size, fun i hi hne => by
    refine (k.block i (Nat.lt_of_lt_of_le hi h.size) ?_).trans (h.block i hi hne)
    rcases hr with rfl | rfl | ⟨b, rfl, hb⟩
    · exact hne
    · simp
    · intro e
      injection e with e
      omega⟩
theorem gn {w w1 w2 : World} {row : Option Nat} (h : w.grownBy w1 row) (k : w1.grownBy w2 none) : w.grownBy w2 row := gtrans h k (.inr (.inl rfl))
theorem gn2 {w w1 w2 : World} {row : Option Nat} (h : w.grownBy w1 none) (k : w1.grownBy w2 row) : w.grownBy w2 row :=
  ⟨k.os.trans h.os, k.tape.trans h.tape, k.output.trans h.output, Nat.le_trans h.size k.size, fun i hi hne => (k.block i (Nat.lt_of_lt_of_le hi h.size) hne).trans (h.block i hi (by simp))⟩
theorem gbelow {w w1 : World} {row : Option Nat} (h : w.grownBy w1 row) (hr : ∀ b, row = some b → w.heap.size ≤ b) : Below w.heap.size w w1 :=
  ⟨h.os, h.tape, h.output, h.size, fun i hi => h.block i hi (fun e => by have := hr i e.symm; omega)⟩
theorem grownSet (w : World) (b k : Nat) (v : Value) : w.grownBy (w.setCell ⟨b, k, none⟩ v) (some b) :=
  ⟨rfl, rfl, rfl, Nat.le_of_eq (by simp only [World.setCell, Array.size_modify]), fun i hi hne => by
    have : i ≠ b := fun e => hne (by rw [e])
    exact (Below.heap_setCell w ⟨b, k, none⟩ v i this)⟩
theorem grown_drewN (w : World) (m : Nat) (row : Option Nat) : w.grownBy (w.drewN m) row := ⟨rfl, rfl, rfl, Nat.le_refl _, fun _ _ _ => rfl⟩
theorem grown_drew (w : World) (row : Option Nat) : w.grownBy w.drew row := ⟨rfl, rfl, rfl, Nat.le_refl _, fun _ _ _ => rfl⟩
theorem blk_cell0 {w : World} {g : Nat} {t : TypeId} {v : Value} (h : w.heap[g]? = some (.cells #[v] t (0, 0))) : w.cell? ⟨g, 0, none⟩ = some v ∧ w.frozen? ⟨g, 0, none⟩ = false := by
  constructor
  · rw [cell_of_row w g 0 _ t (0, 0) h]; rfl
  · simp [World.frozen?, h]
theorem blk_lt {w : World} {g : Nat} {o : Obj} (h : w.heap[g]? = some o) : g < w.heap.size := (Array.getElem?_eq_some_iff.1 h).1
theorem blk_frozen {w : World} {g : Nat} {t : TypeId} {cs : Array Value} (h : w.heap[g]? = some (.cells cs t (0, 0))) (i : Nat) : w.frozen? ⟨g, i, none⟩ = false := by simp [World.frozen?, h]
theorem below_cell {B : Nat} {w w' : World} (h : Below B w w') {b o : Nat} {v : Value} (hb : b < B) (hc : w.cell? ⟨b, o, none⟩ = some v) : w'.cell? ⟨b, o, none⟩ = some v := (h.cell (p := ⟨b, o, none⟩) hb).trans hc
theorem blk_kept {w w' : World} {g : Nat} {o : Obj} {row : Option Nat} (h : w.heap[g]? = some o) (hg : w.grownBy w' row) (hne : some g ≠ row) : w'.heap[g]? = some o :=
  (hg.block g (Array.getElem?_eq_some_iff.1 h).1 hne).trans h
theorem blk_far {w : World} {g : Nat} {o : Obj} (h : w.heap[g]? = some o) (b k : Nat) (v : Value) (hne : g ≠ b) : (w.setCell ⟨b, k, none⟩ v).heap[g]? = some o := blk_kept h (grownSet w b k v) (by simpa using hne)
theorem u8_bd {x : Int} (h : (Lit.int .u8 x).wf = true) : 0 ≤ x ∧ x ≤ 255 := by
  simpa [Lit.wf, IntKind.min, IntKind.max, IntKind.signed, IntKind.bits] using h
theorem u16_bd {x : Int} (h : (Lit.int .u16 x).wf = true) : 0 ≤ x ∧ x ≤ 65535 := by
  simpa [Lit.wf, IntKind.min, IntKind.max, IntKind.signed, IntKind.bits] using h
theorem i64_bd {x : Int} (h : (Lit.int .i64 x).wf = true) : -9223372036854775808 ≤ x ∧ x ≤ 9223372036854775807 := by
  simpa [Lit.wf, IntKind.min, IntKind.max, IntKind.signed, IntKind.bits] using h

theorem open_cells {H : Type} {enc : TypeId × Value → H} {P : Program} {W : World} {t e : TypeId} {a : Option Addr} {len cap m : Nat} {d : DataW H} {p : List MemPlace} (R : List Value → Prop)
    (ht : P.underlying t = some (.slice e)) (hm : P.cellsOf e = m) (hm0 : 0 < m) (h : DataW.Trod enc P W 0 (fun _ => true) true t (.slice a len cap) d p)
    (hR : ∀ n cs x, DataW.trod enc P W 0 (fun _ => true) true n e cs = some x → R cs) :
    len ≤ cap ∧ cap ≤ 9223372036854775807 ∧ (0 < len → ∃ b o, a = some ⟨b, o, none⟩ ∧ b < W.heap.size ∧ ∀ i, i < len → ∃ cs, R cs ∧ ∀ j u, cs[j]? = some u → j < m → W.cell? ⟨b, o + i * m + j, none⟩ = some u) := by
  obtain ⟨fuel, hf⟩ := h
  rcases open_slice ht hf with ⟨hcs, _⟩ | ⟨ad, l, c, k, n, D, Pl, hcs, _, hl, hc, hk, _, hx⟩
  · simp [Value.cells] at hcs
    obtain ⟨rfl, rfl, rfl⟩ := hcs
    exact ⟨Nat.le_refl _, by omega, fun h => by omega⟩
  · simp [Value.cells] at hcs
    obtain ⟨rfl, rfl, rfl⟩ := hcs
    simp only [if_true] at hk
    subst hk
    refine ⟨hl, by simpa [maxLen] using hc, fun h0 => ?_⟩
    rw [hm] at hx
    obtain ⟨b, o, sp⟩ := ad
    have hcell : ∀ i, i < len → ∃ cs, R cs ∧ ∀ j u, cs[j]? = some u → j < m → W.cell? ((⟨b, o, sp⟩ : Addr).add (i * m + j)) = some u := by
      intro i hi
      obtain ⟨cs', h1, h2⟩ := hx i (by omega)
      refine ⟨cs', hR _ _ _ h2, fun j u hj hjm => ?_⟩
      have h3 := (World.cells?_some h1).2.2 j (by have := (World.cells?_some h1).2.1; omega)
      rw [add_add] at h3
      rw [h3, hj]
    have hsp : sp = none ∧ b < W.heap.size := by
      obtain ⟨cs', h1, _⟩ := hx 0 (by omega)
      obtain ⟨_, h2, h3⟩ := World.cells?_some h1
      have h4 := h3 0 hm0
      rw [add_add, Nat.zero_mul, Nat.zero_add, List.getElem?_eq_getElem (by omega)] at h4
      have h5 : (⟨b, o, sp⟩ : Addr).add 0 = ⟨b, o, sp⟩ := rfl
      rw [h5] at h4
      refine ⟨?_, World.block_lt_of_cell? W _ h4⟩
      cases sp with
      | none => rfl
      | some q =>
        unfold World.cell? at h4
        split at h4 <;> simp at h4
    obtain ⟨rfl, hb⟩ := hsp
    refine ⟨b, o, rfl, hb, fun i hi => ?_⟩
    obtain ⟨cs, h1, h2⟩ := hcell i hi
    refine ⟨cs, h1, fun j u hj hjm => ?_⟩
    have h3 := h2 j u hj hjm
    have h4 : (⟨b, o, none⟩ : Addr).add (i * m + j) = ⟨b, o + i * m + j, none⟩ := by
      unfold Addr.add
      split
      · rename_i h0
        have : i * m = 0 ∧ j = 0 := by omega
        rw [this.1, this.2]
        rfl
      · rw [Nat.add_assoc]
    rwa [h4] at h3

/-- A struct of three cells, each a whole number. -/
theorem open_three {H : Type} {enc : TypeId × Value → H} {P : Program} {W : World} {n t : Nat} {cs : List Value} {x : DataW H × List MemPlace} {f0 f1 f2 : Field} {k0 k1 k2 : IntKind}
    (ht : P.underlying t = some (.struct #[f0, f1, f2])) (hc : P.cellsOf t = 3) (o0 : f0.offset = 0) (o1 : f1.offset = 1) (o2 : f2.offset = 2)
    (c0 : P.cellsOf f0.type = 1) (c1 : P.cellsOf f1.type = 1) (c2 : P.cellsOf f2.type = 1) (u0 : P.underlying f0.type = some (.int k0)) (u1 : P.underlying f1.type = some (.int k1)) (u2 : P.underlying f2.type = some (.int k2))
    (h : DataW.trod enc P W 0 (fun _ => true) true n t cs = some x) : ∃ a b c, cs = [.int k0 a, .int k1 b, .int k2 c] ∧ (Lit.int k0 a).wf = true ∧ (Lit.int k1 b).wf = true ∧ (Lit.int k2 c).wf = true := by
  obtain ⟨xs, m, _, _, hl, hxl, hf⟩ := DataW.trod_struct ht h
  have g0 := hf 0 f0 (by simp)
  have g1 := hf 1 f1 (by simp)
  have g2 := hf 2 f2 (by simp)
  rw [hc] at hl
  match cs, hl with
  | [v0, v1, v2], _ =>
    rw [o0, c0, List.getElem?_eq_getElem (by simp [hxl])] at g0
    rw [o1, c1, List.getElem?_eq_getElem (by simp [hxl])] at g1
    rw [o2, c2, List.getElem?_eq_getElem (by simp [hxl])] at g2
    obtain ⟨a, ha, _, wa⟩ := DataW.trod_int u0 g0
    obtain ⟨b, hb, _, wb⟩ := DataW.trod_int u1 g1
    obtain ⟨c, hc, _, wc⟩ := DataW.trod_int u2 g2
    simp at ha hb hc
    subst ha hb hc
    exact ⟨a, b, c, rfl, wa, wb, wc⟩
end Go.Proofs.Ytaidfcehicffbaa.W
