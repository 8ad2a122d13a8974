/-
  A select of one case with a default, as a law of the walk, for one goroutine.
-/
import Derived.Test.YtocicajjbkdbnaaBase
import Derived.Conc.LoneSelect
import Derived.Conc.LoneSelectN
set_option linter.unusedVariables false
set_option linter.unusedSimpArgs false
namespace Go.Proofs.Ytocicajjbkdbnaa.W
open Go.RowKit Go.Deep Go.Conc

theorem stepG_comm_any {P : Program} {main : Bool} {b : Frame} {a : Act} {k : List Item} {cs : List Frame} {w : World} {ops : Array Oper} {i : Nat} {rest : List Nat} {o : Oper} {cases : Array CommCase} {blocking : Bool} {shape : CommShape} {w' : World} (ho : ops[i]? = some o) (hw : Region.wanted o (yielded ops a.tmps) = true)
    (hr : (execOp a.eval o).run P w = .ok (.comm cases blocking shape) w') :
    ∃ es, stepG P main (G (b.at a (.inRegion ops (i :: rest) :: k)) cs) w = .comm (G (b.at a (.inRegion ops (i :: rest) :: k)) cs) cases blocking shape w' es := by
  rw [stepG_oper ho hw]
  by_cases hk : (b.kind == CallKind.early) = true
  · exact ⟨_, by simp only [stepG.apply, Sem.runT_eq, hr, G, Frame.at, hk, GStep.after]; rfl⟩
  · exact ⟨_, by simp only [stepG.apply, Sem.runT_eq, hr, G, Frame.at, hk, GStep.after]; rfl⟩

theorem wp_region_comm {P : Program} {id : Nat} {o : Oper} {rest : List Oper} {Q : Exit → Act → World → Prop} {a : Act} {w w1 w2 : World} {cases : Array CommCase} {blocking : Bool} {shape : CommShape} {v : Value}
    (hg : o.guard = none) (hr : (execOp a.eval o).run P w = .ok (.comm cases blocking shape) w1)
    (hstep : ∀ (fr : Frame) (cs : List Frame) (es : Array Event), stepG P true (G fr cs) w = .comm (G fr cs) cases blocking shape w1 es → step P (solo (G fr cs) w) = .next (solo (G (fr.finish v) cs) w2))
    (h : wpList P (o :: rest).toArray Q rest (a.put o.dst v) w2) : (Code.region id (o :: rest).toArray false).wp P Q a w := by
  intro b k cs
  have hl : wpOps P (o :: rest).toArray Q (List.range' 1 rest.length) (a.put o.dst v) w2 := by
    rw [wpOps_eq_wpList rest 1 (fun j => by simp [Nat.add_comm 1 j])]
    exact h
  obtain ⟨e, a', w', q, arr⟩ := wp_ops _ _ _ hl b k cs
  refine ⟨e, a', w', q, .of_steps (.head step_region ?_) arr⟩
  have hrange : List.range (o :: rest).toArray.size = 0 :: List.range' 1 rest.length := by
    rw [List.range_eq_range', List.size_toArray, List.length_cons, List.range'_succ]
  rw [hrange]
  obtain ⟨es, hs⟩ := stepG_comm_any (P := P) (main := true) (b := b) (k := k) (cs := cs) (ops := (o :: rest).toArray) (i := 0) (rest := List.range' 1 rest.length) (o := o) (by simp) (by simp [Region.wanted, hg]) hr
  have h1 := hstep _ _ _ hs
  rw [Frame.finish_at] at h1
  exact .one h1
/-- 'c == nil' of a channel. -/
theorem run_eql_chan_nil {P : Program} (w : World) (t e : TypeId) (d : ChanDir) (r : Option Nat) (h : P.underlying t = some (.chan d e)) :
    (binOp .eql t (.chan r) (.chan none)).run P w = .ok (.bool r.isNone) w := by
  have h1 : ∀ d, (Op.equalIn (d + 1) t (.chan r) (.chan none)).run P w = .ok r.isNone w := fun d => by cases r <;> simp [Op.equalIn, run_underlying h]
  simp only [binOp]
  simp [Op.equal, Op.maxDepth, h1 9999]
end Go.Proofs.Ytocicajjbkdbnaa.W
