/-
  A row that is cut at its head and grows at its end; bytes that are turned in place.
-/
import Derived.Test.YtocicajjbkdbnaaV2
set_option linter.unusedVariables false
set_option linter.unusedSimpArgs false
namespace Go.Proofs.Ytocicajjbkdbnaa.W
open Go.RowKit Go.Deep Go.Conc

/-- A slice of slices, in memory from block B on, that reads as W; it may begin within its array. -/
def WR (B : Nat) (w : World) (v : Value) (W : List Pr) : Prop :=
  (v = .slice none 0 0 ∧ W = []) ∨ ∃ g o cap cur, v = .slice (some ⟨g, o, none⟩) W.length cap ∧ B ≤ g ∧ w.heap[g]? = some (.cells cur 29 (0, 0)) ∧ W.length ≤ cap ∧ o + cap ≤ cur.size ∧ ∀ k, k < W.length → cur[o + k]? = some (W.getD k default).1
theorem WR.own {B : Nat} {w : World} {v : Value} {W : List Pr} (h : w.ownsRow B 29 1 v W.length (W.map Prod.fst)) : WR B w v W := by
  have h' := h
  rcases h.2 with ⟨rfl, h0⟩ | ⟨g, cap, cur, rfl, hb, hg, hn, hc, hs, ht⟩
  · exact .inl ⟨rfl, List.eq_nil_of_length_eq_zero h0⟩
  · refine .inr ⟨g, 0, cap, cur, rfl, hb, hg, hn, by omega, fun k hk => ?_⟩
    have h1 := h'.cellAt k (by omega)
    rw [cell_of_row w g k cur 29 (0, 0) hg] at h1
    rw [Nat.zero_add, h1, List.getElem?_map, List.getD_eq_getElem?_getD, List.getElem?_eq_getElem hk]
    rfl
theorem WR.kept {B : Nat} {w w' : World} {v : Value} {W : List Pr} {row : Option Nat} (h : WR B w v W) (hg : w.grownBy w' row) (hne : ∀ r, row = some r → ∀ cur, w.heap[r]? ≠ some (.cells cur 29 (0, 0))) : WR B w' v W := by
  rcases h with h | ⟨g, o, cap, cur, rfl, h1, h2, h3⟩
  · exact .inl h
  · exact .inr ⟨g, o, cap, cur, rfl, h1, blk_kept h2 hg (fun e => hne g e.symm cur h2), h3⟩
theorem WR.len {B : Nat} {w : World} {v : Value} {W : List Pr} (h : WR B w v W) : ∃ a c, v = .slice a W.length c := by
  rcases h with ⟨rfl, rfl⟩ | ⟨g, o, cap, cur, rfl, _⟩
  · exact ⟨_, _, rfl⟩
  · exact ⟨_, _, rfl⟩
theorem WR.row {B : Nat} {w : World} {v : Value} {W : List Pr} (h : WR B w v W) : Row w v W := by
  refine ⟨h.len, fun h0 => ?_⟩
  rcases h with ⟨rfl, rfl⟩ | ⟨g, o, cap, cur, rfl, h1, h2, h3, h4, h5⟩
  · simp at h0
  · exact ⟨g, o, cap, rfl, fun k hk => by rw [cell_of_row w g _ cur 29 (0, 0) h2, h5 k hk]⟩
theorem WR.nil (B : Nat) (w : World) : WR B w (.slice none 0 0) [] := .inl ⟨rfl, rfl⟩
/-- What is read ahead of want = want[1:], and behind it. -/
theorem WR.tail {B : Nat} {w : World} {v : Value} {p : Pr} {W : List Pr} (h : WR B w v (p :: W)) : ∃ g o c o', v = .slice (some ⟨g, o, none⟩) (W.length + 1) c ∧ w.cell? ⟨g, o, none⟩ = some p.1 ∧
    (∀ X : World, (Instr.slice 28 (.slice (some ⟨g, o, none⟩) (W.length + 1) c) (some (.int .i64 1)) none none).run Try.prog X = .ok (.slice (some ⟨g, o', none⟩) W.length (c - 1)) X) ∧ WR B w (.slice (some ⟨g, o', none⟩) W.length (c - 1)) W := by
  rcases h with ⟨_, h⟩ | ⟨g, o, cap, cur, rfl, h1, h2, h3, h4, h5⟩
  · simp at h
  · obtain ⟨o', hs, ho⟩ := slice_tail1 g o W.length cap h3
    rw [List.length_cons] at h3
    refine ⟨g, o, cap, o', rfl, ?_, hs, .inr ⟨g, o', cap - 1, cur, rfl, h1, h2, by omega, by omega, fun k hk => ?_⟩⟩
    · rw [cell_of_row w g o cur 29 (0, 0) h2]
      exact h5 0 (by simp)
    · have ho' : o' = o + 1 := by omega
      have := h5 (k + 1) (by simp; omega)
      rw [ho', show o + 1 + k = o + (k + 1) by omega, this]
      simp
theorem wp_append_none {P : Program} {w : World} {o : Oper} {a : Act} {K : Act → World → Prop} {Q : Exit → Act → World → Prop} (s x : Operand) (t : TypeId)
    (ho : o.op = .call { callee := .builtin .append, args := #[s, x], argTypes := #[t, t] })
    (base : Nat) (e : TypeId) (i : TypeInfo) (size : Nat) (ht : P.underlying t = some (.slice e)) (hi : P.info? e = some i)
    (v : Value) (n : Nat) (xs : List Value) (hs : a.eval s = v) (hown : w.ownsRow base e size v n xs) (hx : a.eval x = .slice none 0 0)
    (h : K (a.put o.dst v) w) : o.wp P a w K Q := by
  have hrun := run_append_owned_none (P := P) (w := w) base t o.type e i size ht hi v n xs hown
  unfold Oper.wp
  simp [execOp, ho, resolve, invoke, builtin, hs, hx, hrun, Result.andThen]
  exact h
/-- append, for a region that draws its order. -/
theorem step_append_any {P : Program} (w : World) {ops : Array Oper} {o : Oper} {a : Act} {K : Act → World → Prop} {Q : Exit → Act → World → Prop} {E : Prop} (hgd : o.guard = none) (s x : Operand) (t : TypeId)
    (ho : o.op = .call { callee := .builtin .append, args := #[s, x], argTypes := #[t, t] })
    (base : Nat) (e : TypeId) (i : TypeInfo) (z : Value) (size bytes : Nat) (ht : P.underlying t = some (.slice e)) (hi : P.info? e = some i) (hz : i.zero = some z)
    (hsize : i.size = size) (hby : i.bytes = bytes) (hzs : z.cells.size = size) (hsz : 0 < size)
    (v : Value) (n : Nat) (xs : List Value) (hs : a.eval s = v) (hown : w.ownsRow base e size v n xs)
    (sv : Value) (m : Nat) (news : List Value) (hx : a.eval x = sv) (hsrc : Src w sv m news) (hl : news.length = m * size) (h1 : ∀ u ∈ news, u.oneCell' = true)
    (h63 : n + m ≤ maxLen) (hbytes : (n + m) * bytes ≤ 140737488355328) (hbase : base ≤ w.heap.size)
    (h : ∀ v' w', w'.ownsRow base e size v' (n + m) (xs ++ news) → w.grownBy w' v.ownBlock → K (a.put o.dst v') w') : if Region.wanted o (yielded ops a.tmps) = true then Oper.wp P o a w K Q else E := by
  have hw : Region.wanted o (yielded ops a.tmps) = true := by simp [Region.wanted, hgd]
  rw [if_pos hw]
  rcases hsrc with ⟨rfl, rfl, rfl⟩ | ⟨ad, c, rfl, hc⟩
  · refine wp_append_none s x t ho base e i size ht hi v n xs hs hown hx (h v w ?_ (World.grownBy.refl _ _))
    rw [Nat.add_zero, List.append_nil]
    exact hown
  · exact wp_append_own w s x t ho base e i z size bytes ht hi hz hsize hby hzs hsz v n xs hs hown ad m c news hx hl hc h1 h63 hbytes hbase fun v' w' ho hg _ => h v' w' ho hg

/-- want = append(want, x). -/
theorem wpList_append_want (w : World) {ops : Array Oper} {rest : List Oper} {o : Oper} {a : Act} {Q : Exit → Act → World → Prop} (hgd : o.guard = none) (s x : Operand)
    (ho : o.op = .call { callee := .builtin .append, args := #[s, x], argTypes := #[28, 28] })
    (B : Nat) (v : Value) (W : List Pr) (hs : a.eval s = v) (hown : WR B w v W) (p : Pr) (ad : Addr) (hx : a.eval x = .slice (some ad) 1 1) (hc : w.cell? ad = some p.1) (h1 : p.1.oneCell' = true)
    (hn : W.length ≤ 1000) (hB : B ≤ w.heap.size)
    (h : ∀ v' w', WR B w' v' (W ++ [p]) → (w.grownBy w' none ∨ ∃ r cur, w.heap[r]? = some (.cells cur 29 (0, 0)) ∧ B ≤ r ∧ w.grownBy w' (some r)) → wpList Try.prog ops Q rest (a.put o.dst v') w') : wpList Try.prog ops Q (o :: rest) a w := by
  obtain ⟨i0, hi, hz0, hz1, hz2⟩ := info_parts info29
  have hnews : ∀ j u, [p.1][j]? = some u → w.cell? (ad.add j) = some u := fun j u hj => by
    rcases j with _ | j
    · rw [addr_add0]
      simp at hj
      rw [← hj]
      exact hc
    · simp at hj
  rcases hown with ⟨rfl, rfl⟩ | ⟨g, of, cap, cur, rfl, hb, hg, hl, hcs, hcur⟩
  · refine wpList_append_own w hgd s x 28 ho B 29 i0 (.slice none 0 0) 1 24 Try.underlying28 hi hz0 hz1 hz2 rfl (by decide) _ 0 [] hs (World.ownsRow_nil w B 29 1) ad 1 1 [p.1] hx rfl hnews (by simp [h1]) (by unfold maxLen; omega) (by omega) hB fun v' w' ho hg _ => h v' w' (WR.own (W := [p]) (by simpa using ho)) (.inl hg)
  · refine wpList_append_arg w hgd s x 28 ho 29 i0 (.slice none 0 0) 1 24 Try.underlying28 hi hz0 hz1 hz2 rfl (by decide) g of W.length cap (W.map Prod.fst) hs (by simp) (fun j u hj => ?_) ad 1 1 [p.1] hx rfl hnews (by simp [h1]) (fun hr j hj => ?_) (by unfold maxLen; omega) (by omega) (fun hr => ?_) (fun hr v' w' ho hg' => ?_)
    · have hjl : j < W.length := by
        rcases Nat.lt_or_ge j W.length with h | h
        · exact h
        · rw [List.getElem?_eq_none (by simpa using h)] at hj
          simp at hj
      rw [cell_of_row w g _ cur 29 (0, 0) hg, hcur j hjl]
      rw [List.getElem?_map, List.getElem?_eq_getElem hjl] at hj
      rw [List.getD_eq_getElem?_getD, List.getElem?_eq_getElem hjl]
      exact hj
    · simp only [List.length_cons, List.length_nil] at hj
      rw [cell_of_row w g _ cur 29 (0, 0) hg]
      exact ⟨by rw [Array.getElem?_eq_getElem (by omega)]; rfl, blk_frozen hg _⟩
    · refine h _ _ (.inr ⟨g, of, cap, cur.setIfInBounds (of + W.length) p.1, by simp, hb, ?_, by simp; omega, by simp; omega, fun k hk => ?_⟩) (.inr ⟨g, cur, hg, hb, grownSet w g _ _⟩)
      · have := heap_setCell_same w g (of + W.length) cur 29 p.1 hg
        simpa [World.setCells] using this
      · rw [List.length_append, List.length_singleton] at hk
        by_cases hkl : k < W.length
        · rw [Array.getElem?_setIfInBounds_ne (by omega), hcur k hkl]
          simp [List.getD_eq_getElem?_getD, List.getElem?_append_left hkl]
        · obtain rfl : k = W.length := by omega
          rw [Array.getElem?_setIfInBounds_self_of_lt (by omega)]
          simp
    · exact h v' w' (WR.own (by rw [List.length_append, List.map_append]; exact Joins.ownsRow_le ho hB)) (.inl hg')

/-- A slice of so many bytes, in memory of its own. -/
def BL (B : Nat) (w : World) (v : Value) (n : Nat) : Prop := ∃ xs : List Int, xs.length = n ∧ BO B w v xs
theorem BL.kept {B n : Nat} {w w' : World} {v : Value} {row : Option Nat} (h : BL B w v n) (hg : w.grownBy w' row) (hne : ∀ r, row = some r → ∀ cur, w.heap[r]? ≠ some (.cells cur 5 (0, 0))) : BL B w' v n := by
  obtain ⟨xs, hl, h⟩ := h
  refine ⟨xs, hl, h.kept hg fun r hr ho => ?_⟩
  obtain ⟨cur, hc⟩ := own_row h ho
  exact hne r hr cur hc
theorem BL.read {B n : Nat} {w : World} {v : Value} (h : BL B w v n) (h0 : 0 < n) : ∃ g c, v = .slice (some ⟨g, 0, none⟩) n c ∧ B ≤ g ∧ (∃ cur, w.heap[g]? = some (.cells cur 5 (0, 0))) ∧ ∀ k, k < n → (∃ y, w.cell? ⟨g, k, none⟩ = some (.int .u8 y)) ∧ w.frozen? ⟨g, k, none⟩ = false := by
  obtain ⟨xs, rfl, h⟩ := h
  obtain ⟨g, c, rfl, hc⟩ := own_read h h0
  obtain ⟨cur, hg⟩ := own_row h rfl
  refine ⟨g, c, rfl, (World.ownsRow.lt h g rfl).1, ⟨cur, hg⟩, fun k hk => ⟨⟨xs[k], ?_⟩, blk_frozen hg k⟩⟩
  rw [hc k hk, List.getElem?_map, List.getElem?_eq_getElem hk]
  rfl
theorem BL.set {B n g j : Nat} {w : World} {v : Value} (h : BL B w v n) (y : Int) : BL B (w.setCell ⟨g, j, none⟩ (.int .u8 y)) v n := by
  obtain ⟨xs, hl, h⟩ := h
  by_cases he : v.ownBlock = some g
  · rcases h.2 with ⟨rfl, _⟩ | ⟨g', cap, cur, rfl, hb, hg, hn, hc, hs, ht⟩
    · simp [Value.ownBlock] at he
    · simp only [Value.ownBlock, Option.some.injEq] at he
      subst he
      refine ⟨xs.set j y, by simpa using hl, ⟨by simp, .inr ⟨g', cap, cur.setIfInBounds j (.int .u8 y), by simp, hb, heap_setCell_same w g' j cur 5 _ hg, by simpa using hn, hc, by simpa using hs, ?_⟩⟩⟩
      rw [Array.toList_setIfInBounds, List.length_set, List.take_set, ht, List.map_set]
  · refine ⟨xs, hl, h.kept (grownSet w g j _) ?_⟩
    rintro r ⟨⟩
    exact he
theorem BO.bl {B : Nat} {w : World} {v : Value} {xs : List Int} (h : BO B w v xs) : BL B w v xs.length := ⟨xs, rfl, h⟩
end Go.Proofs.Ytocicajjbkdbnaa.W
