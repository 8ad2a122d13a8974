/-
  A row of slices in memory of its own that begins at any cell of its block: what append and the reslicing make of it.
-/
import Derived.Test.YtaidfcehicffbaaD1
import Derived.Maps.AppendAt
import Derived.Deep.RegionLaw
set_option linter.unusedVariables false
set_option linter.unusedSimpArgs false
namespace Go.Proofs.Ytaidfcehicffbaa.W
open Go.RowKit Go.Deep

def OA (B : Nat) (w : World) (v : Value) (xs : List Value) : Prop :=
  (v = .slice none 0 0 ∧ xs = []) ∨
  ∃ g o cap cur, v = .slice (some ⟨g, o, none⟩) xs.length cap ∧ B ≤ g ∧ w.heap[g]? = some (.cells cur 28 (0, 0)) ∧ xs.length ≤ cap ∧ cap ≤ maxLen ∧ o + cap ≤ cur.size ∧ ∀ j u, xs[j]? = some u → cur[o + j]? = some u
section
variable {B : Nat} {w w' : World} {v : Value} {xs : List Value}
theorem OA.form (h : OA B w v xs) : ∃ a c, v = .slice a xs.length c := by
  rcases h with ⟨rfl, rfl⟩ | ⟨g, o, cap, cur, rfl, _⟩
  · exact ⟨_, _, rfl⟩
  · exact ⟨_, _, rfl⟩
theorem OA.block (h : OA B w v xs) {r : Nat} (hr : v.ownBlock = some r) : B ≤ r ∧ r < w.heap.size ∧ ∃ cur, w.heap[r]? = some (.cells cur 28 (0, 0)) := by
  rcases h with ⟨rfl, rfl⟩ | ⟨g, o, cap, cur, rfl, hb, hg, _⟩
  · simp [Value.ownBlock] at hr
  · simp only [Value.ownBlock, Option.some.injEq] at hr
    subst hr
    exact ⟨hb, blk_lt hg, cur, hg⟩
theorem OA.kept {row : Option Nat} (h : OA B w v xs) (hg : w.grownBy w' row) (hne : ∀ r, row = some r → v.ownBlock ≠ some r) : OA B w' v xs := by
  rcases h with h | ⟨g, o, cap, cur, rfl, hb, hh, h1⟩
  · exact .inl h
  · exact .inr ⟨g, o, cap, cur, rfl, hb, blk_kept hh hg (fun e => hne g e.symm rfl), h1⟩
theorem OA.far {r : Nat} {cs : Array Value} {t : TypeId} (h : OA B w v xs) (hb : w.heap[r]? = some (.cells cs t (0, 0))) (ht : t ≠ 28) (hg : w.grownBy w' (some r)) : OA B w' v xs :=
  h.kept hg fun q hq e => by
    injection hq with hq
    subst hq
    obtain ⟨_, _, cur, hc⟩ := h.block e
    exact blk_ne hb hc ht rfl
theorem own_oa {n : Nat} (h : w.ownsRow B 28 1 v n xs) : OA B w v xs := by
  rcases h.2 with ⟨rfl, rfl⟩ | ⟨g, cap, cur, rfl, hb, hg, hn, hc, hs, ht⟩
  · exact .inl ⟨rfl, List.eq_nil_of_length_eq_zero (by simpa using h.1)⟩
  · have hl : xs.length = n := by simpa using h.1
    subst hl
    refine .inr ⟨g, 0, cap, cur, rfl, hb, hg, hn, hc, by omega, fun j u hj => ?_⟩
    rw [← ht, List.getElem?_take] at hj
    split at hj
    · rw [Nat.zero_add]; simpa using hj
    · simp at hj
theorem OA.get (h : OA B w v xs) (h0 : 0 < xs.length) : ∃ g o c, v = .slice (some ⟨g, o, none⟩) xs.length c ∧ ∀ k, k < xs.length → w.cell? ⟨g, o + k, none⟩ = xs[k]? := by
  rcases h with ⟨rfl, rfl⟩ | ⟨g, o, cap, cur, rfl, hb, hg, hn, hc, hs, ht⟩
  · simp at h0
  · refine ⟨g, o, cap, rfl, fun k hk => ?_⟩
    rw [cell_of_row w g (o + k) cur 28 (0, 0) hg, List.getElem?_eq_getElem hk]
    exact ht k _ (List.getElem?_eq_getElem hk)
theorem OA.row {P : List Pr} (h : OA B w v (P.map Prod.fst)) : Row w v P := by
  obtain ⟨a, c, hv⟩ := h.form
  refine ⟨⟨a, c, by rw [hv, List.length_map]⟩, fun h0 => ?_⟩
  obtain ⟨g, o, c, hv, hc⟩ := h.get (by simpa using h0)
  refine ⟨g, o, c, by rw [hv, List.length_map], fun k hk => ?_⟩
  rw [hc k (by simpa using hk), List.getElem?_map, List.getD_eq_getElem?_getD, List.getElem?_eq_getElem hk]
  rfl
theorem row_tail (g o m c : Nat) (hc : m + 1 ≤ c) : ∃ o', (∀ W : World, (Instr.slice 26 (.slice (some ⟨g, o, none⟩) (m + 1) c) (some (.int .i64 1)) none none).run Try.prog W = .ok (.slice (some ⟨g, o', none⟩) m (c - 1)) W) ∧ (o' = o + 1 ∨ (o' = o ∧ c = 1)) := by
  have h1 : ∀ W : World, (Instr.slice 26 (.slice (some ⟨g, o, none⟩) (m + 1) c) (some (.int .i64 1)) none none).run Try.prog W = .ok (sliced (some ⟨g, o, none⟩) 1 (m + 1) c 1) W := fun W => by
    rw [run_slice_l (P := Try.prog) W 26 (some ⟨g, o, none⟩) (m + 1) c elem26.1 .i64 1 (by omega) (by omega), elem26.2 W]
    simp [Result.andThen]
  by_cases h : c = 1
  · refine ⟨o, fun W => ?_, .inr ⟨rfl, h⟩⟩
    rw [h1 W]
    simp [sliced, h]
  · refine ⟨o + 1, fun W => ?_, .inl rfl⟩
    rw [h1 W]
    simp only [sliced, if_neg h, Option.map_some, Nat.mul_one, addN]
    rfl
theorem OA.tail {x : Value} (h : OA B w v (x :: xs)) : ∃ a c a', (v = .slice a (xs.length + 1) c) ∧ (∀ W : World, (Instr.slice 26 (.slice a (xs.length + 1) c) (some (.int .i64 1)) none none).run Try.prog W = .ok (.slice a' xs.length (c - 1)) W) ∧ OA B w (.slice a' xs.length (c - 1)) xs ∧ (Value.slice a' xs.length (c - 1)).ownBlock = v.ownBlock := by
  rcases h with ⟨rfl, h⟩ | ⟨g, o, cap, cur, rfl, hb, hg, hn, hc, hs, ht⟩
  · simp at h
  · rw [List.length_cons] at hn
    obtain ⟨o', h1, h2⟩ := row_tail g o xs.length cap hn
    refine ⟨_, cap, _, rfl, h1, .inr ⟨g, o', cap - 1, cur, rfl, hb, hg, by omega, by omega, by omega, fun j u hj => ?_⟩, rfl⟩
    have hj' : j < xs.length := by
      rcases Nat.lt_or_ge j xs.length with h | h
      · exact h
      · rw [List.getElem?_eq_none h] at hj; simp at hj
    have := ht (j + 1) u (by simpa using hj)
    rw [show o' + j = o + (j + 1) by omega]
    exact this
/-- append of one element. -/
theorem run_append_oa (ty : TypeId) (ad : Addr) (c : Nat) (u : Value) (h : OA B w v xs) (hB : B ≤ w.heap.size) (hl : xs.length ≤ 1000) (hc : w.cell? ad = some u) (h1 : u.oneCell' = true) :
    ∃ v' w', (Builtin.append_ #[26, 26] ty #[v, .slice (some ad) 1 c]).run Try.prog w = .ok v' w' ∧ OA B w' v' (xs ++ [u]) ∧ w.grownBy w' v.ownBlock ∧ ∀ r, v'.ownBlock = some r → v.ownBlock = some r ∨ w.heap.size ≤ r := by
  obtain ⟨i0, hi, hz0, hz1, hz2⟩ := info_parts info28
  have hnews : ∀ j x, [u][j]? = some x → w.cell? (ad.add j) = some x := fun j x hj => by
    match j, hj with
    | 0, hj =>
      simp at hj
      subst hj
      rw [addr_add0]
      exact hc
  have h1' : ∀ x ∈ [u], x.oneCell' = true := fun x hx => by rw [List.mem_singleton] at hx; rw [hx]; exact h1
  rcases h with ⟨rfl, rfl⟩ | ⟨g, o, cap, cur, rfl, hb, hg, hn, hm, hs, ht⟩
  · obtain ⟨v', w', hr, ho, hgr, _, hat⟩ := run_append_own_at (P := Try.prog) w B 26 ty 28 i0 (.slice none 0 0) 1 24 Try.underlying26 hi hz0 hz1 hz2 rfl (by decide) (.slice none 0 0) 0 [] (World.ownsRow_nil _ _ _ _) ad 1 c [u] rfl hnews h1' (by unfold maxLen; omega) (by omega) hB
    refine ⟨v', w', hr, own_oa ho, hgr, fun r hr => ?_⟩
    rcases hat with h | h
    · exact .inl (h ▸ hr)
    · rw [h] at hr
      injection hr with hr
      exact .inr (by omega)
  · by_cases hroom : xs.length + 1 ≤ cap
    · have hin : o + xs.length < cur.size := by omega
      have hcell : w.cell? ⟨g, o + xs.length, none⟩ = some cur[o + xs.length] := by rw [cell_of_row w g _ cur 28 (0, 0) hg, Array.getElem?_eq_getElem hin]
      have hr := run_append_room_cells (P := Try.prog) w 26 ty 28 i0 Try.underlying26 hi g o xs.length cap ad 1 c [u] (by rw [hz1]; rfl) hnews h1' hroom
        (fun j hj => by obtain rfl : j = 0 := by simpa using hj
                        rw [hz1, Nat.mul_one, Nat.add_zero, hcell]; rfl)
        (fun j hj => by obtain rfl : j = 0 := by simpa using hj
                        rw [hz1, Nat.mul_one, Nat.add_zero]; exact blk_frozen hg _)
      rw [hz1, Nat.mul_one] at hr
      refine ⟨_, _, hr, .inr ⟨g, o, cap, cur.setIfInBounds (o + xs.length) u, by rw [List.length_append]; rfl, hb, heap_setCell_same w g _ cur 28 u hg, by simpa using hroom, hm, by simpa using hs, fun j x hj => ?_⟩, grownSet _ _ _ _, fun r hr => .inl hr⟩
      rw [Array.getElem?_setIfInBounds]
      rcases Nat.lt_trichotomy j xs.length with hlt | heq | hgt
      · rw [if_neg (by omega)]
        rw [List.getElem?_append_left hlt] at hj
        exact ht j x hj
      · subst heq
        rw [if_pos rfl, if_pos hin]
        simp at hj
        rw [hj]
      · rw [List.getElem?_eq_none (by simp; omega)] at hj
        simp at hj
    · have holds : ∀ j x, xs[j]? = some x → w.cell? ((⟨g, o, none⟩ : Addr).add j) = some x := fun j x hj => by
        rw [addN, cell_of_row w g _ cur 28 (0, 0) hg]
        exact ht j x hj
      obtain ⟨v', w', hr, ho, hgr⟩ := run_append_arg_grows (P := Try.prog) w 26 ty 28 i0 (.slice none 0 0) 1 24 Try.underlying26 hi hz0 hz1 hz2 rfl (by decide) ⟨g, o, none⟩ xs.length cap xs (by simp) holds ad 1 c [u] rfl hnews (by omega) (by unfold maxLen; omega) (by omega)
      refine ⟨v', w', hr, own_oa (Joins.ownsRow_le ho hB), ⟨hgr.os, hgr.tape, hgr.output, hgr.size, fun k hk _ => hgr.block k hk (by simp)⟩, fun r hr => .inr (ho.lt r hr).1⟩
theorem step_append_oa {ops : Array Oper} {o : Oper} {a : Act} {K : Act → World → Prop} {Q : Exit → Act → World → Prop} {E : Prop} (hgd : o.guard = none) (s x : Operand)
    (ho : o.op = .call { callee := .builtin .append, args := #[s, x], argTypes := #[26, 26] }) (hs : a.eval s = v) (h : OA B w v xs) (hB : B ≤ w.heap.size) (hl : xs.length ≤ 1000)
    (ad : Addr) (c : Nat) (u : Value) (hx : a.eval x = .slice (some ad) 1 c) (hc : w.cell? ad = some u) (h1 : u.oneCell' = true)
    (hK : ∀ v' w', OA B w' v' (xs ++ [u]) → w.grownBy w' v.ownBlock → (∀ r, v'.ownBlock = some r → v.ownBlock = some r ∨ w.heap.size ≤ r) → K (a.put o.dst v') w') : if Region.wanted o (yielded ops a.tmps) = true then Oper.wp Try.prog o a w K Q else E := by
  have hw : Region.wanted o (yielded ops a.tmps) = true := by simp [Region.wanted, hgd]
  rw [if_pos hw]
  obtain ⟨v', w', hr, h2, h3, h4⟩ := run_append_oa o.type ad c u h hB hl hc h1
  unfold Oper.wp
  simp [execOp, ho, resolve, invoke, builtin, hs, hx, hr, Result.andThen]
  exact hK v' w' h2 h3 h4
end
end Go.Proofs.Ytaidfcehicffbaa.W
