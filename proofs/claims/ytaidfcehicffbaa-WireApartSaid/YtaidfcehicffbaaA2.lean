/-
  What slices.Clone and slices.Delete make of a slice of slices, and a row's put, take, all and has, over any memory.
-/
import Derived.Test.YtaidfcehicffbaaA1
import Derived.Lib.SliceRun
set_option linter.unusedVariables false
set_option linter.unusedSimpArgs false
namespace Go.Proofs.Ytaidfcehicffbaa.W
open Go.RowKit Go.Deep

theorem clone_rows (v : Value) (P : List Pr) (w : World) (h : w.ownsRow 0 28 1 v P.length (P.map Prod.fst)) (hr : RO 0 w P) (hl : P.length ≤ 1000000) :
    Calls Try.prog 41 #[v] w fun e w' => ∃ v', e = .returned v' ∧ w'.ownsRow w.heap.size 28 1 v' P.length (P.map Prod.fst) ∧ w.grownBy w' none := by
  obtain ⟨i0, hi, hz0, hz1, hz2⟩ := info_parts info28
  have HOne := Lib.hid (ro_one hr)
  rcases own_src h with ⟨rfl, h0, h1⟩ | ⟨ad, cap, rfl, h3⟩
  · have hq := fun W => Lib.run_eql_slice_nil (P := Try.prog) W 26 28 none 0 0 0 0 Try.underlying26
    have H0 := Lib.hid (And.intro h0 h1)
    clear h hr h0 h1
    go_enter Try.func41, Try.ntmps41
    go_wp2
    go_ret
    refine ⟨_, rfl, ?_, World.grownBy.refl _ _⟩
    rw [H0.out.1, H0.out.2]
    exact World.ownsRow_nil _ _ _ _
  · have HS : Hid (Src (w.alloc (.cells #[] 28)) (.slice (some ad) P.length cap) P.length (P.map Prod.fst)) := Lib.hid ((own_src h).kept (World.grownBy_alloc w _ none) (by simp))
    have HO := Lib.hid (own_new w w.heap.size 28 (Nat.le_refl _))
    have hq := fun W => Lib.run_eql_slice_nil (P := Try.prog) W 26 28 (some ad) P.length cap 0 0 Try.underlying26
    have HL : Hid ((P.map Prod.fst).length = P.length * 1) := Lib.hid (by simp)
    clear h hr h3
    go_enter Try.func41, Try.ntmps41
    go_wp2_with (at_builtin; refine wpList_append_any _ rfl _ _ 26 rfl w.heap.size 28 i0 (.slice none 0 0) 1 24 Try.underlying26 hi hz0 hz1 hz2 rfl (by decide) _ 0 _ rfl HO.out (.slice (some ad) P.length cap) P.length (P.map Prod.fst) rfl HS.out HL.out HOne.out (by unfold maxLen; omega) (by omega) (by simp) ?_; intro v' w1 hown' hgrow; have HO' := Lib.hid hown'; have HG := Lib.hid hgrow; clear hown' hgrow)
    go_ret
    have ho := HO'.out
    rw [Nat.zero_add, List.nil_append] at ho
    exact ⟨v', rfl, ho, gtrans (World.grownBy_alloc w _ none) HG.out (.inr (.inr ⟨_, rfl, Nat.le_refl _⟩))⟩

theorem own_take {w : World} {B n c g i : Nat} {e : TypeId} {xs : List Value} (h : w.ownsRow B e 1 (.slice (some ⟨g, 0, none⟩) n c) n xs) (hi : i ≤ n) : w.ownsRow B e 1 (.slice (some ⟨g, 0, none⟩) i c) i (xs.take i) := by
  rcases h.2 with ⟨h, _⟩ | ⟨g', cap, cur, hv, hb, hg, hn, hc, hs, ht⟩
  · simp at h
  · have hl := h.1
    injection hv with e1 _ e3
    injection e1 with e1
    injection e1 with e1 _ _
    subst e1 e3
    refine ⟨by simp; omega, .inr ⟨g, c, cur, rfl, hb, hg, by omega, hc, hs, ?_⟩⟩
    rw [← ht, List.take_take]
    congr 1
    omega
theorem own_beyond {w : World} {B n c g j : Nat} {e : TypeId} {xs : List Value} {v : Value} (h : w.ownsRow B e 1 (.slice (some ⟨g, 0, none⟩) n c) n xs) (hj : n ≤ j) : (w.setCell ⟨g, j, none⟩ v).ownsRow B e 1 (.slice (some ⟨g, 0, none⟩) n c) n xs := by
  rcases h.2 with ⟨h, _⟩ | ⟨g', cap, cur, hv, hb, hg, hn, hc, hs, ht⟩
  · simp at h
  · have hl := h.1
    injection hv with e1 _ e3
    injection e1 with e1
    injection e1 with e1 _ _
    subst e1 e3
    refine ⟨hl, .inr ⟨g, c, cur.setIfInBounds j v, rfl, hb, heap_setCell_same w g j cur e v hg, hn, hc, by simpa using hs, ?_⟩⟩
    rw [Array.toList_setIfInBounds, List.take_set_of_le (by omega), ht]
/-- append(s[:i], s[j:]...) in place. -/
theorem step_append_fits {P : Program} (w : World) {ops : Array Oper} {o : Oper} {a : Act} {K : Act → World → Prop} {Q : Exit → Act → World → Prop} {E : Prop} (hgd : o.guard = none) (s x : Operand) (t : TypeId)
    (ho : o.op = .call { callee := .builtin .append, args := #[s, x], argTypes := #[t, t] })
    (base : Nat) (e : TypeId) (i : TypeInfo) (size : Nat) (ht : P.underlying t = some (.slice e)) (hi : P.info? e = some i) (hsize : i.size = size)
    (g n cap : Nat) (xs : List Value) (hs : a.eval s = .slice (some ⟨g, 0, none⟩) n cap) (hown : w.ownsRow base e size (.slice (some ⟨g, 0, none⟩) n cap) n xs)
    (ad : Addr) (m c : Nat) (news : List Value) (hx : a.eval x = .slice (some ad) m c) (hl : news.length = m * size) (hnews : ∀ j u, news[j]? = some u → w.cell? (ad.add j) = some u) (h1 : ∀ u ∈ news, u.oneCell' = true)
    (hroom : n + m ≤ cap)
    (h : ∀ w', w'.ownsRow base e size (.slice (some ⟨g, 0, none⟩) (n + m) cap) (n + m) (xs ++ news) → w.grownBy w' (some g) → K (a.put o.dst (.slice (some ⟨g, 0, none⟩) (n + m) cap)) w') : if Region.wanted o (yielded ops a.tmps) = true then Oper.wp P o a w K Q else E := by
  have hw : Region.wanted o (yielded ops a.tmps) = true := by simp [Region.wanted, hgd]
  rw [if_pos hw]
  obtain ⟨w', hrun, ho', hg'⟩ := run_append_fits (P := P) w base t o.type e i size ht hi hsize g n cap xs hown ad m c news hl hnews h1 hroom
  unfold Oper.wp
  simp [execOp, ho, resolve, invoke, builtin, hs, hx, hrun, Result.andThen]
  exact h w' ho' hg'

theorem own_any {w : World} {B n c g j : Nat} {e : TypeId} {xs : List Value} (h : w.ownsRow B e 1 (.slice (some ⟨g, 0, none⟩) n c) n xs) (hj : j < c) : (w.cell? ⟨g, j, none⟩).isSome = true ∧ w.frozen? ⟨g, j, none⟩ = false := by
  rcases h.2 with ⟨h, _⟩ | ⟨g', cap, cur, hv, hb, hg, hn, hc, hs, ht⟩
  · simp at h
  · injection hv with e1 _ e3
    injection e1 with e1
    injection e1 with e1 _ _
    subst e1 e3
    rw [cell_of_row w g j cur e (0, 0) hg]
    exact ⟨by rw [Array.getElem?_eq_getElem (by omega)]; rfl, blk_frozen hg j⟩
theorem own_cap {w : World} {B n c g : Nat} {e : TypeId} {xs : List Value} (h : w.ownsRow B e 1 (.slice (some ⟨g, 0, none⟩) n c) n xs) : n ≤ c := by
  rcases h.2 with ⟨h, _⟩ | ⟨_, _, _, h, _, _, h2, _⟩
  · simp at h
  · injection h with _ _ h3
    omega
theorem elem26 : Try.prog.underlying 26 = some (.slice (Try.prog.elem 26)) ∧ ∀ W, (sizeOf (Try.prog.elem 26)).run Try.prog W = .ok 1 W := by
  have he : Try.prog.elem 26 = 28 := by kernel_rfl
  rw [he]
  exact ⟨Try.underlying26, fun W => by kernel_rfl⟩
theorem rows_to (a : Option Addr) (n c h : Nat) (hc : h ≤ c) (W : World) : (Instr.slice 26 (.slice a n c) none (some (.int .i64 (h : Int))) none).run Try.prog W = .ok (.slice a h c) W := by
  rw [run_slice_h (P := Try.prog) W 26 a n c elem26.1 .i64 (h : Int) (by omega) (by omega), elem26.2 W]
  have e : a.map (·.add 0) = a := by cases a <;> simp [addr_add0]
  simp [sliced, Result.andThen, addr_add0]
/-- 's[k:]': the address stays where nothing lies behind it. -/
theorem rows_from (g o n c k : Nat) (hk : k ≤ n) (hc : n ≤ c) : ∃ o', (∀ W : World, (Instr.slice 26 (.slice (some ⟨g, o, none⟩) n c) (some (.int .i64 (k : Int))) none none).run Try.prog W = .ok (.slice (some ⟨g, o', none⟩) (n - k) (c - k)) W) ∧ (o' = o + k ∨ n = k) := by
  have h1 : ∀ W : World, (Instr.slice 26 (.slice (some ⟨g, o, none⟩) n c) (some (.int .i64 (k : Int))) none none).run Try.prog W = .ok (sliced (some ⟨g, o, none⟩) k n c 1) W := fun W => by
    rw [run_slice_l (P := Try.prog) W 26 (some ⟨g, o, none⟩) n c elem26.1 .i64 (k : Int) (by omega) (by omega), elem26.2 W]
    simp [Result.andThen]
  by_cases h : c = k
  · refine ⟨o, fun W => ?_, .inr (by omega)⟩
    rw [h1 W]
    simp [sliced, h]
  · refine ⟨o + k, fun W => ?_, .inl rfl⟩
    rw [h1 W]
    simp only [sliced, if_neg h, Option.map_some, Nat.mul_one, addN]
theorem clear_one (W : World) (g i c : Nat) (hc : (W.cell? ⟨g, i, none⟩).isSome = true) (hf : W.frozen? ⟨g, i, none⟩ = false) : (Builtin.clear_ #[26] 0 #[.slice (some ⟨g, i, none⟩) 1 c]).run Try.prog W = .ok (.tuple #[]) (W.setCell ⟨g, i, none⟩ (.slice none 0 0)) :=
  Lib.run_clear_slice (P := Try.prog) W 26 28 0 (.slice none 0 0) Try.underlying26 (fun W => by kernel_rfl) rfl rfl g i 1 c (by omega) (fun j hj => (show j = 0 by omega) ▸ hc) (fun j hj => (show j = 0 by omega) ▸ hf)
theorem rows_mid (g n c l h : Nat) (hl : l < h) (hh : h ≤ c) (W : World) : (Instr.slice 26 (.slice (some ⟨g, 0, none⟩) n c) (some (.int .i64 (l : Int))) (some (.int .i64 (h : Int))) none).run Try.prog W = .ok (.slice (some ⟨g, l, none⟩) (h - l) (c - l)) W := by
  rw [run_slice_lh (P := Try.prog) W 26 (some ⟨g, 0, none⟩) n c elem26.1 .i64 .i64 (l : Int) (h : Int) (by omega) (by omega) (by omega), elem26.2 W]
  have hc : c ≠ l := by omega
  simp [Result.andThen, sliced, hc, addN]

set_option maxHeartbeats 1000000 in
theorem del_of (B g c i m : Nat) (P : List Pr) (w : World) (hm : P.length = i + m + 1) (h : w.ownsRow B 28 1 (.slice (some ⟨g, 0, none⟩) (i + m + 1) c) (i + m + 1) (P.map Prod.fst)) (hr : RO 0 w P) (hl : i + m + 1 ≤ 1000000) (hc : c ≤ 9223372036854775807) :
    Calls Try.prog 42 #[.slice (some ⟨g, 0, none⟩) (i + m + 1) c, .int .i64 (i : Int), .int .i64 ((i : Int) + 1)] w fun e w' => e = .returned (.slice (some ⟨g, 0, none⟩) (i + m) c) ∧ w'.ownsRow B 28 1 (.slice (some ⟨g, 0, none⟩) (i + m) c) (i + m) ((P.eraseIdx i).map Prod.fst) ∧ w.grownBy w' (some g) := by
  obtain ⟨i0, hi0, hz0, hz1, hz2⟩ := info_parts info28
  have hone := ro_one hr
  have hcap := own_cap h
  have hpre := own_take (i := i) h (by omega)
  obtain ⟨o', hsl, ho'⟩ := rows_from g 0 (i + m + 1) c (i + 1) (by omega) hcap
  rw [show i + m + 1 - (i + 1) = m by omega] at hsl
  have hst := rows_to (some ⟨g, 0, none⟩) (i + m + 1) c i (by omega)
  have hnews : ∀ j u, ((P.map Prod.fst).drop (i + 1))[j]? = some u → w.drew.cell? ((⟨g, o', none⟩ : Addr).add j) = some u := fun j u hj => by
    rw [List.getElem?_drop] at hj
    have hjl : i + 1 + j < P.length := by
      rcases Nat.lt_or_ge (i + 1 + j) P.length with h | h
      · exact h
      · rw [List.getElem?_eq_none (by simpa using h)] at hj
        simp at hj
    rw [addN, show o' = i + 1 by omega]
    exact (h.cellAt (i + 1 + j) (by omega)).trans hj
  have HNEWS := Lib.hid hnews
  have HPRE := Lib.hid (hpre.drew)
  have HM := Lib.hid hm
  have HONE : Hid (∀ u ∈ (P.map Prod.fst).drop (i + 1), u.oneCell' = true) := Lib.hid (fun u hu => hone u (List.mem_of_mem_drop hu))
  have HLEN : Hid (((P.map Prod.fst).drop (i + 1)).length = m * 1) := Lib.hid (by simp; omega)
  have hsl2 : ∀ W : World, (Instr.slice 26 (.slice (some ⟨g, 0, none⟩) (i + m + 1) c) (some (.int .i64 ((i : Int) + 1))) none none).run Try.prog W = .ok (.slice (some ⟨g, o', none⟩) m (c - (i + 1))) W := fun W => by have := hsl W; simpa using this
  clear h hr hone hpre hnews hm ho' hsl
  have q1 : (0 : Int) ≤ (i : Int) := by omega
  have q2 : (i : Int) ≤ (c : Int) := by omega
  have q3 : (0 : Int) ≤ (i : Int) + 1 := by omega
  have q4 : (i : Int) + 1 ≤ ((i : Int) + (m : Int) + 1) := by omega
  go_enter Try.func42, Try.ntmps42
  go_upto_region 5 with fail
  go_region_held3 (fun _ => True) (trivial) ((refine step_append_fits _ (by rfl) _ _ 26 (by rfl) B 28 i0 1 Try.underlying26 hi0 hz1 g i c _ (by rfl) HPRE.out ⟨g, o', none⟩ m (c - (i + 1)) ((P.map Prod.fst).drop (i + 1)) (by rfl) HLEN.out HNEWS.out HONE.out (by omega) ?_; intro w1 ho hg; have HO := Lib.hid ho; have HG := Lib.hid hg; clear ho hg))
  have ha := own_any (j := i + m) HO.out (by omega)
  have hmid := rows_mid g (i + m) c (i + m) (i + m + 1) (by omega) (by omega)
  rw [show i + m + 1 - (i + m) = 1 by omega] at hmid
  have hmid2 : ∀ W : World, (Instr.slice 26 (.slice (some ⟨g, 0, none⟩) (i + m) c) (some (.int .i64 ((i : Int) + (m : Int)))) (some (.int .i64 ((i : Int) + (m : Int) + 1))) none).run Try.prog W = .ok (.slice (some ⟨g, i + m, none⟩) 1 (c - (i + m))) W := fun W => by have := hmid W; simpa using this
  have hcl := clear_one w1 g (i + m) (c - (i + m)) ha.1 ha.2
  go_wp2
  go_ret
  refine ⟨rfl, ?_, gtrans (gn2 (grown_drew w none) HG.out) (grownSet _ _ _ _) (.inl rfl)⟩
  rw [List.eraseIdx_eq_take_drop_succ, List.map_append, List.map_take, List.map_drop]
  exact own_beyond HO.out (Nat.le_refl _)
end Go.Proofs.Ytaidfcehicffbaa.W
