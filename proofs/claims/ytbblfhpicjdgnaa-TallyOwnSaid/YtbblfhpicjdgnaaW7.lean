/-
  What Add and Sum of the reference do, over any memory.
-/
import Derived.Test.YtbblfhpicjdgnaaW6
import Derived.Deep.RegionWith
import Derived.StillTailTactics
set_option linter.unusedVariables false
set_option linter.unusedSimpArgs false
namespace Go.Proofs.Ytbblfhpicjdgnaa.W
open Go.RowKit

/-! ### the plain law -/
theorem sumTo_snoc (ns p : List Int) (x : Int) (m : Nat) : sumTo ns (p ++ [x]) m = sumTo ns p m + if x ∈ p then 0 else if 1 ≤ x ∧ x ≤ m then ns.getD x.toNat 0 else 0 := by
  induction m with
  | zero =>
    simp only [sumTo]
    split
    · rfl
    · rw [if_neg (by omega)]; rfl
  | succ m ih =>
    simp only [sumTo]
    rw [ih]
    by_cases hx : x ∈ p
    · simp only [if_pos hx]
      have e : (((m + 1 : Nat) : Int) ∈ p ++ [x]) ↔ (((m + 1 : Nat) : Int) ∈ p) := by
        rw [List.mem_append, List.mem_singleton]
        constructor
        · rintro (h | h)
          · exact h
          · rw [h]; exact hx
        · exact .inl
      simp only [e]
      omega
    · simp only [if_neg hx]
      by_cases hm : ((m + 1 : Nat) : Int) = x
      · subst hm
        rw [if_neg (show ¬ (1 ≤ ((m + 1 : Nat) : Int) ∧ ((m + 1 : Nat) : Int) ≤ (m : Int)) by omega), if_pos (show ((m + 1 : Nat) : Int) ∈ p ++ [((m + 1 : Nat) : Int)] by simp), if_pos (show 1 ≤ ((m + 1 : Nat) : Int) ∧ ((m + 1 : Nat) : Int) ≤ ((m + 1 : Nat) : Int) by omega), if_neg hx, Int.toNat_natCast]
      · have e : (((m + 1 : Nat) : Int) ∈ p ++ [x]) ↔ (((m + 1 : Nat) : Int) ∈ p) := by
          rw [List.mem_append, List.mem_singleton]
          constructor
          · rintro (h | h)
            · exact h
            · exact absurd h hm
          · exact .inl
        simp only [e]
        have e2 : (1 ≤ x ∧ x ≤ ((m + 1 : Nat) : Int)) ↔ (1 ≤ x ∧ x ≤ (m : Int)) := by omega
        simp only [e2]
        omega
theorem sumTo_get (ns p : List Int) (x : Int) : sumTo ns (p ++ [x]) 14 = sumTo ns p 14 + if x ∈ p then 0 else getV ns x := by
  rw [sumTo_snoc]
  rfl
theorem sumTo_nil (ns : List Int) (m : Nat) : sumTo ns [] m = 0 := by
  induction m with
  | zero => rfl
  | succ m ih => simp [sumTo, ih]
theorem getV_bd {ns : List Int} (hb : Bounded ns) (k : Int) : 0 ≤ getV ns k ∧ getV ns k ≤ 1125899906842624 := by
  unfold getV
  split
  · exact hb _
  · omega

/-! ### Add -/
theorem own_empty (X : World) (n : Nat) (hn : X.heap.size = n) : (X.alloc (.cells #[] 3)).ownsRow 0 3 1 (.slice (some ⟨n, 0, none⟩) 0 0) 0 [] := by
  subst hn
  exact World.ownsRow_made X #[] 0 (Nat.zero_le _) (by simp [maxLen]) (by simp)
theorem Row15.set_ {w : World} {g c : Nat} {ns : List Int} (h : Row15 w g c ns) (k : Nat) (v : Int) : Row15 (w.setCell ⟨g, k, none⟩ (.int .i64 v)) g c (ns.set k v) ∧ w.grownBy (w.setCell ⟨g, k, none⟩ (.int .i64 v)) (some g) := by
  have hs := World.ownsRow.stored h k (.int .i64 v)
  have he : (nums ns).set k (.int .i64 v) = nums (ns.set k v) := by simp [nums, List.map_set]
  rw [he] at hs
  exact hs
theorem grownSet (w : World) (b k : Nat) (v : Value) : w.grownBy (w.setCell ⟨b, k, none⟩ v) (some b) :=
  ⟨rfl, rfl, rfl, Nat.le_of_eq (by simp only [World.setCell, Array.size_modify]), fun i hi hne => by
    have : i ≠ b := fun e => hne (by rw [e])
    exact (Below.heap_setCell w ⟨b, k, none⟩ v i this)⟩
theorem blk_cell0 {w : World} {g : Nat} {t : TypeId} {v : Value} (h : w.heap[g]? = some (.cells #[v] t (0, 0))) : w.cell? ⟨g, 0, none⟩ = some v ∧ w.frozen? ⟨g, 0, none⟩ = false := by
  constructor
  · rw [cell_of_row w g 0 _ t (0, 0) h]; rfl
  · simp [World.frozen?, h]

theorem radd_any (g c : Nat) (ns : List Int) (k n : Int) (w : World) (h : Row15 w g c ns) (hb : Bounded ns) :
    Calls Try.prog 19 #[.agg #[.slice (some ⟨g, 0, none⟩) 15 c], .int .i64 k, .int .i64 n] w fun e w' => ∃ g' c', e = .returned (.tuple #[.agg #[.slice (some ⟨g', 0, none⟩) 15 c'], .int .i64 (addCode ns k n)]) ∧ Row15 w' g' c' (addNs ns k n) ∧ w.grownBy w' none := by
  by_cases h1 : ¬ (1 ≤ k ∧ k ≤ 14) ∨ n < 0 ∨ 1073741824 < n
  · have e1 : addCode ns k n = 220 := by unfold addCode; rw [if_pos h1]
    have e2 : addNs ns k n = ns := by unfold addNs; rw [if_neg (by omega)]
    rw [e1, e2]
    have H := Lib.hid h
    clear h e1 e2 hb
    by_cases hk : 1 ≤ k ∧ k ≤ 14
    · have hk1 := hk.1
      have hk2 := hk.2
      by_cases hn : n < 0
      · clear h1 hk
        go_enter Try.func19, Try.ntmps19
        go_wp2_with (first | (go_at_call 30; refine (ris_yes _ _ hk1 hk2).mono ?_; rintro e w' ⟨rfl, rfl⟩))
        exact bodyPost_ret (v := .tuple #[.agg #[.slice (some ⟨g, 0, none⟩) 15 c], .int .i64 220]) (by simp [results, Try.results19, go_sem]) rfl ⟨g, c, rfl, H.out.kept (gtrans (World.grownBy_alloc _ _ none) (World.grownBy_alloc _ _ none) (.inl rfl)) (by simp), gtrans (World.grownBy_alloc _ _ _) (World.grownBy_alloc _ _ _) (.inl rfl)⟩
      · have hn2 : 1073741824 < n := by omega
        clear h1 hk
        go_enter Try.func19, Try.ntmps19
        go_wp2_with (first | (go_at_call 30; refine (ris_yes _ _ hk1 hk2).mono ?_; rintro e w' ⟨rfl, rfl⟩))
        exact bodyPost_ret (v := .tuple #[.agg #[.slice (some ⟨g, 0, none⟩) 15 c], .int .i64 220]) (by simp [results, Try.results19, go_sem]) rfl ⟨g, c, rfl, H.out.kept (gtrans (World.grownBy_alloc _ _ none) (World.grownBy_alloc _ _ none) (.inl rfl)) (by simp), gtrans (World.grownBy_alloc _ _ _) (World.grownBy_alloc _ _ _) (.inl rfl)⟩
    · clear h1
      go_enter Try.func19, Try.ntmps19
      go_wp2_with (first | (go_at_call 30; refine (ris_no _ _ hk).mono ?_; rintro e w' ⟨rfl, rfl⟩))
      exact bodyPost_ret (v := .tuple #[.agg #[.slice (some ⟨g, 0, none⟩) 15 c], .int .i64 220]) (by simp [results, Try.results19, go_sem]) rfl ⟨g, c, rfl, H.out.kept (gtrans (World.grownBy_alloc _ _ none) (World.grownBy_alloc _ _ none) (.inl rfl)) (by simp), gtrans (World.grownBy_alloc _ _ _) (World.grownBy_alloc _ _ _) (.inl rfl)⟩
  · obtain ⟨j, rfl⟩ := Int.eq_ofNat_of_zero_le (show 0 ≤ k by omega)
    have hbj := hb j
    have hk1 : 1 ≤ (j : Int) := by omega
    have hk2 : (j : Int) ≤ 14 := by omega
    have hn1 : 0 ≤ n := by omega
    have hn2 : n ≤ 1073741824 := by omega
    have hlt := h.lt
    by_cases h2 : 1125899906842624 - n < ns.getD j 0
    · have e1 : addCode ns j n = 3 := by unfold addCode; rw [if_neg h1, Int.toNat_natCast, if_pos h2]
      have e2 : addNs ns j n = ns := by unfold addNs; rw [if_neg (by omega)]
      rw [e1, e2]
      have hc := h.cell j (by omega)
      have H := Lib.hid h
      clear h e1 e2 hb h1
      generalize ns.getD j 0 = v at hc hbj h2
      obtain ⟨hv0, hv1⟩ := hbj
      have h3 : 1125899906842624 < v + n := by omega
      clear h2
      go_enter Try.func19, Try.ntmps19
      go_wp2_with (first | (go_at_call 30; refine (ris_yes _ _ hk1 hk2).mono ?_; rintro e w' ⟨rfl, rfl⟩))
      exact bodyPost_ret (v := .tuple #[.agg #[.slice (some ⟨g, 0, none⟩) 15 c], .int .i64 3]) (by simp [results, Try.results19, go_sem]) rfl ⟨g, c, rfl, H.out.kept (gtrans (World.grownBy_alloc _ _ none) (World.grownBy_alloc _ _ none) (.inl rfl)) (by simp), gtrans (World.grownBy_alloc _ _ _) (World.grownBy_alloc _ _ _) (.inl rfl)⟩
    · have e1 : addCode ns j n = 0 := by unfold addCode; rw [if_neg h1, Int.toNat_natCast, if_neg h2]
      have e2 : addNs ns j n = ns.set j (ns.getD j 0 + n) := by unfold addNs; rw [if_pos e1, Int.toNat_natCast]
      rw [e1, e2]
      have hc := h.cell j (by omega)
      have H := Lib.hid h
      have HV : ∃ v, v = ns.getD j 0 := ⟨_, rfl⟩
      obtain ⟨v, hv⟩ := HV
      rw [← hv] at hc hbj h2
      obtain ⟨hv0, hv1⟩ := hbj
      have h3 : v + n ≤ 1125899906842624 := by omega
      obtain ⟨ms, hms⟩ : ∃ ms, ms = ns.set j (ns.getD j 0 + n) := ⟨_, rfl⟩
      rw [← hms]
      have HM : Hid (ms = ns.set j (v + n)) := by rw [hms, ← hv]; exact Lib.hid rfl
      have HV := Lib.hid hv
      clear h e1 e2 hb h1 h2 hv hms
      obtain ⟨i0, hi, hz0, hz1, hz2⟩ := info_parts info3
      have HI := Lib.hid hi
      have HZ := Lib.hid hz0
      have HZ1 := Lib.hid hz1
      have HZ2 := Lib.hid hz2
      clear hi hz0 hz1 hz2
      go_enter Try.func19, Try.ntmps19
      go_wp2_with (first | (go_at_call 30; refine (ris_yes _ _ hk1 hk2).mono ?_; rintro e w' ⟨rfl, rfl⟩) | (at_builtin; refine wpList_append_own_at _ rfl _ _ 37 rfl 0 3 i0 (.int .i64 0) 1 8 Try.underlying37 HI.out HZ.out HZ1.out HZ2.out rfl (by decide) (.slice (some ⟨w.heap.size + 1 + 1, 0, none⟩) 0 0) 0 [] rfl (own_empty _ _ (by simp)) ⟨g, 0, none⟩ 15 _ (nums ns) rfl (by rw [nums_len, H.out.len]) (((H.out.cells15.alloc _).alloc _).alloc _).news (nums_one ns) (by simp [maxLen]) (by omega) (Nat.zero_le _) ?_; intro v' w1 hown hg hiff hat; clear hiff))
      obtain ⟨g2, c2, hv2, hrow⟩ := row_of_own (v := v') (w := w1) (ns := ns) hown
      rw [hv2]
      have hge : w.heap.size ≤ g2 := by
        rw [hv2] at hat
        rcases hat with hat | hat
        · simp only [Value.ownBlock] at hat
          injection hat with hat
          omega
        · simp only [Value.ownBlock, World.size_alloc] at hat
          injection hat with hat
          omega
      clear hat
      have hc2 := hrow.cell j (by omega)
      rw [← HV.out] at hc2
      have hf2 := hrow.frozen j
      have hg2 := hrow.lt
      have hb1 : w1.heap[w.heap.size + 1]? = some (.cells #[.slice none 0 0] 39 (0, 0)) := by
        rw [hg.block (w.heap.size + 1) (by simp) (by simp [Value.ownBlock])]
        rw [Below.heap_alloc _ _ _ (by simp)]
        exact heap_alloc2_new w _ _
      have hne : g2 ≠ w.heap.size + 1 := by
        rintro rfl
        obtain ⟨cur, hcur, _⟩ := hrow.heap
        rw [hb1] at hcur
        simp at hcur
      obtain ⟨hr1, hr2⟩ := blk_cell0 hb1
      have HB1 := Lib.hid hb1
      have HG := Lib.hid hg
      have HR := Lib.hid hrow
      clear hb1 hown hv2 hg hrow
      have hj15 : (j : Int) < 15 := by omega
      have hj0 : 0 ≤ (j : Int) := by omega
      go_wp2
      go_simp
      go_wp2
      go_simp
      go_wp2


      refine bodyPost_ret (v := .tuple #[.agg #[.slice (some ⟨g2, 0, none⟩) 15 c2], .int .i64 0]) ?_ rfl ⟨g2, c2, rfl, ?_, ?_⟩
      · simp [results, Try.results19, go_sem, hr1, hne]
      · rw [HM.out]
        exact (HR.out.set_ j (v + n)).1.kept (grownSet _ (w.heap.size + 1) 0 _) (by simpa using hne)
      · refine gtrans (gtrans (gtrans (gtrans (gtrans (World.grownBy_alloc _ _ none) (World.grownBy_alloc _ _ none) (.inl rfl)) (World.grownBy_alloc _ _ none) (.inl rfl)) HG.out (.inr (.inr ⟨w.heap.size + 1 + 1, rfl, by omega⟩))) (grownSet _ g2 j _) (.inr (.inr ⟨_, rfl, hge⟩))) (grownSet _ (w.heap.size + 1) 0 _) (.inr (.inr ⟨_, rfl, by omega⟩))
end Go.Proofs.Ytbblfhpicjdgnaa.W
