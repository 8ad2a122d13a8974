/-
  The call of TallyOwn returns true, at any counter and number, in every memory, and turns nothing that was there.
-/
import Derived.Test.YtbblfhpicjdgnaaW9
import Derived.Test.YtbblfhpicjdgnaaRuns
import Derived.Deep.DeepCutAuto
set_option linter.unusedVariables false
set_option linter.unusedSimpArgs false
namespace Go.Proofs.Ytbblfhpicjdgnaa.W
open Go.RowKit

theorem clone15_new (b c : Nat) (ns : List Int) (w : World) (h : Cells15 w b ns) :
    Calls Try.prog 31 #[.slice (some ⟨b, 0, none⟩) 15 c] w fun e w' => ∃ g' c', e = .returned (.slice (some ⟨g', 0, none⟩) 15 c') ∧ Row15 w' g' c' ns ∧ w.grownBy w' none ∧ w.heap.size ≤ g' := by
  obtain ⟨i0, hi, hz0, hz1, hz2⟩ := info_parts info3
  have HI := Lib.hid hi
  have HZ := Lib.hid hz0
  have HZ1 := Lib.hid hz1
  have HZ2 := Lib.hid hz2
  have H := Lib.hid h
  clear hi hz0 hz1 hz2 h
  have hnil := fun W : World => Lib.run_eql_slice_nil (P := Try.prog) W 37 3 (some ⟨b, 0, none⟩) 15 c 0 0 Try.underlying37
  go_enter Try.func31, Try.ntmps31
  go_wp2_with (first | (at_builtin; refine wpList_append_own_at _ rfl _ _ 37 rfl 0 3 i0 (.int .i64 0) 1 8 Try.underlying37 HI.out HZ.out HZ1.out HZ2.out rfl (by decide) _ 0 [] rfl (World.ownsRow_made w #[] 0 (Nat.zero_le _) (by simp [maxLen]) (by simp)) ⟨b, 0, none⟩ 15 _ (nums ns) rfl (by rw [nums_len, H.out.1]) (H.out.alloc _).news (nums_one ns) (by simp [maxLen]) (by omega) (Nat.zero_le _) ?_; intro v' w1 hown hg _ hat))
  obtain ⟨g, c2, hv, hrow⟩ := row_of_own (v := v') (w := w1) (ns := ns) hown
  have hge : w.heap.size ≤ g := by
    rw [hv] at hat
    rcases hat with hat | hat
    · have : some g = some w.heap.size := hat
      injection this with this
      omega
    · have : some g = some (w.alloc (.cells #[] 3)).heap.size := hat
      injection this with this
      rw [World.size_alloc] at this
      omega
  clear hat
  rw [hv]
  go_wp2
  go_ret
  exact ⟨g, c2, rfl, hrow, gtrans (World.grownBy_alloc w _ none) hg (.inr (.inr ⟨_, rfl, Nat.le_refl _⟩)), hge⟩
theorem all_new (b : Nat) (ns : List Int) (w : World) (h : Holds w b ns) :
    Calls Try.prog 22 #[.pointer (some ⟨b, 0, none⟩)] w fun e w' => ∃ g' c', e = .returned (.slice (some ⟨g', 0, none⟩) 15 c') ∧ Row15 w' g' c' ns ∧ w.grownBy w' none ∧ w.heap.size ≤ g' := by
  have hm := h.made
  have H := Lib.hid h
  clear h
  go_enter Try.func22, Try.ntmps22
  go_wp2_with (first | (go_at_call 26; refine (none_made _ _ hm).mono ?_; rintro e w' ⟨rfl, rfl⟩) | (go_at_call 31; refine (clone15_new _ _ ns _ H.out.cells).mono ?_; rintro e w' ⟨g, c, rfl, hR, hG, hge⟩))
  go_ret
  exact ⟨g, c, rfl, hR, hG, hge⟩

theorem dl_none : dl (fun _ => (0 : Int) - 0) 15 = zeros := by decide
theorem diff_nob (p : Value) (w : World) (h : Nob w p) :
    Calls Try.prog 25 #[p, .pointer none] w fun e w' => ∃ g, e = .returned (.slice (some ⟨g, 0, none⟩) 15 15) ∧ Row15 w' g 15 zeros ∧ w.grownBy w' none := by
  have hd := diff_any p (.pointer none) (fun _ => 0) (fun _ => 0) w h.tells (Nob.tells (.inl rfl)) (fun _ => ⟨Int.le_refl _, by omega⟩) (fun _ => ⟨Int.le_refl _, by omega⟩)
  rw [dl_none] at hd
  exact hd
theorem made_at (w : World) (n : Nat) (h : w.heap.size = n) : Row15 (w.alloc (.cells #[.int .i64 0, .int .i64 0, .int .i64 0, .int .i64 0, .int .i64 0, .int .i64 0, .int .i64 0, .int .i64 0, .int .i64 0, .int .i64 0, .int .i64 0, .int .i64 0, .int .i64 0, .int .i64 0, .int .i64 0] 3)).drew n 15 zeros := by subst h; exact made15 w
theorem nob_drew {w : World} {p : Value} (h : Nob w p) : Nob w.drew p := h
theorem nob_alloc {w : World} {p : Value} (h : Nob w p) (o : Obj) : Nob (w.alloc o) p := h.grown (World.grownBy_alloc _ _ none)
theorem nob_of {w w' : World} {p : Value} (h : Nob w p) (hg : w.grownBy w' none) : Nob w' p := h.grown hg

set_option maxRecDepth 100000 in
set_option maxHeartbeats 2000000 in
theorem walkOwn (kk nn : Int) (w : World) :
    Calls Try.prog 7 #[.int .i64 kk, .int .i64 nn] w fun e w' => e = .returned (.bool true) ∧ Below w.heap.size w w' := by
  have hmk : ∀ W : World, (Instr.makeSlice 37 (.int .i64 15) (.int .i64 15)).run Try.prog W = .ok (.slice (some ⟨W.heap.size, 0, none⟩) 15 15) (W.alloc (.cells #[.int .i64 0, .int .i64 0, .int .i64 0, .int .i64 0, .int .i64 0, .int .i64 0, .int .i64 0, .int .i64 0, .int .i64 0, .int .i64 0, .int .i64 0, .int .i64 0, .int .i64 0, .int .i64 0, .int .i64 0] 3)) := fun W => by kernel_rfl
  go_enter Try.func7, Try.ntmps7
  go_wp2
  obtain ⟨W0, hW0⟩ : ∃ W0 : World, W0 = (w.alloc (.cells #[.int .i64 0, .int .i64 0, .int .i64 0, .int .i64 0, .int .i64 0, .int .i64 0, .int .i64 0, .int .i64 0, .int .i64 0, .int .i64 0, .int .i64 0, .int .i64 0, .int .i64 0, .int .i64 0, .int .i64 0, .bool false] 55)).alloc (.cells #[.pointer none, .pointer (some ⟨w.heap.size, 0, none⟩)] 23) := ⟨_, rfl⟩
  rw [← hW0]
  have hB0 : Hid (Below w.heap.size w W0) := by rw [hW0]; exact Lib.hid (((Below.refl _ _).alloc (Nat.le_refl _) _).alloc (by simp) _)
  have hL : Hid (W0.heap[w.heap.size + 1]? = some (.cells #[.pointer none, .pointer (some ⟨w.heap.size, 0, none⟩)] 23 (0, 0))) := by rw [hW0]; exact Lib.hid (heap_alloc2_new w _ _)
  have hN : Hid (Nob W0 (.pointer (some ⟨w.heap.size, 0, none⟩))) := by
    have hx := heap_alloc2_old w (.cells #[.int .i64 0, .int .i64 0, .int .i64 0, .int .i64 0, .int .i64 0, .int .i64 0, .int .i64 0, .int .i64 0, .int .i64 0, .int .i64 0, .int .i64 0, .int .i64 0, .int .i64 0, .int .i64 0, .int .i64 0, .bool false] 55) (.cells #[.pointer none, .pointer (some ⟨w.heap.size, 0, none⟩)] 23)
    rw [← hW0] at hx
    exact Lib.hid (.inr ⟨w.heap.size, rfl, (Array.getElem?_eq_some_iff.1 hx).1, by rw [cell_of_row _ _ _ _ _ _ hx]; rfl⟩)
  clear hW0
  go_loopw [7] (fun i wr => ∃ k : Nat, k ≤ 2 ∧ i = .int .i64 k ∧ Hid (W0.grownBy wr none)) (fun i _ => 2 - (intOf i).toNat)
  case atStart => exact ⟨0, Nat.zero_le _, rfl, Lib.hid (World.grownBy.refl _ _)⟩
  case round =>
    obtain ⟨k, hk, rfl, hG⟩ := hrel
    have hl := blk_kept hL.out hG.out (by simp)
    by_cases hlt : k < 2
    · obtain ⟨p, hp, hNp⟩ : ∃ p, wr.cell? ⟨w.heap.size + 1, k, none⟩ = some p ∧ Hid (Nob wr p) := by
        rw [cell_of_row _ _ _ _ _ _ hl]
        match k, hlt with
        | 0, _ => exact ⟨_, rfl, Lib.hid (.inl rfl)⟩
        | 1, _ => exact ⟨_, rfl, Lib.hid (hN.out.grown hG.out)⟩
      clear hl
      go_upto_region 7 with fail
      go_cut [58] (fun v wx => v = .bool false ∧ Hid (wr.grownBy wx none))
      case first =>
        go_region_with (first | (go_at_call 10; refine (add_nob p kk nn _ ?_).mono ?_; (first | exact nob_drew hNp.out | exact nob_drew (nob_alloc hNp.out _) | exact nob_drew (nob_alloc (nob_alloc hNp.out _) _)); rintro e w' ⟨rfl, rfl⟩) | (go_at_call 11; refine (get_nob p kk _ ?_).mono ?_; (first | exact nob_drew hNp.out | exact nob_drew (nob_alloc hNp.out _) | exact nob_drew (nob_alloc (nob_alloc hNp.out _) _)); rintro e w' ⟨rfl, rfl⟩) | (go_at_call 22; refine (all_nob p _ ?_).mono ?_; (first | exact nob_drew hNp.out | exact nob_drew (nob_alloc hNp.out _) | exact nob_drew (nob_alloc (nob_alloc hNp.out _) _)); rintro e w' ⟨rfl, rfl⟩) | (go_at_call 18; refine (fork_nob p _ ?_).mono ?_; (first | exact nob_drew hNp.out | exact nob_drew (nob_alloc hNp.out _) | exact nob_drew (nob_alloc (nob_alloc hNp.out _) _)); rintro e w' ⟨rfl, rfl⟩) | (go_at_call 23; refine (sum_nob p [kk] _ _ _ _ ?_ ?_).mono ?_; (first | exact nob_drew hNp.out | exact nob_drew (nob_alloc hNp.out _) | exact nob_drew (nob_alloc (nob_alloc hNp.out _) _)); exact (rints_lit wr [kk] 22 (by simp)); rintro e w' ⟨rfl, rfl⟩) | (go_at_call 25; refine (diff_nob p _ ?_).mono ?_; (first | exact nob_drew hNp.out | exact nob_drew (nob_alloc hNp.out _) | exact nob_drew (nob_alloc (nob_alloc hNp.out _) _)); rintro e w2 ⟨g2, rfl, hR2, hG2⟩) | (go_at_call 21; refine (same_g _ _ _ _ _ zeros _ ?_ ?_).mono ?_; (first | exact hR2.rints | exact (hR2.kept (World.grownBy_alloc _ _ none) (by simp)).rints); (first | exact (made15 w2).rints | exact ((made_at (wr.alloc _) _ (by simp)).kept hG2 (by simp)).rints); rintro e w3 ⟨rfl, hG3⟩))
        all_goals
          go_wp2_with fail
          go_meet
          have hA := Lib.hid (gtrans (World.grownBy_alloc wr (.cells #[.int .i64 kk] 22) none) (grown_drewN (wr.alloc (.cells #[.int .i64 kk] 22)) 1 none) (.inl rfl))
          first
            | exact ⟨rfl, Lib.hid (gtrans (gtrans (gtrans hA.out hG2 (.inl rfl)) (World.grownBy_alloc w2 _ none) (.inl rfl)) hG3 (.inl rfl))⟩
            | exact ⟨rfl, Lib.hid (gtrans (gtrans (gtrans (gtrans (World.grownBy_alloc wr (.cells #[.int .i64 kk] 22) none) (World.grownBy_alloc _ _ none) (.inl rfl)) (grown_drewN _ 1 none) (.inl rfl)) hG2 (.inl rfl)) hG3 (.inl rfl))⟩
      case rest =>
        obtain ⟨rfl, hGc⟩ := hcut
        go_wp2
        go_roundw
        case rel => exact ⟨k + 1, by omega, by go_num, Lib.hid (gtrans hG.out hGc.out (.inl rfl))⟩
        case measure => simp [intOf]; omega
    · clear hl
      have e1 : addCode zeros 10 3 = 0 := by decide
      have hBw : Hid (Below w.heap.size w wr) := Lib.hid (hB0.out.grown hG.out hB0.out.size (by simp))
      clear hN hL hB0 hG
      go_wp2_with (first | (go_at_call 8; refine (new_spec _).mono ?_; rintro e w1 ⟨rfl, hH, hG⟩; have H1 := Lib.hid (And.intro hH hG); clear hH hG) | (go_at_call 10; refine (add_spec _ zeros 10 3 _ H1.out.1 bounded_zero).mono ?_; rintro e w2 ⟨rfl, hH, hG⟩; have H2 := Lib.hid (And.intro hH hG); clear hH hG))
      have HT : Hid (Bounded (addNs zeros 10 3)) := Lib.hid (bounded_add bounded_zero 10 3)
      have e2 : getV (addNs zeros 10 3) 10 = 3 := by decide
      have e3 : sumTo (addNs zeros 10 3) [10, 9] 14 = 3 := by decide
      have E2 := Lib.hid e2
      have E3 := Lib.hid e3
      clear e2 e3
      generalize addNs zeros 10 3 = T at *
      have hBc : Hid (Below w.heap.size w w2) := Lib.hid ((hBw.out.grown H1.out.2 hBw.out.size (by simp)).grown H2.out.2 (Nat.le_trans hBw.out.size H1.out.2.size) (by rintro q ⟨⟩; exact hBw.out.size))
      go_wp2_with (first | (go_at_call 22; refine (all_new _ T _ H2.out.1).mono ?_; rintro e w3 ⟨gA, cA, rfl, hRA, hGA, hge⟩; have H3 := Lib.hid (And.intro hRA (And.intro hGA hge)); clear hRA hGA hge))
      have hgA : w.heap.size ≤ gA := Nat.le_trans hBc.out.size H3.out.2.2
      have hI : Hid (Row15 w3 gA cA T ∧ Holds w3 wr.heap.size T ∧ Below w.heap.size w w3) := Lib.hid ⟨H3.out.1, H2.out.1.kept H3.out.2.1 (by simp), hBc.out.grown H3.out.2.1 hBc.out.size (by simp)⟩
      go_loopw [11] (fun i wx => ∃ (q : Nat) (L : List Int), q ≤ 15 ∧ i = .int .i64 q ∧ Hid (Row15 wx gA cA L ∧ Holds wx wr.heap.size T ∧ Below w.heap.size w wx)) (fun i _ => 15 - (intOf i).toNat)
      case atStart => exact ⟨0, T, Nat.zero_le _, rfl, hI⟩
      case round =>
        clear hI
        rename_i wx _ _
        obtain ⟨q, L, hq, rfl, hI⟩ := hrel
        by_cases hql : q < 15
        · have hc := hI.out.1.cell q hql
          have hf := hI.out.1.frozen q
          have hgl := hI.out.1.lt
          go_wp2
          go_roundw
          case rel => exact ⟨q + 1, _, by omega, by go_num, Lib.hid ⟨(hI.out.1.set_ q 99).1, hI.out.2.1.kept (hI.out.1.set_ q 99).2 (fun e => hI.out.1.ne hI.out.2.1 (by injection e with e; exact e.symm)), hI.out.2.2.setCell hgA _⟩⟩
          case measure => simp [intOf]; omega
        · go_wp2_with (first | (go_at_call 11; refine (get_spec _ T 10 _ hI.out.2.1).mono ?_; rintro e w4 ⟨rfl, rfl⟩; rw [E2.out]) | (go_at_call 23; refine (sum_any _ T [10, 9] _ _ _ _ (hI.out.2.1.kept (World.grownBy_alloc _ _ none) (by simp)) (rints_lit _ [10, 9] 22 (by simp)) HT.out).mono ?_; rintro e w5 ⟨rfl, rfl⟩; rw [E3.out]) | (go_at_call 9; refine (awake_any _).mono ?_; rintro e w6 ⟨rfl, hG6⟩))
          go_ret
          exact ⟨rfl, ((hI.out.2.2.alloc hI.out.2.2.size _).grown hG6 (by simp; have := hI.out.2.2.size; omega) (by simp))⟩
end Go.Proofs.Ytbblfhpicjdgnaa.W
