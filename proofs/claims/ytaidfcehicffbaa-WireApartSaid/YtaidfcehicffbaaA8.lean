/-
  A link that nobody made, and how the arguments of the wire's laws read.
-/
import Derived.Test.YtaidfcehicffbaaA7
import Derived.Lib.SmallJoins
import Derived.WideShapes
import Derived.ChangeArms
set_option linter.unusedVariables false
set_option linter.unusedSimpArgs false
namespace Go.Proofs.Ytaidfcehicffbaa.W
open Go.RowKit Go.Deep Go.WideShapes

theorem bt_of {H : Type} {enc : TypeId × Value → H} {W : World} {n : Nat} {v : Value} {x : DataW H × List MemPlace} (h : DataW.trod enc Try.prog W 0 (fun _ => true) true n 28 [v] = some x) :
    ∃ xs, Bt W v xs ∧ xs.length ≤ 9223372036854775807 ∧ ∀ a l c, v = .slice a l c → c ≤ 9223372036854775807 := by
  have ho := open_slice (cs := [v]) Try.underlying28 h
  rcases ho with ⟨hcs, _⟩ | ⟨ad, l, c, k, m, D, Pl, hcs, _, hl, hc, _⟩
  · injection hcs with hcs _
    subst hcs
    exact ⟨[], .inl ⟨rfl, rfl⟩, by simp, fun a l c e => by injection e with _ _ e; omega⟩
  · injection hcs with hcs _
    subst hcs
    obtain ⟨h1, h2, h3⟩ := open_cells (m := 1) (len := l) (cap := c) (fun cs => ∃ a, cs = [.int .u8 a]) Try.underlying28 (by kernel_rfl) (by decide) ⟨n, h⟩
      (fun n cs x hx => by obtain ⟨y, hy, _, hw⟩ := DataW.trod_int Try.underlying5 hx; exact ⟨y, hy⟩)
    by_cases h0 : 0 < l
    · obtain ⟨b, o, hb, hlt, hcell⟩ := h3 h0
      obtain ⟨f, hf⟩ := choose_lt (α := Int) (n := l) (p := fun i x => W.cell? ⟨b, o + i, none⟩ = some (.int .u8 x)) (fun i hi => by
        obtain ⟨cs, ⟨x, rfl⟩, hcs⟩ := hcell i hi
        have := hcs 0 _ rfl (by decide)
        rw [Nat.mul_one] at this
        exact ⟨x, this⟩)
      injection hb with hb
      subst hb
      have hlen : ((List.range l).map f).length = l := by simp
      refine ⟨(List.range l).map f, .inr (.inl ⟨b, o, c, by rw [hlen], by rw [hlen]; exact h1, fun _ => hlt, fun i hi => ?_⟩), by rw [hlen]; omega, fun a l c e => by injection e with _ _ e; omega⟩
      rw [hlen] at hi
      rw [hf i hi]
      simp [List.getD_eq_getElem?_getD, List.getElem?_range, hi]
    · obtain rfl : l = 0 := by omega
      exact ⟨[], .inr (.inr ⟨ad, c, rfl, rfl⟩), by simp, fun a l c e => by injection e with _ _ e; omega⟩
/-- A call, as the statements name it. -/
def OpIs (W : World) (cs : List Value) (kd dr n : Int) (bv : Value) (bx : List Int) (up : Bool) : Prop := cs = [.int .i64 kd, .int .i64 dr, .int .i64 n, bv, .bool up] ∧ Bt W bv bx ∧ bx.length ≤ 9223372036854775807 ∧ ∀ a l c, bv = .slice a l c → c ≤ 9223372036854775807
theorem open_op {H : Type} {enc : TypeId × Value → H} {W : World} {n : Nat} {cs : List Value} {x : DataW H × List MemPlace} (h : DataW.trod enc Try.prog W 0 (fun _ => true) true n 30 cs = some x) :
    ∃ (kd dr nn : Int) (bv : Value) (bx : List Int) (up : Bool), OpIs W cs kd dr nn bv bx up := by
  have hC : Try.prog.cellsOf 30 = 5 := by kernel_rfl
  have h3 : Try.prog.cellsOf 3 = 1 := by kernel_rfl
  have h4 : Try.prog.cellsOf 4 = 1 := by kernel_rfl
  have h28 : Try.prog.cellsOf 28 = 1 := by kernel_rfl
  obtain ⟨xs, m, _, _, hl, hxl, hg⟩ := DataW.trod_struct Try.underlying30 h
  rw [hC] at hl
  match cs, hl with
  | [v0, v1, v2, v3, v4], _ =>
    have hx5 : xs.length = 5 := by simpa using hxl
    have g0 := hg 0 _ rfl
    have g1 := hg 1 _ rfl
    have g2 := hg 2 _ rfl
    have g3 := hg 3 _ rfl
    have g4 := hg 4 _ rfl
    simp [h3, h4, h28] at g0 g1 g2 g3 g4
    rw [List.getElem?_eq_getElem (by omega)] at g0 g1 g2 g3 g4
    obtain ⟨x0, e0, _, _⟩ := DataW.trod_int Try.underlying3 g0
    obtain ⟨x1, e1, _, _⟩ := DataW.trod_int Try.underlying3 g1
    obtain ⟨x2, e2, _, _⟩ := DataW.trod_int Try.underlying3 g2
    obtain ⟨ys, b1, b2, b3⟩ := bt_of g3
    obtain ⟨x4, e4, _⟩ := DataW.trod_bool Try.underlying4 g4
    simp at e0 e1 e2 e4
    subst e0 e1 e2 e4
    exact ⟨x0, x1, x2, v3, ys, x4, rfl, b1, b2, b3⟩
theorem op_of {H : Type} {enc : TypeId × Value → H} {W : World} {v : Value} {base : Nat} {r : Reach} {d : DataW H} {p : List MemPlace} (hv : Value.okWide Try.prog W r base 30 v) (h : DataW.Trod enc Try.prog W 0 (fun _ => true) true 30 v d p) :
    ∃ (kd dr nn : Int) (bv : Value) (bx : List Int) (up : Bool), v = .agg #[.int .i64 kd, .int .i64 dr, .int .i64 nn, bv, .bool up] ∧ Bt W bv bx ∧ bx.length ≤ 9223372036854775807 ∧ ∀ a l c, bv = .slice a l c → c ≤ 9223372036854775807 := by
  obtain ⟨cs, rfl, hsz⟩ := okWide_struct Try.underlying30 hv
  obtain ⟨fuel, hf⟩ := h
  obtain ⟨kd, dr, nn, bv, bx, up, h1, h2⟩ := open_op hf
  refine ⟨kd, dr, nn, bv, bx, up, ?_, h2⟩
  obtain ⟨cs⟩ := cs
  simp only [Value.cells] at h1
  subst h1
  rfl

/-- A link that nobody made. -/
def Nob (w : World) (p : Value) : Prop := p = .pointer none ∨ ∃ b, p = .pointer (some ⟨b, 0, none⟩) ∧ b < w.heap.size ∧ w.cell? ⟨b, 0, none⟩ = some (.bool false)
theorem none_nob (p : Value) (w : World) (h : Nob w p) : Calls Try.prog 34 #[p] w fun e w' => e = .returned (.bool true) ∧ w = w' := by
  rcases h with rfl | ⟨b, rfl, _, h⟩
  · go_enter Try.func34, Try.ntmps34
    go_wp2
    go_ret
    exact ⟨rfl, rfl⟩
  · go_enter Try.func34, Try.ntmps34
    go_wp2
    go_ret
    exact ⟨rfl, rfl⟩
theorem is_nob (p : Value) (d : Int) (w : World) (h : Nob w p) : Calls Try.prog 29 #[p, .int .i64 d] w fun e w' => e = .returned (.bool false) ∧ w = w' := by
  have H := Lib.hid h
  clear h
  go_enter Try.func29, Try.ntmps29
  go_wp2_with (first | (go_at_call 34; refine (none_nob _ _ H.out).mono ?_; rintro e w' ⟨rfl, rfl⟩))
  go_ret
  exact ⟨rfl, rfl⟩
theorem may_nob (p : Value) (d : Int) (w : World) (h : Nob w p) : Calls Try.prog 31 #[p, .int .i64 d] w fun e w' => e = .returned (.int .i64 4) ∧ w = w' := by
  have H := Lib.hid h
  clear h
  go_enter Try.func31, Try.ntmps31
  go_wp2_with (first | (go_at_call 34; refine (none_nob _ _ H.out).mono ?_; rintro e w' ⟨rfl, rfl⟩))
  go_ret
  exact ⟨rfl, rfl⟩
theorem up_nob (p : Value) (w : World) (h : Nob w p) : Calls Try.prog 28 #[p] w fun e w' => e = .returned (.bool false) ∧ w = w' := by
  have H := Lib.hid h
  clear h
  go_enter Try.func28, Try.ntmps28
  go_wp2_with (first | (go_at_call 34; refine (none_nob _ _ H.out).mono ?_; rintro e w' ⟨rfl, rfl⟩))
  go_ret
  exact ⟨rfl, rfl⟩
theorem len_nob (p : Value) (d : Int) (w : World) (h : Nob w p) : Calls Try.prog 26 #[p, .int .i64 d] w fun e w' => e = .returned (.int .i64 0) ∧ w = w' := by
  have H := Lib.hid h
  clear h
  go_enter Try.func26, Try.ntmps26
  go_wp2_with (first | (go_at_call 29; refine (is_nob _ _ _ H.out).mono ?_; rintro e w' ⟨rfl, rfl⟩))
  go_ret
  exact ⟨rfl, rfl⟩
theorem said_nob (p : Value) (d : Int) (w : World) (h : Nob w p) : Calls Try.prog 27 #[p, .int .i64 d] w fun e w' => e = .returned (.int .i64 0) ∧ w = w' := by
  have H := Lib.hid h
  clear h
  go_enter Try.func27, Try.ntmps27
  go_wp2_with (first | (go_at_call 29; refine (is_nob _ _ _ H.out).mono ?_; rintro e w' ⟨rfl, rfl⟩))
  go_ret
  exact ⟨rfl, rfl⟩
theorem alld_nob (p : Value) (d : Int) (w : World) (h : Nob w p) : Calls Try.prog 9 #[p, .int .i64 d] w fun e w' => e = .returned (.slice none 0 0) ∧ w = w' := by
  have H := Lib.hid h
  clear h
  go_enter Try.func9, Try.ntmps9
  go_wp2_with (first | (go_at_call 29; refine (is_nob _ _ _ H.out).mono ?_; rintro e w' ⟨rfl, rfl⟩))
  go_ret
  exact ⟨rfl, rfl⟩
theorem wordsd_nob (p : Value) (d : Int) (w : World) (h : Nob w p) : Calls Try.prog 10 #[p, .int .i64 d] w fun e w' => e = .returned (.slice none 0 0) ∧ w = w' := by
  have H := Lib.hid h
  clear h
  go_enter Try.func10, Try.ntmps10
  go_wp2_with (first | (go_at_call 29; refine (is_nob _ _ _ H.out).mono ?_; rintro e w' ⟨rfl, rfl⟩))
  go_ret
  exact ⟨rfl, rfl⟩
theorem taked_nob (p : Value) (d n : Int) (w : World) (h : Nob w p) : Calls Try.prog 12 #[p, .int .i64 d, .int .i64 n] w fun e w' => e = .returned (.tuple #[.slice none 0 0, .bool false]) ∧ w = w' := by
  have H := Lib.hid h
  clear h
  go_enter Try.func12, Try.ntmps12
  go_wp2_with (first | (go_at_call 29; refine (is_nob _ _ _ H.out).mono ?_; rintro e w' ⟨rfl, rfl⟩))
  go_ret2
  exact ⟨rfl, rfl⟩
theorem heard_nob (p : Value) (d : Int) (w : World) (h : Nob w p) : Calls Try.prog 15 #[p, .int .i64 d] w fun e w' => e = .returned (.tuple #[.slice none 0 0, .bool false]) ∧ w = w' := by
  have H := Lib.hid h
  clear h
  go_enter Try.func15, Try.ntmps15
  go_wp2_with (first | (go_at_call 29; refine (is_nob _ _ _ H.out).mono ?_; rintro e w' ⟨rfl, rfl⟩))
  go_ret2
  exact ⟨rfl, rfl⟩
theorem datad_nob (p : Value) (d : Int) (v : Value) (w : World) (h : Nob w p) : Calls Try.prog 11 #[p, .int .i64 d, v] w fun e w' => e = .returned (.int .i64 4) ∧ w = w' := by
  have H := Lib.hid h
  clear h
  go_enter Try.func11, Try.ntmps11
  go_wp2_with (first | (go_at_call 31; refine (may_nob _ _ _ H.out).mono ?_; rintro e w' ⟨rfl, rfl⟩))
  go_ret
  exact ⟨rfl, rfl⟩
theorem sayd_nob (p : Value) (d : Int) (v : Value) (w : World) (h : Nob w p) : Calls Try.prog 14 #[p, .int .i64 d, v] w fun e w' => e = .returned (.int .i64 4) ∧ w = w' := by
  have H := Lib.hid h
  clear h
  go_enter Try.func14, Try.ntmps14
  go_wp2_with (first | (go_at_call 31; refine (may_nob _ _ _ H.out).mono ?_; rintro e w' ⟨rfl, rfl⟩))
  go_ret
  exact ⟨rfl, rfl⟩
theorem twin_nob (p : Value) (d n : Int) (w : World) (h : Nob w p) : Calls Try.prog 13 #[p, .int .i64 d, .int .i64 n] w fun e w' => e = .returned (.int .i64 4) ∧ w = w' := by
  have H := Lib.hid h
  clear h
  go_enter Try.func13, Try.ntmps13
  go_wp2_with (first | (go_at_call 34; refine (none_nob _ _ H.out).mono ?_; rintro e w' ⟨rfl, rfl⟩))
  go_ret
  exact ⟨rfl, rfl⟩
theorem set_nob (p : Value) (u : Bool) (w : World) (h : Nob w p) : Calls Try.prog 18 #[p, .bool u] w fun e w' => e = .returned (.int .i64 0) ∧ w = w' := by
  have H := Lib.hid h
  clear h
  go_enter Try.func18, Try.ntmps18
  go_wp2_with (first | (go_at_call 34; refine (none_nob _ _ H.out).mono ?_; rintro e w' ⟨rfl, rfl⟩))
  go_ret
  exact ⟨rfl, rfl⟩

set_option maxRecDepth 20000 in
set_option maxHeartbeats 2000000 in
theorem walkNobody (kd dr n : Int) (bv : Value) (bx : List Int) (up : Bool) (w : World) (hb : Bt w bv bx) (hl : bx.length ≤ 9223372036854775807) :
    Calls Try.prog 6 #[.agg #[.int .i64 kd, .int .i64 dr, .int .i64 n, bv, .bool up]] w fun e w' => e = .returned (.bool true) ∧ Below w.heap.size w w' := by
  obtain ⟨a, cap, rfl, hcap⟩ := hb.len
  obtain ⟨l, hlen⟩ : ∃ l, l = bx.length := ⟨_, rfl⟩
  rw [← hlen] at hcap hl ⊢
  clear hb hlen
  have hs1 := slice_to a l cap l hcap
  have hs2 : 100 < l → ∀ W : World, (Instr.slice 28 (.slice a l cap) none (some (.int .i64 100)) none).run Try.prog W = .ok (.slice a 100 cap) W := fun h => slice_to a l cap 100 (by omega)
  have HS2 := Lib.hid hs2
  clear hs2
  go_enter Try.func6, Try.ntmps6
  go_upto_region 2 with fail
  obtain ⟨x, hx⟩ : ∃ x : World, x = w.alloc (.cells #[.int .i64 kd, .int .i64 dr, .int .i64 n, .slice a l cap, .bool up] 30) := ⟨_, rfl⟩
  have hbx := heap_alloc_new w (.cells #[.int .i64 kd, .int .i64 dr, .int .i64 n, .slice a l cap, .bool up] 30)
  have hgx : Hid (Below w.heap.size w x) := by rw [hx]; exact Lib.hid ((Below.refl _ _).alloc (Nat.le_refl _) _)
  have hzx : x.heap.size = w.heap.size + 1 := by rw [hx]; simp
  rw [← hx] at hbx ⊢
  clear hx
  have HBX := Lib.hid hbx
  have HZX := Lib.hid hzx
  have c1 := (cell_of_row x w.heap.size 1 _ 30 (0, 0) hbx).trans (show _ = some (.int .i64 dr) from rfl)
  have c2 := (cell_of_row x w.heap.size 2 _ 30 (0, 0) hbx).trans (show _ = some (.int .i64 n) from rfl)
  have c3 := (cell_of_row x w.heap.size 3 _ 30 (0, 0) hbx).trans (show _ = some (.slice a l cap) from rfl)
  have c4 := (cell_of_row x w.heap.size 4 _ 30 (0, 0) hbx).trans (show _ = some (.bool up) from rfl)
  clear hbx hzx
  go_cut [4] (fun v wx => ∃ h : Nat, v = .slice a h cap ∧ x = wx)
  case first =>
    by_cases hm : 100 < l
    · have hs := HS2.out hm
      go_wp2_with fail
      go_meet
      exact ⟨_, rfl, rfl⟩
    · go_wp2_with fail
      go_meet
      exact ⟨_, rfl, rfl⟩
  case rest =>
    obtain ⟨h, rfl, rfl⟩ := hcut
    clear hs1 HS2 hcap
    go_upto_region 4 with fail
    obtain ⟨W0, hW0⟩ : ∃ W0 : World, W0 = (x.alloc (.cells #[.bool false, .bool false, .slice none 0 0, .slice none 0 0, .slice none 0 0, .slice none 0 0] 60)).alloc (.cells #[.pointer none, .pointer (some ⟨x.heap.size, 0, none⟩)] 23) := ⟨_, rfl⟩
    rw [← hW0]
    have hB0 : Hid (Below w.heap.size w W0) := by rw [hW0]; exact Lib.hid ((hgx.out.alloc (by have := HZX.out; omega) _).alloc (by have := HZX.out; simp; omega) _)
    have hL : Hid (W0.heap[x.heap.size + 1]? = some (.cells #[.pointer none, .pointer (some ⟨x.heap.size, 0, none⟩)] 23 (0, 0))) := by rw [hW0]; exact Lib.hid (heap2_new' x _ _)
    have hN : Hid (Nob W0 (.pointer (some ⟨x.heap.size, 0, none⟩))) := by
      have hx := heap2_old' x (.cells #[.bool false, .bool false, .slice none 0 0, .slice none 0 0, .slice none 0 0, .slice none 0 0] 60) (.cells #[.pointer none, .pointer (some ⟨x.heap.size, 0, none⟩)] 23)
      rw [← hW0] at hx
      exact Lib.hid (.inr ⟨x.heap.size, rfl, (Array.getElem?_eq_some_iff.1 hx).1, by rw [cell_of_row _ _ _ _ _ _ hx]; rfl⟩)
    have hgw : x.grownBy W0 none := by rw [hW0]; exact gn (World.grownBy_alloc _ _ _) (World.grownBy_alloc _ _ _)
    have hbw := blk_kept HBX.out hgw (by simp)
    have c1 := (cell_of_row W0 w.heap.size 1 _ 30 (0, 0) hbw).trans (show _ = some (.int .i64 dr) from rfl)
    have c2 := (cell_of_row W0 w.heap.size 2 _ 30 (0, 0) hbw).trans (show _ = some (.int .i64 n) from rfl)
    have c4 := (cell_of_row W0 w.heap.size 4 _ 30 (0, 0) hbw).trans (show _ = some (.bool up) from rfl)
    clear hW0 hgw hbw HBX
    go_loopw [23] (fun i wr => ∃ k q : Nat, k ≤ 2 ∧ i = .int .i64 k ∧ wr = W0.drewN q) (fun i _ => 2 - (intOf i).toNat)
    case atStart => exact ⟨0, 0, Nat.zero_le _, rfl, rfl⟩
    case round =>
      obtain ⟨k, q, hk, rfl, rfl⟩ := hrel
      by_cases hlt : k < 2
      · obtain ⟨p, hp, hNp⟩ : ∃ p, W0.cell? ⟨x.heap.size + 1, k, none⟩ = some p ∧ Hid (Nob W0 p) := by
          rw [cell_of_row _ _ _ _ _ _ hL.out]
          match k, hlt with
          | 0, _ => exact ⟨_, rfl, Lib.hid (.inl rfl)⟩
          | 1, _ => exact ⟨_, rfl, hN⟩
        obtain ⟨W2, hW2⟩ : ∃ y : World, y = W0.drewN q := ⟨_, rfl⟩
        have hp2 : W2.cell? ⟨x.heap.size + 1, k, none⟩ = some p := by rw [hW2]; exact hp
        have c12 : W2.cell? ⟨w.heap.size, 1, none⟩ = some (.int .i64 dr) := by rw [hW2]; exact c1
        have c22 : W2.cell? ⟨w.heap.size, 2, none⟩ = some (.int .i64 n) := by rw [hW2]; exact c2
        have c42 : W2.cell? ⟨w.heap.size, 4, none⟩ = some (.bool up) := by rw [hW2]; exact c4
        have HNQ : Hid (∀ m, Nob (W2.drewN m) p) := Lib.hid fun m => by
          rw [hW2]
          rcases hNp.out with h | ⟨b, h1, h2, h3⟩
          · exact .inl h
          · exact .inr ⟨b, h1, h2, h3⟩
        have HNP2 : Hid (Nob W2 p) := Lib.hid (HNQ.out 0)
        rw [← hW2]
        have HW2 := Lib.hid hW2
        clear hW2 c1 c2 c4 hp
        go_wp2_with (first | (go_at_call 12; refine (taked_nob _ _ _ _ HNP2.out).mono ?_; rintro e w' ⟨rfl, rfl⟩) | (go_at_call 15; refine (heard_nob _ _ _ HNP2.out).mono ?_; rintro e w' ⟨rfl, rfl⟩) | (go_at_call 11; refine (datad_nob _ _ _ _ HNP2.out).mono ?_; rintro e w' ⟨rfl, rfl⟩) | (go_at_call 14; refine (sayd_nob _ _ _ _ HNP2.out).mono ?_; rintro e w' ⟨rfl, rfl⟩) | (go_at_call 13; refine (twin_nob _ _ _ _ HNP2.out).mono ?_; rintro e w' ⟨rfl, rfl⟩) | (go_at_call 18; refine (set_nob _ _ _ HNP2.out).mono ?_; rintro e w' ⟨rfl, rfl⟩) | (go_at_call 26; refine (len_nob _ _ _ HNP2.out).mono ?_; rintro e w' ⟨rfl, rfl⟩) | (go_at_call 27; refine (said_nob _ _ _ HNP2.out).mono ?_; rintro e w' ⟨rfl, rfl⟩) | (go_at_call 9; refine (alld_nob _ _ _ HNP2.out).mono ?_; rintro e w' ⟨rfl, rfl⟩) | (go_at_call 10; refine (wordsd_nob _ _ _ HNP2.out).mono ?_; rintro e w' ⟨rfl, rfl⟩) | (go_at_call 28; refine (up_nob _ _ HNP2.out).mono ?_; rintro e w' ⟨rfl, rfl⟩))
        go_quiet (first | (go_at_call 11; refine Calls.quiet_of_same ((datad_nob _ _ _ _ (HNQ.out _)).mono fun _ _ h => ⟨h.1, h.2.symm⟩)) | (go_at_call 14; refine Calls.quiet_of_same ((sayd_nob _ _ _ _ (HNQ.out _)).mono fun _ _ h => ⟨h.1, h.2.symm⟩)) | (go_at_call 13; refine Calls.quiet_of_same ((twin_nob _ _ _ _ (HNQ.out _)).mono fun _ _ h => ⟨h.1, h.2.symm⟩)) | (go_at_call 18; refine Calls.quiet_of_same ((set_nob _ _ _ (HNQ.out _)).mono fun _ _ h => ⟨h.1, h.2.symm⟩)) | (go_at_call 26; refine Calls.quiet_of_same ((len_nob _ _ _ (HNQ.out _)).mono fun _ _ h => ⟨h.1, h.2.symm⟩)) | (go_at_call 27; refine Calls.quiet_of_same ((said_nob _ _ _ (HNQ.out _)).mono fun _ _ h => ⟨h.1, h.2.symm⟩)) | (go_at_call 9; refine Calls.quiet_of_same ((alld_nob _ _ _ (HNQ.out _)).mono fun _ _ h => ⟨h.1, h.2.symm⟩)) | (go_at_call 10; refine Calls.quiet_of_same ((wordsd_nob _ _ _ (HNQ.out _)).mono fun _ _ h => ⟨h.1, h.2.symm⟩)) | (go_at_call 28; refine Calls.quiet_of_same ((up_nob _ _ (HNQ.out _)).mono fun _ _ h => ⟨h.1, h.2.symm⟩)))
        go_wp2
        go_roundw
        case rel => exact ⟨k + 1, q + nq, by omega, by go_num, by rw [HW2.out, World.drewN_drewN]⟩
        case measure => simp [intOf]; omega
      · go_wp2_with (first | (go_at_call 8; refine (awake_any _).mono ?_; rintro e w6 ⟨rfl, hG6⟩))
        go_ret
        exact ⟨rfl, hB0.out.grown (gn2 (grown_drewN W0 q none) hG6) hB0.out.size (by simp)⟩
end Go.Proofs.Ytaidfcehicffbaa.W
