/-
  The call of TallyRuns returns true, at any calls and any counters, in every memory, and turns nothing that was there.
-/
import Derived.Test.YtbblfhpicjdgnaaW8
import Derived.Deep.RegionHeld3
set_option linter.unusedVariables false
set_option linter.unusedSimpArgs false
namespace Go.Proofs.Ytbblfhpicjdgnaa.W
open Go.RowKit

/-- A slice of calls that is read. -/
def ROps (w : World) (a : Option Addr) (n : Nat) (d k m : Nat → Int) : Prop :=
  n ≤ 9223372036854775807 ∧ (∀ j, j < n → 0 ≤ d j ∧ d j ≤ 255) ∧ (0 < n → ∃ b o, a = some ⟨b, o, none⟩ ∧ b < w.heap.size ∧
    ∀ j, j < n → w.cell? ⟨b, o + j * 3, none⟩ = some (.int .u8 (d j)) ∧ w.cell? ⟨b, o + j * 3 + 1, none⟩ = some (.int .i64 (k j)) ∧ w.cell? ⟨b, o + j * 3 + 2, none⟩ = some (.int .i64 (m j)))

theorem below_cell {B : Nat} {w w' : World} (h : Below B w w') {b o : Nat} {v : Value} (hb : b < B) (hc : w.cell? ⟨b, o, none⟩ = some v) : w'.cell? ⟨b, o, none⟩ = some v := (h.cell (p := ⟨b, o, none⟩) hb).trans hc
theorem blk_kept {w w' : World} {g : Nat} {o : Obj} {row : Option Nat} (h : w.heap[g]? = some o) (hg : w.grownBy w' row) (hne : some g ≠ row) : w'.heap[g]? = some o :=
  (hg.block g (Array.getElem?_eq_some_iff.1 h).1 hne).trans h
theorem RInts.below {w w' : World} {a : Option Addr} {n : Nat} {xs : List Int} (h : RInts w a n xs) (hb : Below w.heap.size w w') : RInts w' a n xs := by
  refine ⟨h.1, h.2.1, fun hp => ?_⟩
  obtain ⟨b, o, e, hbl, hc⟩ := h.2.2 hp
  exact ⟨b, o, e, Nat.lt_of_lt_of_le hbl hb.size, fun j hj => below_cell hb hbl (hc j hj)⟩
theorem bgrown {B : Nat} {a w w' : World} {row : Option Nat} (h : Below B a w) (hg : w.grownBy w' row) (hB : B ≤ w.heap.size) (hr : ∀ k, row = some k → B ≤ k) : Below B a w' := h.grown hg hB hr

theorem TB_ne {w : World} {b g t : Nat} {ns : List Int} {cs : Array Value} (h : Holds w b ns) (hg : w.heap[g]? = some (.cells cs t (0, 0))) (ht : t ≠ 55) : some g ≠ some b := by
  intro e
  injection e with e
  subst e
  have := h.1
  rw [hg] at this
  simp [TB] at this
  exact ht this.2

/-- How both stand behind each call. -/
structure Inv (w0 : World) (B6 : Nat) (wr : World) (b : Nat) (ns : List Int) (g c : Nat) : Prop where
  holds : Holds wr b ns
  bounded : Bounded ns
  row : Row15 wr g c ns
  box : wr.heap[B6]? = some (.cells #[.slice (some ⟨g, 0, none⟩) 15 c] 39 (0, 0))
  below : Below w0.heap.size w0 wr
  hb : w0.heap.size ≤ b
  h6 : w0.heap.size ≤ B6
theorem Inv.grown {w0 wr w1 : World} {B6 b g c : Nat} {ns : List Int} (h : Inv w0 B6 wr b ns g c) (hg : wr.grownBy w1 none) : Inv w0 B6 w1 b ns g c :=
  ⟨h.holds.kept hg (by simp), h.bounded, h.row.kept hg (by simp), blk_kept h.box hg (by simp), h.below.grown hg h.below.size (by simp), h.hb, h.h6⟩

theorem Inv.fork {w0 wr w4 w5 : World} {B6 b f g c : Nat} {ns : List Int} {o : Obj} (h : Inv w0 B6 wr b ns g c) (hG4 : (wr.alloc o).grownBy w4 none) (hH4 : Holds w4 (wr.alloc o).heap.size ns) (hf : f = wr.heap.size + 1) (hG5 : w4.grownBy w5 (some b)) : Inv w0 B6 w5 f ns g c := by
  have h4 := (h.grown (World.grownBy_alloc _ o _)).grown hG4
  have hH4 : Holds w4 f ns := by rw [hf, ← World.size_alloc wr o]; exact hH4
  have hlt := h.holds.lt
  have hbs := h.below.size
  exact ⟨hH4.kept hG5 (by rw [hf]; intro e; injection e with e; omega), h.bounded, h4.row.kept hG5 (fun e => h4.row.ne h4.holds (by injection e)), blk_kept h4.box hG5 (TB_ne h4.holds h4.box (by decide)), h4.below.grown hG5 h4.below.size (by rintro k ⟨⟩; exact h.hb), by omega, h.h6⟩

/-- Behind Add: what the round still reads. -/
structure Added (w0 : World) (B6 B8 : Nat) (w4 : World) (b : Nat) (ns ms : List Int) (g c : Nat) (dj kj mj : Int) : Prop where
  holds : Holds w4 b ms
  bounded : Bounded ms
  bounded0 : Bounded ns
  row : Row15 w4 g c ns
  box : w4.heap[B6]? = some (.cells #[.slice (some ⟨g, 0, none⟩) 15 c] 39 (0, 0))
  box8 : w4.heap[B8]? = some (.cells #[.int .u8 dj, .int .i64 kj, .int .i64 mj] 42 (0, 0))
  below : Below w0.heap.size w0 w4
  hb : w0.heap.size ≤ b
  h6 : w0.heap.size ≤ B6
theorem Inv.added {w0 wr w4 : World} {B6 b g c : Nat} {ns : List Int} {dj kj mj : Int} (h : Inv w0 B6 wr b ns g c)
    (hH4 : Holds w4 b (addNs ns kj mj)) (hG4 : (wr.alloc (.cells #[.int .u8 dj, .int .i64 kj, .int .i64 mj] 42)).grownBy w4 (some b)) : Added w0 B6 wr.heap.size w4 b ns (addNs ns kj mj) g c dj kj mj := by
  have h1 := h.grown (World.grownBy_alloc wr (.cells #[.int .u8 dj, .int .i64 kj, .int .i64 mj] 42) none)
  have hx := heap_alloc_new wr (.cells #[.int .u8 dj, .int .i64 kj, .int .i64 mj] 42)
  exact ⟨hH4, bounded_add h.bounded _ _, h.bounded, h1.row.kept hG4 (fun e => h1.row.ne h1.holds (by injection e)), blk_kept h1.box hG4 (TB_ne h1.holds h1.box (by decide)), blk_kept hx hG4 (TB_ne h1.holds hx (by decide)),
    h1.below.grown hG4 h1.below.size (by rintro k ⟨⟩; exact h.hb), h.hb, h.h6⟩
theorem Added.cells {w0 w4 : World} {B6 B8 b g c : Nat} {ns ms : List Int} {dj kj mj : Int} (h : Added w0 B6 B8 w4 b ns ms g c dj kj mj) :
    w4.cell? ⟨B8, 1, none⟩ = some (.int .i64 kj) ∧ w4.cell? ⟨B8, 2, none⟩ = some (.int .i64 mj) ∧ w4.cell? ⟨B6, 0, none⟩ = some (.slice (some ⟨g, 0, none⟩) 15 c) ∧ w4.frozen? ⟨B6, 0, none⟩ = false ∧ B6 < w4.heap.size ∧ B8 < w4.heap.size := by
  refine ⟨?_, ?_, (blk_cell0 h.box).1, (blk_cell0 h.box).2, (Array.getElem?_eq_some_iff.1 h.box).1, (Array.getElem?_eq_some_iff.1 h.box8).1⟩
  · rw [cell_of_row _ _ _ _ _ _ h.box8]; rfl
  · rw [cell_of_row _ _ _ _ _ _ h.box8]; rfl
theorem Added.grown {w0 w4 w5 : World} {B6 B8 b g c : Nat} {ns ms : List Int} {dj kj mj : Int} (h : Added w0 B6 B8 w4 b ns ms g c dj kj mj) (hg : w4.grownBy w5 none) : Added w0 B6 B8 w5 b ns ms g c dj kj mj :=
  ⟨h.holds.kept hg (by simp), h.bounded, h.bounded0, h.row.kept hg (by simp), blk_kept h.box hg (by simp), blk_kept h.box8 hg (by simp), h.below.grown hg h.below.size (by simp), h.hb, h.h6⟩
/-- Behind r = next. -/
theorem Added.stored {w0 w5 : World} {B6 B8 b g c g5 c5 : Nat} {ns ms : List Int} {dj kj mj : Int} (h : Added w0 B6 B8 w5 b ns ms g c dj kj mj) (hR : Row15 w5 g5 c5 ms) :
    Added w0 B6 B8 ((w5.setCell ⟨B6, 0, none⟩ (.slice (some ⟨g5, 0, none⟩) 15 c5)).alloc (.cells #[.slice (some ⟨g5, 0, none⟩) 15 c5] 39)) b ms ms g5 c5 dj kj mj := by
  have hg := grownSet w5 B6 0 (.slice (some ⟨g5, 0, none⟩) 15 c5)
  have hne : g5 ≠ B6 := by
    obtain ⟨cur, hc, _⟩ := hR.heap
    rintro rfl
    rw [h.box] at hc
    simp at hc
  have h8 : B8 ≠ B6 := by
    rintro rfl
    have := h.box8
    rw [h.box] at this
    simp at this
  have h1 : Added w0 B6 B8 (w5.setCell ⟨B6, 0, none⟩ (.slice (some ⟨g5, 0, none⟩) 15 c5)) b ms ms g5 c5 dj kj mj :=
    ⟨h.holds.kept hg (fun e => TB_ne h.holds h.box (by decide) e.symm), h.bounded, h.bounded, hR.kept hg (by simpa using hne), heap_setCell_same w5 B6 0 _ 39 (.slice (some ⟨g5, 0, none⟩) 15 c5) h.box, blk_kept h.box8 hg (by simpa using h8), h.below.grown hg h.below.size (by rintro k ⟨⟩; exact h.h6), h.hb, h.h6⟩
  exact h1.grown (World.grownBy_alloc _ _ none)
theorem Added.inv {w0 w6 : World} {B6 B8 b g c : Nat} {ns : List Int} {dj kj mj : Int} (h : Added w0 B6 B8 w6 b ns ns g c dj kj mj) : Inv w0 B6 w6 b ns g c :=
  ⟨h.holds, h.bounded, h.row, h.box, h.below, h.hb, h.h6⟩

theorem get_g (b : Nat) (ns : List Int) (k : Int) (w : World) (h : Holds w b ns) : Calls Try.prog 11 #[.pointer (some ⟨b, 0, none⟩), .int .i64 k] w fun e w' => e = .returned (.int .i64 (getV ns k)) ∧ w.grownBy w' none :=
  (get_spec b ns k w h).mono fun e w' ⟨he, hw⟩ => ⟨he, by subst hw; exact World.grownBy.refl _ _⟩
theorem same_g (a1 a2 : Option Addr) (n c1 c2 : Nat) (xs : List Int) (w : World) (h1 : RInts w a1 n xs) (h2 : RInts w a2 n xs) :
    Calls Try.prog 21 #[.slice a1 n c1, .slice a2 n c2] w fun e w' => e = .returned (.bool true) ∧ w.grownBy w' none :=
  (same_eq a1 a2 n c1 c2 xs w h1 h2).mono fun e w' ⟨he, m, hw⟩ => ⟨he, by subst hw; exact grown_drewN _ _ _⟩
theorem sum_g (b : Nat) (ns xs : List Int) (a : Option Addr) (n c : Nat) (w : World) (h : Holds w b ns) (hr : RInts w a n xs) (hb : Bounded ns) :
    Calls Try.prog 23 #[.pointer (some ⟨b, 0, none⟩), .slice a n c] w fun e w' => e = .returned (.int .i64 (sumTo ns xs 14)) ∧ w.grownBy w' none :=
  (sum_any b ns xs a n c w h hr hb).mono fun e w' ⟨he, hw⟩ => ⟨he, by subst hw; exact World.grownBy.refl _ _⟩

set_option maxRecDepth 100000 in
set_option maxHeartbeats 2000000 in
theorem walkRuns (a a2 : Option Addr) (n c n2 c2 : Nat) (d k m : Nat → Int) (xs : List Int) (w : World) (hops : ROps w a n d k m) (hl : RInts w a2 n2 xs) (hc2 : n2 ≤ c2) :
    Calls Try.prog 5 #[.slice a n c, .slice a2 n2 c2] w fun e w' => e = .returned (.bool true) ∧ Below w.heap.size w w' := by
  have hn := hops.1
  have HO := Lib.hid hops
  have HL := Lib.hid hl
  have HC := Lib.hid hc2
  clear hops hl hc2
  go_enter Try.func5, Try.ntmps5
  go_wp2_with (first | (go_at_call 16; refine (few_any _ _ _ xs _ HL.out HC.out).mono ?_; rintro e w' ⟨q, rfl, hF, hq, hq2, rfl⟩; have HF := Lib.hid hF; clear hF) | (go_at_call 8; refine (new_spec _).mono ?_; rintro e w1 ⟨rfl, hH, hG⟩) | (go_at_call 17; refine (rnew_any _).mono ?_; rintro e w2 ⟨g, c3, rfl, hR, hG2⟩) | (go_at_call 9; refine (awake_any _).mono ?_; rintro e w3 ⟨rfl, hG3⟩))
  have hI : Inv w w2.heap.size w3 w.heap.size zeros g c3 := by
    have h1 := gtrans hG hG2 (.inl rfl)
    have h2 := gtrans (World.grownBy_alloc w2 (.cells #[.slice (some ⟨g, 0, none⟩) 15 c3] 39) none) hG3 (.inl rfl)
    exact ⟨(hH.kept hG2 (by simp)).kept h2 (by simp), bounded_zero, hR.kept h2 (by simp), blk_kept (heap_alloc_new w2 _) hG3 (by simp), gbelow (gtrans h1 h2 (.inl rfl)) (by simp), Nat.le_refl _, h1.size⟩
  have HI := Lib.hid hI
  clear hH hG hR hG2 hG3 hI
  obtain ⟨B6, hB6⟩ : ∃ B6, B6 = w2.heap.size := ⟨_, rfl⟩
  rw [← hB6] at HI ⊢
  clear hB6
  go_loopw [5, 7] (fun t i wr => ∃ (j b : Nat) (ns : List Int) (g c : Nat), j ≤ n ∧ t = .pointer (some ⟨b, 0, none⟩) ∧ i = .int .i64 j ∧ Hid (Inv w B6 wr b ns g c)) (fun _ i _ => n - (intOf i).toNat)
  case atStart => exact ⟨0, _, zeros, g, c3, Nat.zero_le _, rfl, rfl, HI⟩
  case round =>
    clear HI
    obtain ⟨j, b, ns, g, c3, hj, rfl, rfl, HI⟩ := hrel
    by_cases hlt : j < n
    · by_cases h60 : j < 60
      · have HOj := HO.out.2.2 (by omega)
        obtain ⟨bo, oo, rfl, hbo, hcells⟩ := HOj
        obtain ⟨hd0, hd1⟩ := HO.out.2.1 j hlt
        obtain ⟨e1, e2, e3⟩ := hcells j hlt
        have f1 := below_cell HI.out.below hbo e1
        have f2 := below_cell HI.out.below hbo e2
        have f3 := below_cell HI.out.below hbo e3
        clear hcells e1 e2 e3
        obtain ⟨dj, hdj⟩ : ∃ dj, dj = d j := ⟨_, rfl⟩
        obtain ⟨kj, hkj⟩ : ∃ kj, kj = k j := ⟨_, rfl⟩
        obtain ⟨mj, hmj⟩ : ∃ mj, mj = m j := ⟨_, rfl⟩
        rw [← hdj] at f1 hd0 hd1
        rw [← hkj] at f2
        rw [← hmj] at f3
        clear hdj hkj hmj
        by_cases h5 : dj % 6 = 5
        · have h5b : (dj % 6 == 5) = true := by rw [h5]; rfl
          have H5 := Lib.hid h5
          clear h5
          go_wp2_with (first | (go_at_call 18; refine (fork_any _ ns _ (HI.out.holds.kept (World.grownBy_alloc _ _ none) (by simp))).mono ?_; rintro e w4 ⟨rfl, hH4, hG4⟩) | (go_at_call 10; refine (add_spec _ ns 5 1 _ ((HI.out.grown (World.grownBy_alloc _ _ none)).grown hG4).holds HI.out.bounded).mono ?_; rintro e w5 ⟨rfl, hH5, hG5⟩))
          go_roundw
          case rel => exact ⟨j + 1, _, ns, g, c3, by omega, rfl, by go_num, HI.out.fork hG4 hH4 rfl hG5⟩
          case measure => simp [intOf]; omega
        · have h5b : (dj % 6 == 5) = false := by rw [beq_eq_false_iff_ne]; exact h5
          have H5 := Lib.hid h5
          clear h5
          go_wp2_with (first | (go_at_call 10; refine (add_spec _ ns kj mj _ (HI.out.holds.kept (World.grownBy_alloc _ _ none) (by simp)) HI.out.bounded).mono ?_; rintro e w4 ⟨rfl, hH4, hG4⟩; have P := Lib.hid (HI.out.added hH4 hG4); obtain ⟨q1, q2, q3, q4, q5, q6⟩ := P.out.cells; clear hH4 hG4) | (go_at_call 19; refine (radd_any _ _ ns kj mj _ P.out.row P.out.bounded0).mono ?_; rintro e w5 ⟨g5, c5, rfl, hR5, hG5⟩; have P5 := Lib.hid (P.out.grown hG5); have HR5 := Lib.hid hR5; obtain ⟨r1, r2, r3, r4, r5, r6⟩ := P5.out.cells; clear q1 q2 q3 q4 q5 q6 hR5 hG5))
          have P6 := Lib.hid (P5.out.stored HR5.out)
          clear r1 r2 r3 r4 r5 r6
          generalize hw6 : World.alloc (World.setCell _ ⟨B6, 0, none⟩ _) _ = w6 at P6 ⊢
          clear hw6
          have k1 : ∀ w', w6.grownBy w' none → w'.cell? ⟨wr.heap.size, 1, none⟩ = some (.int .i64 kj) := fun w' hg => (P6.out.grown hg).cells.1
          have k2 : ∀ w', w6.grownBy w' none → w'.cell? ⟨B6, 0, none⟩ = some (.slice (some ⟨g5, 0, none⟩) 15 c5) := fun w' hg => (P6.out.grown hg).cells.2.2.1
          have K1 := Lib.hid k1
          have K2 := Lib.hid k2
          clear k1 k2
          have HL6 : ∀ w', w6.grownBy w' none → RInts w' a2 q (xs.take q) := fun w' hg => (HF.out.below P6.out.below).grown hg
          have HL6 := Lib.hid HL6
          generalize hms : addNs ns kj mj = ms at *
          clear hms
          go_region_held3 (fun w' => w6.grownBy w' none ∧ w'.cell? ⟨wr.heap.size, 1, none⟩ = some (.int .i64 kj) ∧ w'.cell? ⟨B6, 0, none⟩ = some (.slice (some ⟨g5, 0, none⟩) 15 c5))
            (first | exact ⟨grown_drewN w6 1 none, K1.out _ (grown_drewN w6 1 none), K2.out _ (grown_drewN w6 1 none)⟩ | (go_split_ands; have hgN := gtrans (by assumption) hGN (.inl rfl); exact ⟨hgN, K1.out _ hgN, K2.out _ hgN⟩))
            (first | (go_at_call 11; go_split_ands; refine (get_g _ ms _ _ (P6.out.grown (by assumption)).holds).mono ?_; rintro e wN ⟨rfl, hGN⟩) | (go_at_call 20; go_split_ands; refine (rget_any _ _ ms _ _ (P6.out.grown (by assumption)).row).mono ?_; rintro e wN ⟨rfl, hGN⟩) | (go_at_call 22; go_split_ands; refine (all_any _ ms _ (P6.out.grown (by assumption)).holds).mono ?_; rintro e wN ⟨gA, cA, rfl, hRA, hGN⟩; have HRA := Lib.hid hRA; clear hRA) | (go_at_call 21; go_split_ands; refine (same_g _ _ _ _ _ ms _ HRA.out.rints (P6.out.grown (by assumption)).row.rints).mono ?_; rintro e wN ⟨rfl, hGN⟩) | (go_at_call 23; go_split_ands; refine (sum_g _ ms (xs.take q) _ _ _ _ (P6.out.grown (by assumption)).holds (HL6.out _ (by assumption)) P6.out.bounded).mono ?_; rintro e wN ⟨rfl, hGN⟩) | (go_at_call 24; go_split_ands; refine (rsum_any _ _ ms (xs.take q) _ _ _ _ (P6.out.grown (by assumption)).row P6.out.bounded (HL6.out _ (by assumption)) hq).mono ?_; rintro e wN ⟨rfl, hGN⟩))
          go_split_ands
          go_wp2
          go_roundw
          case rel => exact ⟨j + 1, b, ms, g5, c5, by omega, rfl, by go_num, (P6.out.grown (by assumption)).inv⟩
          case measure => simp [intOf]; omega
      · have hbl := Lib.hid HI.out.below
        go_wp2
        go_ret
        exact ⟨rfl, hbl.out⟩
    · have hbl := Lib.hid HI.out.below
      go_wp2
      go_ret
      exact ⟨rfl, hbl.out⟩
end Go.Proofs.Ytbblfhpicjdgnaa.W
