/-
  The call of MeterRuns returns true, at any settings and frames, in every memory, and turns nothing that was there.
-/
import Derived.Test.YtjddjijcfhgndaaM1
set_option linter.unusedVariables false
set_option linter.unusedSimpArgs false
namespace Go.Proofs.Ytjddjijcfhgndaa.W
open Go.RowKit

set_option maxHeartbeats 4000000 in
set_option maxRecDepth 100000 in
theorem walkRuns_bad (cir cbs eir ebs : Int) (cp aw : Bool) (a : Option Addr) (len cap : Nat) (la sz co : Nat → Int) (fk : Nat → Bool) (raw : Int) (w : World) (hf : RF w a len la sz co fk) (hok : ¬ okc ⟨cir, cbs, eir, ebs, cp, aw, 0, 0, 0⟩) :
    Calls Try.prog 5 #[.agg #[.int .i64 cir, .int .i64 cbs, .int .i64 eir, .int .i64 ebs, .bool cp, .bool aw], .slice a len cap, .int .i64 raw] w fun e w' => e = .returned (.bool true) ∧ Below w.heap.size w w' := by
  have hsz : (Try.prog.info? 47).map (·.size) = some 9 := by kernel_rfl
  have hone : ((#[.int .i64 0, .int .i64 0, .int .i64 0, .int .i64 0, .bool false, .bool false, .int .i64 0, .int .i64 0, .int .i64 0] : Array Value).all (·.oneCell')) = true := by kernel_rfl
  have HF := Lib.hid hf
  have hlen := hf.hlen
  clear hf
  have HOK := Lib.hid hok
  clear hok
  go_enter Try.func5, Try.ntmps5
  go_upto_region 3 with (first | (go_at_call 8; refine (new_bad ⟨cir, cbs, eir, ebs, cp, aw, 0, 0, 0⟩ _ HOK.out).mono ?_; rintro e w1 ⟨rfl, hg⟩; have HX1 := Lib.hid (blk_kept (heap_alloc_new w _) hg (by simp)); have e0 := (cell_of_row w1 (w.heap.size) 0 _ 23 (0, 0) HX1.out).trans (show _ = some (.int .i64 cir) from rfl); have e1 := (cell_of_row w1 (w.heap.size) 1 _ 23 (0, 0) HX1.out).trans (show _ = some (.int .i64 cbs) from rfl); have e2 := (cell_of_row w1 (w.heap.size) 2 _ 23 (0, 0) HX1.out).trans (show _ = some (.int .i64 eir) from rfl); have e3 := (cell_of_row w1 (w.heap.size) 3 _ 23 (0, 0) HX1.out).trans (show _ = some (.int .i64 ebs) from rfl); have e4 := (cell_of_row w1 (w.heap.size) 4 _ 23 (0, 0) HX1.out).trans (show _ = some (.bool cp) from rfl); have e5 := (cell_of_row w1 (w.heap.size) 5 _ 23 (0, 0) HX1.out).trans (show _ = some (.bool aw) from rfl); have G1 := Lib.hid (gtrans (World.grownBy_alloc w _ none) hg (.inl rfl)); clear hg) | (go_at_call 12; refine (rnew_bad ⟨cir, cbs, eir, ebs, cp, aw, 0, 0, 0⟩ _ HOK.out).mono ?_; rintro e w2 ⟨rfl, hg⟩; have HX2 := Lib.hid (blk_kept HX1.out hg (by simp)); have G2 := Lib.hid (gtrans G1.out hg (.inl rfl)); clear e0 e1 e2 e3 e4 e5; clear hg) | (refine wpList_store_rowTo rfl 47 _ _ rfl rfl w2.heap.size #[.int .i64 0, .int .i64 0, .int .i64 0, .int .i64 0, .bool false, .bool false, .int .i64 0, .int .i64 0, .int .i64 0] rfl rfl 47 #[.int .i64 0, .int .i64 0, .int .i64 0, .int .i64 0, .bool false, .bool false, .int .i64 0, .int .i64 0, .int .i64 0] (heap_alloc_new w2 _) hsz rfl hone ?_))
  have hb3 := setRow_heap (w2.alloc (.cells #[.int .i64 0, .int .i64 0, .int .i64 0, .int .i64 0, .bool false, .bool false, .int .i64 0, .int .i64 0, .int .i64 0] 47)) w2.heap.size _ #[.int .i64 0, .int .i64 0, .int .i64 0, .int .i64 0, .bool false, .bool false, .int .i64 0, .int .i64 0, .int .i64 0] 47 (0, 0) (heap_alloc_new w2 _)
  have hx3 := (setRow_other (w2.alloc (.cells #[.int .i64 0, .int .i64 0, .int .i64 0, .int .i64 0, .bool false, .bool false, .int .i64 0, .int .i64 0, .int .i64 0] 47)) w2.heap.size w.heap.size #[.int .i64 0, .int .i64 0, .int .i64 0, .int .i64 0, .bool false, .bool false, .int .i64 0, .int .i64 0, .int .i64 0] (by have := blk_lt HX2.out; omega)).trans (blk_kept HX2.out (World.grownBy_alloc w2 (.cells #[.int .i64 0, .int .i64 0, .int .i64 0, .int .i64 0, .bool false, .bool false, .int .i64 0, .int .i64 0, .int .i64 0] 47) none) (by simp))
  have HG3 : Hid (w.grownBy ((w2.alloc (Obj.cells #[.int .i64 0, .int .i64 0, .int .i64 0, .int .i64 0, .bool false, .bool false, .int .i64 0, .int .i64 0, .int .i64 0] 47)).setRow w2.heap.size #[.int .i64 0, .int .i64 0, .int .i64 0, .int .i64 0, .bool false, .bool false, .int .i64 0, .int .i64 0, .int .i64 0]) none) := Lib.hid (grownNew (gtrans G2.out (World.grownBy_alloc w2 _ none) (.inl rfl)) (grownSetRow _ _ _) G2.out.size)
  obtain ⟨w3, hw3⟩ : ∃ q : World, q = (w2.alloc (Obj.cells #[.int .i64 0, .int .i64 0, .int .i64 0, .int .i64 0, .bool false, .bool false, .int .i64 0, .int .i64 0, .int .i64 0] 47)).setRow w2.heap.size #[.int .i64 0, .int .i64 0, .int .i64 0, .int .i64 0, .bool false, .bool false, .int .i64 0, .int .i64 0, .int .i64 0] := ⟨_, rfl⟩
  rw [← hw3] at hb3 hx3 HG3 ⊢
  have e0 := (cell_of_row w3 (w.heap.size) 0 _ 23 (0, 0) hx3).trans (show _ = some (.int .i64 cir) from rfl)
  have e1 := (cell_of_row w3 (w.heap.size) 1 _ 23 (0, 0) hx3).trans (show _ = some (.int .i64 cbs) from rfl)
  have e2 := (cell_of_row w3 (w.heap.size) 2 _ 23 (0, 0) hx3).trans (show _ = some (.int .i64 eir) from rfl)
  have e3 := (cell_of_row w3 (w.heap.size) 3 _ 23 (0, 0) hx3).trans (show _ = some (.int .i64 ebs) from rfl)
  have e4 := (cell_of_row w3 (w.heap.size) 4 _ 23 (0, 0) hx3).trans (show _ = some (.bool cp) from rfl)
  have e5 := (cell_of_row w3 (w.heap.size) 5 _ 23 (0, 0) hx3).trans (show _ = some (.bool aw) from rfl)
  have HB3 := Lib.hid hb3
  clear hw3 hb3 hx3
  go_wp2_with (first | (go_at_call 13; refine (check_bad ⟨cir, cbs, eir, ebs, cp, aw, 0, 0, 0⟩ _ HOK.out).mono ?_; rintro e w4 ⟨rfl, hg⟩; have G4 := Lib.hid hg; clear hg) | (go_at_call 9; refine (awake_any _).mono ?_; rintro e w5 ⟨rfl, hg⟩; have G5 := Lib.hid hg; clear hg; clear e0 e1 e2 e3 e4 e5))
  have HB5 := Lib.hid (gbelow (gtrans (gtrans HG3.out G4.out (.inl rfl)) G5.out (.inl rfl)) (by simp))
  go_loop [7, 12] (fun mv iv => mv = .pointer none ∧ iv = .int .i64 0) (fun _ _ => 0)
  case atStart => exact ⟨rfl, rfl⟩
  case round =>
    obtain ⟨rfl, rfl⟩ := hrel
    by_cases hl : 0 < len
    · go_wp2
      go_ret
      exact ⟨rfl, HB5.out⟩
    · obtain rfl : len = 0 := by omega
      go_wp2
      go_ret
      exact ⟨rfl, HB5.out⟩

set_option maxHeartbeats 4000000 in
set_option maxRecDepth 100000 in
theorem walkRuns_ok (cir cbs eir ebs : Int) (cp aw : Bool) (a : Option Addr) (len cap : Nat) (la sz co : Nat → Int) (fk : Nat → Bool) (raw : Int) (w : World) (hf : RF w a len la sz co fk) (hok : okc ⟨cir, cbs, eir, ebs, cp, aw, 0, 0, 0⟩) :
    Calls Try.prog 5 #[.agg #[.int .i64 cir, .int .i64 cbs, .int .i64 eir, .int .i64 ebs, .bool cp, .bool aw], .slice a len cap, .int .i64 raw] w fun e w' => e = .returned (.bool true) ∧ Below w.heap.size w w' := by
  have hsz : (Try.prog.info? 47).map (·.size) = some 9 := by kernel_rfl
  have hone : ((#[.int .i64 cir, .int .i64 cbs, .int .i64 eir, .int .i64 ebs, .bool cp, .bool aw, .int .i64 (cbs), .int .i64 (ebs), .int .i64 (0)] : Array Value).all (·.oneCell')) = true := by kernel_rfl
  have HF := Lib.hid hf
  have hlen := hf.hlen
  clear hf
  have HOK := Lib.hid hok
  clear hok
  go_enter Try.func5, Try.ntmps5
  go_upto_region 3 with (first | (go_at_call 8; refine (new_ok ⟨cir, cbs, eir, ebs, cp, aw, 0, 0, 0⟩ _ HOK.out).mono ?_; rintro e w1 ⟨b, rfl, hM, hg, hb⟩; have HX1 := Lib.hid (blk_kept (heap_alloc_new w _) hg (by simp)); have e0 := (cell_of_row w1 (w.heap.size) 0 _ 23 (0, 0) HX1.out).trans (show _ = some (.int .i64 cir) from rfl); have e1 := (cell_of_row w1 (w.heap.size) 1 _ 23 (0, 0) HX1.out).trans (show _ = some (.int .i64 cbs) from rfl); have e2 := (cell_of_row w1 (w.heap.size) 2 _ 23 (0, 0) HX1.out).trans (show _ = some (.int .i64 eir) from rfl); have e3 := (cell_of_row w1 (w.heap.size) 3 _ 23 (0, 0) HX1.out).trans (show _ = some (.int .i64 ebs) from rfl); have e4 := (cell_of_row w1 (w.heap.size) 4 _ 23 (0, 0) HX1.out).trans (show _ = some (.bool cp) from rfl); have e5 := (cell_of_row w1 (w.heap.size) 5 _ 23 (0, 0) HX1.out).trans (show _ = some (.bool aw) from rfl); have HM1 := Lib.hid hM; have HBb := Lib.hid (show w.heap.size ≤ b by have := hb; simp at this; omega); have G1 := Lib.hid (gtrans (World.grownBy_alloc w _ none) hg (.inl rfl)); clear hg hb hM) | (go_at_call 12; refine (rnew_ok ⟨cir, cbs, eir, ebs, cp, aw, 0, 0, 0⟩ _ HOK.out).mono ?_; rintro e w2 ⟨rfl, hg⟩; have HX2 := Lib.hid (blk_kept HX1.out hg (by simp)); have HM2 := Lib.hid (HM1.out.kept hg (by simp)); have G2 := Lib.hid (gtrans G1.out hg (.inl rfl)); clear e0 e1 e2 e3 e4 e5; clear hg) | (refine wpList_store_rowTo rfl 47 _ _ rfl rfl w2.heap.size #[.int .i64 cir, .int .i64 cbs, .int .i64 eir, .int .i64 ebs, .bool cp, .bool aw, .int .i64 (cbs), .int .i64 (ebs), .int .i64 (0)] rfl rfl 47 #[.int .i64 0, .int .i64 0, .int .i64 0, .int .i64 0, .bool false, .bool false, .int .i64 0, .int .i64 0, .int .i64 0] (heap_alloc_new w2 _) hsz rfl hone ?_))
  have hb3 := setRow_heap (w2.alloc (.cells #[.int .i64 0, .int .i64 0, .int .i64 0, .int .i64 0, .bool false, .bool false, .int .i64 0, .int .i64 0, .int .i64 0] 47)) w2.heap.size _ #[.int .i64 cir, .int .i64 cbs, .int .i64 eir, .int .i64 ebs, .bool cp, .bool aw, .int .i64 (cbs), .int .i64 (ebs), .int .i64 (0)] 47 (0, 0) (heap_alloc_new w2 _)
  have hx3 := (setRow_other (w2.alloc (.cells #[.int .i64 0, .int .i64 0, .int .i64 0, .int .i64 0, .bool false, .bool false, .int .i64 0, .int .i64 0, .int .i64 0] 47)) w2.heap.size w.heap.size #[.int .i64 cir, .int .i64 cbs, .int .i64 eir, .int .i64 ebs, .bool cp, .bool aw, .int .i64 (cbs), .int .i64 (ebs), .int .i64 (0)] (by have := blk_lt HX2.out; omega)).trans (blk_kept HX2.out (World.grownBy_alloc w2 (.cells #[.int .i64 0, .int .i64 0, .int .i64 0, .int .i64 0, .bool false, .bool false, .int .i64 0, .int .i64 0, .int .i64 0] 47) none) (by simp))
  have HG3 : Hid (w.grownBy ((w2.alloc (Obj.cells #[.int .i64 0, .int .i64 0, .int .i64 0, .int .i64 0, .bool false, .bool false, .int .i64 0, .int .i64 0, .int .i64 0] 47)).setRow w2.heap.size #[.int .i64 cir, .int .i64 cbs, .int .i64 eir, .int .i64 ebs, .bool cp, .bool aw, .int .i64 (cbs), .int .i64 (ebs), .int .i64 (0)]) none) := Lib.hid (grownNew (gtrans G2.out (World.grownBy_alloc w2 _ none) (.inl rfl)) (grownSetRow _ _ _) G2.out.size)
  have HM3 := Lib.hid (show MH ((w2.alloc (Obj.cells #[.int .i64 0, .int .i64 0, .int .i64 0, .int .i64 0, .bool false, .bool false, .int .i64 0, .int .i64 0, .int .i64 0] 47)).setRow w2.heap.size #[.int .i64 cir, .int .i64 cbs, .int .i64 eir, .int .i64 ebs, .bool cp, .bool aw, .int .i64 (cbs), .int .i64 (ebs), .int .i64 (0)]) b (newS ⟨cir, cbs, eir, ebs, cp, aw, 0, 0, 0⟩) from (HM2.out.kept (World.grownBy_alloc w2 _ none) (by simp)).kept (grownSetRow _ _ _) (by have := HM2.out.lt; simp; omega))
  have HB9 : Hid (w.heap.size ≤ w2.heap.size) := Lib.hid G2.out.size
  obtain ⟨w3, hw3⟩ : ∃ q : World, q = (w2.alloc (Obj.cells #[.int .i64 0, .int .i64 0, .int .i64 0, .int .i64 0, .bool false, .bool false, .int .i64 0, .int .i64 0, .int .i64 0] 47)).setRow w2.heap.size #[.int .i64 cir, .int .i64 cbs, .int .i64 eir, .int .i64 ebs, .bool cp, .bool aw, .int .i64 (cbs), .int .i64 (ebs), .int .i64 (0)] := ⟨_, rfl⟩
  rw [← hw3] at hb3 hx3 HG3 ⊢ HM3
  have e0 := (cell_of_row w3 (w.heap.size) 0 _ 23 (0, 0) hx3).trans (show _ = some (.int .i64 cir) from rfl)
  have e1 := (cell_of_row w3 (w.heap.size) 1 _ 23 (0, 0) hx3).trans (show _ = some (.int .i64 cbs) from rfl)
  have e2 := (cell_of_row w3 (w.heap.size) 2 _ 23 (0, 0) hx3).trans (show _ = some (.int .i64 eir) from rfl)
  have e3 := (cell_of_row w3 (w.heap.size) 3 _ 23 (0, 0) hx3).trans (show _ = some (.int .i64 ebs) from rfl)
  have e4 := (cell_of_row w3 (w.heap.size) 4 _ 23 (0, 0) hx3).trans (show _ = some (.bool cp) from rfl)
  have e5 := (cell_of_row w3 (w.heap.size) 5 _ 23 (0, 0) hx3).trans (show _ = some (.bool aw) from rfl)
  have HB3 := Lib.hid hb3
  clear hw3 hb3 hx3
  obtain ⟨B9, hB9⟩ : ∃ q, q = w2.heap.size := ⟨_, rfl⟩
  rw [← hB9] at HB3 HB9 ⊢
  clear hB9 HX2 HM2 G2 HX1 HM1 G1
  go_wp2_with (first | (go_at_call 13; refine (check_ok ⟨cir, cbs, eir, ebs, cp, aw, 0, 0, 0⟩ _ HOK.out).mono ?_; rintro e w4 ⟨rfl, hg⟩; have G4 := Lib.hid hg; clear hg) | (go_at_call 9; refine (awake_any _).mono ?_; rintro e w5 ⟨rfl, hg⟩; have G5 := Lib.hid hg; clear hg; clear e0 e1 e2 e3 e4 e5))
  have HI0 : Hid (RI w w5 B9 b (newS ⟨cir, cbs, eir, ebs, cp, aw, 0, 0, 0⟩)) := Lib.hid ⟨(HM3.out.kept G4.out (by simp)).kept G5.out (by simp), new_good _ HOK.out, blk_kept (blk_kept (show _ = some (Obj.cells (refA (newS ⟨cir, cbs, eir, ebs, cp, aw, 0, 0, 0⟩)) 47 (0, 0)) from HB3.out) G4.out (by simp)) G5.out (by simp), gbelow (gtrans (gtrans HG3.out G4.out (.inl rfl)) G5.out (.inl rfl)) (by simp), HBb.out, HB9.out⟩
  clear HM3 HB3 HG3 G4 G5 HBb HB9 HOK hone
  go_loopw [7, 11, 12] (fun mv tv iv wr => ∃ (k b : Nat) (s : MS) (t : Int), mv = .pointer (some ⟨b, 0, none⟩) ∧ tv = .int .i64 t ∧ iv = .int .i64 k ∧ k ≤ len ∧ k ≤ 100 ∧ 0 ≤ t ∧ t ≤ 1099511627776 + k * 1073741824 ∧ Hid (RI w wr B9 b s)) (fun _ _ iv _ => 100 - (intOf iv).toNat)
  case atStart => exact ⟨0, b, _, 0, rfl, rfl, rfl, by omega, by omega, by omega, by omega, HI0⟩
  case round =>
    clear HI0
    obtain ⟨k, b, s, t, rfl, rfl, rfl, hk1, hk2, ht0, ht1, HI⟩ := hrel
    by_cases hl : k < len
    · by_cases h100 : k < 100
      · skip
        obtain ⟨ab, ao, rfl, hab, hcell⟩ := HF.out.hcells (by omega)
        obtain ⟨f0, f1, f2, f3⟩ := hcell k hl
        replace f0 := below_cell HI.out.below hab f0
        replace f1 := below_cell HI.out.below hab f1
        replace f2 := below_cell HI.out.below hab f2
        replace f3 := below_cell HI.out.below hab f3
        obtain ⟨la0, la1⟩ := HF.out.hla k hl
        clear hcell hab
        generalize la k = lv at f0 la0 la1
        generalize sz k = nv at f1
        generalize co k = cv at f2
        generalize fk k = fv at f3
        have hsz4 : (Try.prog.info? 40).map (·.size) = some 4 := by kernel_rfl
        have hone4 : ((#[.int .i64 lv, .int .i64 nv, .int .i64 cv, .bool fv] : Array Value).all (·.oneCell')) = true := by kernel_rfl
        have hone9 : ∀ s : MS, ((refA s : Array Value).all (·.oneCell')) = true := fun s => by kernel_rfl
        obtain ⟨B13, hB13⟩ : ∃ q, q = wr.heap.size := ⟨_, rfl⟩
        go_upto_region 10 with (first | (refine wpList_store_rowTo rfl 40 _ _ rfl rfl wr.heap.size #[.int .i64 lv, .int .i64 nv, .int .i64 cv, .bool fv] rfl rfl 40 #[.int .i64 0, .int .i64 0, .int .i64 0, .bool false] (heap_alloc_new wr _) hsz4 rfl hone4 ?_))
        have ho := setRow_heap (wr.alloc (Obj.cells #[.int .i64 0, .int .i64 0, .int .i64 0, .bool false] 40)) wr.heap.size _ #[.int .i64 lv, .int .i64 nv, .int .i64 cv, .bool fv] 40 (0, 0) (heap_alloc_new wr _)
        have hgv : wr.grownBy ((wr.alloc (Obj.cells #[.int .i64 0, .int .i64 0, .int .i64 0, .bool false] 40)).setRow wr.heap.size #[.int .i64 lv, .int .i64 nv, .int .i64 cv, .bool fv]) none := grownNew (World.grownBy_alloc wr _ none) (grownSetRow _ _ _) (Nat.le_refl _)
        obtain ⟨v, hv⟩ : ∃ q : World, q = (wr.alloc (Obj.cells #[.int .i64 0, .int .i64 0, .int .i64 0, .bool false] 40)).setRow wr.heap.size #[.int .i64 lv, .int .i64 nv, .int .i64 cv, .bool fv] := ⟨_, rfl⟩
        rw [← hv] at ho hgv ⊢
        rw [← hB13] at ho ⊢
        have HV := Lib.hid (HI.out.grown hgv)
        have hbB : b < B13 := by rw [hB13]; exact HI.out.made.lt
        have h9B : B9 < B13 := by rw [hB13]; exact blk_lt HI.out.box
        have HbB := Lib.hid hbB
        have H9B := Lib.hid h9B
        clear hv hgv HI hB13 hbB h9B f0 f1 f2 f3 hone4
        have o0 := (cell_of_row v B13 0 _ 40 (0, 0) ho).trans (show _ = some (.int .i64 lv) from rfl)
        have o1 := (cell_of_row v B13 1 _ 40 (0, 0) ho).trans (show _ = some (.int .i64 nv) from rfl)
        have o2 := (cell_of_row v B13 2 _ 40 (0, 0) ho).trans (show _ = some (.int .i64 cv) from rfl)
        have o3 := (cell_of_row v B13 3 _ 40 (0, 0) ho).trans (show _ = some (.bool fv) from rfl)
        have HO := Lib.hid ho
        clear ho
        have hq0 : 0 ≤ lv % 1073741824 := by omega
        have hq1 : lv % 1073741824 < 1073741824 := by omega
        by_cases hlv : 0 ≤ lv
        · skip
          go_upto_region 14 with fail
          obtain ⟨tv, htv⟩ : ∃ q : Int, q = t + lv % 1073741824 := ⟨_, rfl⟩
          rw [← htv]
          have ht2 : 0 ≤ tv ∧ tv ≤ 1099511627776 + (k + 1) * 1073741824 := by omega
          clear htv
          clear o0 hq0 hq1 hlv la0 la1 ht0 ht1
          obtain ⟨s1, cx, ch, hgd, hmk, hrm⟩ := both_mark s tv nv cv HV.out.good
          obtain ⟨lu, lw, hl1, hl2⟩ := both_levels s1 raw hgd
          have HGD := Lib.hid hgd
          have HMK := Lib.hid hmk
          have HRM := Lib.hid hrm
          have HL1 := Lib.hid hl1
          have HL2 := Lib.hid hl2
          clear hgd hmk hrm hl1 hl2
          cases fv
          · skip
            obtain ⟨b1, hb1⟩ : ∃ q, q = b := ⟨_, rfl⟩
            obtain ⟨x0, hx0⟩ : ∃ q : World, q = v := ⟨_, rfl⟩
            go_upto_region 20 with fail
            rw [← hb1] at HV HbB ⊢
            rw [← hx0] at HV HO o1 o2 o3 ⊢
            clear hb1 hx0
            have HR := HV
            have HOb : Hid (b1 ≠ B13) := Lib.hid (by have := HbB.out; omega)
            clear o3 HV HbB
            go_upto_region 21 with (first | (go_at_call 10; refine (HMK.out b1 x0 HR.out.made).mono ?_; rintro e x1 ⟨rfl, hM, hg⟩; have HJ1 := Lib.hid (HR.out.marked HGD.out hM hg); have ho := blk_kept HO.out hg (by have := HOb.out; simp; omega); clear hM hg o1 o2))
            have o1 := (cell_of_row x1 B13 1 _ 40 (0, 0) ho).trans (show _ = some (.int .i64 nv) from rfl)
            have o2 := (cell_of_row x1 B13 2 _ 40 (0, 0) ho).trans (show _ = some (.int .i64 cv) from rfl)
            replace HO := Lib.hid ho
            clear ho HR HMK HOb
            have hB9 := HJ1.out.box
            have HB9 := Lib.hid hB9
            clear hB9
            go_upto_region 22 with (first | (refine wpList_load_row rfl 47 _ rfl B9 rfl 47 _ (0, 0) _ HB9.out Try.underlying47 rfl (by kernel_rfl) ?_) | (go_at_call 15; refine (HRM.out _).mono ?_; rintro e x2 ⟨rfl, hg⟩; have HJ2 := Lib.hid (HJ1.out.grown hg); clear hg) | (refine wpList_store_rowTo rfl 47 _ _ rfl rfl x2.heap.size (refA s1) rfl rfl 47 #[.int .i64 0, .int .i64 0, .int .i64 0, .int .i64 0, .bool false, .bool false, .int .i64 0, .int .i64 0, .int .i64 0] (heap_alloc_new x2 _) hsz rfl (hone9 s1) ?_))
            clear o1 o2
            have hb18 := setRow_heap (x2.alloc (Obj.cells #[.int .i64 0, .int .i64 0, .int .i64 0, .int .i64 0, .bool false, .bool false, .int .i64 0, .int .i64 0, .int .i64 0] 47)) x2.heap.size _ (refA s1) 47 (0, 0) (heap_alloc_new x2 _)
            have hg3 : x2.grownBy ((x2.alloc (Obj.cells #[.int .i64 0, .int .i64 0, .int .i64 0, .int .i64 0, .bool false, .bool false, .int .i64 0, .int .i64 0, .int .i64 0] 47)).setRow x2.heap.size (refA s1)) none := grownNew (World.grownBy_alloc x2 _ none) (grownSetRow _ _ _) (Nat.le_refl _)
            have HJ3 := Lib.hid (HJ2.out.grown hg3)
            obtain ⟨x3, hx3⟩ : ∃ q : World, q = (x2.alloc (Obj.cells #[.int .i64 0, .int .i64 0, .int .i64 0, .int .i64 0, .bool false, .bool false, .int .i64 0, .int .i64 0, .int .i64 0] 47)).setRow x2.heap.size (refA s1) := ⟨_, rfl⟩
            rw [← hx3] at hb18 HJ3 ⊢
            obtain ⟨B18, hB18⟩ : ∃ q, q = x2.heap.size := ⟨_, rfl⟩
            rw [← hB18] at hb18 ⊢
            have HB18 := Lib.hid hb18
            have HB9' := Lib.hid HJ3.out.box
            clear hx3 hB18 hb18 hg3 HJ1 HJ2 HB9 HRM
            go_upto_region 23 with (first | (refine wpList_load_row rfl 47 _ rfl B18 rfl 47 _ (0, 0) _ HB18.out Try.underlying47 rfl (by kernel_rfl) ?_) | (refine wpList_store_rowTo rfl 47 _ _ rfl rfl B9 (refA s1) rfl rfl 47 (refA s) HB9'.out hsz rfl (hone9 s1) ?_))
            have HI4 := Lib.hid HJ3.out.stored
            obtain ⟨x4, hx4⟩ : ∃ q : World, q = x3.setRow B9 (refA s1) := ⟨_, rfl⟩
            rw [← hx4] at HI4 ⊢
            clear hx4 HJ3 HB18 HB9'
            obtain ⟨r6, r7, r8⟩ := box_cells HI4.out.box
            go_upto_region 24 with fail
            have ht3 : (0 : Int) ≤ (if tv < s1.l then s1.l else tv) ∧ (if tv < s1.l then s1.l else tv) ≤ 1099511627776 + (k + 1) * 1073741824 := by have h1 := HI4.out.good.l0; have h2 := HI4.out.good.l1; split <;> omega
            obtain ⟨tn, htn⟩ : ∃ q : Int, q = if tv < s1.l then s1.l else tv := ⟨_, rfl⟩
            rw [← htn] at ht3 ⊢
            clear htn r6 r7 r8
            go_upto_region 25 with (first | (go_at_call 11; refine (HL1.out b1 x4 HI4.out.made).mono ?_; rintro e x5 ⟨rfl, hg⟩; have HI5 := Lib.hid (HI4.out.grown hg); have HB5 := Lib.hid HI5.out.box; clear hg))
            go_upto_region 26 with (first | (refine wpList_load_row rfl 47 _ rfl B9 rfl 47 _ (0, 0) _ HB5.out Try.underlying47 rfl (by kernel_rfl) ?_) | (go_at_call 16; refine (HL2.out _).mono ?_; rintro e x6 ⟨rfl, hg⟩; have HI6 := Lib.hid (HI5.out.grown hg); clear hg))
            go_upto_region 27 with (first | (go_at_call 11; refine (levels_neg b1 s1 x6 HI6.out.made HI6.out.good).mono ?_; rintro e x7 ⟨rfl, hg⟩; have HI7 := Lib.hid (HI6.out.grown hg); clear hg))
            clear HI4 HI5 HB5 HI6 HL1 HL2
            obtain ⟨r6, r7, r8⟩ := box_cells HI7.out.box
            have hlast := fun (q : Nat) => last_q b1 s1 (x7.drewN q) HI7.out.made
            go_quiet ((go_at_call 17; exact Calls.quiet_of_same (hlast _)))
            go_wp2
            go_roundw
            case rel => exact ⟨k + 1, b1, s1, tn, rfl, rfl, by go_num, by omega, by omega, ht3.1, by have := ht3.2; omega, Lib.hid (HI7.out.grown (grown_drewN _ _ _))⟩
            case measure => simp [intOf]; omega
          · skip
            go_upto_region 20 with (first | (go_at_call 14; refine (fork_of b s v HV.out.made).mono ?_; rintro e x1 ⟨rfl, hM, hg⟩; have HM1 := Lib.hid hM; have HG1 := Lib.hid hg; clear hM hg o1 o2 o3) | (go_at_call 10; refine (mark_any b s 1099511627776 1 1 x1 (HV.out.made.kept HG1.out (by simp)) HV.out.good).mono ?_; rintro e x0 ⟨rfl, hM, hg⟩; have HG0 := Lib.hid hg; clear hM hg))
            have HR := Lib.hid (HV.out.forked HG1.out (Nat.le_refl _) HM1.out HG0.out)
            have ho := blk_kept (blk_kept HO.out HG1.out (by simp)) HG0.out (by have := HbB.out; simp; omega)
            have o1 := (cell_of_row x0 B13 1 _ 40 (0, 0) ho).trans (show _ = some (.int .i64 nv) from rfl)
            have o2 := (cell_of_row x0 B13 2 _ 40 (0, 0) ho).trans (show _ = some (.int .i64 cv) from rfl)
            have hbb : v.heap.size ≠ B13 := by have := blk_lt HO.out; omega
            have HOb := Lib.hid hbb
            obtain ⟨b1, hb1⟩ : ∃ q, q = v.heap.size := ⟨_, rfl⟩
            rw [← hb1] at HR HOb ⊢
            replace HO := Lib.hid ho
            clear hb1 HV HM1 HG1 HG0 HbB hbb ho
            go_upto_region 21 with (first | (go_at_call 10; refine (HMK.out b1 x0 HR.out.made).mono ?_; rintro e x1 ⟨rfl, hM, hg⟩; have HJ1 := Lib.hid (HR.out.marked HGD.out hM hg); have ho := blk_kept HO.out hg (by have := HOb.out; simp; omega); clear hM hg o1 o2))
            have o1 := (cell_of_row x1 B13 1 _ 40 (0, 0) ho).trans (show _ = some (.int .i64 nv) from rfl)
            have o2 := (cell_of_row x1 B13 2 _ 40 (0, 0) ho).trans (show _ = some (.int .i64 cv) from rfl)
            replace HO := Lib.hid ho
            clear ho HR HMK HOb
            have hB9 := HJ1.out.box
            have HB9 := Lib.hid hB9
            clear hB9
            go_upto_region 22 with (first | (refine wpList_load_row rfl 47 _ rfl B9 rfl 47 _ (0, 0) _ HB9.out Try.underlying47 rfl (by kernel_rfl) ?_) | (go_at_call 15; refine (HRM.out _).mono ?_; rintro e x2 ⟨rfl, hg⟩; have HJ2 := Lib.hid (HJ1.out.grown hg); clear hg) | (refine wpList_store_rowTo rfl 47 _ _ rfl rfl x2.heap.size (refA s1) rfl rfl 47 #[.int .i64 0, .int .i64 0, .int .i64 0, .int .i64 0, .bool false, .bool false, .int .i64 0, .int .i64 0, .int .i64 0] (heap_alloc_new x2 _) hsz rfl (hone9 s1) ?_))
            clear o1 o2
            have hb18 := setRow_heap (x2.alloc (Obj.cells #[.int .i64 0, .int .i64 0, .int .i64 0, .int .i64 0, .bool false, .bool false, .int .i64 0, .int .i64 0, .int .i64 0] 47)) x2.heap.size _ (refA s1) 47 (0, 0) (heap_alloc_new x2 _)
            have hg3 : x2.grownBy ((x2.alloc (Obj.cells #[.int .i64 0, .int .i64 0, .int .i64 0, .int .i64 0, .bool false, .bool false, .int .i64 0, .int .i64 0, .int .i64 0] 47)).setRow x2.heap.size (refA s1)) none := grownNew (World.grownBy_alloc x2 _ none) (grownSetRow _ _ _) (Nat.le_refl _)
            have HJ3 := Lib.hid (HJ2.out.grown hg3)
            obtain ⟨x3, hx3⟩ : ∃ q : World, q = (x2.alloc (Obj.cells #[.int .i64 0, .int .i64 0, .int .i64 0, .int .i64 0, .bool false, .bool false, .int .i64 0, .int .i64 0, .int .i64 0] 47)).setRow x2.heap.size (refA s1) := ⟨_, rfl⟩
            rw [← hx3] at hb18 HJ3 ⊢
            obtain ⟨B18, hB18⟩ : ∃ q, q = x2.heap.size := ⟨_, rfl⟩
            rw [← hB18] at hb18 ⊢
            have HB18 := Lib.hid hb18
            have HB9' := Lib.hid HJ3.out.box
            clear hx3 hB18 hb18 hg3 HJ1 HJ2 HB9 HRM
            go_upto_region 23 with (first | (refine wpList_load_row rfl 47 _ rfl B18 rfl 47 _ (0, 0) _ HB18.out Try.underlying47 rfl (by kernel_rfl) ?_) | (refine wpList_store_rowTo rfl 47 _ _ rfl rfl B9 (refA s1) rfl rfl 47 (refA s) HB9'.out hsz rfl (hone9 s1) ?_))
            have HI4 := Lib.hid HJ3.out.stored
            obtain ⟨x4, hx4⟩ : ∃ q : World, q = x3.setRow B9 (refA s1) := ⟨_, rfl⟩
            rw [← hx4] at HI4 ⊢
            clear hx4 HJ3 HB18 HB9'
            obtain ⟨r6, r7, r8⟩ := box_cells HI4.out.box
            go_upto_region 24 with fail
            have ht3 : (0 : Int) ≤ (if tv < s1.l then s1.l else tv) ∧ (if tv < s1.l then s1.l else tv) ≤ 1099511627776 + (k + 1) * 1073741824 := by have h1 := HI4.out.good.l0; have h2 := HI4.out.good.l1; split <;> omega
            obtain ⟨tn, htn⟩ : ∃ q : Int, q = if tv < s1.l then s1.l else tv := ⟨_, rfl⟩
            rw [← htn] at ht3 ⊢
            clear htn r6 r7 r8
            go_upto_region 25 with (first | (go_at_call 11; refine (HL1.out b1 x4 HI4.out.made).mono ?_; rintro e x5 ⟨rfl, hg⟩; have HI5 := Lib.hid (HI4.out.grown hg); have HB5 := Lib.hid HI5.out.box; clear hg))
            go_upto_region 26 with (first | (refine wpList_load_row rfl 47 _ rfl B9 rfl 47 _ (0, 0) _ HB5.out Try.underlying47 rfl (by kernel_rfl) ?_) | (go_at_call 16; refine (HL2.out _).mono ?_; rintro e x6 ⟨rfl, hg⟩; have HI6 := Lib.hid (HI5.out.grown hg); clear hg))
            go_upto_region 27 with (first | (go_at_call 11; refine (levels_neg b1 s1 x6 HI6.out.made HI6.out.good).mono ?_; rintro e x7 ⟨rfl, hg⟩; have HI7 := Lib.hid (HI6.out.grown hg); clear hg))
            clear HI4 HI5 HB5 HI6 HL1 HL2
            obtain ⟨r6, r7, r8⟩ := box_cells HI7.out.box
            have hlast := fun (q : Nat) => last_q b1 s1 (x7.drewN q) HI7.out.made
            go_quiet ((go_at_call 17; exact Calls.quiet_of_same (hlast _)))
            go_wp2
            go_roundw
            case rel => exact ⟨k + 1, b1, s1, tn, rfl, rfl, by go_num, by omega, by omega, ht3.1, by have := ht3.2; omega, Lib.hid (HI7.out.grown (grown_drewN _ _ _))⟩
            case measure => simp [intOf]; omega
        · skip
          go_upto_region 14 with fail
          have ht2 : 0 ≤ t ∧ t ≤ 1099511627776 + (k + 1) * 1073741824 := by omega
          clear o0 hq0 hq1 hlv la0 la1 ht0 ht1
          obtain ⟨s1, cx, ch, hgd, hmk, hrm⟩ := both_mark s raw nv cv HV.out.good
          obtain ⟨lu, lw, hl1, hl2⟩ := both_levels s1 raw hgd
          have HGD := Lib.hid hgd
          have HMK := Lib.hid hmk
          have HRM := Lib.hid hrm
          have HL1 := Lib.hid hl1
          have HL2 := Lib.hid hl2
          clear hgd hmk hrm hl1 hl2
          cases fv
          · skip
            obtain ⟨b1, hb1⟩ : ∃ q, q = b := ⟨_, rfl⟩
            obtain ⟨x0, hx0⟩ : ∃ q : World, q = v := ⟨_, rfl⟩
            go_upto_region 20 with fail
            rw [← hb1] at HV HbB ⊢
            rw [← hx0] at HV HO o1 o2 o3 ⊢
            clear hb1 hx0
            have HR := HV
            have HOb : Hid (b1 ≠ B13) := Lib.hid (by have := HbB.out; omega)
            clear o3 HV HbB
            go_upto_region 21 with (first | (go_at_call 10; refine (HMK.out b1 x0 HR.out.made).mono ?_; rintro e x1 ⟨rfl, hM, hg⟩; have HJ1 := Lib.hid (HR.out.marked HGD.out hM hg); have ho := blk_kept HO.out hg (by have := HOb.out; simp; omega); clear hM hg o1 o2))
            have o1 := (cell_of_row x1 B13 1 _ 40 (0, 0) ho).trans (show _ = some (.int .i64 nv) from rfl)
            have o2 := (cell_of_row x1 B13 2 _ 40 (0, 0) ho).trans (show _ = some (.int .i64 cv) from rfl)
            replace HO := Lib.hid ho
            clear ho HR HMK HOb
            have hB9 := HJ1.out.box
            have HB9 := Lib.hid hB9
            clear hB9
            go_upto_region 22 with (first | (refine wpList_load_row rfl 47 _ rfl B9 rfl 47 _ (0, 0) _ HB9.out Try.underlying47 rfl (by kernel_rfl) ?_) | (go_at_call 15; refine (HRM.out _).mono ?_; rintro e x2 ⟨rfl, hg⟩; have HJ2 := Lib.hid (HJ1.out.grown hg); clear hg) | (refine wpList_store_rowTo rfl 47 _ _ rfl rfl x2.heap.size (refA s1) rfl rfl 47 #[.int .i64 0, .int .i64 0, .int .i64 0, .int .i64 0, .bool false, .bool false, .int .i64 0, .int .i64 0, .int .i64 0] (heap_alloc_new x2 _) hsz rfl (hone9 s1) ?_))
            clear o1 o2
            have hb18 := setRow_heap (x2.alloc (Obj.cells #[.int .i64 0, .int .i64 0, .int .i64 0, .int .i64 0, .bool false, .bool false, .int .i64 0, .int .i64 0, .int .i64 0] 47)) x2.heap.size _ (refA s1) 47 (0, 0) (heap_alloc_new x2 _)
            have hg3 : x2.grownBy ((x2.alloc (Obj.cells #[.int .i64 0, .int .i64 0, .int .i64 0, .int .i64 0, .bool false, .bool false, .int .i64 0, .int .i64 0, .int .i64 0] 47)).setRow x2.heap.size (refA s1)) none := grownNew (World.grownBy_alloc x2 _ none) (grownSetRow _ _ _) (Nat.le_refl _)
            have HJ3 := Lib.hid (HJ2.out.grown hg3)
            obtain ⟨x3, hx3⟩ : ∃ q : World, q = (x2.alloc (Obj.cells #[.int .i64 0, .int .i64 0, .int .i64 0, .int .i64 0, .bool false, .bool false, .int .i64 0, .int .i64 0, .int .i64 0] 47)).setRow x2.heap.size (refA s1) := ⟨_, rfl⟩
            rw [← hx3] at hb18 HJ3 ⊢
            obtain ⟨B18, hB18⟩ : ∃ q, q = x2.heap.size := ⟨_, rfl⟩
            rw [← hB18] at hb18 ⊢
            have HB18 := Lib.hid hb18
            have HB9' := Lib.hid HJ3.out.box
            clear hx3 hB18 hb18 hg3 HJ1 HJ2 HB9 HRM
            go_upto_region 23 with (first | (refine wpList_load_row rfl 47 _ rfl B18 rfl 47 _ (0, 0) _ HB18.out Try.underlying47 rfl (by kernel_rfl) ?_) | (refine wpList_store_rowTo rfl 47 _ _ rfl rfl B9 (refA s1) rfl rfl 47 (refA s) HB9'.out hsz rfl (hone9 s1) ?_))
            have HI4 := Lib.hid HJ3.out.stored
            obtain ⟨x4, hx4⟩ : ∃ q : World, q = x3.setRow B9 (refA s1) := ⟨_, rfl⟩
            rw [← hx4] at HI4 ⊢
            clear hx4 HJ3 HB18 HB9'
            obtain ⟨r6, r7, r8⟩ := box_cells HI4.out.box
            go_upto_region 24 with fail
            have ht3 : (0 : Int) ≤ (if t < s1.l then s1.l else t) ∧ (if t < s1.l then s1.l else t) ≤ 1099511627776 + (k + 1) * 1073741824 := by have h1 := HI4.out.good.l0; have h2 := HI4.out.good.l1; split <;> omega
            obtain ⟨tn, htn⟩ : ∃ q : Int, q = if t < s1.l then s1.l else t := ⟨_, rfl⟩
            rw [← htn] at ht3 ⊢
            clear htn r6 r7 r8
            go_upto_region 25 with (first | (go_at_call 11; refine (HL1.out b1 x4 HI4.out.made).mono ?_; rintro e x5 ⟨rfl, hg⟩; have HI5 := Lib.hid (HI4.out.grown hg); have HB5 := Lib.hid HI5.out.box; clear hg))
            go_upto_region 26 with (first | (refine wpList_load_row rfl 47 _ rfl B9 rfl 47 _ (0, 0) _ HB5.out Try.underlying47 rfl (by kernel_rfl) ?_) | (go_at_call 16; refine (HL2.out _).mono ?_; rintro e x6 ⟨rfl, hg⟩; have HI6 := Lib.hid (HI5.out.grown hg); clear hg))
            go_upto_region 27 with (first | (go_at_call 11; refine (levels_neg b1 s1 x6 HI6.out.made HI6.out.good).mono ?_; rintro e x7 ⟨rfl, hg⟩; have HI7 := Lib.hid (HI6.out.grown hg); clear hg))
            clear HI4 HI5 HB5 HI6 HL1 HL2
            obtain ⟨r6, r7, r8⟩ := box_cells HI7.out.box
            have hlast := fun (q : Nat) => last_q b1 s1 (x7.drewN q) HI7.out.made
            go_quiet ((go_at_call 17; exact Calls.quiet_of_same (hlast _)))
            go_wp2
            go_roundw
            case rel => exact ⟨k + 1, b1, s1, tn, rfl, rfl, by go_num, by omega, by omega, ht3.1, by have := ht3.2; omega, Lib.hid (HI7.out.grown (grown_drewN _ _ _))⟩
            case measure => simp [intOf]; omega
          · skip
            go_upto_region 20 with (first | (go_at_call 14; refine (fork_of b s v HV.out.made).mono ?_; rintro e x1 ⟨rfl, hM, hg⟩; have HM1 := Lib.hid hM; have HG1 := Lib.hid hg; clear hM hg o1 o2 o3) | (go_at_call 10; refine (mark_any b s 1099511627776 1 1 x1 (HV.out.made.kept HG1.out (by simp)) HV.out.good).mono ?_; rintro e x0 ⟨rfl, hM, hg⟩; have HG0 := Lib.hid hg; clear hM hg))
            have HR := Lib.hid (HV.out.forked HG1.out (Nat.le_refl _) HM1.out HG0.out)
            have ho := blk_kept (blk_kept HO.out HG1.out (by simp)) HG0.out (by have := HbB.out; simp; omega)
            have o1 := (cell_of_row x0 B13 1 _ 40 (0, 0) ho).trans (show _ = some (.int .i64 nv) from rfl)
            have o2 := (cell_of_row x0 B13 2 _ 40 (0, 0) ho).trans (show _ = some (.int .i64 cv) from rfl)
            have hbb : v.heap.size ≠ B13 := by have := blk_lt HO.out; omega
            have HOb := Lib.hid hbb
            obtain ⟨b1, hb1⟩ : ∃ q, q = v.heap.size := ⟨_, rfl⟩
            rw [← hb1] at HR HOb ⊢
            replace HO := Lib.hid ho
            clear hb1 HV HM1 HG1 HG0 HbB hbb ho
            go_upto_region 21 with (first | (go_at_call 10; refine (HMK.out b1 x0 HR.out.made).mono ?_; rintro e x1 ⟨rfl, hM, hg⟩; have HJ1 := Lib.hid (HR.out.marked HGD.out hM hg); have ho := blk_kept HO.out hg (by have := HOb.out; simp; omega); clear hM hg o1 o2))
            have o1 := (cell_of_row x1 B13 1 _ 40 (0, 0) ho).trans (show _ = some (.int .i64 nv) from rfl)
            have o2 := (cell_of_row x1 B13 2 _ 40 (0, 0) ho).trans (show _ = some (.int .i64 cv) from rfl)
            replace HO := Lib.hid ho
            clear ho HR HMK HOb
            have hB9 := HJ1.out.box
            have HB9 := Lib.hid hB9
            clear hB9
            go_upto_region 22 with (first | (refine wpList_load_row rfl 47 _ rfl B9 rfl 47 _ (0, 0) _ HB9.out Try.underlying47 rfl (by kernel_rfl) ?_) | (go_at_call 15; refine (HRM.out _).mono ?_; rintro e x2 ⟨rfl, hg⟩; have HJ2 := Lib.hid (HJ1.out.grown hg); clear hg) | (refine wpList_store_rowTo rfl 47 _ _ rfl rfl x2.heap.size (refA s1) rfl rfl 47 #[.int .i64 0, .int .i64 0, .int .i64 0, .int .i64 0, .bool false, .bool false, .int .i64 0, .int .i64 0, .int .i64 0] (heap_alloc_new x2 _) hsz rfl (hone9 s1) ?_))
            clear o1 o2
            have hb18 := setRow_heap (x2.alloc (Obj.cells #[.int .i64 0, .int .i64 0, .int .i64 0, .int .i64 0, .bool false, .bool false, .int .i64 0, .int .i64 0, .int .i64 0] 47)) x2.heap.size _ (refA s1) 47 (0, 0) (heap_alloc_new x2 _)
            have hg3 : x2.grownBy ((x2.alloc (Obj.cells #[.int .i64 0, .int .i64 0, .int .i64 0, .int .i64 0, .bool false, .bool false, .int .i64 0, .int .i64 0, .int .i64 0] 47)).setRow x2.heap.size (refA s1)) none := grownNew (World.grownBy_alloc x2 _ none) (grownSetRow _ _ _) (Nat.le_refl _)
            have HJ3 := Lib.hid (HJ2.out.grown hg3)
            obtain ⟨x3, hx3⟩ : ∃ q : World, q = (x2.alloc (Obj.cells #[.int .i64 0, .int .i64 0, .int .i64 0, .int .i64 0, .bool false, .bool false, .int .i64 0, .int .i64 0, .int .i64 0] 47)).setRow x2.heap.size (refA s1) := ⟨_, rfl⟩
            rw [← hx3] at hb18 HJ3 ⊢
            obtain ⟨B18, hB18⟩ : ∃ q, q = x2.heap.size := ⟨_, rfl⟩
            rw [← hB18] at hb18 ⊢
            have HB18 := Lib.hid hb18
            have HB9' := Lib.hid HJ3.out.box
            clear hx3 hB18 hb18 hg3 HJ1 HJ2 HB9 HRM
            go_upto_region 23 with (first | (refine wpList_load_row rfl 47 _ rfl B18 rfl 47 _ (0, 0) _ HB18.out Try.underlying47 rfl (by kernel_rfl) ?_) | (refine wpList_store_rowTo rfl 47 _ _ rfl rfl B9 (refA s1) rfl rfl 47 (refA s) HB9'.out hsz rfl (hone9 s1) ?_))
            have HI4 := Lib.hid HJ3.out.stored
            obtain ⟨x4, hx4⟩ : ∃ q : World, q = x3.setRow B9 (refA s1) := ⟨_, rfl⟩
            rw [← hx4] at HI4 ⊢
            clear hx4 HJ3 HB18 HB9'
            obtain ⟨r6, r7, r8⟩ := box_cells HI4.out.box
            go_upto_region 24 with fail
            have ht3 : (0 : Int) ≤ (if t < s1.l then s1.l else t) ∧ (if t < s1.l then s1.l else t) ≤ 1099511627776 + (k + 1) * 1073741824 := by have h1 := HI4.out.good.l0; have h2 := HI4.out.good.l1; split <;> omega
            obtain ⟨tn, htn⟩ : ∃ q : Int, q = if t < s1.l then s1.l else t := ⟨_, rfl⟩
            rw [← htn] at ht3 ⊢
            clear htn r6 r7 r8
            go_upto_region 25 with (first | (go_at_call 11; refine (HL1.out b1 x4 HI4.out.made).mono ?_; rintro e x5 ⟨rfl, hg⟩; have HI5 := Lib.hid (HI4.out.grown hg); have HB5 := Lib.hid HI5.out.box; clear hg))
            go_upto_region 26 with (first | (refine wpList_load_row rfl 47 _ rfl B9 rfl 47 _ (0, 0) _ HB5.out Try.underlying47 rfl (by kernel_rfl) ?_) | (go_at_call 16; refine (HL2.out _).mono ?_; rintro e x6 ⟨rfl, hg⟩; have HI6 := Lib.hid (HI5.out.grown hg); clear hg))
            go_upto_region 27 with (first | (go_at_call 11; refine (levels_neg b1 s1 x6 HI6.out.made HI6.out.good).mono ?_; rintro e x7 ⟨rfl, hg⟩; have HI7 := Lib.hid (HI6.out.grown hg); clear hg))
            clear HI4 HI5 HB5 HI6 HL1 HL2
            obtain ⟨r6, r7, r8⟩ := box_cells HI7.out.box
            have hlast := fun (q : Nat) => last_q b1 s1 (x7.drewN q) HI7.out.made
            go_quiet ((go_at_call 17; exact Calls.quiet_of_same (hlast _)))
            go_wp2
            go_roundw
            case rel => exact ⟨k + 1, b1, s1, tn, rfl, rfl, by go_num, by omega, by omega, ht3.1, by have := ht3.2; omega, Lib.hid (HI7.out.grown (grown_drewN _ _ _))⟩
            case measure => simp [intOf]; omega
      · go_wp2
        go_ret
        exact ⟨rfl, HI.out.below⟩
    · go_wp2
      go_ret
      exact ⟨rfl, HI.out.below⟩
end Go.Proofs.Ytjddjijcfhgndaa.W
