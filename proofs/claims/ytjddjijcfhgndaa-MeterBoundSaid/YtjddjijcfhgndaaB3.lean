/-
  The call of MeterBound returns true, at any settings and frames, in every memory, and turns nothing that was there.
-/
import Derived.Test.YtjddjijcfhgndaaB2
import Derived.Deep.DeepCutAuto
import Derived.Deep.CutBlock
import Derived.StillTailTactics
import Derived.Laws.CopyOwn
set_option linter.unusedVariables false
set_option linter.unusedSimpArgs false
namespace Go.Proofs.Ytjddjijcfhgndaa.W
open Go.RowKit

set_option maxHeartbeats 4000000 in
set_option maxRecDepth 100000 in
theorem walkBound (x0 x1 x2 x3 : Int) (cp aw : Bool) (a : Option Addr) (len cap : Nat) (la sz co : Nat → Int) (fk : Nat → Bool) (w : World) (hf : RF w a len la sz co fk) :
    Calls Try.prog 4 #[.agg #[.int .i64 x0, .int .i64 x1, .int .i64 x2, .int .i64 x3, .bool cp, .bool aw], .slice a len cap] w fun e w' => e = .returned (.bool true) ∧ Below w.heap.size w w' := by
  have HF := Lib.hid hf
  have hlen := hf.hlen
  clear hf
  have hsz : (Try.prog.info? 23).map (·.size) = some 6 := by kernel_rfl
  go_enter Try.func4, Try.ntmps4
  go_upto_region 2 with (first
    | (go_at_call 7; refine (small_of x0 x1 x2 x3 cp aw _).mono ?_; rintro e w1 ⟨⟨y0, y1, y2, y3, rfl, hy⟩, hg⟩; have hb1 := Lib.hid (blk_kept (heap_alloc_new w _) hg (by simp)); have G1 := Lib.hid hg; clear hg; have hone : ((#[.int .i64 y0, .int .i64 y1, .int .i64 y2, .int .i64 y3, .bool cp, .bool aw] : Array Value).all (·.oneCell')) = true := by kernel_rfl)
    | (refine wpList_store_rowTo rfl 23 _ _ rfl rfl w.heap.size #[.int .i64 y0, .int .i64 y1, .int .i64 y2, .int .i64 y3, .bool cp, .bool aw] rfl rfl 23 _ hb1.out hsz rfl hone ?_))
  have hb2 := setRow_heap w1 w.heap.size _ #[.int .i64 y0, .int .i64 y1, .int .i64 y2, .int .i64 y3, .bool cp, .bool aw] 23 (0, 0) hb1.out
  have HB2 : Hid (Below w.heap.size w (w1.setRow w.heap.size #[.int .i64 y0, .int .i64 y1, .int .i64 y2, .int .i64 y3, .bool cp, .bool aw])) := Lib.hid (below_setRow (gbelow (gtrans (World.grownBy_alloc w _ none) G1.out (.inl rfl)) (by simp)) (Nat.le_refl _) _)
  obtain ⟨w2, hw2⟩ : ∃ q : World, q = w1.setRow w.heap.size #[.int .i64 y0, .int .i64 y1, .int .i64 y2, .int .i64 y3, .bool cp, .bool aw] := ⟨_, rfl⟩
  rw [← hw2] at hb2 HB2 ⊢
  clear hw2 hone hb1 G1
  have hok : okc ⟨y0, y1, y2, y3, cp, aw, 0, 0, 0⟩ := by have := hy.out; simp only [okc]; omega
  have HOK := Lib.hid hok
  have HX := Lib.hid hb2
  clear hb2 hok
  go_wp2_with (first
    | (refine wpList_load_row rfl 23 _ rfl w.heap.size rfl 23 _ (0, 0) _ HX.out Try.underlying23 rfl (by kernel_rfl) ?_)
    | (go_at_call 8; refine (new_ok ⟨y0, y1, y2, y3, cp, aw, 0, 0, 0⟩ _ HOK.out).mono ?_; rintro e w4 ⟨b, rfl, hM, hg, hb⟩; have HM := Lib.hid hM; have HG4 := Lib.hid hg; have HBB := Lib.hid hb; clear hM hg hb)
    | (go_at_call 9; refine (awake_any _).mono ?_; rintro e w5 ⟨rfl, hg⟩; have HG5 := Lib.hid hg; clear hg))
  obtain ⟨Bc, hBc⟩ : ∃ q, q = w.heap.size := ⟨_, rfl⟩
  have HI0 : Hid (QB w w5 b Bc y0 y1 y2 y3 cp aw (newS ⟨y0, y1, y2, y3, cp, aw, 0, 0, 0⟩) [] (.slice none 0 0)) := Lib.hid ⟨HM.out.kept HG5.out (by simp), BI.first _ (new_good _ HOK.out), rfl, rfl, rfl, rfl, by rw [hBc]; exact blk_kept (blk_kept HX.out HG4.out (by simp)) HG5.out (by simp), World.ownsRow_nil _ _ _ _, (HB2.out.grown HG4.out HB2.out.size (by simp)).grown HG5.out (Nat.le_trans HB2.out.size HG4.out.size) (by simp), Nat.le_trans HB2.out.size HBB.out⟩
  rw [← hBc] at ⊢
  clear hBc HB2 HX HM HG4 HG5 HBB HOK
  go_loopw [7, 8, 9] (fun du tv iv wr => ∃ (k : Nat) (s : MS) (t : Int) (D : List Mk) (dv : Value), dv = du ∧ tv = .int .i64 t ∧ iv = .int .i64 k ∧ k ≤ len ∧ k ≤ 40 ∧ 0 ≤ t ∧ t ≤ 8 * k ∧ Hid (QB w wr b Bc y0 y1 y2 y3 cp aw s D dv ∧ s.l ≤ t ∧ D.length ≤ k)) (fun _ _ iv _ => 40 - (intOf iv).toNat)
  case atStart => exact ⟨0, _, 0, [], _, rfl, rfl, rfl, by omega, by omega, by omega, by omega, Lib.hid ⟨HI0.out, Int.le_refl _, Nat.le_refl _⟩⟩
  case round =>
    clear HI0
    obtain ⟨k, s, t, D, dv, hdv, rfl, rfl, hk1, hk2, ht0, ht1, HI⟩ := hrel
    subst hdv
    by_cases hl : k < len
    · by_cases h40 : k < 40
      · obtain ⟨ab, ao, rfl, hab, hcell⟩ := HF.out.hcells (by omega)
        obtain ⟨f0, f1, f2, f3⟩ := hcell k hl
        replace f0 := below_cell HI.out.1.below hab f0
        replace f1 := below_cell HI.out.1.below hab f1
        replace f2 := below_cell HI.out.1.below hab f2
        obtain ⟨la0, la1⟩ := HF.out.hla k hl
        clear hcell f3
        generalize la k = lv at f0 la0 la1
        generalize sz k = nv at f1
        generalize co k = cv at f2
        have HAB := Lib.hid hab
        clear hab
        go_upto_region 11 with fail
        obtain ⟨r0, r1⟩ := small_bd lv 8 (by omega) (by omega)
        generalize wrap64 ((IntKind.u64.wrap lv).tmod 8) = z at r0 r1 ⊢
        have hw : wrap64 (t + z) = t + z := IntWalk.wrap64_in _ ⟨by omega, by omega⟩
        rw [hw]
        obtain ⟨t', ht'⟩ : ∃ q, q = t + z := ⟨_, rfl⟩
        rw [← ht']
        have ht2 : 0 ≤ t' ∧ t' ≤ 8 * (k + 1) := by omega
        have HT : Hid (s.l ≤ t' ∧ t' ≤ 1099511627776) := Lib.hid (by have := HI.out.2.1; omega)
        clear hw ht' r0 r1 f0 la0 la1 ht0 ht1
        have hlv := fun (W : World) (hW : MH W b s) => levels_of b s t' W hW HI.out.1.bi.good HT.out.1 HT.out.2
        obtain ⟨u, hu⟩ : ∃ q, q = (fillS s t').g := ⟨_, rfl⟩
        obtain ⟨v, hv⟩ : ∃ q, q = (fillS s t').m := ⟨_, rfl⟩
        rw [← hu, ← hv] at hlv
        have HLV := Lib.hid hlv
        have HU := Lib.hid (And.intro hu hv)
        clear hlv hu hv
        go_upto_region 12 with (first | (go_at_call 11; refine (HLV.out _ HI.out.1.made).mono ?_; rintro e w6 ⟨rfl, hg⟩; have HI6 := Lib.hid (HI.out.1.grown hg); replace f1 := hg.cell f1 (by simp); replace f2 := hg.cell f2 (by simp); clear hg))
        by_cases hok : okf nv cv
        · have HOKF := Lib.hid hok
          clear hok
          obtain ⟨xv, hxv⟩ : ∃ q, q = (markS s t' nv cv).2 := ⟨_, rfl⟩
          obtain ⟨s1, hs1⟩ : ∃ q, q = (markS s t' nv cv).1 := ⟨_, rfl⟩
          have hmk := fun (W : World) (hW : QB w W b Bc y0 y1 y2 y3 cp aw s D dv) => mark_of b s t' nv cv W hW.made hW.bi.good HT.out.1 HT.out.2 HOKF.out
          have hqm := fun (W W' : World) (hW : QB w W b Bc y0 y1 y2 y3 cp aw s D dv) => hW.mark (w' := W') HT.out.1 HT.out.2 HOKF.out
          rw [← hxv, ← hs1] at hqm
          rw [← hxv, ← hs1] at hmk
          have HMK := Lib.hid hmk
          have HQM := Lib.hid hqm
          have HS1 := Lib.hid (And.intro hs1 hxv)
          clear hmk hqm hs1 hxv
          go_region_held3 (fun w' => w'.cell? ⟨ab, ao + k * 4 + 1, none⟩ = some (.int .i64 nv) ∧ w'.cell? ⟨ab, ao + k * 4 + 2, none⟩ = some (.int .i64 cv))
            (first | exact ⟨f1, f2⟩ | exact ⟨g1, g2⟩)
            (first | (go_at_call 10; refine (HMK.out _ (HI6.out.grown (grown_drew _ none))).mono ?_; rintro e w7 ⟨rfl, hM, hg⟩; have HM7 := Lib.hid (HQM.out _ _ (HI6.out.grown (grown_drew _ none)) hM hg); have g1 := hg.cell (show _ = some (.int .i64 nv) from f1) (by have := HAB.out; have := HI6.out.hb; simp; omega); have g2 := hg.cell (show _ = some (.int .i64 cv) from f2) (by have := HAB.out; have := HI6.out.hb; simp; omega); clear hM hg))
          have hlv2 := fun (W : World) (hW : MH W b s1) => levels_of b s1 t' W hW HM7.out.bi.good (by rw [HS1.out.1, (mark_sets s t' nv cv).2.2.2.2.1]; exact Int.le_refl _) HT.out.2
          obtain ⟨u2, hu2⟩ : ∃ q, q = (fillS s1 t').g := ⟨_, rfl⟩
          obtain ⟨v2, hv2⟩ : ∃ q, q = (fillS s1 t').m := ⟨_, rfl⟩
          rw [← hu2, ← hv2] at hlv2
          have hred : xv = 3 → u2 = u ∧ v2 = v := fun h => by
            have h1 := red_same s t' nv cv HI.out.1.bi.good HT.out.1 HT.out.2 (by rw [← HS1.out.2]; exact h)
            rw [hu2, hv2, HU.out.1, HU.out.2, HS1.out.1, h1]
            exact ⟨rfl, rfl⟩
          have hxc : xv = 1 ∨ xv = 2 ∨ xv = 3 := by rw [HS1.out.2]; exact mark_xc s t' nv cv
          have HLV2 := Lib.hid hlv2
          have HRED := Lib.hid hred
          have HL7 : Hid (s1.l ≤ t') := Lib.hid (by rw [HS1.out.1, (mark_sets s t' nv cv).2.2.2.2.1]; exact Int.le_refl _)
          clear hlv2 hred hu2 hv2 f1 f2 g2 HMK HQM
          go_upto_region 15 with (first | (go_at_call 11; refine (HLV2.out _ HM7.out.made).mono ?_; rintro e w8 ⟨rfl, hg⟩; have HM8 := Lib.hid (HM7.out.grown hg); replace g1 := hg.cell g1 (by simp); clear hg))
          obtain ⟨i0, hi, hz0, hz1, hz2⟩ := info_parts info44
          have HM9 := Lib.hid (HM8.out.alloc (.cells #[.int .i64 t', .int .i64 nv, .int .i64 xv] 44))
          have HB9 : Hid (w.heap.size ≤ (w8.alloc (.cells #[.int .i64 t', .int .i64 nv, .int .i64 xv] 44)).heap.size ∧ D.length + 1 ≤ 41) := Lib.hid ⟨HM9.out.below.size, by have := HI.out.2.2; omega⟩
          have HNEW := Lib.hid (cells3_new w8 44 (.int .i64 t') (.int .i64 nv) (.int .i64 xv))
          have hnext : Hid (∀ (W : World) (dv' : Value), W.ownsRow w.heap.size 44 3 dv' (D.length + 1) (D.flatMap mkC ++ [.int .i64 t', .int .i64 nv, .int .i64 xv]) → (w8.alloc (.cells #[.int .i64 t', .int .i64 nv, .int .i64 xv] 44)).grownBy W dv.ownBlock → QB w W b Bc y0 y1 y2 y3 cp aw s1 (D ++ [⟨t', nv, xv⟩]) dv') := Lib.hid (fun W dv' ho hg => by
            have h9 := HM9.out
            have h10 := h9.app (dv' := dv') (w' := W) ho hg
            exact h10)
          rcases hxc with rfl | rfl | rfl
          · skip
            go_wp2_with (first | (at_builtin; refine wpList_append_own _ rfl _ _ 37 rfl w.heap.size 44 i0 (.agg #[.int .i64 0, .int .i64 0, .int .i64 0]) 3 24 Try.underlying37 hi hz0 hz1 hz2 rfl (by decide) dv D.length _ rfl HM9.out.row ⟨w8.heap.size, 0, none⟩ 1 1 [.int .i64 t', .int .i64 nv, .int .i64 1] rfl rfl HNEW.out (by simp [Value.oneCell']) (by have := HB9.out.2; unfold maxLen; omega) (by have := HB9.out.2; omega) HB9.out.1 ?_; intro dv' w10 ho hg _; have HQ := Lib.hid (hnext.out _ _ ho hg); clear ho hg))
            go_roundw
            case rel => exact ⟨k + 1, s1, t', D ++ [⟨t', nv, 1⟩], _, rfl, rfl, by go_num, by omega, by omega, ht2.1, by have := ht2.2; omega, Lib.hid ⟨HQ.out, HL7.out, by have := HI.out.2.2; simp; omega⟩⟩
            case measure => simp [intOf]; omega
          · skip
            go_wp2_with (first | (at_builtin; refine wpList_append_own _ rfl _ _ 37 rfl w.heap.size 44 i0 (.agg #[.int .i64 0, .int .i64 0, .int .i64 0]) 3 24 Try.underlying37 hi hz0 hz1 hz2 rfl (by decide) dv D.length _ rfl HM9.out.row ⟨w8.heap.size, 0, none⟩ 1 1 [.int .i64 t', .int .i64 nv, .int .i64 2] rfl rfl HNEW.out (by simp [Value.oneCell']) (by have := HB9.out.2; unfold maxLen; omega) (by have := HB9.out.2; omega) HB9.out.1 ?_; intro dv' w10 ho hg _; have HQ := Lib.hid (hnext.out _ _ ho hg); clear ho hg))
            go_roundw
            case rel => exact ⟨k + 1, s1, t', D ++ [⟨t', nv, 2⟩], _, rfl, rfl, by go_num, by omega, by omega, ht2.1, by have := ht2.2; omega, Lib.hid ⟨HQ.out, HL7.out, by have := HI.out.2.2; simp; omega⟩⟩
            case measure => simp [intOf]; omega
          · obtain ⟨e1, e2⟩ := HRED.out rfl
            subst e1 e2
            go_wp2_with (first | (at_builtin; refine wpList_append_own _ rfl _ _ 37 rfl w.heap.size 44 i0 (.agg #[.int .i64 0, .int .i64 0, .int .i64 0]) 3 24 Try.underlying37 hi hz0 hz1 hz2 rfl (by decide) dv D.length _ rfl HM9.out.row ⟨w8.heap.size, 0, none⟩ 1 1 [.int .i64 t', .int .i64 nv, .int .i64 3] rfl rfl HNEW.out (by simp [Value.oneCell']) (by have := HB9.out.2; unfold maxLen; omega) (by have := HB9.out.2; omega) HB9.out.1 ?_; intro dv' w10 ho hg _; have HQ := Lib.hid (hnext.out _ _ ho hg); clear ho hg))
            go_roundw
            case rel => exact ⟨k + 1, s1, t', D ++ [⟨t', nv, 3⟩], _, rfl, rfl, by go_num, by omega, by omega, ht2.1, by have := ht2.2; omega, Lib.hid ⟨HQ.out, HL7.out, by have := HI.out.2.2; simp; omega⟩⟩
            case measure => simp [intOf]; omega
        · have hmk := fun (W : World) (hW : QB w W b Bc y0 y1 y2 y3 cp aw s D dv) => mark_bad b s t' nv cv W hW.made HT.out.1 HT.out.2 hok
          have HMK := Lib.hid hmk
          clear hmk hok
          go_region_held3 (fun w' => w'.cell? ⟨ab, ao + k * 4 + 1, none⟩ = some (.int .i64 nv) ∧ w'.cell? ⟨ab, ao + k * 4 + 2, none⟩ = some (.int .i64 cv))
            (first | exact ⟨f1, f2⟩ | exact ⟨g1, g2⟩)
            (first | (go_at_call 10; refine (HMK.out _ (HI6.out.grown (grown_drew _ none))).mono ?_; rintro e w7 ⟨rfl, hw7⟩; have HM7 : Hid (QB w w7 b Bc y0 y1 y2 y3 cp aw s D dv) := Lib.hid (hw7 ▸ HI6.out.grown (grown_drew _ none)); have g1 : w7.cell? ⟨ab, ao + k * 4 + 1, none⟩ = some (.int .i64 nv) := hw7 ▸ f1; have g2 : w7.cell? ⟨ab, ao + k * 4 + 2, none⟩ = some (.int .i64 cv) := hw7 ▸ f2; clear hw7))
          clear f1 f2 g1 g2
          go_wp2
          go_roundw
          case rel => exact ⟨k + 1, s, t', D, dv, rfl, rfl, by go_num, by omega, by omega, ht2.1, by have := ht2.2; omega, Lib.hid ⟨HM7.out, HT.out.1, by have := HI.out.2.2; omega⟩⟩
          case measure => simp [intOf]; omega
      · skip
        obtain ⟨da, dc, hdv⟩ := own_len HI.out.1.row
        subst hdv
        obtain ⟨⟨y00, y01⟩, ⟨y10, y11⟩, ⟨y20, y21⟩, ⟨y30, y31⟩⟩ := hy.out
        have hD40 : D.length ≤ 40 := by have := HI.out.2.2; omega
        have HST : Hid (s.l ≤ 320) := Lib.hid (by have := HI.out.2.1; omega)
        have HBE : Hid (Below w.heap.size w wr) := Lib.hid HI.out.1.below
        clear ht0 ht1 hlen
        go_wp2
        go_loopw [16] (fun iv w2 => ∃ (i m : Nat), iv = .int .i64 i ∧ i ≤ D.length ∧ w2 = wr.drewN m) (fun iv _ => D.length - (intOf iv).toNat)
        case atStart => exact ⟨0, 0, rfl, by omega, rfl⟩
        case round =>
          obtain ⟨i, m, rfl, hi, rfl⟩ := hrel
          by_cases hi2 : i < D.length
          · go_wp2
            go_loopw [17, 18, 19] (fun gv av kv w3 => ∃ (j q : Nat) (g al : Int), gv = .int .i64 g ∧ av = .int .i64 al ∧ kv = .int .i64 j ∧ i ≤ j ∧ j ≤ D.length ∧ w3 = wr.drewN q ∧ 0 ≤ g ∧ g ≤ 2048 * (j - i) ∧ 0 ≤ al ∧ al ≤ 2048 * (j - i) ∧ Hid (g = sg ((D.drop i).take (j - i)) ∧ al = sa ((D.drop i).take (j - i)))) (fun _ _ kv _ => D.length - (intOf kv).toNat)
            case atStart => exact ⟨i, m, 0, 0, rfl, rfl, rfl, Nat.le_refl _, hi, rfl, by omega, by omega, by omega, by omega, Lib.hid ⟨by simp [sg], by simp [sa]⟩⟩
            case round =>
              obtain ⟨j, q, g, al, rfl, rfl, rfl, hij, hj, rfl, g0, g1, a0, a1, HG⟩ := hrel
              by_cases hj2 : j < D.length
              · obtain ⟨gb, gc, hdv, hc⟩ := row_cells HI.out.1.row (by omega)
                injection hdv with e1 _ e3
                subst e1 e3
                obtain ⟨cj0, cj1, cj2⟩ := hc j hj2
                obtain ⟨ci0, _, _⟩ := hc i hi2
                have cf0 := (cell_of_row wr Bc 0 _ 23 (0, 0) HI.out.1.conf).trans (show _ = some (.int .i64 y0) from rfl)
                have cf1 := (cell_of_row wr Bc 1 _ 23 (0, 0) HI.out.1.conf).trans (show _ = some (.int .i64 y1) from rfl)
                have cf2 := (cell_of_row wr Bc 2 _ 23 (0, 0) HI.out.1.conf).trans (show _ = some (.int .i64 y2) from rfl)
                have cf3 := (cell_of_row wr Bc 3 _ 23 (0, 0) HI.out.1.conf).trans (show _ = some (.int .i64 y3) from rfl)
                have hst := stretch D i j hij hj2
                have hall := HI.out.1.bi.all i j hij hj2
                rw [hst, sg_snoc, sa_snoc, HI.out.1.e0, HI.out.1.e1, HI.out.1.e2, HI.out.1.e3] at hall
                rw [← HG.out.1, ← HG.out.2] at hall
                have hxj := HI.out.1.bi.each (D.getD j default) (by rw [List.getD_eq_getElem?_getD, List.getElem?_eq_getElem hj2]; exact List.getElem_mem _)
                have hxi := HI.out.1.bi.each (D.getD i default) (by rw [List.getD_eq_getElem?_getD, List.getElem?_eq_getElem hi2]; exact List.getElem_mem _)
                have hsum : Hid (∀ g' al', g' = g + gw (D.getD j default) → al' = al + yw (D.getD j default) → g' = sg ((D.drop i).take (j + 1 - i)) ∧ al' = sa ((D.drop i).take (j + 1 - i))) := Lib.hid (fun g' al' h1 h2 => by
                  rw [hst, sg_snoc, sa_snoc, ← HG.out.1, ← HG.out.2]
                  exact ⟨h1, h2⟩)
                have hsl := HST.out
                simp only [atm] at hall
                generalize D.getD j default = x at cj0 cj1 cj2 hall hxj hsum
                generalize D.getD i default = z at ci0 hall hxi
                obtain ⟨xa, xn, xc⟩ := x
                obtain ⟨za, zn, zc⟩ := z
                simp only at cj0 cj1 cj2 ci0 hxj hxi hall
                obtain ⟨q1, q2⟩ := hall
                obtain ⟨n1, n2, m1, m2, c1, c2⟩ := hxj
                obtain ⟨_, _, m3, m4, _, _⟩ := hxi
                have d1 : -320 ≤ xa - za := by omega
                have d2 : xa - za ≤ 320 := by omega
                obtain ⟨p1, p2⟩ := mul_bd y0 (xa - za) 300 320 y00 (by omega) d1 d2 (by omega) (by omega)
                obtain ⟨p3, p4⟩ := mul_bd (y0 + y2) (xa - za) 600 320 (by omega) (by omega) d1 d2 (by omega) (by omega)
                have hwd : IntKind.i64.wrap (xa - za) = xa - za := IntWalk.i64_in _ (by omega)
                have hxc : xc = 1 ∨ xc = 2 ∨ xc = 3 := by omega
                clear hc hst m1 m2 m3 m4 c1 c2 hsl
                rcases hxc with rfl | rfl | rfl
                · simp only [gw, yw, if_true] at q1 q2 hsum
                  go_upto_region 29 with fail
                  go_quiet (fail)
                  go_upto_region 30 with fail
                  generalize xa - za = d at *
                  go_wp2
                  go_roundw
                  case rel => exact ⟨j + 1, q + nq, g + xn, al + xn, rfl, rfl, by go_num, by omega, by omega, by simp, by omega, by omega, by omega, by omega, Lib.hid (hsum.out _ _ (by simp) (by simp))⟩
                  case measure => simp [intOf]; omega
                · simp [gw, yw] at q1 q2
                  go_upto_region 29 with fail
                  go_quiet (fail)
                  go_upto_region 30 with fail
                  generalize xa - za = d at *
                  go_wp2
                  go_roundw
                  case rel => exact ⟨j + 1, q + nq, g, al + xn, rfl, rfl, by go_num, by omega, by omega, by simp, by omega, by omega, by omega, by omega, Lib.hid (hsum.out _ _ (by simp [gw]) (by simp [yw]))⟩
                  case measure => simp [intOf]; omega
                · simp [gw, yw] at q1 q2
                  go_upto_region 29 with fail
                  go_quiet (fail)
                  go_upto_region 30 with fail
                  generalize xa - za = d at *
                  go_wp2
                  go_roundw
                  case rel => exact ⟨j + 1, q + nq, g, al, rfl, rfl, by go_num, by omega, by omega, by simp, by omega, by omega, by omega, by omega, Lib.hid (hsum.out _ _ (by simp [gw]) (by simp [yw]))⟩
                  case measure => simp [intOf]; omega
              · go_wp2
                go_roundw
                case rel => exact ⟨i + 1, q, by go_num, by omega, rfl⟩
                case measure => simp [intOf]; omega
          · go_wp2
            go_ret
            exact ⟨rfl, HBE.out.grown (grown_drewN _ m none) HBE.out.size (by simp)⟩
    · skip
      obtain ⟨da, dc, hdv⟩ := own_len HI.out.1.row
      subst hdv
      obtain ⟨⟨y00, y01⟩, ⟨y10, y11⟩, ⟨y20, y21⟩, ⟨y30, y31⟩⟩ := hy.out
      have hD40 : D.length ≤ 40 := by have := HI.out.2.2; omega
      have HST : Hid (s.l ≤ 320) := Lib.hid (by have := HI.out.2.1; omega)
      have HBE : Hid (Below w.heap.size w wr) := Lib.hid HI.out.1.below
      clear ht0 ht1 hlen
      go_wp2
      go_loopw [16] (fun iv w2 => ∃ (i m : Nat), iv = .int .i64 i ∧ i ≤ D.length ∧ w2 = wr.drewN m) (fun iv _ => D.length - (intOf iv).toNat)
      case atStart => exact ⟨0, 0, rfl, by omega, rfl⟩
      case round =>
        obtain ⟨i, m, rfl, hi, rfl⟩ := hrel
        by_cases hi2 : i < D.length
        · go_wp2
          go_loopw [17, 18, 19] (fun gv av kv w3 => ∃ (j q : Nat) (g al : Int), gv = .int .i64 g ∧ av = .int .i64 al ∧ kv = .int .i64 j ∧ i ≤ j ∧ j ≤ D.length ∧ w3 = wr.drewN q ∧ 0 ≤ g ∧ g ≤ 2048 * (j - i) ∧ 0 ≤ al ∧ al ≤ 2048 * (j - i) ∧ Hid (g = sg ((D.drop i).take (j - i)) ∧ al = sa ((D.drop i).take (j - i)))) (fun _ _ kv _ => D.length - (intOf kv).toNat)
          case atStart => exact ⟨i, m, 0, 0, rfl, rfl, rfl, Nat.le_refl _, hi, rfl, by omega, by omega, by omega, by omega, Lib.hid ⟨by simp [sg], by simp [sa]⟩⟩
          case round =>
            obtain ⟨j, q, g, al, rfl, rfl, rfl, hij, hj, rfl, g0, g1, a0, a1, HG⟩ := hrel
            by_cases hj2 : j < D.length
            · obtain ⟨gb, gc, hdv, hc⟩ := row_cells HI.out.1.row (by omega)
              injection hdv with e1 _ e3
              subst e1 e3
              obtain ⟨cj0, cj1, cj2⟩ := hc j hj2
              obtain ⟨ci0, _, _⟩ := hc i hi2
              have cf0 := (cell_of_row wr Bc 0 _ 23 (0, 0) HI.out.1.conf).trans (show _ = some (.int .i64 y0) from rfl)
              have cf1 := (cell_of_row wr Bc 1 _ 23 (0, 0) HI.out.1.conf).trans (show _ = some (.int .i64 y1) from rfl)
              have cf2 := (cell_of_row wr Bc 2 _ 23 (0, 0) HI.out.1.conf).trans (show _ = some (.int .i64 y2) from rfl)
              have cf3 := (cell_of_row wr Bc 3 _ 23 (0, 0) HI.out.1.conf).trans (show _ = some (.int .i64 y3) from rfl)
              have hst := stretch D i j hij hj2
              have hall := HI.out.1.bi.all i j hij hj2
              rw [hst, sg_snoc, sa_snoc, HI.out.1.e0, HI.out.1.e1, HI.out.1.e2, HI.out.1.e3] at hall
              rw [← HG.out.1, ← HG.out.2] at hall
              have hxj := HI.out.1.bi.each (D.getD j default) (by rw [List.getD_eq_getElem?_getD, List.getElem?_eq_getElem hj2]; exact List.getElem_mem _)
              have hxi := HI.out.1.bi.each (D.getD i default) (by rw [List.getD_eq_getElem?_getD, List.getElem?_eq_getElem hi2]; exact List.getElem_mem _)
              have hsum : Hid (∀ g' al', g' = g + gw (D.getD j default) → al' = al + yw (D.getD j default) → g' = sg ((D.drop i).take (j + 1 - i)) ∧ al' = sa ((D.drop i).take (j + 1 - i))) := Lib.hid (fun g' al' h1 h2 => by
                rw [hst, sg_snoc, sa_snoc, ← HG.out.1, ← HG.out.2]
                exact ⟨h1, h2⟩)
              have hsl := HST.out
              simp only [atm] at hall
              generalize D.getD j default = x at cj0 cj1 cj2 hall hxj hsum
              generalize D.getD i default = z at ci0 hall hxi
              obtain ⟨xa, xn, xc⟩ := x
              obtain ⟨za, zn, zc⟩ := z
              simp only at cj0 cj1 cj2 ci0 hxj hxi hall
              obtain ⟨q1, q2⟩ := hall
              obtain ⟨n1, n2, m1, m2, c1, c2⟩ := hxj
              obtain ⟨_, _, m3, m4, _, _⟩ := hxi
              have d1 : -320 ≤ xa - za := by omega
              have d2 : xa - za ≤ 320 := by omega
              obtain ⟨p1, p2⟩ := mul_bd y0 (xa - za) 300 320 y00 (by omega) d1 d2 (by omega) (by omega)
              obtain ⟨p3, p4⟩ := mul_bd (y0 + y2) (xa - za) 600 320 (by omega) (by omega) d1 d2 (by omega) (by omega)
              have hwd : IntKind.i64.wrap (xa - za) = xa - za := IntWalk.i64_in _ (by omega)
              have hxc : xc = 1 ∨ xc = 2 ∨ xc = 3 := by omega
              clear hc hst m1 m2 m3 m4 c1 c2 hsl
              rcases hxc with rfl | rfl | rfl
              · simp only [gw, yw, if_true] at q1 q2 hsum
                go_upto_region 29 with fail
                go_quiet (fail)
                go_upto_region 30 with fail
                generalize xa - za = d at *
                go_wp2
                go_roundw
                case rel => exact ⟨j + 1, q + nq, g + xn, al + xn, rfl, rfl, by go_num, by omega, by omega, by simp, by omega, by omega, by omega, by omega, Lib.hid (hsum.out _ _ (by simp) (by simp))⟩
                case measure => simp [intOf]; omega
              · simp [gw, yw] at q1 q2
                go_upto_region 29 with fail
                go_quiet (fail)
                go_upto_region 30 with fail
                generalize xa - za = d at *
                go_wp2
                go_roundw
                case rel => exact ⟨j + 1, q + nq, g, al + xn, rfl, rfl, by go_num, by omega, by omega, by simp, by omega, by omega, by omega, by omega, Lib.hid (hsum.out _ _ (by simp [gw]) (by simp [yw]))⟩
                case measure => simp [intOf]; omega
              · simp [gw, yw] at q1 q2
                go_upto_region 29 with fail
                go_quiet (fail)
                go_upto_region 30 with fail
                generalize xa - za = d at *
                go_wp2
                go_roundw
                case rel => exact ⟨j + 1, q + nq, g, al, rfl, rfl, by go_num, by omega, by omega, by simp, by omega, by omega, by omega, by omega, Lib.hid (hsum.out _ _ (by simp [gw]) (by simp [yw]))⟩
                case measure => simp [intOf]; omega
            · go_wp2
              go_roundw
              case rel => exact ⟨i + 1, q, by go_num, by omega, rfl⟩
              case measure => simp [intOf]; omega
        · go_wp2
          go_ret
          exact ⟨rfl, HBE.out.grown (grown_drewN _ m none) HBE.out.size (by simp)⟩
end Go.Proofs.Ytjddjijcfhgndaa.W
