/-
  The call of MeterKept returns true, at any settings and sizes, in every memory, and turns nothing that was there.
-/
import Derived.Test.YtjddjijcfhgndaaK1
import Derived.Test.YtjddjijcfhgndaaK2
import Derived.Laws.CopyOwn
set_option linter.unusedVariables false
set_option linter.unusedSimpArgs false
namespace Go.Proofs.Ytjddjijcfhgndaa.W
open Go.RowKit

def RU (W : World) (a : Option Addr) (len : Nat) (f : Nat → Int) : Prop :=
  len ≤ 9223372036854775807 ∧ (∀ j, j < len → 0 ≤ f j ∧ f j ≤ 65535) ∧ (0 < len → ∃ b o, a = some ⟨b, o, none⟩ ∧ b < W.heap.size ∧ ∀ j, j < len → W.cell? ⟨b, o + j, none⟩ = some (.int .u16 (f j)))

set_option maxHeartbeats 4000000 in
theorem walkKept (x0 x1 x2 x3 : Int) (cp aw : Bool) (a : Option Addr) (len cap : Nat) (f : Nat → Int) (w : World) (hf : RU w a len f) :
    Calls Try.prog 3 #[.agg #[.int .i64 x0, .int .i64 x1, .int .i64 x2, .int .i64 x3, .bool cp, .bool aw], .slice a len cap] w fun e w' => e = .returned (.bool true) ∧ Below w.heap.size w w' := by
  have HF := Lib.hid hf
  have hlen := hf.1
  clear hf
  have hsz : (Try.prog.info? 23).map (·.size) = some 6 := by kernel_rfl
  go_enter Try.func3, Try.ntmps3
  go_upto_region 2 with (first
    | (go_at_call 7; refine (small_of x0 x1 x2 x3 cp aw _).mono ?_; rintro e w1 ⟨⟨y0, y1, y2, y3, rfl, hy⟩, hg⟩; have hb1 := Lib.hid (blk_kept (heap_alloc_new w _) hg (by simp)); have G1 := Lib.hid hg; clear hg; have hone : ((#[.int .i64 y0, .int .i64 y1, .int .i64 y2, .int .i64 y3, .bool cp, .bool aw] : Array Value).all (·.oneCell')) = true := by kernel_rfl)
    | (refine wpList_store_rowTo rfl 23 _ _ rfl rfl w.heap.size #[.int .i64 y0, .int .i64 y1, .int .i64 y2, .int .i64 y3, .bool cp, .bool aw] rfl rfl 23 _ hb1.out hsz rfl hone ?_))
  have hb2 := setRow_heap w1 w.heap.size _ #[.int .i64 y0, .int .i64 y1, .int .i64 y2, .int .i64 y3, .bool cp, .bool aw] 23 (0, 0) hb1.out
  have HB2 : Hid (Below w.heap.size w (w1.setRow w.heap.size #[.int .i64 y0, .int .i64 y1, .int .i64 y2, .int .i64 y3, .bool cp, .bool aw])) := Lib.hid (below_setRow (gbelow (gtrans (World.grownBy_alloc w _ none) G1.out (.inl rfl)) (by simp)) (Nat.le_refl _) _)
  obtain ⟨w2, hw2⟩ : ∃ q : World, q = w1.setRow w.heap.size #[.int .i64 y0, .int .i64 y1, .int .i64 y2, .int .i64 y3, .bool cp, .bool aw] := ⟨_, rfl⟩
  rw [← hw2] at hb2 HB2 ⊢
  clear hw2 hone hb1 G1
  have e0 := (cell_of_row w2 w.heap.size 0 _ 23 (0, 0) hb2).trans (show _ = some (.int .i64 y0) from rfl)
  have e1 := (cell_of_row w2 w.heap.size 1 _ 23 (0, 0) hb2).trans (show _ = some (.int .i64 y1) from rfl)
  have z0 := blk_frozen hb2 0
  have z1 := blk_frozen hb2 1
  have HX := Lib.hid hb2
  clear hb2
  have hy0 := hy.out.1
  have hy1 := hy.out.2.1
  have q0 : wrap64 (1 + y0) = 1 + y0 := IntWalk.wrap64_in _ ⟨by omega, by omega⟩
  have q1 : wrap64 (y1 + 2048) = y1 + 2048 := IntWalk.wrap64_in _ ⟨by omega, by omega⟩
  go_upto_region 3 with fail
  have hb3 := heap_setCell_same (w2.setCell ⟨w.heap.size, 0, none⟩ (.int .i64 (1 + y0))) w.heap.size 1 _ 23 (.int .i64 (y1 + 2048)) (heap_setCell_same w2 w.heap.size 0 _ 23 (.int .i64 (1 + y0)) HX.out)
  have HB3 : Hid (Below w.heap.size w ((w2.setCell ⟨w.heap.size, 0, none⟩ (.int .i64 (1 + y0))).setCell ⟨w.heap.size, 1, none⟩ (.int .i64 (y1 + 2048)))) := Lib.hid ((HB2.out.setCell (Nat.le_refl _) _).setCell (Nat.le_refl _) _)
  obtain ⟨w3, hw3⟩ : ∃ q : World, q = (w2.setCell ⟨w.heap.size, 0, none⟩ (.int .i64 (1 + y0))).setCell ⟨w.heap.size, 1, none⟩ (.int .i64 (y1 + 2048)) := ⟨_, rfl⟩
  rw [← hw3] at hb3 HB3 ⊢
  clear hw3 e0 e1 z0 z1 HX HB2 q0 q1
  have hb3' : w3.heap[w.heap.size]? = some (.cells #[.int .i64 (1 + y0), .int .i64 (y1 + 2048), .int .i64 y2, .int .i64 y3, .bool cp, .bool aw] 23 (0, 0)) := hb3
  clear hb3
  have e0 := (cell_of_row w3 w.heap.size 0 _ 23 (0, 0) hb3').trans (show _ = some (.int .i64 (1 + y0)) from rfl)
  have e1 := (cell_of_row w3 w.heap.size 1 _ 23 (0, 0) hb3').trans (show _ = some (.int .i64 (y1 + 2048)) from rfl)
  have e2 := (cell_of_row w3 w.heap.size 2 _ 23 (0, 0) hb3').trans (show _ = some (.int .i64 y2) from rfl)
  have e3 := (cell_of_row w3 w.heap.size 3 _ 23 (0, 0) hb3').trans (show _ = some (.int .i64 y3) from rfl)
  have e4 := (cell_of_row w3 w.heap.size 4 _ 23 (0, 0) hb3').trans (show _ = some (.bool cp) from rfl)
  have e5 := (cell_of_row w3 w.heap.size 5 _ 23 (0, 0) hb3').trans (show _ = some (.bool aw) from rfl)
  have HX := Lib.hid hb3'
  clear hb3'
  have hy2 := hy.out.2.2.1
  have hy3 := hy.out.2.2.2
  have hok : okc ⟨1 + y0, y1 + 2048, y2, y3, cp, aw, 0, 0, 0⟩ := by simp only [okc]; omega
  have hK := KI.first hok (by show (1:Int) ≤ 1 + y0; omega) (by show 1 + y0 ≤ (300:Int); omega) (by show (2048:Int) ≤ y1 + 2048; omega) (by show y1 + 2048 ≤ (5047:Int); omega)
  have HK := Lib.hid hK
  have HOK := Lib.hid hok
  clear hK hok hy2 hy3 hy0 hy1
  go_upto_region 6 with (first
    | (go_at_call 8; refine (new_ok ⟨1 + y0, y1 + 2048, y2, y3, cp, aw, 0, 0, 0⟩ _ HOK.out).mono ?_; rintro e w4 ⟨b, rfl, hM, hg, hb⟩; have HM := Lib.hid hM; have HG4 := Lib.hid hg; have HBB := Lib.hid hb; clear hM hg hb e0 e1 e2 e3 e4 e5)
    | (go_at_call 9; refine (awake_any _).mono ?_; rintro e w5 ⟨rfl, hg⟩; have HG5 := Lib.hid hg; clear hg))
  have HB5 : Hid (Below w.heap.size w w5) := Lib.hid ((HB3.out.grown HG4.out HB3.out.size (by simp)).grown HG5.out (Nat.le_trans HB3.out.size HG4.out.size) (by simp))
  have hX5 := blk_kept (blk_kept HX.out HG4.out (by simp)) HG5.out (by simp)
  have hM5 := HM.out.kept HG5.out (by simp)
  have hBb : w.heap.size < b := Nat.lt_of_lt_of_le (blk_lt HX.out) HBB.out
  have hK0 := HK.out
  clear HB3 HG4 HG5 HX HM HBB HK HOK hy
  obtain ⟨s0, hs0⟩ : ∃ q : MS, q = newS ⟨1 + y0, y1 + 2048, y2, y3, cp, aw, 0, 0, 0⟩ := ⟨_, rfl⟩
  have c1 : s0.cir = 1 + y0 := by rw [hs0]; rfl
  have c2 : s0.cbs = y1 + 2048 := by rw [hs0]; rfl
  rw [← hs0] at hM5 hK0
  rw [← c1, ← c2] at hX5
  generalize hcir : s0.cir = cir at *
  generalize hcbs : s0.cbs = cbs at *
  have HX5 := Lib.hid hX5
  have HI0 : Hid (KI s0 0 0 0 ∧ MH w5 b s0 ∧ s0.cir = cir ∧ s0.cbs = cbs ∧ w5.grownBy w5 (some b)) := Lib.hid ⟨hK0, hM5, hcir, hcbs, World.grownBy.refl _ _⟩
  have HBb := Lib.hid hBb
  clear hX5 hM5 hK0 hs0 c1 c2 hcir hcbs
  go_wp2
  go_loopw [7, 8, 9] (fun tv ov iv wr => ∃ (k : Nat) (s : MS) (t o : Int), tv = .int .i64 t ∧ ov = .int .i64 o ∧ iv = .int .i64 k ∧ k ≤ len ∧ k ≤ 100 ∧ Hid (KI s t o k ∧ MH wr b s ∧ s.cir = cir ∧ s.cbs = cbs ∧ w5.grownBy wr (some b))) (fun _ _ iv _ => 100 - (intOf iv).toNat)
  case atStart => exact ⟨0, s0, 0, 0, rfl, rfl, rfl, by omega, by omega, HI0⟩
  case round =>
    clear HI0
    obtain ⟨k, s, t, o, rfl, rfl, rfl, hk1, hk2, HI⟩ := hrel
    have HBr : Hid (Below w.heap.size w wr) := Lib.hid (HB5.out.grown HI.out.2.2.2.2 HB5.out.size (by rintro q ⟨⟩; exact Nat.le_of_lt HBb.out))
    by_cases hl : k < len
    · by_cases h100 : k < 100
      · obtain ⟨ab, ao, rfl, hab, hcell⟩ := HF.out.2.2 (by omega)
        obtain ⟨z0, z1⟩ := HF.out.2.1 k hl
        have hcz : wr.cell? ⟨ab, ao + k, none⟩ = some (.int .u16 (f k)) := below_cell HBr.out hab (hcell k hl)
        clear hcell hab
        generalize f k = z at z0 z1 hcz
        obtain ⟨x0', x1'⟩ : wr.cell? ⟨w.heap.size, 0, none⟩ = some (.int .i64 cir) ∧ wr.cell? ⟨w.heap.size, 1, none⟩ = some (.int .i64 cbs) := by
          have hq := blk_kept HX5.out HI.out.2.2.2.2 (by have := HBb.out; simp; omega)
          exact ⟨(cell_of_row wr w.heap.size 0 _ 23 (0, 0) hq).trans rfl, (cell_of_row wr w.heap.size 1 _ 23 (0, 0) hq).trans rfl⟩
        have hn12 : 1 ≤ 1 + z % 2048 ∧ 1 + z % 2048 ≤ 2048 := by omega
        go_upto_region 11 with fail
        generalize 1 + z % 2048 = nv at hn12 ⊢
        clear hcz z0 z1
        obtain ⟨n1, n2⟩ := hn12
        have HI0 : Hid (KI s t o k) := Lib.hid HI.out.1
        go_loop [7, 8] (fun tv ov => ∃ t' o' : Int, tv = .int .i64 t' ∧ ov = .int .i64 o' ∧ Hid (KI s t' o' k)) (fun _ ov => (intOf ov).toNat)
        case atStart => exact ⟨t, o, rfl, rfl, HI0⟩
        case round =>
          clear HI0
          obtain ⟨t', o', rfl, rfl, HK⟩ := hrel
          have g1 := HK.out.r0
          have g2 := HK.out.r1
          rw [HI.out.2.2.1] at g1 g2
          have g3 := HK.out.b1
          rw [HI.out.2.2.2.1] at g3
          have g4 := HK.out.o0
          have g5 := HK.out.o1
          rw [HI.out.2.2.2.1] at g5
          have g6 := HK.out.t0
          have g7 := HK.out.tot
          by_cases hw : cbs < o' + nv
          · have hst := HK.out.wait n2 (by rw [HI.out.2.2.2.1]; exact hw)
            rw [HI.out.2.2.1] at hst
            have HS := Lib.hid hst.1
            have hs1 := hst.2
            clear hst
            go_wp2
            go_round
            case rel => exact ⟨_, _, rfl, rfl, HS⟩
            case measure => simp [intOf]; split <;> omega
          · obtain ⟨s', hmk, hc1, hc2, hK'⟩ := HK.out.mark n1 (by rw [HI.out.2.2.2.1]; omega) n2 hk2
            have hcall := mark_lit b s s' t' nv 1 1 wr ⟨HI.out.2.1, HK.out.good⟩ HK.out.l0 (by omega) ⟨n1, n2, by omega, by omega⟩ hmk
            rw [HI.out.2.2.1] at hc1
            rw [HI.out.2.2.2.1] at hc2
            have HC1 := Lib.hid hc1
            have HC2 := Lib.hid hc2
            have HK2 := Lib.hid hK'
            have HCALL := Lib.hid hcall
            clear hmk hc1 hc2 hK' hcall
            go_wp2_with (first | (go_at_call 10; refine HCALL.out.mono ?_; rintro e wz ⟨rfl, hM, hg⟩; have HMz := Lib.hid hM.1; have HGz := Lib.hid hg; clear hM hg))
            go_roundw
            case rel => exact ⟨k + 1, s', t', o' + nv, rfl, rfl, by go_num, by omega, by omega, Lib.hid ⟨HK2.out, HMz.out, HC1.out, HC2.out, gtrans HI.out.2.2.2.2 HGz.out (.inl rfl)⟩⟩
            case measure => simp [intOf]; omega
      · go_wp2
        go_ret
        exact ⟨rfl, HBr.out⟩
    · go_wp2
      go_ret
      exact ⟨rfl, HBr.out⟩
end Go.Proofs.Ytjddjijcfhgndaa.W
