/-
  The call of QueueRuns returns true, at any room and calls, in every memory, and turns nothing that was there.
-/
import Derived.Test.YtocicajjbkdbnaaV1
import Derived.Deep.CutBlock
set_option linter.unusedVariables false
set_option linter.unusedSimpArgs false
namespace Go.Proofs.Ytocicajjbkdbnaa.W
open Go.RowKit Go.Deep Go.Conc

/-- The calls of an argument: kind and bytes. -/
structure RQ (W : World) (a : Option Addr) (len : Nat) (kd : Nat → Int) (bv : Nat → Value) (bx : Nat → List Int) : Prop where
  hlen : len ≤ 9223372036854775807
  hcells : 0 < len → ∃ b o, a = some ⟨b, o, none⟩ ∧ b < W.heap.size ∧ ∀ j, j < len → W.cell? ⟨b, o + j * 2, none⟩ = some (.int .i64 (kd j)) ∧ W.cell? ⟨b, o + j * 2 + 1, none⟩ = some (bv j)
  hb : ∀ j, j < len → Bt W (bv j) (bx j) ∧ (bx j).length ≤ 9223372036854775807 ∧ ∀ a n c, bv j = .slice a n c → c ≤ 9223372036854775807

theorem addr_add0 (a : Addr) : a.add 0 = a := by unfold Addr.add; simp
theorem slice_to (a : Option Addr) (n c h : Nat) (hc : h ≤ c) (W : World) : (Instr.slice 29 (.slice a n c) none (some (.int .i64 (h : Int))) none).run Try.prog W = .ok (.slice a h c) W := by
  have he : Try.prog.elem 29 = 5 := by kernel_rfl
  have ht : Try.prog.underlying 29 = some (.slice (Try.prog.elem 29)) := by rw [he]; exact Try.underlying29
  have hz : ∀ W, (sizeOf (Try.prog.elem 29)).run Try.prog W = .ok 1 W := fun W => by rw [he]; kernel_rfl
  rw [run_slice_h (P := Try.prog) W 29 a n c ht .i64 (h : Int) (by omega) (by omega), hz W]
  have e : a.map (·.add 0) = a := by cases a <;> simp [addr_add0]
  simp [sliced, Result.andThen, addr_add0]
theorem Bt.take {W : World} {a : Option Addr} {c : Nat} {xs : List Int} (h : Bt W (.slice a xs.length c) xs) (k : Nat) (hk : k ≤ xs.length) : Bt W (.slice a k c) (xs.take k) := by
  have hl : (xs.take k).length = k := by simp [hk]
  rcases h with ⟨h1, rfl⟩ | ⟨g, o, cap, h1, h2, h3, h4⟩ | ⟨ad, cap, h1, rfl⟩
  · injection h1 with e1 e2 e3
    subst e1 e3
    obtain rfl : k = 0 := by simpa using hk
    exact .inl ⟨rfl, rfl⟩
  · injection h1 with e1 e2 e3
    subst e1 e3
    refine .inr (.inl ⟨g, o, c, by rw [hl], by rw [hl]; omega, fun h => h3 (by omega), fun i hi => ?_⟩)
    rw [hl] at hi
    rw [h4 i (by omega)]
    simp [List.getD_eq_getElem?_getD, List.getElem?_take, hi]
  · injection h1 with e1 e2 e3
    subst e1 e3
    obtain rfl : k = 0 := by simpa using hk
    exact .inr (.inr ⟨ad, c, rfl, rfl⟩)

theorem walkRuns_bad (room : Int) (a : Option Addr) (len cap : Nat) (w : World) (hlen : len ≤ 9223372036854775807) (hr : room < 1 ∨ 32 < room) :
    Calls Try.prog 4 #[.int .i64 room, .slice a len cap] w fun e w' => e = .returned (.bool true) ∧ Below w.heap.size w w' := by
  have HR := Lib.hid hr
  clear hr
  have hsz : (Try.prog.info? 40).map (·.size) = some 2 := by kernel_rfl
  go_enter Try.func4, Try.ntmps4
  go_wp2_with (first
    | (go_at_call 6; refine (new_bad room _ HR.out).mono ?_; rintro e w' ⟨rfl, rfl⟩)
    | (go_at_call 14; refine (rnew_bad room _ HR.out).mono ?_; rintro e w1 ⟨rfl, hg⟩; have HG1 := Lib.hid hg; clear hg)
    | (go_at_call 7; refine (awake_any _).mono ?_; rintro e w2 ⟨rfl, hg⟩; have HG2 := Lib.hid hg; clear hg))
  have HB := Lib.hid (gbelow (gtrans (gn HG1.out (World.grownBy_alloc w1 _ none)) HG2.out (.inl rfl)) (by simp))
  go_loop [5, 9] (fun mv iv => mv = .pointer none ∧ iv = .int .i64 0) (fun _ _ => 0)
  case atStart => exact ⟨rfl, rfl⟩
  case round =>
    obtain ⟨rfl, rfl⟩ := hrel
    by_cases hl : 0 < len
    · go_wp2
      go_ret
      exact ⟨rfl, HB.out⟩
    · obtain rfl : len = 0 := by omega
      go_wp2
      go_ret
      exact ⟨rfl, HB.out⟩

set_option maxHeartbeats 4000000 in
set_option maxRecDepth 100000 in
theorem walkRuns_ok (n : Nat) (a : Option Addr) (len cap : Nat) (kd : Nat → Int) (bv : Nat → Value) (bx : Nat → List Int) (w : World) (hq : RQ w a len kd bv bx) (hn1 : 1 ≤ n) (hn2 : n ≤ 32) :
    Calls Try.prog 4 #[.int .i64 (n : Int), .slice a len cap] w fun e w' => e = .returned (.bool true) ∧ Below w.heap.size w w' := by
  have HQ := Lib.hid hq
  have hlen := hq.hlen
  have HN := Lib.hid (And.intro hn1 hn2)
  clear hq hn1 hn2
  have hsz : (Try.prog.info? 40).map (·.size) = some 2 := by kernel_rfl
  go_enter Try.func4, Try.ntmps4
  go_wp2_with (first
    | (go_at_call 6; refine (new_ok n _ HN.out.1 HN.out.2).mono ?_; rintro e w1 ⟨b, cb, rfl, hq, hg, hb, hc⟩; have HQ1 := Lib.hid hq; have HG1 := Lib.hid hg; have HBC := Lib.hid (And.intro hb hc); clear hq hg hb hc)
    | (go_at_call 14; refine (rnew_ok n _ HN.out.1 HN.out.2).mono ?_; rintro e w2 ⟨rfl, hg⟩; have HG2 := Lib.hid hg; clear hg)
    | (go_at_call 7; refine (awake_any _).mono ?_; rintro e w3 ⟨rfl, hg⟩; have HG3 := Lib.hid hg; clear hg))
  have HI0 : Hid (QK w w3 w2.heap.size b cb n [] [] (.slice none 0 0)) := Lib.hid ⟨((HQ1.out.kept HG2.out (by simp) (by simp)).kept (World.grownBy_alloc w2 _ none) (by simp) (by simp)).kept HG3.out (by simp) (by simp), fun p hp => by simp at hp, fun p hp => by simp at hp, World.ownsRow_nil _ _ _ _, blk_kept (heap_alloc_new w2 _) HG3.out (by simp), gbelow (gtrans (gn (gtrans HG1.out HG2.out (.inl rfl)) (World.grownBy_alloc w2 _ none)) HG3.out (.inl rfl)) (by simp), HBC.out.2, (gtrans HG1.out HG2.out (.inl rfl)).size, by simp, HN.out.2⟩
  obtain ⟨B7, hB7⟩ : ∃ q, q = w2.heap.size := ⟨_, rfl⟩
  rw [← hB7] at HI0 ⊢
  clear hB7 HQ1 HG1 HG2 HG3 HBC
  go_loopw [5, 9] (fun mv iv wr => ∃ (k b cb : Nat) (P R : List Pr) (rl : Value), mv = .pointer (some ⟨b, 0, none⟩) ∧ iv = .int .i64 k ∧ k ≤ len ∧ k ≤ 80 ∧ Hid (QK w wr B7 b cb n P R rl ∧ P.map Prod.snd = R.map Prod.snd)) (fun _ iv _ => 80 - (intOf iv).toNat)
  case atStart => exact ⟨0, b, cb, [], [], _, rfl, rfl, by omega, by omega, Lib.hid ⟨HI0.out, rfl⟩⟩
  case round =>
    clear HI0
    obtain ⟨k, b, cb, P, R, rl, rfl, rfl, hk1, hk2, HI⟩ := hrel
    by_cases hl : k < len
    · by_cases h80 : k < 80
      · obtain ⟨ab, ao, rfl, hab, hcell⟩ := HQ.out.hcells (by omega)
        obtain ⟨f0, f1⟩ := hcell k hl
        replace f0 := below_cell HI.out.1.below hab f0
        replace f1 := below_cell HI.out.1.below hab f1
        obtain ⟨hb1, hb2, hb3⟩ := HQ.out.hb k hl
        clear hcell hab
        generalize kd k = kv at f0
        generalize bv k = v at f1 hb1 hb3
        generalize bx k = xs at hb1 hb2
        obtain ⟨va, vc, rfl, hvc⟩ := hb1.len
        replace hb3 := hb3 va xs.length vc rfl
        have HBT := Lib.hid hb1
        clear hb1
        go_upto_region 8 with fail
        go_cut [10] (fun v wx => ∃ h q : Nat, v = .slice va h vc ∧ h ≤ 2100 ∧ h ≤ xs.length ∧ wx = wr.drewN q)
        case first =>
          by_cases hm : 2100 < xs.length
          · have hs := slice_to va xs.length vc 2100 (by omega)
            go_quiet (fail)
            go_wp2_with fail
            go_meet
            exact ⟨2100, nq, rfl, by omega, by omega, rfl⟩
          · have hs := slice_to va xs.length vc xs.length (by omega)
            go_quiet (fail)
            go_wp2_with fail
            go_meet
            exact ⟨xs.length, nq, rfl, by omega, by omega, rfl⟩
        case rest =>
          obtain ⟨h, q, rfl, hh1, hh2, rfl⟩ := hcut
          have HX : Hid (QK w (wr.drewN q) B7 b cb n P R rl ∧ P.map Prod.snd = R.map Prod.snd) := Lib.hid ⟨HI.out.1.grown (grown_drewN _ _ none), HI.out.2⟩
          have f2 : (wr.drewN q).cell? ⟨ab, ao + k * 2, none⟩ = some (.int .i64 kv) := f0
          have HBW : Hid (Bt w (.slice va h vc) (xs.take h)) := Lib.hid (HBT.out.take h hh2)
          obtain ⟨x, hx⟩ : ∃ y : World, y = wr.drewN q := ⟨_, rfl⟩
          rw [← hx] at HX f2 ⊢
          generalize xs.take h = ys at HBW
          clear hx HI HBT f0 f1 hh2 hb2 hb3 hvc
          go_upto_block 2 with fail
          go_cut [5, 11, 12, 13, 14, 15, 16, 17, 18, 19] from 71 to 162 (fun qv s1 s2 s3 s4 s5 s6 s7 s8 s9 wx => ∃ (b cb : Nat) (P R : List Pr) (rl : Value), qv = .pointer (some ⟨b, 0, none⟩) ∧ Hid (QK w wx B7 b cb n P R rl ∧ P.map Prod.snd = R.map Prod.snd))
          case first =>
            have hRl : Hid (P.length = R.length ∧ R.length ≤ n) := Lib.hid (by
              have h1 : P.length = R.length := by simpa using congrArg List.length HX.out.2
              have h2 := HX.out.1.len
              omega)
            obtain ⟨ra, rc, hrl⟩ := HX.out.1.form
            subst hrl
            by_cases k12 : kv = 1 ∨ kv = 2
            · have hput := fun (X : World) (hX : QK w X B7 b cb n P R (.slice ra R.length rc)) => put_spec B7 b cb n P R _ (.slice va h vc) ys X hX (HBW.out.later hX.below)
              have hrput := fun (X : World) (P' : List Pr) (hX : QK w X B7 b cb n P' R (.slice ra R.length rc)) => rput_spec B7 b cb n P' R _ (.slice va h vc) ys X hX (HBW.out.later hX.below) P hRl.out.1 hRl.out.2
              generalize putN n P ys = g at hput hrput
              have HPUT := Lib.hid hput
              have HRPUT := Lib.hid hrput
              clear hput hrput
              rcases k12 with rfl | rfl
              all_goals
                go_upto_region 14 with (first
                  | (go_at_call 9; refine (HPUT.out _ HX.out.1).mono ?_; rintro e x1 ⟨P1, rfl, hs, hk, hg⟩; have HS1 := Lib.hid hs; have HK1 := Lib.hid hk; clear hs hk hg)
                  | (refine wpList_load_row rfl 40 _ rfl B7 rfl 40 _ (0, 0) _ HK1.out.box Try.underlying40 rfl (by kernel_rfl) ?_)
                  | (go_at_call 15; refine (HRPUT.out _ _ HK1.out).mono ?_; rintro e x2 ⟨R1, a1, c1, rfl, hs, ho, hr, hg⟩; have HS2 := Lib.hid hs; have HO2 := Lib.hid ho; have HR2 := Lib.hid hr; have HG2 := Lib.hid hg; clear hs ho hr hg))
                have hk3 := (HK1.out.grown HG2.out).grown (World.grownBy_alloc x2 (.cells #[.int .i64 (n : Int), .slice a1 R1.length c1] 40) none)
                have ho3 := own_kept HO2.out (World.grownBy_alloc x2 (.cells #[.int .i64 (n : Int), .slice a1 R1.length c1] 40) none) (by simp)
                have hr3 := HR2.out.kept (World.grownBy_alloc x2 (.cells #[.int .i64 (n : Int), .slice a1 R1.length c1] 40) none) (by simp)
                have hb3 := heap_alloc_new x2 (.cells #[.int .i64 (n : Int), .slice a1 R1.length c1] 40)
                obtain ⟨x3, hx3⟩ : ∃ y : World, y = x2.alloc (.cells #[.int .i64 (n : Int), .slice a1 R1.length c1] 40) := ⟨_, rfl⟩
                rw [← hx3] at hk3 ho3 hr3 hb3 ⊢
                have HK3 := Lib.hid hk3
                have HO3 := Lib.hid ho3
                have HR3 := Lib.hid hr3
                have HB3 := Lib.hid hb3
                obtain ⟨B12, hB12⟩ : ∃ y, y = x2.heap.size := ⟨_, rfl⟩
                rw [← hB12] at HB3 ⊢
                clear hx3 hk3 ho3 hr3 hb3 hB12 HK1 HG2 HO2 HR2
                have hone : ((#[.int .i64 (n : Int), .slice a1 R1.length c1] : Array Value).all (·.oneCell')) = true := by kernel_rfl
                go_upto_region 15 with (first
                  | (refine wpList_load_row rfl 40 _ rfl B12 rfl 40 _ (0, 0) _ HB3.out Try.underlying40 rfl (by kernel_rfl) ?_)
                  | (refine wpList_store_rowTo rfl 40 _ _ rfl rfl B7 #[.int .i64 (n : Int), .slice a1 R1.length c1] rfl rfl 40 _ HK3.out.box hsz rfl hone ?_))
                have HK4 := Lib.hid (HK3.out.box' HR3.out HO3.out (grownSetRow x3 B7 _) (setRow_heap x3 B7 _ #[.int .i64 (n : Int), .slice a1 R1.length c1] 40 (0, 0) HK3.out.box))
                go_wp2
                go_meet
                exact ⟨b, cb, P1, R1, _, rfl, Lib.hid ⟨HK4.out, by rw [HS1.out, HS2.out, HX.out.2]⟩⟩
            · by_cases k3 : kv = 3
              · subst k3
                have htk := take_spec B7 b cb n P R _ x HX.out.1
                have hrtk := fun (X : World) (P' : List Pr) (hX : QK w X B7 b cb n P' R (.slice ra R.length rc)) => rtake_spec B7 b cb n P' R _ X hX hRl.out.2 P HX.out.2
                generalize decide (0 < P.length) = ok at htk hrtk
                generalize ((P.map Prod.snd).head?).getD [] = zs at htk hrtk
                have HTK := Lib.hid htk
                have HRTK := Lib.hid hrtk
                clear htk hrtk k12
                go_upto_region 20 with (first
                  | (go_at_call 8; refine HTK.out.mono ?_; rintro e x1 ⟨P1, ta, tn, tc, rfl, hs, hk, hb, hg⟩; have HS1 := Lib.hid hs; have HK1 := Lib.hid hk; have HT1 := Lib.hid hb; clear hs hk hb hg)
                  | (refine wpList_load_row rfl 40 _ rfl B7 rfl 40 _ (0, 0) _ HK1.out.box Try.underlying40 rfl (by kernel_rfl) ?_)
                  | (go_at_call 16; refine (HRTK.out _ _ HK1.out).mono ?_; rintro e x2 ⟨R1, a1, c1, ua, un, uc, rfl, hs, ho, hr, hb, hg⟩; have HS2 := Lib.hid hs; have HO2 := Lib.hid ho; have HR2 := Lib.hid hr; have HG2 := Lib.hid hg; have HU2 := Lib.hid hb; clear hs ho hr hg hb))
                have hk3 := (HK1.out.grown HG2.out).grown (World.grownBy_alloc x2 (.cells #[.int .i64 (n : Int), .slice a1 R1.length c1] 40) none)
                have ho3 := own_kept HO2.out (World.grownBy_alloc x2 (.cells #[.int .i64 (n : Int), .slice a1 R1.length c1] 40) none) (by simp)
                have hr3 := HR2.out.kept (World.grownBy_alloc x2 (.cells #[.int .i64 (n : Int), .slice a1 R1.length c1] 40) none) (by simp)
                have ht3 := (HT1.out.kept HG2.out (by simp)).kept (World.grownBy_alloc x2 (.cells #[.int .i64 (n : Int), .slice a1 R1.length c1] 40) none) (by simp)
                have hu3 := HU2.out.kept (World.grownBy_alloc x2 (.cells #[.int .i64 (n : Int), .slice a1 R1.length c1] 40) none) (by simp)
                have hb3 := heap_alloc_new x2 (.cells #[.int .i64 (n : Int), .slice a1 R1.length c1] 40)
                obtain ⟨x3, hx3⟩ : ∃ y : World, y = x2.alloc (.cells #[.int .i64 (n : Int), .slice a1 R1.length c1] 40) := ⟨_, rfl⟩
                rw [← hx3] at hk3 ho3 hr3 ht3 hu3 hb3 ⊢
                have HK3 := Lib.hid hk3
                have HO3 := Lib.hid ho3
                have HR3 := Lib.hid hr3
                have HT3 := Lib.hid ht3
                have HU3 := Lib.hid hu3
                have HB3 := Lib.hid hb3
                obtain ⟨B12, hB12⟩ : ∃ y, y = x2.heap.size := ⟨_, rfl⟩
                rw [← hB12] at HB3 ⊢
                clear hx3 hk3 ho3 hr3 ht3 hu3 hb3 hB12 HK1 HG2 HO2 HR2 HT1 HU2
                have hone : ((#[.int .i64 (n : Int), .slice a1 R1.length c1] : Array Value).all (·.oneCell')) = true := by kernel_rfl
                go_upto_region 21 with (first
                  | (refine wpList_load_row rfl 40 _ rfl B12 rfl 40 _ (0, 0) _ HB3.out Try.underlying40 rfl (by kernel_rfl) ?_)
                  | (refine wpList_store_rowTo rfl 40 _ _ rfl rfl B7 #[.int .i64 (n : Int), .slice a1 R1.length c1] rfl rfl 40 _ HK3.out.box hsz rfl hone ?_))
                have HK4 := Lib.hid (HK3.out.box' HR3.out HO3.out (grownSetRow x3 B7 _) (setRow_heap x3 B7 _ #[.int .i64 (n : Int), .slice a1 R1.length c1] 40 (0, 0) HK3.out.box))
                have v1 := conv_of (HT3.out.kept (grownSetRow x3 B7 #[.int .i64 (n : Int), .slice a1 R1.length c1]) (by rintro _ ⟨⟩; exact HT3.out.ne HK3.out.box (by simp))).bt
                have v2 := conv_of (HU3.out.kept (grownSetRow x3 B7 #[.int .i64 (n : Int), .slice a1 R1.length c1]) (by rintro _ ⟨⟩; exact HU3.out.ne HK3.out.box (by simp))).bt
                go_wp2
                go_meet
                exact ⟨b, cb, P1, R1, _, rfl, Lib.hid ⟨HK4.out, by rw [HS1.out, HS2.out]⟩⟩
              · by_cases k4 : kv = 4
                · subst k4
                  clear k12 k3
                  go_upto_region 24 with fail
                  go_cut [123] from 118 to 123 (fun v wx => v = .bool false ∧ Hid (QK w wx B7 b cb n [] R (.slice ra R.length rc)))
                  case first =>
                    obtain ⟨c0, c1, z1⟩ := HX.out.1.cells
                    go_region_with (first | (go_at_call 17; refine (clear_spec B7 b cb n R.length P R _ _ HX.out.1.drew hRl.out.1).mono ?_; rintro e w1 ⟨rfl, hk⟩; have HK := Lib.hid hk; obtain ⟨d0, d1, y1⟩ := hk.cells; clear hk))
                    all_goals
                      go_wp2_with fail
                      go_meet
                      exact ⟨rfl, HK.out⟩
                  case rest =>
                    obtain ⟨rfl, HK⟩ := hcut
                    obtain ⟨d0, d1, y1⟩ := HK.out.cells
                    have HK5 := Lib.hid (HK.out.box' (R' := []) (rl' := .slice none 0 0) (fun p hp => by simp at hp) (World.ownsRow_nil _ _ _ _) (grownSet wc B7 1 _) (heap_setCell_same wc B7 1 _ 40 (.slice none 0 0) HK.out.box))
                    go_wp2_with fail
                    go_meet
                    exact ⟨b, cb, [], [], _, rfl, Lib.hid ⟨HK5.out, rfl⟩⟩
                · by_cases k5 : kv = 5
                  · subst k5
                    clear k12 k3 k4
                    have kc := fun (W : World) (C : Array Value) (n c : Nat) => Lib.run_convert_bytes_const (P := Try.prog) W 29 5 C n c Try.underlying29 Try.underlying5
                    have hpo : ([111, 116, 104, 101, 114] : List Int).length ≤ 2048 := by simp
                    have HPO := Lib.hid hpo
                    clear hpo
                    go_wp2_with (first
                      | (go_at_call 18; refine (fork_of b cb n P x HX.out.1.q HX.out.1.p HX.out.1.len HX.out.1.top).mono ?_; rintro e x1 ⟨b2, cb2, P1, X1, fv, rfl, hs, hf⟩; have HF := Lib.hid hf; have HK1 := Lib.hid (HX.out.1.fork hs hf); clear hs hf)
                      | (go_at_call 9; refine (put_any b cb n (P1.map Prod.fst) (.slice (some ⟨x1.heap.size, 0, none⟩) 5 5) [111, 116, 104, 101, 114] _ (HF.out.q.kept (World.grownBy_alloc x1 _ none) (by simp) (by simp)) (bt_lit x1 _ [111, 116, 104, 101, 114] _ rfl) HPO.out).mono ?_; rintro e x2 ⟨nn, us, rfl, hq2, hg2⟩; have HQ2 := Lib.hid hq2; have HK2 := Lib.hid ((HK1.out.1.grown (World.grownBy_alloc x1 _ none)).other (HF.out.q.kept (World.grownBy_alloc x1 _ none) (by simp) (by simp)).chan HF.out.ne.symm (by have := HF.out.lb2; have := HF.out.lc; omega) HX.out.1.lc hg2); clear hq2 hg2)
                      | (go_at_call 8; refine (take_any b cb n us x2 HQ2.out).mono ?_; rintro e x3 ⟨tv, tok, rfl, hg3⟩; have HK3 := Lib.hid (HK2.out.other HQ2.out.chan HF.out.ne.symm (by have := HF.out.lb2; have := HF.out.lc; omega) HX.out.1.lc hg3); clear hg3))
                    go_meet
                    exact ⟨b2, cb2, X1, R, _, rfl, Lib.hid ⟨HK3.out, by rw [HK1.out.2, HX.out.2]⟩⟩
                  · have q1 : (kv == 1) = false := by simpa using fun h => k12 (.inl h)
                    have q2 : (kv == 2) = false := by simpa using fun h => k12 (.inr h)
                    have q3 : (kv == 3) = false := by simpa using k3
                    have q4 : (kv == 4) = false := by simpa using k4
                    have q5 : (kv == 5) = false := by simpa using k5
                    clear k12 k3 k4 k5
                    go_wp2
                    go_meet
                    exact ⟨b, cb, P, R, _, rfl, HX.out⟩
          case rest =>
            clear HX HBW f2
            obtain ⟨b, cb, P, R, rl, rfl, HY⟩ := hcut
            have HKS : Hid (KS w B7 b cb n R rl wc) := Lib.hid ⟨P, HY.out⟩
            obtain ⟨hRn, hn32⟩ := HKS.out.len
            obtain ⟨ra, rc, hrl⟩ := HY.out.1.form
            subst hrl
            clear HY
            go_upto_region 34 with fail
            go_cut [162] (fun v wx => v = .bool false ∧ Hid (KS w B7 b cb n R (.slice ra R.length rc) wx))
            case first =>
              have hsub : IntKind.i64.wrap ((n : Int) - (R.length : Int)) = (n : Int) - (R.length : Int) := IntWalk.i64_in _ (by omega)
              go_region_held3 (fun w' => w'.cell? ⟨B7, 0, none⟩ = some (.int .i64 (n : Int)) ∧ w'.cell? ⟨B7, 1, none⟩ = some (.slice ra R.length rc) ∧ KS w B7 b cb n R (.slice ra R.length rc) w')
                (first | exact KS.s (HKS.out.grown (grown_drewN _ _ _)) | exact KS.s (by assumption))
                (first
                  | (go_at_call 10; go_split_ands; refine (len_S B7 b cb n R _ _ (by assumption)).mono ?_; rintro e wN ⟨rfl, hN⟩)
                  | (go_at_call 11; go_split_ands; refine (room_S B7 b cb n R _ _ (by assumption)).mono ?_; rintro e wN ⟨rfl, hN⟩)
                  | (go_at_call 12; go_split_ands; refine (all_S B7 b cb n R _ _ (by assumption)).mono ?_; rintro e wN ⟨aa, ac, rfl, hN, hA⟩)
                  | (go_at_call 13; go_split_ands; refine (same_S B7 b cb n R _ _ _ (by assumption) (by assumption)).mono ?_; rintro e wN ⟨rfl, hN⟩))
              go_split_ands
              go_wp2_with fail
              go_meet
              exact ⟨rfl, Lib.hid (by assumption)⟩
            case rest =>
              obtain ⟨rfl, HZ⟩ := hcut
              obtain ⟨P', hP⟩ := HZ.out
              have HP := Lib.hid hP
              clear hP
              go_wp2
              go_roundw
              case rel => exact ⟨k + 1, b, cb, P', R, _, rfl, by go_num, by omega, by omega, HP⟩
              case measure => simp [intOf]; omega
      · go_wp2
        go_ret
        exact ⟨rfl, HI.out.1.below⟩
    · go_wp2
      go_ret
      exact ⟨rfl, HI.out.1.below⟩
end Go.Proofs.Ytocicajjbkdbnaa.W
