/-
  The call of QueueOrder returns true, at any room and calls, in every memory, and turns nothing that was there.
-/
import Derived.Test.YtocicajjbkdbnaaO2
import Derived.Deep.DeepCutAuto
set_option linter.unusedVariables false
set_option linter.unusedSimpArgs false
namespace Go.Proofs.Ytocicajjbkdbnaa.W
open Go.RowKit Go.Deep Go.Conc

set_option maxHeartbeats 4000000 in
set_option maxRecDepth 100000 in
theorem walkOrder (room : Int) (a : Option Addr) (len cap : Nat) (kd : Nat → Int) (bv : Nat → Value) (bx : Nat → List Int) (w : World) (hq : RQ w a len kd bv bx) (hr0 : 0 ≤ room) (hr1 : room ≤ 255) :
    Calls Try.prog 3 #[.int .u8 room, .slice a len cap] w fun e w' => e = .returned (.bool true) ∧ Below w.heap.size w w' := by
  have HQ := Lib.hid hq
  have hlen := hq.hlen
  clear hq
  obtain ⟨n, hn⟩ : ∃ n : Nat, (n : Int) = 1 + room % 8 := ⟨(1 + room % 8).toNat, by omega⟩
  have HN : Hid (1 ≤ n ∧ n ≤ 8) := Lib.hid (by omega)
  go_enter Try.func3, Try.ntmps3
  go_upto_region 2 with fail
  rw [← hn]
  clear hn hr0 hr1
  go_wp2_with (first
    | (go_at_call 6; refine (new_ok n _ HN.out.1 (by have := HN.out.2; omega)).mono ?_; rintro e w1 ⟨b, cb, rfl, hq, hg, hb, hc⟩; have HQ1 := Lib.hid hq; have HG1 := Lib.hid hg; have HBC := Lib.hid (And.intro hb hc); clear hq hg hb hc)
    | (go_at_call 7; refine (awake_any _).mono ?_; rintro e w3 ⟨rfl, hg⟩; have HG3 := Lib.hid hg; clear hg))
  have HI0 : Hid (QO w w3 b cb n [] [] (.slice none 0 0)) := Lib.hid ⟨HQ1.out.kept HG3.out (by simp) (by simp), fun p hp => by simp at hp, WR.nil _ _, fun p hp => by simp at hp, gbelow (gtrans HG1.out HG3.out (.inl rfl)) (by simp), HBC.out.2, by simp, HN.out.2, fun p hp => by simp at hp⟩
  clear HQ1 HG1 HG3 HBC
  go_loopw [8, 9] (fun wu iv wr => ∃ (k : Nat) (wv : Value) (P W : List Pr), wv = wu ∧ iv = .int .i64 k ∧ k ≤ len ∧ k ≤ 80 ∧ Hid (QO w wr b cb n P W wv ∧ P.map Prod.snd = W.map Prod.snd)) (fun _ iv _ => 80 - (intOf iv).toNat)
  case atStart => exact ⟨0, _, [], [], rfl, rfl, by omega, by omega, Lib.hid ⟨HI0.out, rfl⟩⟩
  case round =>
    clear HI0
    obtain ⟨k, wv, P, W, hwv, rfl, hk1, hk2, HI⟩ := hrel
    subst hwv
    by_cases hl : k < len
    · by_cases h80 : k < 80
      · obtain ⟨ab, ao, rfl, hab, hcell⟩ := HQ.out.hcells (by omega)
        obtain ⟨f0, f1⟩ := hcell k hl
        replace f0 := below_cell HI.out.1.below hab f0
        replace f1 := below_cell HI.out.1.below hab f1
        obtain ⟨hb1, hb2, hb3⟩ := HQ.out.hb k hl
        clear hcell hab
        generalize kd k = kv at f0
        generalize bv k = v at f1 hb1 hb3
        generalize bx k = xs at hb1 hb2
        obtain ⟨va, vc, rfl, hvc⟩ := hb1.len
        replace hb3 := hb3 va xs.length vc rfl
        have HBT := Lib.hid hb1
        clear hb1
        have hd80 : decide ((k : Int) < 80) = true := by simp; omega
        go_upto_if 53 with fail
        go_cut [8, 10, 11, 12, 13, 14] from 37 to 118 (fun wu s1 s2 s3 s4 s5 wx => ∃ (wv : Value) (P W : List Pr), wv = wu ∧ Hid (QO w wx b cb n P W wv ∧ P.map Prod.snd = W.map Prod.snd))
        case first =>
          by_cases hk : kv.tmod 2 = 0
          · skip
            have hkb : (kv.tmod 2 == 0) = true := by simp [hk]
            cases P with
            | nil =>
              have hW : W = [] := by
                have := HI.out.2
                simp at this
                exact this
              subst hW
              obtain ⟨wa, wc0, rfl⟩ := HI.out.1.wr.len
              have hz : decide (0 < (0 : Nat)) = false := rfl
              go_wp2_with (first | (go_at_call 8; refine (take_none b cb n wr HI.out.1.q).mono ?_; rintro e w' ⟨rfl, rfl⟩))
              go_meet
              exact ⟨_, [], [], rfl, Lib.hid ⟨HI.out.1, rfl⟩⟩
            | cons p P =>
              cases W with
              | nil => exact absurd HI.out.2 (by simp)
              | cons q W =>
                have hpq : p.2 = q.2 := by have := HI.out.2; simp at this; exact this.1
                have HPW : Hid (P.map Prod.snd = W.map Prod.snd) := Lib.hid (by have := HI.out.2; simp at this; exact this.2)
                obtain ⟨pa, pc, hpv⟩ := (HI.out.1.p p List.mem_cons_self).1.len
                obtain ⟨qa, qc, hqv⟩ := (HI.out.1.wo q List.mem_cons_self).1.len
                obtain ⟨pv, px⟩ := p
                obtain ⟨qv, qx⟩ := q
                simp only at hpq hpv hqv
                subst hpv hqv hpq
                obtain ⟨wa, wc0, rfl⟩ := HI.out.1.wr.len
                have htk := take_some b cb n (.slice pa px.length pc) (P.map Prod.fst) wr HI.out.1.q
                have HTK := Lib.hid htk
                clear htk
                go_upto_region 14 with (first | (go_at_call 8; refine HTK.out.mono ?_; rintro e w1 ⟨rfl, hq, hg⟩; have HK1 := Lib.hid (HI.out.1.take hq hg); clear hq hg))
                obtain ⟨g, o, c, o', hwv, hc0, hsl, hw'⟩ := HK1.out.1.wr.tail
                injection hwv with e1 _ e3
                subst e1 e3
                have v1 := fun z : Nat => conv_of (HK1.out.2.bt.kept (grown_drewN w1 z none) (by simp))
                have v2 := fun z : Nat => conv_of ((HK1.out.1.wo _ List.mem_cons_self).1.bt.kept (grown_drewN w1 z none) (by simp))
                have HW1 := Lib.hid hw'
                clear hw' HTK
                go_quiet (fail)
                go_wp2
                go_meet
                exact ⟨_, P, W, rfl, Lib.hid ⟨(HK1.out.1.tail HW1.out).grown (grown_drewN _ _ none), HPW.out⟩⟩
          · skip
            have hkb : (kv.tmod 2 == 0) = false := by simp [hk]
            have hPW : P.length = W.length := by simpa using congrArg List.length HI.out.2
            obtain ⟨i0, hi, hz0, hz1, hz2⟩ := info_parts info29
            obtain ⟨j0, ji, jz0, jz1, jz2⟩ := info_parts info5
            go_upto_region 17 with fail
            go_cut [12] from 37 to 88 (fun bu wx => ∃ ys : List Int, Hid (ys.length ≤ 100 ∧ BO wr.heap.size wx bu ys ∧ wr.grownBy wx none))
            case first =>
              have hone := own_new wr.drew wr.heap.size 5 (Nat.le_refl _)
              have HOne := Lib.hid hone
              clear hone
              by_cases hm : 100 < xs.length
              · have hs : ∀ W : World, (Instr.slice 29 (.slice va xs.length vc) none (some (.int .i64 100)) none).run Try.prog W = .ok (.slice va 100 vc) W := slice_to va xs.length vc 100 (by omega)
                have hm2 : (100 : Int) < (xs.length : Int) := by omega
                have hq3 : (100 : Int) ≤ (vc : Int) := by omega
                have HS := Lib.hid ((((HBT.out.take 100 (by omega)).later HI.out.1.below).kept (grown_drew wr none) (by simp)).kept (World.grownBy_alloc wr.drew (.cells #[] 5) none) (by simp)).src
                have hyl : (xs.take 100).length = 100 := by simp; omega
                have HL : Hid ((xs.take 100).length = 100 ∧ ((xs.take 100).map (Value.int .u8)).length = 100 * 1) := Lib.hid ⟨hyl, by simp; omega⟩
                rw [hyl] at HS
                clear hyl
                go_region_held3 (fun w' => w'.cell? ⟨ab, ao + k * 2 + 1, none⟩ = some (.slice va xs.length vc))
                  (first | exact f1 | exact (World.grownBy_alloc _ _ none).cell f1 (by simp) | exact g1)
                  ((refine step_append_any _ (by rfl) _ _ 29 (by rfl) wr.heap.size 5 j0 (.int .u8 0) 1 1 Try.underlying29 ji jz0 jz1 jz2 rfl (by decide) _ 0 [] (by rfl) HOne.out (.slice va 100 vc) 100 ((xs.take 100).map (Value.int .u8)) (by rfl) HS.out HL.out.2 (bytes_one _) (by unfold maxLen; omega) (by omega) (by simp) ?_; intro v' w8 ho hg; rw [Nat.zero_add, List.nil_append] at ho; have HBO := Lib.hid (show BO wr.heap.size w8 v' (xs.take 100) from by unfold BO; rw [HL.out.1]; exact ho); have HG8 := Lib.hid (gtrans (gtrans (grown_drew wr none) (World.grownBy_alloc wr.drew (.cells #[] 5) none) (.inl rfl)) hg (.inr (.inr ⟨_, rfl, by simp⟩))); have g1 := HG8.out.cell f1 (by simp); clear ho hg))
                all_goals
                  go_wp2_with fail
                  go_meet
                  exact ⟨xs.take 100, Lib.hid ⟨by rw [HL.out.1]; omega, HBO.out, HG8.out⟩⟩
              · have hs := slice_to va xs.length vc xs.length (by omega)
                have hq1 : (0 : Int) ≤ (xs.length : Int) := by omega
                have hm2 : ¬ (100 : Int) < (xs.length : Int) := by omega
                have hm3 : (xs.length : Int) ≤ 100 := by omega
                have hq2 : (xs.length : Int) ≤ (vc : Int) := by omega
                have HS := Lib.hid (((HBT.out.later HI.out.1.below).kept (grown_drew wr none) (by simp)).kept (World.grownBy_alloc wr.drew (.cells #[] 5) none) (by simp)).src
                have HL : Hid ((xs.map (Value.int .u8)).length = xs.length * 1) := Lib.hid (by simp)
                go_region_held3 (fun w' => w'.cell? ⟨ab, ao + k * 2 + 1, none⟩ = some (.slice va xs.length vc))
                  (first | exact f1 | exact (World.grownBy_alloc _ _ none).cell f1 (by simp) | exact g1)
                  ((refine step_append_any _ (by rfl) _ _ 29 (by rfl) wr.heap.size 5 j0 (.int .u8 0) 1 1 Try.underlying29 ji jz0 jz1 jz2 rfl (by decide) _ 0 [] (by rfl) HOne.out (.slice va xs.length vc) xs.length (xs.map (Value.int .u8)) (by rfl) HS.out HL.out (bytes_one _) (by unfold maxLen; omega) (by omega) (by simp) ?_; intro v' w8 ho hg; rw [Nat.zero_add, List.nil_append] at ho; have HBO := Lib.hid (show BO wr.heap.size w8 v' xs from ho); have HG8 := Lib.hid (gtrans (gtrans (grown_drew wr none) (World.grownBy_alloc wr.drew (.cells #[] 5) none) (.inl rfl)) hg (.inr (.inr ⟨_, rfl, by simp⟩))); have g1 := HG8.out.cell f1 (by simp); clear ho hg))
                all_goals
                  go_wp2_with fail
                  go_meet
                  exact ⟨xs, Lib.hid ⟨by omega, HBO.out, HG8.out⟩⟩
            case rest =>
              obtain ⟨ys, HB⟩ := hcut
              obtain ⟨ba, bc, hbv⟩ := HB.out.2.1.len
              subst hbv
              have HI2 := Lib.hid (HI.out.1.grown HB.out.2.2)
              have hys := HB.out.1
              have hn8 := HI.out.1.top
              have hln := HI.out.1.len
              obtain ⟨wa, wcp, hwv⟩ := HI.out.1.wr.len
              by_cases hfull : P.length < n
              · have hWn : W.length < n := by omega
                have HX : Hid ((ys.map (Value.int .u8)).length = ys.length * 1) := Lib.hid (by simp)
                subst hwv
                go_upto_region 22 with (first
                  | (go_at_call 9; refine (put_ok b cb n (P.map Prod.fst) (.slice ba ys.length bc) ys wc HI2.out.q HB.out.2.1.bt (by omega) (by simpa using hfull)).mono ?_; rintro e w5 ⟨v', rfl, hq, hb, hg⟩; have HK5 := Lib.hid (HI2.out.put hq hb (by omega) hfull hg); have HB5 := Lib.hid (HB.out.2.1.chan HI2.out.q.chan hg); have HV5 := Lib.hid hb; have HG5 := Lib.hid hg; clear hq hb hg))
                have HO6 := Lib.hid (own_new w5 w5.heap.size 5 (Nat.le_refl _))
                have HS6 := Lib.hid (HB5.out.kept (World.grownBy_alloc w5 (.cells #[] 5) none) (by simp)).bt.src
                have HK6 := Lib.hid (HK5.out.grown (World.grownBy_alloc w5 (.cells #[] 5) none))
                go_upto_region 23 with (first
                  | (at_builtin; refine wpList_append_any _ rfl _ _ 29 rfl w5.heap.size 5 j0 (.int .u8 0) 1 1 Try.underlying29 ji jz0 jz1 jz2 rfl (by decide) _ 0 _ rfl HO6.out (.slice ba ys.length bc) ys.length (ys.map (Value.int .u8)) rfl HS6.out HX.out (bytes_one ys) (by unfold maxLen; omega) (by omega) (by simp) ?_; intro l3 w7 ho hg; rw [Nat.zero_add, List.nil_append] at ho; have HL7 := Lib.hid (show BO w5.heap.size w7 l3 ys from ho); have HG57 := Lib.hid (grownNew (World.grownBy_alloc w5 (.cells #[] 5) none) hg (Nat.le_refl _)); obtain ⟨l3a, l3c, hl3⟩ := HL7.out.len; subst hl3; have HK8 := Lib.hid ((HK5.out.grown HG57.out).grown (World.grownBy_alloc w7 (.cells #[.slice l3a ys.length l3c] 29) none)); have HL8 := Lib.hid (HL7.out.kept (World.grownBy_alloc w7 (.cells #[.slice l3a ys.length l3c] 29) none) (by simp)); have HB8 := Lib.hid ((HB5.out.kept HG57.out (by simp)).kept (World.grownBy_alloc w7 (.cells #[.slice l3a ys.length l3c] 29) none) (by simp)); have HC8 := Lib.hid (blk_cell0 (heap_alloc_new w7 (.cells #[.slice l3a ys.length l3c] 29))).1; clear ho hg)
                  | (at_builtin; refine wpList_append_want _ rfl _ _ rfl w.heap.size (.slice wa W.length wcp) W rfl HK8.out.wr (.slice l3a ys.length l3c, ys) ⟨w7.heap.size, 0, none⟩ rfl HC8.out rfl (by omega) HK8.out.below.size ?_; intro wv' w9 hw hgg; have HK9 := Lib.hid (HK8.out.want (HL8.out.le HK5.out.below.size) (by show ys.length ≤ 2048; omega) (fun r hr => HK5.out.p.old (HL8.out.lt hr).1) hw hgg); have HB9 : Hid (BO w.heap.size w9 (.slice ba ys.length bc) ys) := Lib.hid (by (rcases hgg with hgg | ⟨r, cur, hc, _, hgg⟩); exact (HB8.out.kept hgg (by simp)).le HI.out.1.below.size; exact (HB8.out.kept hgg (by rintro _ ⟨⟩; exact HB8.out.ne hc (by simp))).le HI.out.1.below.size); obtain ⟨wa', wc', hwv'⟩ := hw.len; subst hwv'; clear hw hgg))
                have HFAR0 : Hid (∀ r, (Value.slice ba ys.length bc).ownBlock = some r → Far (P ++ [(v', ys)]) r ∧ Far (W ++ [(.slice l3a ys.length l3c, ys)]) r) := Lib.hid (fun r hr => by
                  have h1 := HB.out.2.1.lt hr
                  have h2 := HI.out.1.p.old h1.1
                  have h3 := HI.out.1.wo.old h1.1
                  refine ⟨fun p hp => ?_, fun p hp => ?_⟩
                  · rcases List.mem_append.1 hp with hp | hp
                    · exact h2 p hp
                    · rw [List.mem_singleton] at hp
                      subst hp
                      intro ho
                      have := HV5.out.lt ho
                      omega
                  · rcases List.mem_append.1 hp with hp | hp
                    · exact h3 p hp
                    · rw [List.mem_singleton] at hp
                      subst hp
                      intro ho
                      have := HL8.out.lt ho
                      have := HG5.out.size
                      omega)
                have HFAR : Hid (∀ r, (Value.slice ba ys.length bc).ownBlock = some r → Far (P ++ [(v', ys)]) r ∧ Far (W ++ [(.slice l3a ys.length l3c, ys)]) r) := Lib.hid (fun r hr => HFAR0.out r hr)
                go_wp2
                go_loopw [14] (fun jv wx => ∃ j : Nat, jv = .int .i64 j ∧ j ≤ ys.length ∧ Hid (QO w wx b cb n (P ++ [(v', ys)]) (W ++ [(.slice l3a ys.length l3c, ys)]) (.slice wa' (W ++ [(Value.slice l3a ys.length l3c, ys)]).length wc') ∧ BL w.heap.size wx (.slice ba ys.length bc) ys.length)) (fun jv _ => ys.length - (intOf jv).toNat)
                case atStart => exact ⟨0, rfl, by omega, Lib.hid ⟨HK9.out, HB9.out.bl⟩⟩
                case round =>
                  obtain ⟨j, rfl, hj, HJ⟩ := hrel
                  by_cases hj2 : j < ys.length
                  · obtain ⟨g, c, hbv, hgB, ⟨cur, hcur⟩, hrd⟩ := HJ.out.2.read (by omega)
                    injection hbv with e1 _ e3
                    subst e1 e3
                    obtain ⟨⟨y, hy⟩, hfz⟩ := hrd j hj2
                    obtain ⟨fp, fw⟩ := HFAR.out g rfl
                    have hset : ∀ z : Int, QO w (wr.setCell ⟨g, j, none⟩ (.int .u8 z)) b cb n (P ++ [(v', ys)]) (W ++ [(.slice l3a ys.length l3c, ys)]) (.slice wa' (W ++ [(Value.slice l3a ys.length l3c, ys)]).length wc') := fun z => HJ.out.1.set hcur hgB fp fw _
                    have HSET := Lib.hid hset
                    clear hrd hcur fp fw hset
                    go_wp2
                    go_roundw
                    case rel => exact ⟨j + 1, by go_num, by omega, Lib.hid ⟨HSET.out _, HJ.out.2.set _⟩⟩
                    case measure => simp [intOf]; omega
                  · go_wp2
                    go_meet
                    exact ⟨_, P ++ [(v', ys)], W ++ [(.slice l3a ys.length l3c, ys)], rfl, Lib.hid ⟨by have h := HJ.out.1; simp only [List.length_append, List.length_cons, List.length_nil, Nat.zero_add] at h; exact h, by simp [HI.out.2]⟩⟩
              · have hWn : ¬ W.length < n := by omega
                subst hwv
                go_upto_region 23 with (first
                  | (go_at_call 9; refine (put_full b cb n (P.map Prod.fst) (.slice ba ys.length bc) ys wc HI2.out.q HB.out.2.1.bt (by omega) (by simpa using hfull)).mono ?_; rintro e w5 ⟨rfl, hg⟩; have HK5 := Lib.hid (HI2.out.grown hg); have HB5 := Lib.hid ((HB.out.2.1.kept hg (by simp)).le HI.out.1.below.size); clear hg))
                have HFAR : Hid (∀ r, (Value.slice ba ys.length bc).ownBlock = some r → Far (P) r ∧ Far (W) r) := Lib.hid (fun r hr => ⟨HI.out.1.p.old (HB.out.2.1.lt hr).1, HI.out.1.wo.old (HB.out.2.1.lt hr).1⟩)
                go_wp2
                go_loopw [14] (fun jv wx => ∃ j : Nat, jv = .int .i64 j ∧ j ≤ ys.length ∧ Hid (QO w wx b cb n (P) (W) (.slice wa W.length wcp) ∧ BL w.heap.size wx (.slice ba ys.length bc) ys.length)) (fun jv _ => ys.length - (intOf jv).toNat)
                case atStart => exact ⟨0, rfl, by omega, Lib.hid ⟨HK5.out, HB5.out.bl⟩⟩
                case round =>
                  obtain ⟨j, rfl, hj, HJ⟩ := hrel
                  by_cases hj2 : j < ys.length
                  · obtain ⟨g, c, hbv, hgB, ⟨cur, hcur⟩, hrd⟩ := HJ.out.2.read (by omega)
                    injection hbv with e1 _ e3
                    subst e1 e3
                    obtain ⟨⟨y, hy⟩, hfz⟩ := hrd j hj2
                    obtain ⟨fp, fw⟩ := HFAR.out g rfl
                    have hset : ∀ z : Int, QO w (wr.setCell ⟨g, j, none⟩ (.int .u8 z)) b cb n (P) (W) (.slice wa W.length wcp) := fun z => HJ.out.1.set hcur hgB fp fw _
                    have HSET := Lib.hid hset
                    clear hrd hcur fp fw hset
                    go_wp2
                    go_roundw
                    case rel => exact ⟨j + 1, by go_num, by omega, Lib.hid ⟨HSET.out _, HJ.out.2.set _⟩⟩
                    case measure => simp [intOf]; omega
                  · go_wp2
                    go_meet
                    exact ⟨_, P, W, rfl, Lib.hid ⟨HJ.out.1, HI.out.2⟩⟩
        case rest =>
          obtain ⟨wv, P, W, hwv, HY⟩ := hcut
          subst hwv
          have hln := HY.out.1.len
          have hn8 := HY.out.1.top
          have hlc := len_of b cb n (P.map Prod.fst) wc HY.out.1.q
          have hrc := room_of b cb n (P.map Prod.fst) wc HY.out.1.q (by simpa using hln) (by omega)
          rw [List.length_map] at hlc hrc
          have HLC := Lib.hid hlc
          have HRC := Lib.hid hrc
          have hsum : (P.length : Int) + ((n : Int) - (P.length : Int)) = (n : Int) := by omega
          clear hlc hrc HI HBT f0 f1 hb2 hb3 hvc
          go_upto_region 29 with (first
            | (go_at_call 10; refine HLC.out.mono ?_; rintro e w' ⟨rfl, rfl⟩)
            | (go_at_call 11; refine HRC.out.mono ?_; rintro e w5 ⟨rfl, hg⟩; have HY5 := Lib.hid (HY.out.1.grown hg); clear hg))
          clear hsum HLC HRC
          go_wp2_with (first | (go_at_call 12; refine (all_of b cb n P w5 HY5.out.q (HY5.out.p.le (Nat.zero_le _)) hln (by omega)).mono ?_; rintro e w6 ⟨v, P', rfl, hs, ho, hq, hr', hr, hg⟩; have HT0 := Lib.hid (HY5.out.all hs ho hq hr' hg); have HS := Lib.hid hs; obtain ⟨xa, xc, rfl⟩ := own_len ho; clear hs ho hq hr' hr hg))
          go_loopw [16] (fun iv wx => ∃ q : Nat, iv = .int .i64 q ∧ q ≤ P.length ∧ Hid (QT w wx b cb n P' W P wv (.slice xa P.length xc))) (fun iv _ => P.length - (intOf iv).toNat)
          case atStart => exact ⟨0, rfl, by omega, HT0⟩
          case round =>
            clear HT0
            obtain ⟨q, rfl, hq, HT⟩ := hrel
            by_cases hq2 : q < P.length
            · obtain ⟨p, hp⟩ : ∃ p, p = P.getD q default := ⟨_, rfl⟩
              have hmem : p ∈ P := by rw [hp, List.getD_eq_getElem?_getD, List.getElem?_eq_getElem hq2]; exact List.getElem_mem hq2
              have HMEM := Lib.hid hmem
              have hpk : (P.map Prod.fst)[q]? = some p.1 := by rw [hp, List.getElem?_map, List.getD_eq_getElem?_getD, List.getElem?_eq_getElem hq2]; rfl
              have hrow : ∀ X : World, QT w X b cb n P' W P wv (.slice xa P.length xc) → ∃ rg, xa = some ⟨rg, 0, none⟩ ∧ X.cell? ⟨rg, q, none⟩ = some p.1 := fun X hX => by
                obtain ⟨rg, rc, hv, hc⟩ := own_read hX.row (by omega)
                injection hv with e1 _ _
                exact ⟨rg, e1, by rw [hc q hq2, hpk]⟩
              obtain ⟨rg, hxa, _⟩ := hrow _ HT.out
              subst hxa
              have HROW : Hid (∀ X : World, QT w X b cb n P' W P wv (.slice (some ⟨rg, 0, none⟩) P.length xc) → X.cell? ⟨rg, q, none⟩ = some p.1) := Lib.hid (fun X hX => by
                obtain ⟨rg', e, hc⟩ := hrow X hX
                injection e with e
                injection e with e _ _
                subst e
                exact hc)
              have hpl := (HY5.out.p p hmem).2
              obtain ⟨xs0, hl0, hb0⟩ := HT.out.bl p hmem
              obtain ⟨pa, pc, hpv⟩ := hb0.len
              clear hb0 hrow hpk hp hmem
              obtain ⟨pv, px⟩ := p
              simp only at hpv hl0 hpl
              rw [hl0] at hpv
              subst hpv
              clear hl0
              go_wp2
              go_loopw [17] (fun jv wx => ∃ j : Nat, jv = .int .i64 j ∧ j ≤ px.length ∧ Hid (QT w wx b cb n P' W P wv (.slice (some ⟨rg, 0, none⟩) P.length xc))) (fun jv _ => px.length - (intOf jv).toNat)
              case atStart => exact ⟨0, rfl, by omega, HT⟩
              case round =>
                clear HT
                obtain ⟨j, rfl, hj, HT⟩ := hrel
                have hcr : wr.cell? ⟨rg, q, none⟩ = some (.slice pa px.length pc) := HROW.out _ HT.out
                by_cases hj2 : j < px.length
                · obtain ⟨g, c, hbv, hgB, ⟨cur, hcur⟩, hrd⟩ := (HT.out.bl _ HMEM.out).read (by show 0 < px.length; omega)
                  injection hbv with e1 _ e3
                  subst e1 e3
                  obtain ⟨⟨y, hy⟩, hfz⟩ := hrd j hj2
                  have hset := fun z : Int => HT.out.set (j := j) HMEM.out (g := g) rfl z
                  have HSET := Lib.hid hset
                  clear hrd hcur hset
                  go_wp2
                  go_roundw
                  case rel => exact ⟨j + 1, by go_num, by omega, Lib.hid (HSET.out _)⟩
                  case measure => simp [intOf]; omega
                · go_wp2
                  go_roundw
                  case rel => exact ⟨q + 1, by go_num, by omega, HT⟩
                  case measure => simp [intOf]; omega
            · go_wp2
              go_roundw
              case rel => exact ⟨k + 1, wv, P', W, rfl, by go_num, by omega, by omega, Lib.hid ⟨HT.out.qo, by rw [HS.out, HY.out.2]⟩⟩
              case measure => simp [intOf]; omega
      · obtain ⟨wa, wc0, rfl⟩ := HI.out.1.wr.len
        go_wp2_with (first
          | (go_at_call 12; refine (all_of b cb n P wr HI.out.1.q (HI.out.1.p.le (Nat.zero_le _)) HI.out.1.len (by have := HI.out.1.top; omega)).mono ?_; rintro e w6 ⟨v, P', rfl, hs, ho, hq, hr', hr, hg⟩; have HT := Lib.hid (HI.out.1.all hs ho hq hr' hg); have HRow := Lib.hid (own_rows ho rfl); have HRB := Lib.hid hr.rb; obtain ⟨xa, xc, rfl⟩ := own_len ho; clear hs ho hq hr' hr hg)
          | (go_at_call 13; refine (same_of _ _ P W w6 HRow.out HT.out.qo.wr.row HRB.out HT.out.qo.wo.rb HI.out.2 (by have := HI.out.1.len; have := HI.out.1.top; omega)).mono ?_; rintro e w7 ⟨rfl, q, rfl⟩))
        go_ret
        exact ⟨rfl, (HT.out.qo.grown (grown_drewN _ _ _)).below⟩
    · obtain ⟨wa, wc0, rfl⟩ := HI.out.1.wr.len
      go_wp2_with (first
        | (go_at_call 12; refine (all_of b cb n P wr HI.out.1.q (HI.out.1.p.le (Nat.zero_le _)) HI.out.1.len (by have := HI.out.1.top; omega)).mono ?_; rintro e w6 ⟨v, P', rfl, hs, ho, hq, hr', hr, hg⟩; have HT := Lib.hid (HI.out.1.all hs ho hq hr' hg); have HRow := Lib.hid (own_rows ho rfl); have HRB := Lib.hid hr.rb; obtain ⟨xa, xc, rfl⟩ := own_len ho; clear hs ho hq hr' hr hg)
        | (go_at_call 13; refine (same_of _ _ P W w6 HRow.out HT.out.qo.wr.row HRB.out HT.out.qo.wo.rb HI.out.2 (by have := HI.out.1.len; have := HI.out.1.top; omega)).mono ?_; rintro e w7 ⟨rfl, q, rfl⟩))
      go_ret
      exact ⟨rfl, (HT.out.qo.grown (grown_drewN _ _ _)).below⟩
end Go.Proofs.Ytocicajjbkdbnaa.W
