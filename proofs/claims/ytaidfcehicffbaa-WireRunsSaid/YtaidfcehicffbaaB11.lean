/-
  The call of WireRuns returns true, at any calls, in every memory, and turns nothing that was there.
-/
import Derived.Test.YtaidfcehicffbaaB10
set_option linter.unusedVariables false
set_option linter.unusedSimpArgs false
namespace Go.Proofs.Ytaidfcehicffbaa.W
open Go.RowKit Go.Deep

theorem rset_K5 {w0 w : World} {b b4 : Nat} {O : List (Nat × Array Value)} {dn on : Bool} {GL GR : Rows4} {bx cs : Array Value} (up : Bool) (h : KW w0 w b b4 O dn GL on GR bx cs) (hn : ∀ k, k < 4 → (GR k).length ≤ 1000) :
    Calls Try.prog 19 #[.agg cs, .bool up] w fun e w' => ∃ a0 n0 c0 a1 n1 c1 a2 n2 c2 a3 n3 c3, e = .returned (.tuple #[.agg #[.bool up, .slice a0 n0 c0, .slice a1 n1 c1, .slice a2 n2 c2, .slice a3 n3 c3], .int .i64 (setN up GR)]) ∧ KW w0 w' b b4 O dn GL up (setG up GR) bx #[.bool up, .slice a0 n0 c0, .slice a1 n1 c1, .slice a2 n2 c2, .slice a3 n3 c3] :=
  (rset_spec on up GR _ w h.rf hn).mono fun e w' ⟨val, h1, h2, h3⟩ => by
    have h4 := h2
    obtain ⟨a, c, rfl, _⟩ := h4
    exact ⟨_, _, _, _, _, _, _, _, _, _, _, _, h1, h.ref h3 h2⟩
theorem KW.five {w0 w : World} {b b4 : Nat} {O : List (Nat × Array Value)} {dn on : Bool} {GL GR : Rows4} {cs : Array Value} (h : KW w0 w b b4 O dn GL on GR cs cs) :
    ∃ s1 s2 s3 s4, cs = #[.bool on, s1, s2, s3, s4] ∧ w.cell? ⟨b4, 0, none⟩ = some (.bool on) ∧ w.cell? ⟨b4, 1, none⟩ = some s1 ∧ w.cell? ⟨b4, 2, none⟩ = some s2 ∧ w.cell? ⟨b4, 3, none⟩ = some s3 ∧ w.cell? ⟨b4, 4, none⟩ = some s4 := by
  obtain ⟨a, c, h1, _⟩ := h.rf
  unfold rvl at h1
  injection h1 with h1
  subst h1
  exact ⟨_, _, _, _, rfl, (cell_of_row w b4 0 _ 45 (0, 0) h.box).trans rfl, (cell_of_row w b4 1 _ 45 (0, 0) h.box).trans rfl, (cell_of_row w b4 2 _ 45 (0, 0) h.box).trans rfl, (cell_of_row w b4 3 _ 45 (0, 0) h.box).trans rfl, (cell_of_row w b4 4 _ 45 (0, 0) h.box).trans rfl⟩
set_option maxHeartbeats 4000000 in
set_option maxRecDepth 100000 in
theorem walkRuns (a : Option Addr) (len cap : Nat) (f : Nat → OpV) (w : World) (hq : RQ w a len f) :
    Calls Try.prog 5 #[.slice a len cap] w fun e w' => e = .returned (.bool true) ∧ Below w.heap.size w w' := by
  have HQ := Lib.hid hq
  have hlen := hq.hlen
  clear hq
  go_enter Try.func5, Try.ntmps5
  go_wp2_with (first
    | (go_at_call 7; refine (new_of _).mono ?_; rintro e w1 ⟨b, rfl, hb, hw, hg⟩; have HW1 := Lib.hid hw; have HG1 := Lib.hid hg; have HB1 := Lib.hid hb; clear hb hw hg)
    | (go_at_call 17; refine (rnew_of _).mono ?_; rintro e w2 ⟨rfl, hg⟩; have HG2 := Lib.hid hg; clear hg)
    | (go_at_call 8; refine (awake_any _).mono ?_; rintro e w3 ⟨rfl, hg⟩; have HG3 := Lib.hid hg; clear hg))
  have hi0 : Hid (KW w w3 b w2.heap.size [] false clr true clr #[.bool true, .slice none 0 0, .slice none 0 0, .slice none 0 0, .slice none 0 0] #[.bool true, .slice none 0 0, .slice none 0 0, .slice none 0 0, .slice none 0 0]) := Lib.hid
    ⟨((HW1.out.kept HG2.out).kept (World.grownBy_alloc w2 _ none)).kept HG3.out, ⟨fun _ => none, fun _ => 0, rfl, fun k hk => Rs.nil⟩, blk_kept (heap_alloc_new w2 _) HG3.out (by simp), gbelow (gtrans (gn (gtrans HG1.out HG2.out (.inl rfl)) (World.grownBy_alloc w2 _ none)) HG3.out (.inl rfl)) (by simp), HB1.out, (gtrans HG1.out HG2.out (.inl rfl)).size, (fun p hp => by simp at hp), rfl⟩
  obtain ⟨b4, hb4⟩ : ∃ q, q = w2.heap.size := ⟨_, rfl⟩
  rw [← hb4] at hi0 ⊢
  clear hb4 HW1 HG1 HG2 HG3 HB1
  go_loopw [5] (fun iv wr => ∃ (k : Nat) (on : Bool) (G : Rows4) (cs : Array Value), iv = .int .i64 k ∧ k ≤ len ∧ k ≤ 80 ∧ Hid (KW w wr b b4 [] (!on) G on G cs cs ∧ Few G k)) (fun iv _ => 80 - (intOf iv).toNat)
  case atStart => exact ⟨0, true, clr, _, rfl, by omega, by omega, Lib.hid ⟨hi0.out, fun k hk => by simp [clr]⟩⟩
  case round =>
    clear hi0
    obtain ⟨k, on, G, cs, rfl, hk1, hk2, HI⟩ := hrel
    by_cases hl : k < len
    · by_cases h80 : k < 80
      · obtain ⟨ab, ao, rfl, hab, hcell⟩ := HQ.out.hcells (by omega)
        obtain ⟨f0, f1, f2, f3, f4⟩ := hcell k hl
        replace f0 := below_cell HI.out.1.below hab f0
        replace f1 := below_cell HI.out.1.below hab f1
        replace f2 := below_cell HI.out.1.below hab f2
        replace f3 := below_cell HI.out.1.below hab f3
        replace f4 := below_cell HI.out.1.below hab f4
        obtain ⟨hb1, hb2, hb3⟩ := HQ.out.hb k hl
        clear hcell hab
        generalize (f k).kd = kv at f0
        generalize (f k).dr = dr at f1
        generalize (f k).nn = nn at f2
        generalize (f k).bv = v at f3 hb1 hb3
        generalize (f k).bx = xs at hb1 hb2
        generalize (f k).up = up at f4
        obtain ⟨va, vc, rfl, hvc⟩ := hb1.len
        replace hb3 := hb3 va xs.length vc rfl
        have HBT := Lib.hid hb1
        clear hb1
        go_upto_region 8 with fail
        have hx : Hid (KW w (wr.alloc (.cells #[.int .i64 kv, .int .i64 dr, .int .i64 nn, .slice va xs.length vc, .bool up] 30)) b b4 [(wr.heap.size, #[.int .i64 kv, .int .i64 dr, .int .i64 nn, .slice va xs.length vc, .bool up])] (!on) G on G cs cs ∧ Few G k) := Lib.hid ⟨HI.out.1.op _, HI.out.2⟩
        obtain ⟨b6, hb6⟩ : ∃ q, q = wr.heap.size := ⟨_, rfl⟩
        rw [← hb6] at hx ⊢
        obtain ⟨x, hxx⟩ : ∃ y : World, y = wr.alloc (.cells #[.int .i64 kv, .int .i64 dr, .int .i64 nn, .slice va xs.length vc, .bool up] 30) := ⟨_, rfl⟩
        rw [← hxx] at hx ⊢
        clear hxx hb6 f0 f1 f2 f3 f4 HI
        obtain ⟨e0, e1, e2, e3, e4⟩ := hx.out.1.o
        go_cut [7] (fun v wx => ∃ h : Nat, v = .slice va h vc ∧ h ≤ 2100 ∧ h ≤ xs.length ∧ wx = x)
        case first =>
          go_wp2_with fail
          go_meet
          exact ⟨_, rfl, by omega, by omega, rfl⟩
        case rest =>
          obtain ⟨h, rfl, hh1, hh2, rfl⟩ := hcut
          have HBW : Hid (Bt w (.slice va h vc) (xs.take h)) := Lib.hid (HBT.out.take h hh2)
          have HYL : Hid ((xs.take h).length ≤ 4096) := Lib.hid (by simp; omega)
          have HFB : Hid (∀ j, j < 4 → (G j).length ≤ 1000) := Lib.hid (hx.out.2.big (by omega))
          generalize xs.take h = ys at HBW HYL
          clear HBT hb2 hb3
          go_upto_block 2 with fail
          go_cut [8, 9, 10, 11, 12, 13, 14, 15, 16] from 48 to 151 (fun gv hv xv yv okv isv s14 s15 s16 wx => ∃ (m : Int) (t on' : Bool) (G' : Rows4) (cs' : Array Value) (a1 a2 : Option Addr) (l1 l2 c1 c2 : Nat) (zs : List Int), gv = .int .i64 m ∧ hv = .int .i64 m ∧ okv = .bool t ∧ isv = .bool t ∧ xv = .slice a1 l1 c1 ∧ yv = .slice a2 l2 c2 ∧ Hid (Bt wx (.slice a1 l1 c1) zs) ∧ Hid (Bt wx (.slice a2 l2 c2) zs) ∧ Hid (KW w wx b b4 [] (!on') G' on' G' cs' cs' ∧ Few G' (k + 1)))
          case first =>
            by_cases k1 : kv = 1
            · have hL := fun (X : World) (hX : KW w X b b4 [(b6, #[.int .i64 kv, .int .i64 dr, .int .i64 nn, .slice va xs.length vc, .bool up])] (!on) G on G cs cs) => set_K up hX HFB.out
              have hR := fun (X : World) (G1 : Rows4) (hX : KW w X b b4 [(b6, #[.int .i64 kv, .int .i64 dr, .int .i64 nn, .slice va xs.length vc, .bool up])] (!up) G1 on G cs cs) => rset_K5 up hX HFB.out
              have hF := hx.out.2.set up
              generalize setN up G = m at hL hR
              generalize setG up G = G2 at hL hR hF
              have HL := Lib.hid hL
              have HR := Lib.hid (fun X hX => hR X G2 hX)
              have HF := Lib.hid hF
              clear hL hR hF
              subst k1
              go_upto_region 16 with (first
                | (go_at_call 18; refine (HL.out _ hx.out.1).mono ?_; rintro e x1 ⟨rfl, hk⟩; have HK1 := Lib.hid hk; obtain ⟨p0, p1, p2, p3, p4⟩ := hk.o; clear hk)
                | (refine wpList_load_row rfl 45 _ rfl b4 rfl 45 _ (0, 0) _ HK1.out.box Try.underlying45 rfl HK1.out.sz0 ?_)
                | (go_at_call 19; refine (HR.out _ HK1.out).mono ?_; rintro e x2 ⟨a0, n0, c0, a1, n1, c1, a2, n2, c2, a3, n3, c3, rfl, hk⟩; have HK2 := Lib.hid hk; clear hk))
              have HK3 := Lib.hid (HK2.out.grown (World.grownBy_alloc x2 (.cells #[.bool up, .slice a0 n0 c0, .slice a1 n1 c1, .slice a2 n2 c2, .slice a3 n3 c3] 45) none))
              have HB3 := Lib.hid (heap_alloc_new x2 (.cells #[.bool up, .slice a0 n0 c0, .slice a1 n1 c1, .slice a2 n2 c2, .slice a3 n3 c3] 45))
              obtain ⟨x3, hx3⟩ : ∃ y : World, y = x2.alloc (.cells #[.bool up, .slice a0 n0 c0, .slice a1 n1 c1, .slice a2 n2 c2, .slice a3 n3 c3] 45) := ⟨_, rfl⟩
              rw [← hx3] at HK3 HB3 ⊢
              obtain ⟨b12, hb12⟩ : ∃ y, y = x2.heap.size := ⟨_, rfl⟩
              rw [← hb12] at HB3 ⊢
              clear hx3 hb12 HK2
              go_wp2_with (first
                | (refine wpList_load_row rfl 45 _ rfl b12 rfl 45 _ (0, 0) _ HB3.out Try.underlying45 rfl (by kernel_rfl) ?_)
                | (refine wpList_store_rowTo rfl 45 _ _ rfl rfl b4 #[.bool up, .slice a0 n0 c0, .slice a1 n1 c1, .slice a2 n2 c2, .slice a3 n3 c3] rfl rfl 45 _ HK3.out.box HK3.out.sz2 HK3.out.sz3 HK3.out.rf.sz.2 ?_))
              have HK4 := Lib.hid HK3.out.store.noop
              go_meet
              exact ⟨0, false, up, G2, _, none, none, 0, 0, 0, 0, [], rfl, rfl, rfl, rfl, rfl, rfl, Lib.hid (.inl ⟨rfl, rfl⟩), Lib.hid (.inl ⟨rfl, rfl⟩), Lib.hid ⟨HK4.out, HF.out⟩⟩
            · by_cases k23 : kv = 2 ∨ kv = 3
              · have hL := fun (X : World) (hX : KW w X b b4 [(b6, #[.int .i64 kv, .int .i64 dr, .int .i64 nn, .slice va xs.length vc, .bool up])] (!on) G on G cs cs) => data_K dr (.slice va h vc) ys hX (HBW.out.later hX.below) HYL.out HFB.out
                have hR := fun (X : World) (G1 : Rows4) (hX : KW w X b b4 [(b6, #[.int .i64 kv, .int .i64 dr, .int .i64 nn, .slice va xs.length vc, .bool up])] (!on) G1 on G cs cs) => rdata_K dr (.slice va h vc) ys hX (HBW.out.later hX.below) HYL.out HFB.out
                have hF := hx.out.2.data (!on) dr ys
                generalize dataN (!on) G dr ys = m at hL hR
                generalize dataG (!on) G dr ys = G2 at hL hR hF
                have HL := Lib.hid hL
                have HR := Lib.hid (fun X hX => hR X G2 hX)
                have HF := Lib.hid hF
                clear hL hR hF
                rcases k23 with rfl | rfl
                all_goals
                  go_wp2_with (first
                    | (go_at_call 11; refine (HL.out _ hx.out.1).mono ?_; rintro e x1 ⟨rfl, hk⟩; have HK1 := Lib.hid hk; obtain ⟨p0, p1, p2, p3, p4⟩ := hk.o; clear hk)
                    | (refine wpList_load_row rfl 45 _ rfl b4 rfl 45 _ (0, 0) _ HK1.out.box Try.underlying45 rfl HK1.out.sz0 ?_)
                    | (go_at_call 20; refine (HR.out _ HK1.out).mono ?_; rintro e x2 ⟨cs2, rfl, hk⟩; have HK2 := Lib.hid hk; clear hk)
                    | (refine wpList_store_rowTo rfl 45 _ _ rfl rfl b4 cs2 rfl rfl 45 _ HK2.out.box HK2.out.sz2 HK2.out.sz3 HK2.out.rf.sz.2 ?_))
                  have HK3 := Lib.hid HK2.out.store.noop
                  go_meet
                  exact ⟨m, false, on, G2, cs2, none, none, 0, 0, 0, 0, [], rfl, rfl, rfl, rfl, rfl, rfl, Lib.hid (.inl ⟨rfl, rfl⟩), Lib.hid (.inl ⟨rfl, rfl⟩), Lib.hid ⟨HK3.out, HF.out⟩⟩
              · by_cases k4 : kv = 4
                · have hL := fun (X : World) (hX : KW w X b b4 [(b6, #[.int .i64 kv, .int .i64 dr, .int .i64 nn, .slice va xs.length vc, .bool up])] (!on) G on G cs cs) => take_K dr nn hX HFB.out
                  have hR := fun (X : World) (G1 : Rows4) (hX : KW w X b b4 [(b6, #[.int .i64 kv, .int .i64 dr, .int .i64 nn, .slice va xs.length vc, .bool up])] (!on) G1 on G cs cs) => rtake_K dr nn hX HFB.out
                  have hF := hx.out.2.take dr nn
                  generalize takeB G dr nn = t at hL hR
                  generalize takeX G dr nn = zs at hL hR
                  generalize takeG G dr nn = G2 at hL hR hF
                  have HL := Lib.hid hL
                  have HR := Lib.hid (fun X hX => hR X G2 hX)
                  have HF := Lib.hid hF
                  clear hL hR hF
                  subst k4
                  go_wp2_with (first
                    | (go_at_call 12; refine (HL.out _ hx.out.1).mono ?_; rintro e x1 ⟨ta, tl, tc, rfl, hk, hb⟩; have HK1 := Lib.hid hk; obtain ⟨p0, p1, p2, p3, p4⟩ := hk.o; clear hk; have HT1 := Lib.hid hb; clear hb)
                    | (refine wpList_load_row rfl 45 _ rfl b4 rfl 45 _ (0, 0) _ HK1.out.box Try.underlying45 rfl HK1.out.sz0 ?_)
                    | (go_at_call 21; refine (HR.out _ HK1.out).mono ?_; rintro e x2 ⟨cs2, ua, ul, uc, rfl, hk, hb, hg⟩; have HK2 := Lib.hid hk; clear hk; have HT2 := Lib.hid hb; have HG2 := Lib.hid hg; clear hb hg)
                    | (refine wpList_store_rowTo rfl 45 _ _ rfl rfl b4 cs2 rfl rfl 45 _ HK2.out.box HK2.out.sz2 HK2.out.sz3 HK2.out.rf.sz.2 ?_))
                  have HK3 := Lib.hid HK2.out.store.noop
                  have HB1 := Lib.hid (HK2.out.bt (cs' := cs2) (HT1.out.kept HG2.out (by simp))).bt
                  have HB2 := Lib.hid (HK2.out.bt (cs' := cs2) HT2.out).bt
                  go_meet
                  exact ⟨0, t, on, G2, cs2, ta, ua, tl, ul, tc, uc, zs, rfl, rfl, rfl, rfl, rfl, rfl, HB1, HB2, Lib.hid ⟨HK3.out, HF.out⟩⟩
                · by_cases k5 : kv = 5
                  · have hL := fun (X : World) (hX : KW w X b b4 [(b6, #[.int .i64 kv, .int .i64 dr, .int .i64 nn, .slice va xs.length vc, .bool up])] (!on) G on G cs cs) => twin_K dr nn hX HFB.out
                    have hR := fun (X : World) (G1 : Rows4) (hX : KW w X b b4 [(b6, #[.int .i64 kv, .int .i64 dr, .int .i64 nn, .slice va xs.length vc, .bool up])] (!on) G1 on G cs cs) => rtwin_K dr nn hX HFB.out
                    have hF := hx.out.2.twin dr nn
                    generalize twinN G dr nn = m at hL hR
                    generalize twinG G dr nn = G2 at hL hR hF
                    have HL := Lib.hid hL
                    have HR := Lib.hid (fun X hX => hR X G2 hX)
                    have HF := Lib.hid hF
                    clear hL hR hF
                    subst k5
                    go_wp2_with (first
                      | (go_at_call 13; refine (HL.out _ hx.out.1).mono ?_; rintro e x1 ⟨rfl, hk⟩; have HK1 := Lib.hid hk; obtain ⟨p0, p1, p2, p3, p4⟩ := hk.o; clear hk)
                      | (refine wpList_load_row rfl 45 _ rfl b4 rfl 45 _ (0, 0) _ HK1.out.box Try.underlying45 rfl HK1.out.sz0 ?_)
                      | (go_at_call 22; refine (HR.out _ HK1.out).mono ?_; rintro e x2 ⟨cs2, rfl, hk⟩; have HK2 := Lib.hid hk; clear hk)
                      | (refine wpList_store_rowTo rfl 45 _ _ rfl rfl b4 cs2 rfl rfl 45 _ HK2.out.box HK2.out.sz2 HK2.out.sz3 HK2.out.rf.sz.2 ?_))
                    have HK3 := Lib.hid HK2.out.store.noop
                    go_meet
                    exact ⟨m, false, on, G2, cs2, none, none, 0, 0, 0, 0, [], rfl, rfl, rfl, rfl, rfl, rfl, Lib.hid (.inl ⟨rfl, rfl⟩), Lib.hid (.inl ⟨rfl, rfl⟩), Lib.hid ⟨HK3.out, HF.out⟩⟩
                  · by_cases k6 : kv = 6
                    · have hL := fun (X : World) (hX : KW w X b b4 [(b6, #[.int .i64 kv, .int .i64 dr, .int .i64 nn, .slice va xs.length vc, .bool up])] (!on) G on G cs cs) => say_K dr (.slice va h vc) ys hX (HBW.out.later hX.below) HYL.out HFB.out
                      have hR := fun (X : World) (G1 : Rows4) (hX : KW w X b b4 [(b6, #[.int .i64 kv, .int .i64 dr, .int .i64 nn, .slice va xs.length vc, .bool up])] (!on) G1 on G cs cs) => rsay_K dr (.slice va h vc) ys hX (HBW.out.later hX.below) HYL.out HFB.out
                      have hF := hx.out.2.say (!on) dr ys
                      generalize mayN (!on) dr = m at hL hR
                      generalize sayG (!on) G dr ys = G2 at hL hR hF
                      have HL := Lib.hid hL
                      have HR := Lib.hid (fun X hX => hR X G2 hX)
                      have HF := Lib.hid hF
                      clear hL hR hF
                      subst k6
                      go_wp2_with (first
                        | (go_at_call 14; refine (HL.out _ hx.out.1).mono ?_; rintro e x1 ⟨rfl, hk⟩; have HK1 := Lib.hid hk; obtain ⟨p0, p1, p2, p3, p4⟩ := hk.o; clear hk)
                        | (refine wpList_load_row rfl 45 _ rfl b4 rfl 45 _ (0, 0) _ HK1.out.box Try.underlying45 rfl HK1.out.sz0 ?_)
                        | (go_at_call 23; refine (HR.out _ HK1.out).mono ?_; rintro e x2 ⟨cs2, rfl, hk⟩; have HK2 := Lib.hid hk; clear hk)
                        | (refine wpList_store_rowTo rfl 45 _ _ rfl rfl b4 cs2 rfl rfl 45 _ HK2.out.box HK2.out.sz2 HK2.out.sz3 HK2.out.rf.sz.2 ?_))
                      have HK3 := Lib.hid HK2.out.store.noop
                      go_meet
                      exact ⟨m, false, on, G2, cs2, none, none, 0, 0, 0, 0, [], rfl, rfl, rfl, rfl, rfl, rfl, Lib.hid (.inl ⟨rfl, rfl⟩), Lib.hid (.inl ⟨rfl, rfl⟩), Lib.hid ⟨HK3.out, HF.out⟩⟩
                    · by_cases k7 : kv = 7
                      · have hL := fun (X : World) (hX : KW w X b b4 [(b6, #[.int .i64 kv, .int .i64 dr, .int .i64 nn, .slice va xs.length vc, .bool up])] (!on) G on G cs cs) => hear_K dr hX HFB.out
                        have hR := fun (X : World) (G1 : Rows4) (hX : KW w X b b4 [(b6, #[.int .i64 kv, .int .i64 dr, .int .i64 nn, .slice va xs.length vc, .bool up])] (!on) G1 on G cs cs) => rhear_K dr hX HFB.out
                        have hF := hx.out.2.hear dr
                        generalize hearB G dr = t at hL hR
                        generalize hearX G dr = zs at hL hR
                        generalize hearG G dr = G2 at hL hR hF
                        have HL := Lib.hid hL
                        have HR := Lib.hid (fun X hX => hR X G2 hX)
                        have HF := Lib.hid hF
                        clear hL hR hF
                        subst k7
                        go_wp2_with (first
                          | (go_at_call 15; refine (HL.out _ hx.out.1).mono ?_; rintro e x1 ⟨ta, tl, tc, rfl, hk, hb⟩; have HK1 := Lib.hid hk; obtain ⟨p0, p1, p2, p3, p4⟩ := hk.o; clear hk; have HT1 := Lib.hid hb; clear hb)
                          | (refine wpList_load_row rfl 45 _ rfl b4 rfl 45 _ (0, 0) _ HK1.out.box Try.underlying45 rfl HK1.out.sz0 ?_)
                          | (go_at_call 24; refine (HR.out _ HK1.out).mono ?_; rintro e x2 ⟨cs2, ua, ul, uc, rfl, hk, hb, hg⟩; have HK2 := Lib.hid hk; clear hk; have HT2 := Lib.hid hb; have HG2 := Lib.hid hg; clear hb hg)
                          | (refine wpList_store_rowTo rfl 45 _ _ rfl rfl b4 cs2 rfl rfl 45 _ HK2.out.box HK2.out.sz2 HK2.out.sz3 HK2.out.rf.sz.2 ?_))
                        have HK3 := Lib.hid HK2.out.store.noop
                        have HB1 := Lib.hid (HK2.out.bt (cs' := cs2) (HT1.out.kept HG2.out (by simp))).bt
                        have HB2 := Lib.hid (HK2.out.bt (cs' := cs2) HT2.out).bt
                        go_meet
                        exact ⟨0, t, on, G2, cs2, ta, ua, tl, ul, tc, uc, zs, rfl, rfl, rfl, rfl, rfl, rfl, HB1, HB2, Lib.hid ⟨HK3.out, HF.out⟩⟩
                      · have q1 : (kv == 1) = false := by simpa using k1
                        have q2 : (kv == 2) = false := by simpa using fun h => k23 (.inl h)
                        have q3 : (kv == 3) = false := by simpa using fun h => k23 (.inr h)
                        have q4 : (kv == 4) = false := by simpa using k4
                        have q5 : (kv == 5) = false := by simpa using k5
                        have q6 : (kv == 6) = false := by simpa using k6
                        have q7 : (kv == 7) = false := by simpa using k7
                        clear k1 k23 k4 k5 k6 k7
                        go_wp2
                        go_meet
                        exact ⟨0, false, on, G, cs, none, none, 0, 0, 0, 0, [], rfl, rfl, rfl, rfl, rfl, rfl, Lib.hid (.inl ⟨rfl, rfl⟩), Lib.hid (.inl ⟨rfl, rfl⟩), Lib.hid ⟨hx.out.1.noop, hx.out.2.more⟩⟩
          case rest =>
            obtain ⟨m, t, on', G', cs', a1, a2, l1, l2, c1, c2, zs, rfl, rfl, rfl, rfl, rfl, rfl, HZ1, HZ2, HY⟩ := hcut
            have v1 := conv_of HZ1.out
            have v2 := conv_of HZ2.out
            clear hx e0 e1 e2 e3 e4 HFB HBW HYL
            obtain ⟨s1, s2, s3, s4, hcs, d0, d1, d2, d3, d4⟩ := HY.out.1.five
            subst hcs
            go_wp2_with (first
              | (go_at_call 25; refine (same2_of b on' G' _ _ HY.out.1.wr HY.out.1.rf (HY.out.2.big (by omega))).mono ?_; rintro e w' ⟨rfl, hg⟩; have HG := Lib.hid hg; clear hg))
            have HK := Lib.hid (HY.out.1.grown HG.out)
            go_roundw
            case rel => exact ⟨k + 1, on', G', _, by go_num, by omega, by omega, Lib.hid ⟨HK.out, HY.out.2⟩⟩
            case measure => simp [intOf]; omega
      · go_wp2
        go_ret
        exact ⟨rfl, HI.out.1.below⟩
    · go_wp2
      go_ret
      exact ⟨rfl, HI.out.1.below⟩
end Go.Proofs.Ytaidfcehicffbaa.W
