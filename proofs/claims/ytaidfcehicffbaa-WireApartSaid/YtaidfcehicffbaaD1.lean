/-
  A link whose rows lie outside of certain blocks: its calls keep them so.
-/
import Derived.Test.YtaidfcehicffbaaB10
set_option linter.unusedVariables false
set_option linter.unusedSimpArgs false
namespace Go.Proofs.Ytaidfcehicffbaa.W
open Go.RowKit Go.Deep

set_option maxHeartbeats 1000000 in
theorem put_ofX (b o : Nat) (cs : Array Value) (rv v : Value) (P : List Pr) (xs : List Int) (w : World) (hb : w.heap[b]? = some (.cells cs 60 (0, 0))) (ho : cs[o]? = some rv) (h : RW 0 w rv P) (hv : Bt w v xs) (hl : xs.length ≤ 4096) (hn : P.length ≤ 1000) :
    Calls Try.prog 32 #[.pointer (some ⟨b, o, none⟩), v] w fun e w' => ∃ rv' v', e = .returned (.tuple #[]) ∧ w'.heap[b]? = some (.cells (cs.setIfInBounds o rv') 60 (0, 0)) ∧ RW w.heap.size w' rv' (P ++ [(v', xs)]) ∧ w.grownBy w' (some b) := by
  obtain ⟨i0, hi, hz0, hz1, hz2⟩ := info_parts info28
  have hc := (cell_of_row w b o cs 60 (0, 0) hb).trans ho
  have HB := Lib.hid hb
  have HW := Lib.hid h
  have HV := Lib.hid hv
  have C1 := Lib.hid (clone_rows rv P w h.1 h.2 (by omega))
  have HO := Lib.hid ho
  obtain ⟨va, vc, rfl, _⟩ := hv.len
  obtain ⟨ra, rc, rfl⟩ := own_len h.1
  clear hb h hv ho
  go_enter Try.func32, Try.ntmps32
  go_wp2_with (first
    | (go_at_call 41; refine C1.out.mono ?_; rintro e w1 ⟨r1, rfl, ho1, hg1⟩; have HO1 := Lib.hid ho1; have HG1 := Lib.hid hg1; have C2 := Lib.hid (clone_of _ xs w1 (HV.out.kept hg1 (by simp)) (by omega)); clear ho1 hg1)
    | (go_at_call 40; refine C2.out.mono ?_; rintro e w2 ⟨v2, rfl, hb2, hg2⟩; have HB2 := Lib.hid hb2; have HG2 := Lib.hid hg2; obtain ⟨v2a, v2c, hv2⟩ := hb2.len; subst hv2; have HO3 := Lib.hid (own_kept (own_kept HO1.out hg2 (by simp)) (World.grownBy_alloc w2 (.cells #[.slice v2a xs.length v2c] 28) none) (by simp)); clear hb2 hg2)
    | (at_builtin; refine wpList_append_own _ rfl _ _ 26 rfl w.heap.size 28 i0 (.slice none 0 0) 1 24 Try.underlying26 hi hz0 hz1 hz2 rfl (by decide) r1 P.length _ rfl HO3.out ⟨w2.heap.size, 0, none⟩ 1 1 [.slice v2a xs.length v2c] rfl rfl (cell_one_new _ _ _) (by simp [Value.oneCell']) (by unfold maxLen; omega) (by omega) (Nat.le_trans HG1.out.size (Nat.le_trans HG2.out.size (World.grownBy_alloc _ _ none).size)) ?_; intro r4 w4 ho4 hg4 _; obtain ⟨ra4, rc4, hr4⟩ := own_len ho4; subst hr4; have HO4 := Lib.hid ho4; have HG4 := Lib.hid (grownOwn (gn (gn HG1.out HG2.out) (World.grownBy_alloc w2 (.cells #[.slice v2a xs.length v2c] 28) none)) HO3.out (Nat.le_refl _) hg4); have HB4 := Lib.hid (blk_kept HB.out HG4.out (by simp)); have HV4 := Lib.hid (show BO 0 w4 (.slice v2a xs.length v2c) xs from own_cross ((HB2.out.le (Nat.zero_le _)).kept (World.grownBy_alloc w2 (.cells #[.slice v2a xs.length v2c] 28) none) (by simp)) HO3.out (by decide) hg4); have e1 := (cell_of_row w4 b o cs 60 (0, 0) HB4.out).trans HO.out; have z1 := blk_frozen HB4.out o; clear ho4 hg4))
  refine Great.bodyPost_end0 rfl rfl ?_
  have g1 := grownSet w4 b o (.slice ra4 (P.length + 1) rc4)
  have hW : RW w.heap.size w4 (.slice ra4 (P.length + 1) rc4) (P ++ [(.slice v2a xs.length v2c, xs)]) := ⟨by simpa using HO4.out, (HW.out.2.kept HG4.out (by simp)).app (.one HV4.out hl)⟩
  exact ⟨_, _, rfl, heap_setCell_same w4 b o cs 60 _ HB4.out, hW.box HB4.out g1, gn2 HG4.out g1⟩

set_option maxHeartbeats 1000000 in
theorem take_someX (b o : Nat) (cs : Array Value) (rv : Value) (P : List Pr) (n m : Nat) (w : World) (hb : w.heap[b]? = some (.cells cs 60 (0, 0))) (ho : cs[o]? = some rv) (h : RW 0 w rv P) (hn : P.length ≤ 1000) (hm : P.length = n + m + 1) :
    Calls Try.prog 33 #[.pointer (some ⟨b, o, none⟩), .int .i64 (n : Int)] w fun e w' => ∃ rv', e = .returned (.tuple #[(P.getD n default).1, .bool true]) ∧ w'.heap[b]? = some (.cells (cs.setIfInBounds o rv') 60 (0, 0)) ∧ RW w.heap.size w' rv' (P.eraseIdx n) ∧ RO 0 w' P ∧ w.grownBy w' (some b) := by
  have hc := (cell_of_row w b o cs 60 (0, 0) hb).trans ho
  have HB := Lib.hid hb
  have HW := Lib.hid h
  obtain ⟨g, c, rfl, hcells⟩ := row_get h (show n < P.length by omega)
  have HO := Lib.hid ho
  have hL : n + m + 1 ≤ 1000 := by omega
  have hall : ∀ j, j < n + m + 1 → ∃ a l c, w.cell? ⟨g, j, none⟩ = some (.slice a l c) ∧ (P.getD j default).1 = .slice a l c := fun j hj => by
    have h1 := hcells j (by omega)
    obtain ⟨pa, pc, hpv⟩ := (h.2 _ (row_mem (show j < P.length by omega))).1.len
    exact ⟨pa, _, pc, by rw [h1, hpv], hpv⟩
  have HC := Lib.hid hall
  have hcl := clone_rows _ P w h.1 h.2 (by omega)
  rw [hm] at hcl hc
  have C1 := Lib.hid hcl
  have HM := Lib.hid hm
  clear hb h ho hcells hall hcl hn hm
  go_enter Try.func33, Try.ntmps33
  go_wp2
  apply wp_scope_straight
  go_wp2
  apply wp_label
  go_wp2
  go_loopw [13] (fun iv wr => ∃ k : Nat, iv = .int .i64 k ∧ k ≤ n ∧ wr = w) (fun iv _ => (n + m + 1) - (intOf iv).toNat)
  case atStart => exact ⟨0, rfl, by omega, rfl⟩
  case round =>
    obtain ⟨k, rfl, hk, rfl⟩ := hrel
    have hlt : k < n + m + 1 := by omega
    obtain ⟨pa, pl, pc, hck, hpv⟩ := HC.out k hlt
    by_cases hkn : k = n
    · subst hkn
      have HPV := Lib.hid hpv
      clear hpv
      go_wp2_with (first
        | (go_at_call 41; refine C1.out.mono ?_; rintro e w1 ⟨r1, rfl, ho1, hg1⟩; obtain ⟨g1, c1, hr1, _⟩ := own_read ho1 (by omega); subst hr1; have HO1 := Lib.hid ho1; have HG1 := Lib.hid hg1; have D1 := Lib.hid (del_of _ g1 c1 k m P w1 HM.out ho1 (HW.out.2.kept hg1 (by simp)) (by omega) (own_max ho1)); clear ho1 hg1)
        | (go_at_call 42; refine D1.out.mono ?_; rintro e w2 ⟨rfl, ho2, hg2⟩; have HO2 := Lib.hid ho2; have HG2 := Lib.hid (grownOwn HG1.out HO1.out (Nat.le_refl _) hg2); have HB2 := Lib.hid (blk_kept HB.out HG2.out (by simp)); have e1 := (cell_of_row w2 b o cs 60 (0, 0) HB2.out).trans HO.out; have z1 := blk_frozen HB2.out o; have HP2 := Lib.hid (HW.out.2.kept HG2.out (by simp)); clear ho2 hg2))
      rw [Exit.noGoto_ret]
      go_ret2
      have gs := grownSet w2 b o (.slice (some ⟨g1, 0, none⟩) (k + m) c1)
      have hl : (P.eraseIdx k).length = k + m := by rw [List.length_eraseIdx, if_pos (by have := HM.out; omega)]; have := HM.out; omega
      have hW : RW wr.heap.size w2 (.slice (some ⟨g1, 0, none⟩) (k + m) c1) (P.eraseIdx k) := ⟨by rw [hl]; exact HO2.out, fun p hp => HP2.out p (List.mem_of_mem_eraseIdx hp)⟩
      refine ⟨_, ?_, heap_setCell_same w2 b o cs 60 _ HB2.out, hW.box HB2.out gs, HP2.out.kept gs (by rintro r ⟨⟩; exact HP2.out.far HB2.out (by simp)), gn2 HG2.out gs⟩
      rw [HPV.out]
      rfl
    · have hne : ((k : Int) == (n : Int)) = false := by simp; omega
      clear hpv
      have hne' : (k : Int) ≠ n := by omega
      go_wp2
      refine ⟨⟨k + 1, by go_num, by omega, trivial⟩, ?_⟩
      simp [intOf]
      omega

structure WrX (Z : Nat → Prop) (w : World) (b : Nat) (dn : Bool) (G : Rows4) : Prop where
  ex : ∃ (rv : Nat → Value) (F : Nat → List Pr), w.heap[b]? = some (.cells (csOf dn rv) 60 (0, 0)) ∧ ∀ k, k < 4 → RW 0 w (rv k) (F k) ∧ (F k).map Prod.snd = G k ∧ ∀ r, (rv k).ownBlock = some r → ¬ Z r
theorem WrX.wr {Z : Nat → Prop} {w : World} {b : Nat} {dn : Bool} {G : Rows4} (h : WrX Z w b dn G) : Wr w b dn G := by
  obtain ⟨rv, F, hb, hF⟩ := h.ex
  exact ⟨rv, F, hb, fun k hk => ⟨(hF k hk).1, (hF k hk).2.1⟩⟩
theorem WrX.kept {Z : Nat → Prop} {w w' : World} {b : Nat} {dn : Bool} {G : Rows4} (h : WrX Z w b dn G) (hg : w.grownBy w' none) : WrX Z w' b dn G := by
  obtain ⟨rv, F, hb, hF⟩ := h.ex
  exact ⟨rv, F, blk_kept hb hg (by simp), fun k hk => ⟨(hF k hk).1.kept hg, (hF k hk).2⟩⟩
theorem WrX.drew {Z : Nat → Prop} {w : World} {b : Nat} {dn : Bool} {G : Rows4} (h : WrX Z w b dn G) : WrX Z w.drew b dn G := h.kept (grown_drew _ _)
/-- A block of another kind is written. -/
theorem WrX.far {Z : Nat → Prop} {w w' : World} {b r : Nat} {dn : Bool} {G : Rows4} {cs : Array Value} {t : TypeId} (h : WrX Z w b dn G) (hb : w.heap[r]? = some (.cells cs t (0, 0))) (h5 : t ≠ 5) (h28 : t ≠ 28) (h60 : t ≠ 60) (hg : w.grownBy w' (some r)) : WrX Z w' b dn G := by
  obtain ⟨rv, F, hbb, hF⟩ := h.ex
  have hne : b ≠ r := blk_ne hbb hb (fun e => h60 e.symm)
  exact ⟨rv, F, blk_kept hbb hg (by simpa using hne), fun k hk => ⟨⟨own_kept (hF k hk).1.1 hg (by rintro r ⟨⟩; exact own_far (hF k hk).1.1 hb (by simp; exact fun e => absurd e h28)), (hF k hk).1.2.kept hg (by rintro r ⟨⟩; exact (hF k hk).1.2.far hb (by simp; exact fun e => absurd e h5))⟩, (hF k hk).2⟩⟩
/-- A block that the rows keep out of is written. -/
theorem WrX.out {Z : Nat → Prop} {w w' : World} {b r : Nat} {dn : Bool} {G : Rows4} {cs : Array Value} (h : WrX Z w b dn G) (hb : w.heap[r]? = some (.cells cs 28 (0, 0))) (hz : Z r) (hg : w.grownBy w' (some r)) : WrX Z w' b dn G := by
  obtain ⟨rv, F, hbb, hF⟩ := h.ex
  have hne : b ≠ r := blk_ne hbb hb (by decide)
  exact ⟨rv, F, blk_kept hbb hg (by simpa using hne), fun k hk => ⟨⟨own_kept (hF k hk).1.1 hg (by rintro r ⟨⟩; exact fun e => (hF k hk).2.2 _ e hz), (hF k hk).1.2.kept hg (by rintro r ⟨⟩; exact (hF k hk).1.2.far hb (by simp))⟩, (hF k hk).2⟩⟩
theorem WrX.less {Z Z' : Nat → Prop} {w : World} {b : Nat} {dn : Bool} {G : Rows4} (h : WrX Z w b dn G) (hz : ∀ r, r < w.heap.size → Z' r → Z r) : WrX Z' w b dn G := by
  obtain ⟨rv, F, hb, hF⟩ := h.ex
  exact ⟨rv, F, hb, fun k hk => ⟨(hF k hk).1, (hF k hk).2.1, fun r hr hz' => (hF k hk).2.2 r hr (hz r ((hF k hk).1.1.lt r hr).2 hz')⟩⟩
theorem WrX.row {Z : Nat → Prop} {w : World} {b : Nat} {dn : Bool} {G : Rows4} (h : WrX Z w b dn G) {k : Nat} (hk : k < 4) : ∃ (cs : Array Value) (rv : Value) (P : List Pr), w.heap[b]? = some (.cells cs 60 (0, 0)) ∧ cs[2 + k]? = some rv ∧ RW 0 w rv P ∧ P.map Prod.snd = G k ∧
    ∀ w' rv' P', w'.heap[b]? = some (.cells (cs.setIfInBounds (2 + k) rv') 60 (0, 0)) → RW 0 w' rv' P' → w.grownBy w' (some b) → (∀ r, rv'.ownBlock = some r → ¬ Z r) → WrX Z w' b dn (upd G k (P'.map Prod.snd)) := by
  obtain ⟨rv, F, hb, hF⟩ := h.ex
  refine ⟨csOf dn rv, rv k, F k, hb, csOf_get hk, (hF k hk).1, (hF k hk).2.1, fun w' rv' P' hb' hr' hg hz => ⟨fun j => if j = k then rv' else rv j, fun j => if j = k then P' else F j, ?_, fun j hj => ?_⟩⟩
  · rw [hb', csOf_set hk]
  · by_cases hjk : j = k
    · simp only [upd, if_pos hjk]
      exact ⟨hr', trivial, hz⟩
    · simp only [upd, if_neg hjk]
      exact ⟨(hF j hj).1.box hb hg, (hF j hj).2⟩
theorem RW.newer {Z : Nat → Prop} {w w' : World} {rv : Value} {P : List Pr} (h : RW w.heap.size w' rv P) (hZ : ∀ r, Z r → r < w.heap.size) : ∀ r, rv.ownBlock = some r → ¬ Z r := fun r hr hz => by
  have h1 := (h.1.lt r hr).1
  have h2 := hZ r hz
  omega
theorem put_wX (Z : Nat → Prop) (b o k : Nat) (dn : Bool) (G : Rows4) (v : Value) (xs : List Int) (w : World) (h : WrX Z w b dn G) (hZ : ∀ r, Z r → r < w.heap.size) (hk : k < 4) (ho : o = 2 + k) (hv : Bt w v xs) (hl : xs.length ≤ 4096) (hn : (G k).length ≤ 1000) :
    Calls Try.prog 32 #[.pointer (some ⟨b, o, none⟩), v] w fun e w' => e = .returned (.tuple #[]) ∧ WrX Z w' b dn (upd G k (G k ++ [xs])) ∧ w.grownBy w' (some b) := by
  subst ho
  obtain ⟨cs, rv, P, hb, ho, hr, hs, hnew⟩ := h.row hk
  have hPl : P.length = (G k).length := by rw [← hs, List.length_map]
  refine (put_ofX b (2 + k) cs rv v P xs w hb ho hr hv hl (by omega)).mono fun e w' ⟨rv', v', he, hb', hr', hg⟩ => ⟨he, ?_, hg⟩
  have h2 := hnew w' rv' _ hb' hr'.le hg (hr'.newer hZ)
  simpa [hs] using h2
theorem take_wX (Z : Nat → Prop) (b o k : Nat) (dn : Bool) (G : Rows4) (n : Int) (w : World) (h : WrX Z w b dn G) (hZ : ∀ r, Z r → r < w.heap.size) (hk : k < 4) (ho : o = 2 + k) (hn : (G k).length ≤ 1000) :
    Calls Try.prog 33 #[.pointer (some ⟨b, o, none⟩), .int .i64 n] w fun e w' => ∃ a l c, e = .returned (.tuple #[.slice a l c, .bool (inR (G k) n)]) ∧ WrX Z w' b dn (upd G k (takeL (G k) n)) ∧ BO 0 w' (.slice a l c) (tookL (G k) n) ∧ (tookL (G k) n).length ≤ 4096 ∧ w.grownBy w' (some b) := by
  subst ho
  obtain ⟨cs, rv, P, hb, ho, hr, hs, hnew⟩ := h.row hk
  have hPl : P.length = (G k).length := by rw [← hs, List.length_map]
  by_cases hin : 0 ≤ n ∧ n < (P.length : Int)
  · obtain ⟨j, rfl⟩ : ∃ j : Nat, n = j := ⟨n.toNat, by omega⟩
    have hj : j < P.length := by omega
    have hin' : inR (G k) j = true := by unfold inR; rw [← hPl]; simpa using hj
    refine (take_someX b (2 + k) cs rv P j (P.length - j - 1) w hb ho hr (by omega) (by omega)).mono fun e w' ⟨rv', he, hb', hr', hp, hg⟩ => ?_
    have hm := hp _ (row_mem hj)
    obtain ⟨a, c, hv⟩ := hm.1.len
    have ht : tookL (G k) j = (P.getD j default).2 := by
      unfold tookL
      rw [if_pos hin', ← hs]
      simp [List.getD_eq_getElem?_getD, List.getElem?_map, List.getElem?_eq_getElem hj]
    refine ⟨a, _, c, by rw [he, hv, hin'], ?_, by rw [ht, ← hv]; exact hm.1, by rw [ht]; exact hm.2, hg⟩
    have h2 := hnew w' rv' _ hb' hr'.le hg (hr'.newer hZ)
    unfold takeL
    rw [if_pos hin']
    have he2 : (P.eraseIdx j).map Prod.snd = (G k).eraseIdx j := by rw [← hs, List.eraseIdx_eq_take_drop_succ, List.eraseIdx_eq_take_drop_succ, List.map_append, List.map_take, List.map_drop]
    rw [he2] at h2
    simpa using h2
  · have hin' : inR (G k) n = false := by unfold inR; rw [← hPl]; simpa using hin
    refine (take_none b (2 + k) cs rv P n w hb ho hr (by omega) (by omega)).mono fun e w' ⟨he, hw⟩ => ?_
    subst hw
    refine ⟨none, 0, 0, by rw [he, hin'], ?_, ?_, ?_, World.grownBy.refl _ _⟩
    · unfold takeL
      rw [hin']
      simpa [upd_self] using h
    · unfold tookL
      rw [hin']
      exact World.ownsRow_nil _ _ _ _
    · unfold tookL
      rw [hin']
      simp
theorem taked_ofX (Z : Nat → Prop) (b d : Nat) (dn : Bool) (G : Rows4) (n : Int) (w : World) (h : WrX Z w b dn G) (hZ : ∀ r, Z r → r < w.heap.size) (hd : d < 2) (hn : (G d).length ≤ 1000) : Calls Try.prog 12 #[.pointer (some ⟨b, 0, none⟩), .int .i64 (d : Int), .int .i64 n] w fun e w' => ∃ a l c, e = .returned (.tuple #[.slice a l c, .bool (inR (G d) n)]) ∧ WrX Z w' b dn (upd G d (takeL (G d) n)) ∧ BO 0 w' (.slice a l c) (tookL (G d) n) ∧ (tookL (G d) n).length ≤ 4096 ∧ w.grownBy w' (some b) := by
  have hI := is_of b d w h.wr.cells.1
  rw [dOK_nat hd] at hI
  have I := Lib.hid hI
  have T := Lib.hid (take_wX Z b (2 + d) d dn G n w h hZ (by omega) (by omega) hn)
  clear h hI
  go_enter Try.func12, Try.ntmps12
  go_wp2_with (first | (go_at_call 29; refine I.out.mono ?_; rintro e w1 ⟨rfl, rfl⟩) | (go_at_call 33; refine T.out.mono ?_; rintro e w1 ⟨a, l, c, rfl, h1, h2, h3, h4⟩; have H1 := Lib.hid h1; have H2 := Lib.hid h2; have H3 := Lib.hid h3; have H4 := Lib.hid h4; clear h1 h2 h3 h4))
  go_ret2
  exact ⟨a, l, c, rfl, H1.out, H2.out, H3.out, H4.out⟩
theorem heard_ofX (Z : Nat → Prop) (b d : Nat) (dn : Bool) (G : Rows4) (w : World) (h : WrX Z w b dn G) (hZ : ∀ r, Z r → r < w.heap.size) (hd : d < 2) (hn : (G (2 + d)).length ≤ 1000) : Calls Try.prog 15 #[.pointer (some ⟨b, 0, none⟩), .int .i64 (d : Int)] w fun e w' => ∃ a l c, e = .returned (.tuple #[.slice a l c, .bool (inR (G (2 + d)) 0)]) ∧ WrX Z w' b dn (upd G (2 + d) (takeL (G (2 + d)) 0)) ∧ BO 0 w' (.slice a l c) (tookL (G (2 + d)) 0) ∧ (tookL (G (2 + d)) 0).length ≤ 4096 ∧ w.grownBy w' (some b) := by
  have hI := is_of b d w h.wr.cells.1
  rw [dOK_nat hd] at hI
  have I := Lib.hid hI
  have T := Lib.hid (take_wX Z b (4 + d) (2 + d) dn G 0 w h hZ (by omega) (by omega) hn)
  clear h hI
  go_enter Try.func15, Try.ntmps15
  go_wp2_with (first | (go_at_call 29; refine I.out.mono ?_; rintro e w1 ⟨rfl, rfl⟩) | (go_at_call 33; refine T.out.mono ?_; rintro e w1 ⟨a, l, c, rfl, h1, h2, h3, h4⟩; have H1 := Lib.hid h1; have H2 := Lib.hid h2; have H3 := Lib.hid h3; have H4 := Lib.hid h4; clear h1 h2 h3 h4))
  go_ret2
  exact ⟨a, l, c, rfl, H1.out, H2.out, H3.out, H4.out⟩
theorem datad_okX (Z : Nat → Prop) (b d : Nat) (G : Rows4) (v : Value) (xs : List Int) (w : World) (h : WrX Z w b false G) (hZ : ∀ r, Z r → r < w.heap.size) (hd : d < 2) (hv : Bt w v xs) (hl : xs.length ≤ 4096) (hx : xs.length ≤ 2048) (hq : (G d).length < 32) (hn : (G d).length ≤ 1000) : Calls Try.prog 11 #[.pointer (some ⟨b, 0, none⟩), .int .i64 (d : Int), v] w fun e w' => e = .returned (.int .i64 0) ∧ WrX Z w' b false (upd G d (G d ++ [xs])) ∧ w.grownBy w' (some b) := by
  have hM := may_of b d false w h.wr.cells.1 h.wr.cells.2.1
  rw [show mayN false d = 0 by simp [mayN, dOK_nat hd]] at hM
  have M := Lib.hid hM
  have P := Lib.hid (put_wX Z b (2 + d) d false G v xs w h hZ (by omega) (by omega) hv hl hn)
  obtain ⟨a, c, hc⟩ := h.wr.cell (show d < 4 by omega)
  rw [show 2 + d = 2 + d by omega] at hc
  obtain ⟨va, vc, rfl, _⟩ := hv.len
  clear h hM hv
  go_enter Try.func11, Try.ntmps11
  go_wp2_with (first | (go_at_call 31; refine M.out.mono ?_; rintro e w1 ⟨rfl, rfl⟩) | (go_at_call 32; refine P.out.mono ?_; rintro e w1 ⟨rfl, h1, h2⟩; have H1 := Lib.hid h1; have H2 := Lib.hid h2; clear h1 h2))
  go_ret
  exact ⟨rfl, H1.out, H2.out⟩
theorem sayd_okX (Z : Nat → Prop) (b d : Nat) (G : Rows4) (v : Value) (xs : List Int) (w : World) (h : WrX Z w b false G) (hZ : ∀ r, Z r → r < w.heap.size) (hd : d < 2) (hv : Bt w v xs) (hl : xs.length ≤ 4096) (hn : (G (2 + d)).length ≤ 1000) : Calls Try.prog 14 #[.pointer (some ⟨b, 0, none⟩), .int .i64 (d : Int), v] w fun e w' => e = .returned (.int .i64 0) ∧ WrX Z w' b false (upd G (2 + d) (G (2 + d) ++ [xs])) ∧ w.grownBy w' (some b) := by
  have hM := may_of b d false w h.wr.cells.1 h.wr.cells.2.1
  rw [show mayN false d = 0 by simp [mayN, dOK_nat hd]] at hM
  have M := Lib.hid hM
  have P := Lib.hid (put_wX Z b (4 + d) (2 + d) false G v xs w h hZ (by omega) (by omega) hv hl hn)
  obtain ⟨a, c, hc⟩ := h.wr.cell (show (2 + d) < 4 by omega)
  rw [show 2 + (2 + d) = 4 + d by omega] at hc
  obtain ⟨va, vc, rfl, _⟩ := hv.len
  clear h hM hv
  go_enter Try.func14, Try.ntmps14
  go_wp2_with (first | (go_at_call 31; refine M.out.mono ?_; rintro e w1 ⟨rfl, rfl⟩) | (go_at_call 32; refine P.out.mono ?_; rintro e w1 ⟨rfl, h1, h2⟩; have H1 := Lib.hid h1; have H2 := Lib.hid h2; clear h1 h2))
  go_ret
  exact ⟨rfl, H1.out, H2.out⟩
set_option maxHeartbeats 1000000 in
theorem twin_okX (Z : Nat → Prop) (b d n : Nat) (dn : Bool) (G : Rows4) (w : World) (h : WrX Z w b dn G) (hZ : ∀ r, Z r → r < w.heap.size) (hd : d < 2) (hr : n < (G d).length) (hq : (G d).length < 32) : Calls Try.prog 13 #[.pointer (some ⟨b, 0, none⟩), .int .i64 (d : Int), .int .i64 (n : Int)] w fun e w' => e = .returned (.int .i64 0) ∧ WrX Z w' b dn (upd G d (G d ++ [(G d).getD n []])) ∧ w.grownBy w' (some b) := by
  have hI := is_of b d w h.wr.cells.1
  rw [dOK_nat hd] at hI
  have I := Lib.hid hI
  have N := Lib.hid (none_of b w h.wr.cells.1)
  have hH := has_w b (2 + d) d dn G n w h.wr (by omega) rfl (by omega)
  rw [show inR (G d) n = true by unfold inR; simp; omega] at hH
  have H := Lib.hid hH
  obtain ⟨g, c, a, l, ac, hc, he, hb, hl⟩ := h.wr.elem (show d < 4 by omega) hr
  have P := Lib.hid (put_wX Z b (2 + d) d dn G (.slice a l ac) _ w.drew h.drew hZ (by omega) rfl (hb.kept (grown_drew _ none) (by simp)) hl (by omega))
  clear h hI hH hb hZ
  generalize (G d).length = L at *
  have q1 : (0 : Int) ≤ (d : Int) := by omega
  have q2 : (d : Int) < 2 := by omega
  have q3 : (0 : Int) ≤ (n : Int) := by omega
  have q4 : (n : Int) < (L : Int) := by omega
  go_enter Try.func13, Try.ntmps13
  go_upto_region 7 with (first | (go_at_call 29; refine I.out.mono ?_; rintro e w ⟨rfl, rfl⟩) | (go_at_call 34; refine N.out.mono ?_; rintro e w ⟨rfl, rfl⟩) | (go_at_call 35; refine H.out.mono ?_; rintro e w ⟨rfl, rfl⟩))
  have hc2 : w.drew.cell? ⟨b, 2 + d, none⟩ = some (.slice (some ⟨g, 0, none⟩) L c) := hc
  have he2 : w.drew.cell? ⟨g, n, none⟩ = some (.slice a l ac) := he
  go_region_with ((go_at_call 32; refine P.out.mono ?_; rintro e w1 ⟨rfl, h1, h2⟩; have H1 := Lib.hid h1; have H2 := Lib.hid h2; clear h1 h2))
  all_goals
    go_wp2
    go_ret
    exact ⟨rfl, H1.out, gn2 (grown_drew _ _) H2.out⟩

theorem data_specX (Z : Nat → Prop) (b : Nat) (d : Int) (dn : Bool) (G : Rows4) (v : Value) (xs : List Int) (w : World) (h : WrX Z w b dn G) (hZ : ∀ r, Z r → r < w.heap.size) (hv : Bt w v xs) (hl : xs.length ≤ 4096) (hn : ∀ k, k < 4 → (G k).length ≤ 1000) :
    Calls Try.prog 11 #[.pointer (some ⟨b, 0, none⟩), .int .i64 d, v] w fun e w' => e = .returned (.int .i64 (dataN dn G d xs)) ∧ WrX Z w' b dn (dataG dn G d xs) ∧ w.grownBy w' (some b) := by
  have hsame : ∀ m : Int, dataN dn G d xs = m → m ≠ 0 → dataG dn G d xs = G := fun m h1 h2 => by unfold dataG; rw [h1, if_neg h2]
  have fin : ∀ m : Int, dataN dn G d xs = m → m ≠ 0 → Calls Try.prog 11 #[.pointer (some ⟨b, 0, none⟩), .int .i64 d, v] w (fun e w' => e = .returned (.int .i64 m) ∧ w' = w) → Calls Try.prog 11 #[.pointer (some ⟨b, 0, none⟩), .int .i64 d, v] w fun e w' => e = .returned (.int .i64 (dataN dn G d xs)) ∧ WrX Z w' b dn (dataG dn G d xs) ∧ w.grownBy w' (some b) := fun m h1 h2 h3 =>
    h3.mono fun e w' ⟨he, hw⟩ => ⟨by rw [he, h1], by rw [hsame m h1 h2, hw]; exact h, by rw [hw]; exact World.grownBy.refl _ _⟩
  by_cases hm : mayN dn d = 0
  · obtain ⟨hd, rfl⟩ := may_zero hm
    obtain ⟨k, rfl, hk⟩ : ∃ k : Nat, d = k ∧ k < 2 := by
      rcases d_cases hd with rfl | rfl
      · exact ⟨0, rfl, by omega⟩
      · exact ⟨1, rfl, by omega⟩
    by_cases hx : 2048 < xs.length
    · exact fin 2 (by unfold dataN; rw [if_neg (by simpa using hm), if_pos hx]) (by decide) (datad_long b k G v xs w h.wr hk hv hl hx)
    · by_cases hq : 32 ≤ (G k).length
      · exact fin 3 (by unfold dataN; rw [if_neg (by simpa using hm), if_neg hx, Int.toNat_natCast, if_pos hq]) (by decide) (datad_many b k G v xs w h.wr hk hv hl (by omega) hq (hn k (by omega)))
      · have h0 : dataN false G k xs = 0 := by unfold dataN; rw [if_neg (by simpa using hm), if_neg hx, Int.toNat_natCast, if_neg hq]
        refine (datad_okX Z b k G v xs w h hZ hk hv hl (by omega) (by omega) (hn k (by omega))).mono fun e w' ⟨he, hw, hg⟩ => ⟨by rw [he, h0], ?_, hg⟩
        unfold dataG
        rw [if_pos h0, Int.toNat_natCast]
        exact hw
  · exact fin _ (by unfold dataN; rw [if_pos hm]) hm (datad_may b d _ dn v w h.wr.cells.1 h.wr.cells.2.1 rfl hm)
theorem say_specX (Z : Nat → Prop) (b : Nat) (d : Int) (dn : Bool) (G : Rows4) (v : Value) (xs : List Int) (w : World) (h : WrX Z w b dn G) (hZ : ∀ r, Z r → r < w.heap.size) (hv : Bt w v xs) (hl : xs.length ≤ 4096) (hn : ∀ k, k < 4 → (G k).length ≤ 1000) :
    Calls Try.prog 14 #[.pointer (some ⟨b, 0, none⟩), .int .i64 d, v] w fun e w' => e = .returned (.int .i64 (mayN dn d)) ∧ WrX Z w' b dn (sayG dn G d xs) ∧ w.grownBy w' (some b) := by
  unfold sayG
  by_cases hm : mayN dn d = 0
  · rw [if_pos hm, hm]
    obtain ⟨hd, rfl⟩ := may_zero hm
    obtain ⟨k, rfl, hk⟩ := d_nat hd
    exact sayd_okX Z b k G v xs w h hZ hk hv hl (hn (2 + k) (by omega))
  · rw [if_neg hm]
    exact (sayd_may b d _ dn v w h.wr.cells.1 h.wr.cells.2.1 rfl hm).mono fun e w' ⟨he, hw⟩ => ⟨he, by rw [hw]; exact h, by rw [hw]; exact World.grownBy.refl _ _⟩
theorem twin_specX (Z : Nat → Prop) (b : Nat) (d n : Int) (dn : Bool) (G : Rows4) (w : World) (h : WrX Z w b dn G) (hZ : ∀ r, Z r → r < w.heap.size) (hn : ∀ k, k < 4 → (G k).length ≤ 1000) :
    Calls Try.prog 13 #[.pointer (some ⟨b, 0, none⟩), .int .i64 d, .int .i64 n] w fun e w' => e = .returned (.int .i64 (twinN G d n)) ∧ WrX Z w' b dn (twinG G d n) ∧ w.grownBy w' (some b) := by
  have fin : ∀ m : Int, twinN G d n = m → m ≠ 0 → Calls Try.prog 13 #[.pointer (some ⟨b, 0, none⟩), .int .i64 d, .int .i64 n] w (fun e w' => e = .returned (.int .i64 m) ∧ w' = w) → Calls Try.prog 13 #[.pointer (some ⟨b, 0, none⟩), .int .i64 d, .int .i64 n] w fun e w' => e = .returned (.int .i64 (twinN G d n)) ∧ WrX Z w' b dn (twinG G d n) ∧ w.grownBy w' (some b) := fun m h1 h2 h3 =>
    h3.mono fun e w' ⟨he, hw⟩ => ⟨by rw [he, h1], by unfold twinG; rw [h1, if_neg h2, hw]; exact h, by rw [hw]; exact World.grownBy.refl _ _⟩
  by_cases hd : dOK d = true
  · obtain ⟨k, rfl, hk⟩ := d_nat hd
    by_cases hr : inR (G k) n = true
    · by_cases hq : 32 ≤ (G k).length
      · exact fin 3 (by unfold twinN; rw [hd, Int.toNat_natCast, hr]; simp [hq]) (by decide) (twin_many b k n dn G w h.wr hk (hn k (by omega)) hr hq)
      · have hr' := hr
        unfold inR at hr'
        simp only [decide_eq_true_eq] at hr'
        obtain ⟨i, rfl⟩ : ∃ i : Nat, n = i := ⟨n.toNat, by omega⟩
        have h0 : twinN G k i = 0 := by unfold twinN; rw [hd, Int.toNat_natCast, hr]; simp; omega
        refine (twin_okX Z b k i dn G w h hZ hk (by omega) (by omega)).mono fun e w' ⟨he, hw, hg⟩ => ⟨by rw [he, h0], ?_, hg⟩
        unfold twinG
        rw [if_pos h0, Int.toNat_natCast, Int.toNat_natCast]
        exact hw
    · have hr' : inR (G k) n = false := by simpa using hr
      exact fin 5 (by unfold twinN; rw [hd, Int.toNat_natCast, hr']; simp) (by decide) (twin_out b k n dn G w h.wr hk (hn k (by omega)) hr')
  · have hd' : dOK d = false := by simpa using hd
    exact fin 5 (by unfold twinN; rw [hd']; simp) (by decide) (twin_bad b d n w h.wr.cells.1 hd')
theorem take_specX (Z : Nat → Prop) (b : Nat) (d n : Int) (dn : Bool) (G : Rows4) (w : World) (h : WrX Z w b dn G) (hZ : ∀ r, Z r → r < w.heap.size) (hn : ∀ k, k < 4 → (G k).length ≤ 1000) :
    Calls Try.prog 12 #[.pointer (some ⟨b, 0, none⟩), .int .i64 d, .int .i64 n] w fun e w' => ∃ a l c, e = .returned (.tuple #[.slice a l c, .bool (takeB G d n)]) ∧ WrX Z w' b dn (takeG G d n) ∧ BO 0 w' (.slice a l c) (takeX G d n) ∧ w.grownBy w' (some b) := by
  by_cases hd : dOK d = true
  · obtain ⟨k, rfl, hk⟩ := d_nat hd
    refine (taked_ofX Z b k dn G n w h hZ hk (hn k (by omega))).mono fun e w' ⟨a, l, c, h1, h2, h3, _, h4⟩ => ⟨a, l, c, ?_, ?_, ?_, h4⟩
    · unfold takeB; rw [hd, Int.toNat_natCast]; exact h1
    · unfold takeG; rw [if_pos hd, Int.toNat_natCast]; exact h2
    · unfold takeX; rw [if_pos hd, Int.toNat_natCast]; exact h3
  · have hd' : dOK d = false := by simpa using hd
    refine (taked_bad b d n w h.wr.cells.1 hd').mono fun e w' ⟨h1, h2⟩ => ⟨none, 0, 0, ?_, ?_, ?_, by rw [h2]; exact World.grownBy.refl _ _⟩
    · unfold takeB; rw [hd', h1]; rfl
    · unfold takeG; rw [if_neg hd, h2]; exact h
    · unfold takeX; rw [if_neg hd]; exact World.ownsRow_nil _ _ _ _
theorem hear_specX (Z : Nat → Prop) (b : Nat) (d : Int) (dn : Bool) (G : Rows4) (w : World) (h : WrX Z w b dn G) (hZ : ∀ r, Z r → r < w.heap.size) (hn : ∀ k, k < 4 → (G k).length ≤ 1000) :
    Calls Try.prog 15 #[.pointer (some ⟨b, 0, none⟩), .int .i64 d] w fun e w' => ∃ a l c, e = .returned (.tuple #[.slice a l c, .bool (hearB G d)]) ∧ WrX Z w' b dn (hearG G d) ∧ BO 0 w' (.slice a l c) (hearX G d) ∧ w.grownBy w' (some b) := by
  by_cases hd : dOK d = true
  · obtain ⟨k, rfl, hk⟩ := d_nat hd
    refine (heard_ofX Z b k dn G w h hZ hk (hn (2 + k) (by omega))).mono fun e w' ⟨a, l, c, h1, h2, h3, _, h4⟩ => ⟨a, l, c, ?_, ?_, ?_, h4⟩
    · unfold hearB; rw [hd, Int.toNat_natCast]; exact h1
    · unfold hearG; rw [if_pos hd, Int.toNat_natCast]; exact h2
    · unfold hearX; rw [if_pos hd, Int.toNat_natCast]; exact h3
  · have hd' : dOK d = false := by simpa using hd
    refine (heard_bad b d w h.wr.cells.1 hd').mono fun e w' ⟨h1, h2⟩ => ⟨none, 0, 0, ?_, ?_, ?_, by rw [h2]; exact World.grownBy.refl _ _⟩
    · unfold hearB; rw [hd', h1]; rfl
    · unfold hearG; rw [if_neg hd, h2]; exact h
    · unfold hearX; rw [if_neg hd]; exact World.ownsRow_nil _ _ _ _
end Go.Proofs.Ytaidfcehicffbaa.W
