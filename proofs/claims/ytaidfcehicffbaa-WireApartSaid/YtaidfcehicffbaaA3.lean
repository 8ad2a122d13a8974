/-
  A row's put, take, all and has, at any cell of a link.
-/
import Derived.Test.YtaidfcehicffbaaA2
import Derived.WalkMore
import Derived.Great.Walk
set_option linter.unusedVariables false
set_option linter.unusedSimpArgs false
namespace Go.Proofs.Ytaidfcehicffbaa.W
open Go.RowKit Go.Deep

def RW (B : Nat) (w : World) (rv : Value) (P : List Pr) : Prop := w.ownsRow B 28 1 rv P.length (P.map Prod.fst) ∧ RO 0 w P
theorem RW.kept {B : Nat} {w w' : World} {rv : Value} {P : List Pr} (h : RW B w rv P) (hg : w.grownBy w' none) : RW B w' rv P := ⟨own_kept h.1 hg (by simp), h.2.kept hg (by simp)⟩
theorem RW.box {B b : Nat} {w w' : World} {rv : Value} {P : List Pr} {cs : Array Value} (h : RW B w rv P) (hb : w.heap[b]? = some (.cells cs 60 (0, 0))) (hg : w.grownBy w' (some b)) : RW B w' rv P :=
  ⟨own_kept h.1 hg (by rintro r ⟨⟩; exact own_far h.1 hb (by simp)), h.2.kept hg (by rintro r ⟨⟩; exact h.2.far hb (by simp))⟩
theorem RW.le {B : Nat} {w : World} {rv : Value} {P : List Pr} (h : RW B w rv P) : RW 0 w rv P := ⟨Joins.ownsRow_le h.1 (Nat.zero_le _), h.2⟩

set_option maxHeartbeats 1000000 in
theorem put_of (b o : Nat) (cs : Array Value) (rv v : Value) (P : List Pr) (xs : List Int) (w : World) (hb : w.heap[b]? = some (.cells cs 60 (0, 0))) (ho : cs[o]? = some rv) (h : RW 0 w rv P) (hv : Bt w v xs) (hl : xs.length ≤ 4096) (hn : P.length ≤ 1000) :
    Calls Try.prog 32 #[.pointer (some ⟨b, o, none⟩), v] w fun e w' => ∃ rv' v', e = .returned (.tuple #[]) ∧ w'.heap[b]? = some (.cells (cs.setIfInBounds o rv') 60 (0, 0)) ∧ RW 0 w' rv' (P ++ [(v', xs)]) ∧ w.grownBy w' (some b) := by
  obtain ⟨i0, hi, hz0, hz1, hz2⟩ := info_parts info28
  have hc := (cell_of_row w b o cs 60 (0, 0) hb).trans ho
  have HB := Lib.hid hb
  have HW := Lib.hid h
  have HV := Lib.hid hv
  have C1 := Lib.hid (clone_rows rv P w h.1 h.2 (by omega))
  have HO := Lib.hid ho
  obtain ⟨va, vc, rfl, _⟩ := hv.len
  obtain ⟨ra, rc, rfl⟩ := own_len h.1
  clear hb h hv ho
  go_enter Try.func32, Try.ntmps32
  go_wp2_with (first
    | (go_at_call 41; refine C1.out.mono ?_; rintro e w1 ⟨r1, rfl, ho1, hg1⟩; have HO1 := Lib.hid ho1; have HG1 := Lib.hid hg1; have C2 := Lib.hid (clone_of _ xs w1 (HV.out.kept hg1 (by simp)) (by omega)); clear ho1 hg1)
    | (go_at_call 40; refine C2.out.mono ?_; rintro e w2 ⟨v2, rfl, hb2, hg2⟩; have HB2 := Lib.hid hb2; have HG2 := Lib.hid hg2; obtain ⟨v2a, v2c, hv2⟩ := hb2.len; subst hv2; have HO3 := Lib.hid (own_kept (own_kept HO1.out hg2 (by simp)) (World.grownBy_alloc w2 (.cells #[.slice v2a xs.length v2c] 28) none) (by simp)); clear hb2 hg2)
    | (at_builtin; refine wpList_append_own _ rfl _ _ 26 rfl w.heap.size 28 i0 (.slice none 0 0) 1 24 Try.underlying26 hi hz0 hz1 hz2 rfl (by decide) r1 P.length _ rfl HO3.out ⟨w2.heap.size, 0, none⟩ 1 1 [.slice v2a xs.length v2c] rfl rfl (cell_one_new _ _ _) (by simp [Value.oneCell']) (by unfold maxLen; omega) (by omega) (Nat.le_trans HG1.out.size (Nat.le_trans HG2.out.size (World.grownBy_alloc _ _ none).size)) ?_; intro r4 w4 ho4 hg4 _; obtain ⟨ra4, rc4, hr4⟩ := own_len ho4; subst hr4; have HO4 := Lib.hid ho4; have HG4 := Lib.hid (grownOwn (gn (gn HG1.out HG2.out) (World.grownBy_alloc w2 (.cells #[.slice v2a xs.length v2c] 28) none)) HO3.out (Nat.le_refl _) hg4); have HB4 := Lib.hid (blk_kept HB.out HG4.out (by simp)); have HV4 := Lib.hid (show BO 0 w4 (.slice v2a xs.length v2c) xs from own_cross ((HB2.out.le (Nat.zero_le _)).kept (World.grownBy_alloc w2 (.cells #[.slice v2a xs.length v2c] 28) none) (by simp)) HO3.out (by decide) hg4); have e1 := (cell_of_row w4 b o cs 60 (0, 0) HB4.out).trans HO.out; have z1 := blk_frozen HB4.out o; clear ho4 hg4))
  refine Great.bodyPost_end0 rfl rfl ?_
  have g1 := grownSet w4 b o (.slice ra4 (P.length + 1) rc4)
  have hW : RW 0 w4 (.slice ra4 (P.length + 1) rc4) (P ++ [(.slice v2a xs.length v2c, xs)]) := ⟨by simpa using Joins.ownsRow_le HO4.out (Nat.zero_le _), (HW.out.2.kept HG4.out (by simp)).app (.one HV4.out hl)⟩
  exact ⟨_, _, rfl, heap_setCell_same w4 b o cs 60 _ HB4.out, hW.box HB4.out g1, gn2 HG4.out g1⟩

theorem own_max {w : World} {B n c g : Nat} {e : TypeId} {xs : List Value} (h : w.ownsRow B e 1 (.slice (some ⟨g, 0, none⟩) n c) n xs) : c ≤ 9223372036854775807 := by
  rcases h.2 with ⟨h, _⟩ | ⟨_, cap, _, hv, _, _, _, hc, _⟩
  · simp at h
  · injection hv with _ _ e3
    subst e3
    simpa [maxLen] using hc
theorem row_get {w : World} {rv : Value} {P : List Pr} {B k : Nat} (h : RW B w rv P) (hk : k < P.length) : ∃ g c, rv = .slice (some ⟨g, 0, none⟩) P.length c ∧ ∀ j, j < P.length → w.cell? ⟨g, j, none⟩ = some (P.getD j default).1 := by
  obtain ⟨g, c, hrv, hc⟩ := own_read h.1 (by omega)
  refine ⟨g, c, hrv, fun j hj => ?_⟩
  rw [hc j hj, List.getElem?_map, List.getD_eq_getElem?_getD, List.getElem?_eq_getElem hj]
  rfl
theorem row_mem {P : List Pr} {k : Nat} (hk : k < P.length) : P.getD k default ∈ P := by
  rw [List.getD_eq_getElem?_getD, List.getElem?_eq_getElem hk]
  exact List.getElem_mem _

set_option maxHeartbeats 1000000 in
theorem take_none (b o : Nat) (cs : Array Value) (rv : Value) (P : List Pr) (n : Int) (w : World) (hb : w.heap[b]? = some (.cells cs 60 (0, 0))) (ho : cs[o]? = some rv) (h : RW 0 w rv P) (hn : P.length ≤ 1000) (hout : n < 0 ∨ (P.length : Int) ≤ n) :
    Calls Try.prog 33 #[.pointer (some ⟨b, o, none⟩), .int .i64 n] w fun e w' => e = .returned (.tuple #[.slice none 0 0, .bool false]) ∧ w' = w := by
  have hc := (cell_of_row w b o cs 60 (0, 0) hb).trans ho
  have HW := Lib.hid h
  obtain ⟨ra, rc, rfl⟩ := own_len h.1
  clear hb h ho
  go_enter Try.func33, Try.ntmps33
  go_wp2
  apply wp_scope_straight
  go_wp2
  apply wp_label
  go_wp2
  go_loopw [13] (fun iv wr => ∃ k : Nat, iv = .int .i64 k ∧ k ≤ P.length ∧ wr = w) (fun iv _ => P.length - (intOf iv).toNat)
  case atStart => exact ⟨0, rfl, by omega, rfl⟩
  case round =>
    obtain ⟨k, rfl, hk, rfl⟩ := hrel
    by_cases hlt : k < P.length
    · obtain ⟨g, c, hrv, hcells⟩ := row_get HW.out hlt
      injection hrv with e1 _ e3
      subst e1 e3
      have hck := hcells k hlt
      obtain ⟨pa, pc, hpv⟩ := (HW.out.2 _ (row_mem hlt)).1.len
      rw [hpv] at hck
      clear hcells hpv
      have hne : ((k : Int) == n) = false := by simp; omega
      have hne' : (k : Int) ≠ n := by omega
      go_wp2
      refine ⟨⟨k + 1, by go_num, by omega, trivial⟩, ?_⟩
      simp [intOf]
      omega
    · go_wp2
      rw [Exit.noGoto_ret]
      go_ret2
      exact ⟨rfl, rfl⟩

set_option maxHeartbeats 1000000 in
theorem take_some (b o : Nat) (cs : Array Value) (rv : Value) (P : List Pr) (n m : Nat) (w : World) (hb : w.heap[b]? = some (.cells cs 60 (0, 0))) (ho : cs[o]? = some rv) (h : RW 0 w rv P) (hn : P.length ≤ 1000) (hm : P.length = n + m + 1) :
    Calls Try.prog 33 #[.pointer (some ⟨b, o, none⟩), .int .i64 (n : Int)] w fun e w' => ∃ rv', e = .returned (.tuple #[(P.getD n default).1, .bool true]) ∧ w'.heap[b]? = some (.cells (cs.setIfInBounds o rv') 60 (0, 0)) ∧ RW 0 w' rv' (P.eraseIdx n) ∧ RO 0 w' P ∧ w.grownBy w' (some b) := by
  have hc := (cell_of_row w b o cs 60 (0, 0) hb).trans ho
  have HB := Lib.hid hb
  have HW := Lib.hid h
  obtain ⟨g, c, rfl, hcells⟩ := row_get h (show n < P.length by omega)
  have HO := Lib.hid ho
  have hL : n + m + 1 ≤ 1000 := by omega
  have hall : ∀ j, j < n + m + 1 → ∃ a l c, w.cell? ⟨g, j, none⟩ = some (.slice a l c) ∧ (P.getD j default).1 = .slice a l c := fun j hj => by
    have h1 := hcells j (by omega)
    obtain ⟨pa, pc, hpv⟩ := (h.2 _ (row_mem (show j < P.length by omega))).1.len
    exact ⟨pa, _, pc, by rw [h1, hpv], hpv⟩
  have HC := Lib.hid hall
  have hcl := clone_rows _ P w h.1 h.2 (by omega)
  rw [hm] at hcl hc
  have C1 := Lib.hid hcl
  have HM := Lib.hid hm
  clear hb h ho hcells hall hcl hn hm
  go_enter Try.func33, Try.ntmps33
  go_wp2
  apply wp_scope_straight
  go_wp2
  apply wp_label
  go_wp2
  go_loopw [13] (fun iv wr => ∃ k : Nat, iv = .int .i64 k ∧ k ≤ n ∧ wr = w) (fun iv _ => (n + m + 1) - (intOf iv).toNat)
  case atStart => exact ⟨0, rfl, by omega, rfl⟩
  case round =>
    obtain ⟨k, rfl, hk, rfl⟩ := hrel
    have hlt : k < n + m + 1 := by omega
    obtain ⟨pa, pl, pc, hck, hpv⟩ := HC.out k hlt
    by_cases hkn : k = n
    · subst hkn
      have HPV := Lib.hid hpv
      clear hpv
      go_wp2_with (first
        | (go_at_call 41; refine C1.out.mono ?_; rintro e w1 ⟨r1, rfl, ho1, hg1⟩; obtain ⟨g1, c1, hr1, _⟩ := own_read ho1 (by omega); subst hr1; have HO1 := Lib.hid ho1; have HG1 := Lib.hid hg1; have D1 := Lib.hid (del_of _ g1 c1 k m P w1 HM.out ho1 (HW.out.2.kept hg1 (by simp)) (by omega) (own_max ho1)); clear ho1 hg1)
        | (go_at_call 42; refine D1.out.mono ?_; rintro e w2 ⟨rfl, ho2, hg2⟩; have HO2 := Lib.hid ho2; have HG2 := Lib.hid (grownOwn HG1.out HO1.out (Nat.le_refl _) hg2); have HB2 := Lib.hid (blk_kept HB.out HG2.out (by simp)); have e1 := (cell_of_row w2 b o cs 60 (0, 0) HB2.out).trans HO.out; have z1 := blk_frozen HB2.out o; have HP2 := Lib.hid (HW.out.2.kept HG2.out (by simp)); clear ho2 hg2))
      rw [Exit.noGoto_ret]
      go_ret2
      have gs := grownSet w2 b o (.slice (some ⟨g1, 0, none⟩) (k + m) c1)
      have hl : (P.eraseIdx k).length = k + m := by rw [List.length_eraseIdx, if_pos (by have := HM.out; omega)]; have := HM.out; omega
      have hW : RW 0 w2 (.slice (some ⟨g1, 0, none⟩) (k + m) c1) (P.eraseIdx k) := ⟨by rw [hl]; exact Joins.ownsRow_le HO2.out (Nat.zero_le _), fun p hp => HP2.out p (List.mem_of_mem_eraseIdx hp)⟩
      refine ⟨_, ?_, heap_setCell_same w2 b o cs 60 _ HB2.out, hW.box HB2.out gs, HP2.out.kept gs (by rintro r ⟨⟩; exact HP2.out.far HB2.out (by simp)), gn2 HG2.out gs⟩
      rw [HPV.out]
      rfl
    · have hne : ((k : Int) == (n : Int)) = false := by simp; omega
      clear hpv
      have hne' : (k : Int) ≠ n := by omega
      go_wp2
      refine ⟨⟨k + 1, by go_num, by omega, trivial⟩, ?_⟩
      simp [intOf]
      omega

set_option maxHeartbeats 1000000 in
theorem has_of (b o : Nat) (cs : Array Value) (rv : Value) (P : List Pr) (n : Int) (w : World) (hb : w.heap[b]? = some (.cells cs 60 (0, 0))) (ho : cs[o]? = some rv) (h : RW 0 w rv P) (hn : P.length ≤ 1000) :
    Calls Try.prog 35 #[.pointer (some ⟨b, o, none⟩), .int .i64 n] w fun e w' => e = .returned (.bool (decide (0 ≤ n ∧ n < (P.length : Int)))) ∧ w' = w := by
  have hc := (cell_of_row w b o cs 60 (0, 0) hb).trans ho
  obtain ⟨ra, rc, rfl⟩ := own_len h.1
  clear hb h ho
  by_cases h0 : 0 ≤ n
  · go_enter Try.func35, Try.ntmps35
    go_wp2
    go_ret
    exact ⟨by simp [h0], rfl⟩
  · go_enter Try.func35, Try.ntmps35
    go_wp2
    go_ret
    exact ⟨by simp [h0]; omega, rfl⟩

/-- What all has told so far. -/
structure AL (w wr : World) (rv : Value) (P D X : List Pr) (v : Value) : Prop where
  old : RW 0 w rv P
  out : wr.ownsRow w.heap.size 28 1 v X.length (X.map Prod.fst)
  x : RO w.heap.size wr X
  same : X.map Prod.snd = D.map Prod.snd
  grown : w.grownBy wr none
theorem AL.row {w wr : World} {rv v : Value} {P D X : List Pr} (h : AL w wr rv P D X v) : RW 0 wr rv P := h.old.kept h.grown
theorem AL.step {w wr w1 w2 : World} {rv ov ov' v1 v : Value} {P D X : List Pr} {xs : List Int} {o : Obj} (h : AL w wr rv P D X ov) (hb : BO wr.heap.size w1 v1 xs) (hl : xs.length ≤ 4096) (hg : wr.grownBy w1 none) (ho : (w1.alloc o).ownsRow w.heap.size 28 1 ov X.length (X.map Prod.fst)) (ho2 : w2.ownsRow w.heap.size 28 1 ov' (X.length + 1) (X.map Prod.fst ++ [v1])) (hg2 : (w1.alloc o).grownBy w2 ov.ownBlock) : AL w w2 rv P (D ++ [(v, xs)]) (X ++ [(v1, xs)]) ov' := by
  have ha := World.grownBy_alloc w1 o none
  have hx : RO w.heap.size (w1.alloc o) (X ++ [(v1, xs)]) := (((h.x.kept hg (by simp)).kept ha (by simp)).app (.one ((hb.le h.grown.size).kept ha (by simp)) hl))
  exact ⟨h.old, by simpa using ho2, hx.row ho (by decide) hg2, by simp [h.same], grownOwn (gn (gn h.grown hg) ha) ho (Nat.le_refl _) hg2⟩

set_option maxHeartbeats 1000000 in
theorem all_of (b o : Nat) (cs : Array Value) (rv : Value) (P : List Pr) (w : World) (hb : w.heap[b]? = some (.cells cs 60 (0, 0))) (ho : cs[o]? = some rv) (h : RW 0 w rv P) (hn : P.length ≤ 1000) :
    Calls Try.prog 30 #[.pointer (some ⟨b, o, none⟩)] w fun e w' => ∃ v X, e = .returned v ∧ X.map Prod.snd = P.map Prod.snd ∧ w'.ownsRow w.heap.size 28 1 v X.length (X.map Prod.fst) ∧ RO w.heap.size w' X ∧ w.grownBy w' none := by
  obtain ⟨i0, hi, hz0, hz1, hz2⟩ := info_parts info28
  have hc := (cell_of_row w b o cs 60 (0, 0) hb).trans ho
  have hI : Hid (AL w w rv P [] [] (.slice none 0 0)) := Lib.hid ⟨h, World.ownsRow_nil _ _ _ _, fun p hp => by simp at hp, rfl, World.grownBy.refl _ _⟩
  obtain ⟨ra, rc, hrv⟩ := own_len h.1
  subst hrv
  obtain ⟨L, hL⟩ : ∃ L, L = P.length := ⟨_, rfl⟩
  rw [← hL] at hc hI hn
  have HL := Lib.hid hL
  clear hb h ho hL
  go_enter Try.func30, Try.ntmps30
  go_wp2
  go_loopw [3, 11] (fun ou iv wr => ∃ (k : Nat) (ov : Value) (D E X : List Pr), ov = ou ∧ iv = .int .i64 k ∧ k ≤ L ∧ Hid (P = D ++ E ∧ D.length = k ∧ AL w wr (.slice ra L rc) P D X ov)) (fun _ iv _ => L - (intOf iv).toNat)
  case atStart => exact ⟨0, _, [], P, [], rfl, rfl, by omega, Lib.hid ⟨rfl, rfl, hI.out⟩⟩
  case round =>
    clear hI
    obtain ⟨k, ov, D, E, X, rfl, rfl, hk, HI⟩ := hrel
    by_cases hlt : k < L
    · cases E with
      | nil =>
        exfalso
        obtain ⟨h1, h2, _⟩ := HI.out
        have := HL.out
        rw [h1, List.append_nil] at this
        omega
      | cons p E =>
        obtain ⟨h1, h2, h3⟩ := HI.out
        obtain ⟨g, c, hrv, hcells⟩ := row_get h3.row (show k < P.length by have := HL.out; omega)
        rw [← HL.out] at hrv
        injection hrv with e1 _ e3
        subst e1 e3
        have hck := hcells k (by have := HL.out; omega)
        have hpk : P.getD k default = p := by rw [h1, List.getD_eq_getElem?_getD, List.getElem?_append_right (by omega), h2]; simp
        rw [hpk] at hck
        have hpm : p ∈ P := by rw [h1]; simp
        obtain ⟨a, ac, hpv⟩ := (h3.row.2 p hpm).1.len
        have hp2 := (h3.row.2 p hpm).2
        have hbt := (h3.row.2 p hpm).1.bt
        obtain ⟨v, xs⟩ := p
        simp only at hpv hp2 hck hbt
        subst hpv
        have C1 := Lib.hid (clone_of _ xs wr hbt (by omega))
        have hxl : X.length = k := by have := congrArg List.length h3.same; simpa [h2] using this
        have HXL := Lib.hid hxl
        clear h1 h2 h3 hcells hpk hpm hbt hxl
        go_wp2_with (first
          | (go_at_call 40; refine C1.out.mono ?_; rintro e w1 ⟨v1, rfl, hb1, hg1⟩; obtain ⟨v1a, v1c, hv1⟩ := hb1.len; subst hv1; have HB1 := Lib.hid hb1; have HG1 := Lib.hid hg1; have HO1 := Lib.hid (own_kept (own_kept HI.out.2.2.out hg1 (by simp)) (World.grownBy_alloc w1 (.cells #[.slice v1a xs.length v1c] 28) none) (by simp)); have HS1 := Lib.hid (gn (gn HI.out.2.2.grown hg1) (World.grownBy_alloc w1 (.cells #[.slice v1a xs.length v1c] 28) none)); clear hb1 hg1)
          | (at_builtin; refine wpList_append_own _ rfl _ _ 26 rfl w.heap.size 28 i0 (.slice none 0 0) 1 24 Try.underlying26 hi hz0 hz1 hz2 rfl (by decide) ov X.length _ rfl HO1.out ⟨w1.heap.size, 0, none⟩ 1 1 [.slice v1a xs.length v1c] rfl rfl (cell_one_new _ _ _) (by simp [Value.oneCell']) (by have := HXL.out; unfold maxLen; omega) (by have := HXL.out; omega) HS1.out.size ?_; intro ov' w2 ho2 hg2 _; have HO2 := Lib.hid ho2; have HG2 := Lib.hid hg2; clear ho2 hg2))
        refine ⟨⟨k + 1, _, D ++ [(_, xs)], E, _, rfl, by go_num, by omega, Lib.hid ⟨by rw [HI.out.1, List.append_assoc]; rfl, by rw [List.length_append, HI.out.2.1]; rfl, HI.out.2.2.step HB1.out hp2 HG1.out HO1.out HO2.out HG2.out⟩⟩, ?_⟩
        simp [intOf]
        omega
    · have HE : Hid (E = [] ∧ D = P) := by
        obtain ⟨h1, h2, _⟩ := HI.out
        have h3 := congrArg List.length h1
        rw [List.length_append, ← HL.out] at h3
        have h4 : E = [] := List.length_eq_zero_iff.1 (by omega)
        exact Lib.hid ⟨h4, by rw [h1, h4, List.append_nil]⟩
      go_wp2
      go_ret
      obtain ⟨_, _, h3⟩ := HI.out
      obtain ⟨rfl, rfl⟩ := HE.out
      exact ⟨ov, X, rfl, h3.same, h3.out, h3.x, h3.grown⟩
end Go.Proofs.Ytaidfcehicffbaa.W
