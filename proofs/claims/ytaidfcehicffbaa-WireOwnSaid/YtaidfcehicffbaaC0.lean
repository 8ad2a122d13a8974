/-
  A link whose rows lie in memory from a block on.
-/
import Derived.Test.YtaidfcehicffbaaA8
set_option linter.unusedVariables false
set_option linter.unusedSimpArgs false
namespace Go.Proofs.Ytaidfcehicffbaa.W
open Go.RowKit Go.Deep

def RB' (B : Nat) (w : World) (rv : Value) (P : List Pr) : Prop := w.ownsRow B 28 1 rv P.length (P.map Prod.fst) ∧ RO B w P
theorem RB'.rw {B : Nat} {w : World} {rv : Value} {P : List Pr} (h : RB' B w rv P) : RW 0 w rv P := ⟨Joins.ownsRow_le h.1 (Nat.zero_le _), h.2.le (Nat.zero_le _)⟩
theorem RB'.box {B b : Nat} {w w' : World} {rv : Value} {P : List Pr} {cs : Array Value} (h : RB' B w rv P) (hb : w.heap[b]? = some (.cells cs 60 (0, 0))) (hg : w.grownBy w' (some b)) : RB' B w' rv P :=
  ⟨own_kept h.1 hg (by rintro r ⟨⟩; exact own_far h.1 hb (by simp)), h.2.kept hg (by rintro r ⟨⟩; exact h.2.far hb (by simp))⟩
theorem RB'.far {B : Nat} {w w' : World} {rv : Value} {P : List Pr} {row : Option Nat} (h : RB' B w rv P) (hg : w.grownBy w' row) (hr : ∀ r, row = some r → r < B) : RB' B w' rv P :=
  ⟨own_kept h.1 hg (fun r hr' hk => by have := (h.1.lt r hk).1; have := hr r hr'; omega), h.2.kept hg (fun r hr' p hp hk => by have := ((h.2 p hp).1.lt hk).1; have := hr r hr'; omega)⟩
structure WrB (B : Nat) (w : World) (b : Nat) (dn : Bool) (G : Rows4) : Prop where
  ex : ∃ (rv : Nat → Value) (F : Nat → List Pr), w.heap[b]? = some (.cells (csOf dn rv) 60 (0, 0)) ∧ ∀ k, k < 4 → RB' B w (rv k) (F k) ∧ (F k).map Prod.snd = G k
theorem WrB.wr {B : Nat} {w : World} {b : Nat} {dn : Bool} {G : Rows4} (h : WrB B w b dn G) : Wr w b dn G := by
  obtain ⟨rv, F, hb, hF⟩ := h.ex
  exact ⟨rv, F, hb, fun k hk => ⟨(hF k hk).1.rw, (hF k hk).2⟩⟩
theorem WrB.far {B : Nat} {w w' : World} {b : Nat} {dn : Bool} {G : Rows4} {row : Option Nat} (h : WrB B w b dn G) (hg : w.grownBy w' row) (hr : ∀ r, row = some r → r < B ∧ r ≠ b) : WrB B w' b dn G := by
  obtain ⟨rv, F, hb, hF⟩ := h.ex
  exact ⟨rv, F, blk_kept hb hg (fun e => (hr b e.symm).2 rfl), fun k hk => ⟨(hF k hk).1.far hg fun r hr' => (hr r hr').1, (hF k hk).2⟩⟩
theorem WrB.row {B : Nat} {w : World} {b : Nat} {dn : Bool} {G : Rows4} (h : WrB B w b dn G) {k : Nat} (hk : k < 4) : ∃ (cs : Array Value) (rv : Value) (P : List Pr), w.heap[b]? = some (.cells cs 60 (0, 0)) ∧ cs[2 + k]? = some rv ∧ RB' B w rv P ∧ P.map Prod.snd = G k ∧
    ∀ w' rv' P', w'.heap[b]? = some (.cells (cs.setIfInBounds (2 + k) rv') 60 (0, 0)) → RB' B w' rv' P' → w.grownBy w' (some b) → WrB B w' b dn (upd G k (P'.map Prod.snd)) := by
  obtain ⟨rv, F, hb, hF⟩ := h.ex
  refine ⟨csOf dn rv, rv k, F k, hb, csOf_get hk, (hF k hk).1, (hF k hk).2, fun w' rv' P' hb' hr' hg => ⟨fun j => if j = k then rv' else rv j, fun j => if j = k then P' else F j, ?_, fun j hj => ?_⟩⟩
  · rw [hb', csOf_set hk]
  · by_cases hjk : j = k
    · simp only [upd, if_pos hjk]
      exact ⟨hr', trivial⟩
    · simp only [upd, if_neg hjk]
      exact ⟨(hF j hj).1.box hb hg, (hF j hj).2⟩
set_option maxHeartbeats 1000000 in
theorem put_ofB (B b o : Nat) (cs : Array Value) (rv v : Value) (P : List Pr) (xs : List Int) (w : World) (hb : w.heap[b]? = some (.cells cs 60 (0, 0))) (ho : cs[o]? = some rv) (h : RB' B w rv P) (hB : B ≤ w.heap.size) (hv : Bt w v xs) (hl : xs.length ≤ 4096) (hn : P.length ≤ 1000) :
    Calls Try.prog 32 #[.pointer (some ⟨b, o, none⟩), v] w fun e w' => ∃ rv' v', e = .returned (.tuple #[]) ∧ w'.heap[b]? = some (.cells (cs.setIfInBounds o rv') 60 (0, 0)) ∧ RB' B w' rv' (P ++ [(v', xs)]) ∧ w.grownBy w' (some b) := by
  obtain ⟨i0, hi, hz0, hz1, hz2⟩ := info_parts info28
  have hc := (cell_of_row w b o cs 60 (0, 0) hb).trans ho
  have HB := Lib.hid hb
  have HW := Lib.hid h
  have HV := Lib.hid hv
  have C1 := Lib.hid (clone_rows rv P w h.rw.1 h.rw.2 (by omega))
  have HO := Lib.hid ho
  obtain ⟨va, vc, rfl, _⟩ := hv.len
  obtain ⟨ra, rc, rfl⟩ := own_len h.1
  clear hb h hv ho
  go_enter Try.func32, Try.ntmps32
  go_wp2_with (first
    | (go_at_call 41; refine C1.out.mono ?_; rintro e w1 ⟨r1, rfl, ho1, hg1⟩; have HO1 := Lib.hid ho1; have HG1 := Lib.hid hg1; have C2 := Lib.hid (clone_of _ xs w1 (HV.out.kept hg1 (by simp)) (by omega)); clear ho1 hg1)
    | (go_at_call 40; refine C2.out.mono ?_; rintro e w2 ⟨v2, rfl, hb2, hg2⟩; have HB2 := Lib.hid hb2; have HG2 := Lib.hid hg2; obtain ⟨v2a, v2c, hv2⟩ := hb2.len; subst hv2; have HO3 := Lib.hid (own_kept (own_kept HO1.out hg2 (by simp)) (World.grownBy_alloc w2 (.cells #[.slice v2a xs.length v2c] 28) none) (by simp)); clear hb2 hg2)
    | (at_builtin; refine wpList_append_own _ rfl _ _ 26 rfl w.heap.size 28 i0 (.slice none 0 0) 1 24 Try.underlying26 hi hz0 hz1 hz2 rfl (by decide) r1 P.length _ rfl HO3.out ⟨w2.heap.size, 0, none⟩ 1 1 [.slice v2a xs.length v2c] rfl rfl (cell_one_new _ _ _) (by simp [Value.oneCell']) (by unfold maxLen; omega) (by omega) (Nat.le_trans HG1.out.size (Nat.le_trans HG2.out.size (World.grownBy_alloc _ _ none).size)) ?_; intro r4 w4 ho4 hg4 _; obtain ⟨ra4, rc4, hr4⟩ := own_len ho4; subst hr4; have HO4 := Lib.hid ho4; have HG4 := Lib.hid (grownOwn (gn (gn HG1.out HG2.out) (World.grownBy_alloc w2 (.cells #[.slice v2a xs.length v2c] 28) none)) HO3.out (Nat.le_refl _) hg4); have HB4 := Lib.hid (blk_kept HB.out HG4.out (by simp)); have HV4 := Lib.hid (show BO B w4 (.slice v2a xs.length v2c) xs from own_cross ((HB2.out.le (Nat.le_trans hB HG1.out.size)).kept (World.grownBy_alloc w2 (.cells #[.slice v2a xs.length v2c] 28) none) (by simp)) HO3.out (by decide) hg4); have e1 := (cell_of_row w4 b o cs 60 (0, 0) HB4.out).trans HO.out; have z1 := blk_frozen HB4.out o; clear ho4 hg4))
  refine Great.bodyPost_end0 rfl rfl ?_
  have g1 := grownSet w4 b o (.slice ra4 (P.length + 1) rc4)
  have hW : RB' B w4 (.slice ra4 (P.length + 1) rc4) (P ++ [(.slice v2a xs.length v2c, xs)]) := ⟨by simpa using Joins.ownsRow_le HO4.out hB, (HW.out.2.kept HG4.out (by simp)).app (.one HV4.out hl)⟩
  exact ⟨_, _, rfl, heap_setCell_same w4 b o cs 60 _ HB4.out, hW.box HB4.out g1, gn2 HG4.out g1⟩

theorem put_wB (B b o k : Nat) (dn : Bool) (G : Rows4) (v : Value) (xs : List Int) (w : World) (h : WrB B w b dn G) (hB : B ≤ w.heap.size) (hk : k < 4) (ho : o = 2 + k) (hv : Bt w v xs) (hl : xs.length ≤ 4096) (hn : (G k).length ≤ 1000) :
    Calls Try.prog 32 #[.pointer (some ⟨b, o, none⟩), v] w fun e w' => e = .returned (.tuple #[]) ∧ WrB B w' b dn (upd G k (G k ++ [xs])) ∧ w.grownBy w' (some b) := by
  subst ho
  obtain ⟨cs, rv, P, hb, ho, hr, hs, hnew⟩ := h.row hk
  have hPl : P.length = (G k).length := by rw [← hs, List.length_map]
  refine (put_ofB B b (2 + k) cs rv v P xs w hb ho hr hB hv hl (by omega)).mono fun e w' ⟨rv', v', he, hb', hr', hg⟩ => ⟨he, ?_, hg⟩
  have h2 := hnew w' rv' _ hb' hr' hg
  simpa [hs] using h2
theorem datad_okB (B b d : Nat) (G : Rows4) (v : Value) (xs : List Int) (w : World) (h : WrB B w b false G) (hB : B ≤ w.heap.size) (hd : d < 2) (hv : Bt w v xs) (hl : xs.length ≤ 4096) (hx : xs.length ≤ 2048) (hq : (G d).length < 32) (hn : (G d).length ≤ 1000) : Calls Try.prog 11 #[.pointer (some ⟨b, 0, none⟩), .int .i64 (d : Int), v] w fun e w' => e = .returned (.int .i64 0) ∧ WrB B w' b false (upd G d (G d ++ [xs])) ∧ w.grownBy w' (some b) := by
  have hM := may_of b d false w h.wr.cells.1 h.wr.cells.2.1
  rw [show mayN false d = 0 by simp [mayN, dOK_nat hd]] at hM
  have M := Lib.hid hM
  have P := Lib.hid (put_wB B b (2 + d) d false G v xs w h hB (by omega) (by omega) hv hl hn)
  obtain ⟨a, c, hc⟩ := h.wr.cell (show d < 4 by omega)
  rw [show 2 + d = 2 + d by omega] at hc
  obtain ⟨va, vc, rfl, _⟩ := hv.len
  clear h hM hv
  go_enter Try.func11, Try.ntmps11
  go_wp2_with (first | (go_at_call 31; refine M.out.mono ?_; rintro e w1 ⟨rfl, rfl⟩) | (go_at_call 32; refine P.out.mono ?_; rintro e w1 ⟨rfl, h1, h2⟩; have H1 := Lib.hid h1; have H2 := Lib.hid h2; clear h1 h2))
  go_ret
  exact ⟨rfl, H1.out, H2.out⟩
theorem sayd_okB (B b d : Nat) (G : Rows4) (v : Value) (xs : List Int) (w : World) (h : WrB B w b false G) (hB : B ≤ w.heap.size) (hd : d < 2) (hv : Bt w v xs) (hl : xs.length ≤ 4096) (hn : (G (2 + d)).length ≤ 1000) : Calls Try.prog 14 #[.pointer (some ⟨b, 0, none⟩), .int .i64 (d : Int), v] w fun e w' => e = .returned (.int .i64 0) ∧ WrB B w' b false (upd G (2 + d) (G (2 + d) ++ [xs])) ∧ w.grownBy w' (some b) := by
  have hM := may_of b d false w h.wr.cells.1 h.wr.cells.2.1
  rw [show mayN false d = 0 by simp [mayN, dOK_nat hd]] at hM
  have M := Lib.hid hM
  have P := Lib.hid (put_wB B b (4 + d) (2 + d) false G v xs w h hB (by omega) (by omega) hv hl hn)
  obtain ⟨a, c, hc⟩ := h.wr.cell (show (2 + d) < 4 by omega)
  rw [show 2 + (2 + d) = 4 + d by omega] at hc
  obtain ⟨va, vc, rfl, _⟩ := hv.len
  clear h hM hv
  go_enter Try.func14, Try.ntmps14
  go_wp2_with (first | (go_at_call 31; refine M.out.mono ?_; rintro e w1 ⟨rfl, rfl⟩) | (go_at_call 32; refine P.out.mono ?_; rintro e w1 ⟨rfl, h1, h2⟩; have H1 := Lib.hid h1; have H2 := Lib.hid h2; clear h1 h2))
  go_ret
  exact ⟨rfl, H1.out, H2.out⟩
theorem new_ofB (w : World) : Calls Try.prog 7 #[] w fun e w' => ∃ b, e = .returned (.pointer (some ⟨b, 0, none⟩)) ∧ w.heap.size ≤ b ∧ WrB w.heap.size w' b false clr ∧ w.grownBy w' none := by
  go_enter Try.func7, Try.ntmps7
  go_wp2
  go_ret
  refine ⟨_, rfl, Nat.le_refl _, ⟨fun _ => .slice none 0 0, fun _ => [], heap_alloc_new w _, fun k hk => ⟨⟨World.ownsRow_nil _ _ _ _, fun p hp => by simp at hp⟩, rfl⟩⟩, World.grownBy_alloc _ _ _⟩
end Go.Proofs.Ytaidfcehicffbaa.W
