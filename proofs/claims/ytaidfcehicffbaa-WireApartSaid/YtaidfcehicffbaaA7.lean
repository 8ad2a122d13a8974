/-
  What awake tells.
-/
import Derived.Test.YtaidfcehicffbaaA6
set_option linter.unusedVariables false
set_option linter.unusedSimpArgs false
namespace Go.Proofs.Ytaidfcehicffbaa.W
open Go.RowKit Go.Deep

def g0 (L : List (List Int)) : Rows4 := upd clr 0 L
theorem upd_g0 (L M : List (List Int)) : upd (g0 L) 0 M = g0 M := by
  funext j
  unfold g0 upd
  split <;> simp_all
theorem data_lit (b : Nat) (x : Int) (L : List (List Int)) (w : World) (h : Wr w b false (g0 L)) (hl : L.length < 32) :
    Calls Try.prog 11 #[.pointer (some ⟨b, 0, none⟩), .int .i64 0, .slice (some ⟨w.heap.size, 0, none⟩) 1 1] (w.alloc (.cells #[.int .u8 x] 5 (1, 2))) fun e w' => e = .returned (.int .i64 0) ∧ Wr w' b false (g0 (L ++ [[x]])) ∧ w.grownBy w' (some b) := by
  have hb := bt_lit w #[.int .u8 x] [x] (1, 2) rfl
  have ha := World.grownBy_alloc w (.cells #[.int .u8 x] 5 (1, 2)) none
  refine (datad_ok b 0 (g0 L) _ [x] _ (h.kept ha) (by omega) hb (by simp) (by simp) (show L.length < 32 from hl) (show L.length ≤ 1000 by omega)).mono fun e w' ⟨h1, h2, h3⟩ => ⟨h1, ?_, gn2 ha h3⟩
  rw [upd_g0] at h2
  exact h2
theorem twin_lit (b : Nat) (w : World) (h : Wr w b false (g0 [[97], [98]])) : Calls Try.prog 13 #[.pointer (some ⟨b, 0, none⟩), .int .i64 0, .int .i64 0] w fun e w' => e = .returned (.int .i64 0) ∧ Wr w' b false (g0 [[97], [98], [97]]) ∧ w.grownBy w' (some b) := by
  refine (twin_ok b 0 0 false _ w h (by omega) (by decide) (by decide)).mono fun e w' ⟨h1, h2, h3⟩ => ⟨h1, ?_, h3⟩
  rw [upd_g0] at h2
  exact h2
theorem take_lit (b : Nat) (w : World) (h : Wr w b false (g0 [[97], [98], [97]])) : Calls Try.prog 12 #[.pointer (some ⟨b, 0, none⟩), .int .i64 0, .int .i64 1] w fun e w' => ∃ a c, e = .returned (.tuple #[.slice a 1 c, .bool true]) ∧ Wr w' b false (g0 [[97], [97]]) ∧ BO 0 w' (.slice a 1 c) [98] ∧ w.grownBy w' (some b) := by
  refine (taked_of b 0 false _ 1 w h (by omega) (by decide)).mono fun e w' ⟨a, l, c, h1, h2, h3, _, h4⟩ => ?_
  rw [upd_g0] at h2
  have h3' : BO 0 w' (.slice a l c) [98] := h3
  obtain ⟨a', c', hv⟩ := h3'.len
  injection hv with e1 e2 e3
  subst e2
  exact ⟨a, c, h1, h2, h3', h4⟩
theorem hear_lit (b : Nat) (w : World) (h : Wr w b false (g0 [[97], [97]])) : Calls Try.prog 15 #[.pointer (some ⟨b, 0, none⟩), .int .i64 0] w fun e w' => ∃ a c, e = .returned (.tuple #[.slice a 0 c, .bool false]) ∧ Wr w' b false (g0 [[97], [97]]) ∧ w.grownBy w' (some b) := by
  refine (heard_of b 0 false _ w h (by omega) (by decide)).mono fun e w' ⟨a, l, c, h1, h2, h3, _, h4⟩ => ?_
  have h3' : BO 0 w' (.slice a l c) [] := h3
  obtain ⟨a', c', hv⟩ := h3'.len
  injection hv with e1 e2 e3
  have e2' : l = 0 := e2
  subst e2'
  have hu : upd (g0 [[97], [97]]) 2 (takeL ((g0 [[97], [97]]) 2) 0) = g0 [[97], [97]] := upd_self _ 2
  refine ⟨a, c, h1, ?_, h4⟩
  rw [hu] at h2
  exact h2
theorem len_lit (b : Nat) (w : World) (h : Wr w b false (g0 [[97], [97]])) : Calls Try.prog 26 #[.pointer (some ⟨b, 0, none⟩), .int .i64 0] w fun e w' => e = .returned (.int .i64 2) ∧ w = w' :=
  (len_of b 0 false _ w h (by omega) (by decide)).mono fun e w' ⟨h1, h2⟩ => ⟨h1, h2.symm⟩
theorem up_lit (b : Nat) (w : World) (h : Wr w b false (g0 [[97], [97]])) : Calls Try.prog 28 #[.pointer (some ⟨b, 0, none⟩)] w fun e w' => e = .returned (.bool true) ∧ w = w' :=
  (up_of b false w h.cells.1 h.cells.2.1).mono fun e w' ⟨h1, h2⟩ => ⟨h1, h2.symm⟩
theorem say_lit (b : Nat) (w : World) (h : Wr w b false (g0 [[97], [97]])) : Calls Try.prog 14 #[.pointer (some ⟨b, 0, none⟩), .int .i64 2, .slice none 0 0] w fun e w' => e = .returned (.int .i64 5) ∧ w = w' :=
  (sayd_may b 2 5 false _ w h.cells.1 h.cells.2.1 (by decide) (by decide)).mono fun e w' ⟨h1, h2⟩ => ⟨h1, h2.symm⟩
theorem set_lit (b : Nat) (w : World) (h : Wr w b false (g0 [[97], [97]])) : Calls Try.prog 18 #[.pointer (some ⟨b, 0, none⟩), .bool false] w fun e w' => e = .returned (.int .i64 2) ∧ Wr w' b true clr ∧ w.grownBy w' (some b) :=
  (set_down b false _ w h (fun k hk => by match k, hk with
    | 0, _ => decide
    | 1, _ => decide
    | 2, _ => decide
    | 3, _ => decide)).mono fun e w' ⟨h1, h2, h3⟩ => ⟨h1, h2, h3⟩
theorem say_lit2 (b : Nat) (w : World) (h : Wr w b true clr) : Calls Try.prog 14 #[.pointer (some ⟨b, 0, none⟩), .int .i64 0, .slice none 0 0] w fun e w' => e = .returned (.int .i64 250) ∧ w = w' :=
  (sayd_may b 0 250 true _ w h.cells.1 h.cells.2.1 (by decide) (by decide)).mono fun e w' ⟨h1, h2⟩ => ⟨h1, h2.symm⟩

set_option maxHeartbeats 2000000 in
theorem awake_any (w : World) : Calls Try.prog 8 #[] w fun e w' => e = .returned (.bool true) ∧ w.grownBy w' none := by
  have kc := fun (W : World) (C : Array Value) (n c : Nat) => Lib.run_convert_bytes_const (P := Try.prog) W 28 5 C n c Try.underlying28 Try.underlying5
  have L0 : Hid (([] : List (List Int)).length < 32) := Lib.hid (by decide)
  have L1 : Hid (([[97]] : List (List Int)).length < 32) := Lib.hid (by decide)
  go_enter Try.func8, Try.ntmps8
  go_wp2_with (first
    | (go_at_call 7; refine (new_of _).mono ?_; rintro e w1 ⟨b, rfl, hc, hA, hg⟩; have H1 : Hid (Wr w1 b false (g0 [])) := Lib.hid (by have := upd_self clr 0; unfold g0; rw [show ([] : List (List Int)) = clr 0 from rfl, this]; exact hA); have G1 := Lib.hid hg; have HC := Lib.hid hc; clear hA hg hc)
    | (go_at_call 11; (with_reducible refine (data_lit b 97 [] w1 H1.out L0.out).mono ?_); rintro e w2 ⟨rfl, hA, hg⟩; have H2 : Hid (Wr w2 b false (g0 [[97]])) := Lib.hid hA; have G2 := Lib.hid hg; clear hA hg)
    | (go_at_call 11; (with_reducible refine (data_lit b 98 [[97]] w2 H2.out L1.out).mono ?_); rintro e w3 ⟨rfl, hA, hg⟩; have H3 : Hid (Wr w3 b false (g0 [[97], [98]])) := Lib.hid hA; have G3 := Lib.hid hg; clear hA hg)
    | (go_at_call 13; refine (twin_lit b w3 H3.out).mono ?_; rintro e w4 ⟨rfl, hA, hg⟩; have H4 := Lib.hid hA; have G4 := Lib.hid hg; clear hA hg)
    | (go_at_call 12; refine (take_lit b w4 H4.out).mono ?_; rintro e w5 ⟨va, vc, rfl, hA, hB, hg⟩; have H5 := Lib.hid hA; have G5 := Lib.hid hg; have HB5 := Lib.hid hB; clear hA hB hg)
    | (go_at_call 15; refine (hear_lit b w5 H5.out).mono ?_; rintro e w6 ⟨ha, hc, rfl, hA, hg⟩; have H6 := Lib.hid hA; have G6 := Lib.hid hg; have hcv : (convert 28 9 (.slice va 1 vc)).run Try.prog w6 = .ok (.string ⟨#[98]⟩) w6 := conv_of (HB5.out.kept hg (by rintro r ⟨⟩; obtain ⟨rv, F, hb, _⟩ := H5.out.ex; exact HB5.out.ne hb (by simp))).bt; clear hA hg)
    | (go_at_call 26; refine (len_lit b w6 H6.out).mono ?_; rintro e w' ⟨rfl, rfl⟩)
    | (go_at_call 28; refine (up_lit b w6 H6.out).mono ?_; rintro e w' ⟨rfl, rfl⟩)
    | (go_at_call 14; (with_reducible refine (say_lit b w6 H6.out).mono ?_); rintro e w' ⟨rfl, rfl⟩)
    | (go_at_call 18; refine (set_lit b w6 H6.out).mono ?_; rintro e w7 ⟨rfl, hA, hg⟩; have H7 := Lib.hid hA; have G7 := Lib.hid hg; clear hA hg)
    | (go_at_call 14; (with_reducible refine (say_lit2 b w7 H7.out).mono ?_); rintro e w' ⟨rfl, rfl⟩))
  go_ret
  exact ⟨rfl, grownNew G1.out (gtrans (gtrans (gtrans (gtrans (gtrans G2.out G3.out (.inl rfl)) G4.out (.inl rfl)) G5.out (.inl rfl)) G6.out (.inl rfl)) G7.out (.inl rfl)) HC.out⟩
end Go.Proofs.Ytaidfcehicffbaa.W
