/-
  A link's methods.
-/
import Derived.Test.YtaidfcehicffbaaA4
set_option linter.unusedVariables false
set_option linter.unusedSimpArgs false
namespace Go.Proofs.Ytaidfcehicffbaa.W
open Go.RowKit Go.Deep

theorem dOK_nat {d : Nat} (hd : d < 2) : dOK (d : Int) = true := by unfold dOK; simp; omega
theorem Wr.elem {w : World} {b : Nat} {dn : Bool} {G : Rows4} (h : Wr w b dn G) {k n : Nat} (hk : k < 4) (hn : n < (G k).length) : ∃ g c a l ac, w.cell? ⟨b, 2 + k, none⟩ = some (.slice (some ⟨g, 0, none⟩) (G k).length c) ∧ w.cell? ⟨g, n, none⟩ = some (.slice a l ac) ∧ Bt w (.slice a l ac) ((G k).getD n []) ∧ ((G k).getD n []).length ≤ 4096 := by
  obtain ⟨cs, rv, P, hb, ho, hr, hs, _⟩ := h.row hk
  have hl : P.length = (G k).length := by rw [← hs, List.length_map]
  obtain ⟨g, c, hrv, hcells⟩ := row_get hr (show n < P.length by omega)
  have hm := hr.2 _ (row_mem (show n < P.length by omega))
  obtain ⟨a, ac, hv⟩ := hm.1.len
  have hg : (G k).getD n [] = (P.getD n default).2 := by
    rw [← hs]
    simp [List.getD_eq_getElem?_getD, List.getElem?_map, List.getElem?_eq_getElem (show n < P.length by omega)]
  refine ⟨g, c, a, _, ac, by rw [(cell_of_row w b (2 + k) cs 60 (0, 0) hb).trans ho, hrv, hl], by rw [hcells n (by omega), hv], ?_, ?_⟩
  · rw [hg, ← hv]; exact hm.1.bt
  · rw [hg]; exact hm.2
theorem len_bad (b : Nat) (d : Int) (w : World) (h : w.cell? ⟨b, 0, none⟩ = some (.bool true)) (hd : dOK d = false) : Calls Try.prog 26 #[.pointer (some ⟨b, 0, none⟩), .int .i64 d] w fun e w' => e = .returned (.int .i64 0) ∧ w' = w := by
  have hI := is_of b d w h
  rw [hd] at hI
  have I := Lib.hid hI
  clear h hI
  go_enter Try.func26, Try.ntmps26
  go_wp2_with (go_at_call 29; refine I.out.mono ?_; rintro e w1 ⟨rfl, rfl⟩)
  go_ret
  exact ⟨rfl, rfl⟩
theorem len_of (b d : Nat) (dn : Bool) (G : Rows4) (w : World) (h : Wr w b dn G) (hd : d < 2) (hn : (G d).length ≤ 1000) : Calls Try.prog 26 #[.pointer (some ⟨b, 0, none⟩), .int .i64 (d : Int)] w fun e w' => e = .returned (.int .i64 ((G d).length : Int)) ∧ w' = w := by
  have hI := is_of b d w h.cells.1
  rw [dOK_nat hd] at hI
  have I := Lib.hid hI
  obtain ⟨a, c, hc⟩ := h.cell (show d < 4 by omega)
  rw [show 2 + d = 2 + d by omega] at hc
  clear h hI
  go_enter Try.func26, Try.ntmps26
  go_wp2_with (go_at_call 29; refine I.out.mono ?_; rintro e w1 ⟨rfl, rfl⟩)
  go_ret
  exact ⟨rfl, rfl⟩
theorem said_bad (b : Nat) (d : Int) (w : World) (h : w.cell? ⟨b, 0, none⟩ = some (.bool true)) (hd : dOK d = false) : Calls Try.prog 27 #[.pointer (some ⟨b, 0, none⟩), .int .i64 d] w fun e w' => e = .returned (.int .i64 0) ∧ w' = w := by
  have hI := is_of b d w h
  rw [hd] at hI
  have I := Lib.hid hI
  clear h hI
  go_enter Try.func27, Try.ntmps27
  go_wp2_with (go_at_call 29; refine I.out.mono ?_; rintro e w1 ⟨rfl, rfl⟩)
  go_ret
  exact ⟨rfl, rfl⟩
theorem said_of (b d : Nat) (dn : Bool) (G : Rows4) (w : World) (h : Wr w b dn G) (hd : d < 2) (hn : (G (2 + d)).length ≤ 1000) : Calls Try.prog 27 #[.pointer (some ⟨b, 0, none⟩), .int .i64 (d : Int)] w fun e w' => e = .returned (.int .i64 ((G (2 + d)).length : Int)) ∧ w' = w := by
  have hI := is_of b d w h.cells.1
  rw [dOK_nat hd] at hI
  have I := Lib.hid hI
  obtain ⟨a, c, hc⟩ := h.cell (show (2 + d) < 4 by omega)
  rw [show 2 + (2 + d) = 4 + d by omega] at hc
  clear h hI
  go_enter Try.func27, Try.ntmps27
  go_wp2_with (go_at_call 29; refine I.out.mono ?_; rintro e w1 ⟨rfl, rfl⟩)
  go_ret
  exact ⟨rfl, rfl⟩
theorem alld_bad (b : Nat) (d : Int) (w : World) (h : w.cell? ⟨b, 0, none⟩ = some (.bool true)) (hd : dOK d = false) : Calls Try.prog 9 #[.pointer (some ⟨b, 0, none⟩), .int .i64 d] w fun e w' => e = .returned (.slice none 0 0) ∧ w' = w := by
  have hI := is_of b d w h
  rw [hd] at hI
  have I := Lib.hid hI
  clear h hI
  go_enter Try.func9, Try.ntmps9
  go_wp2_with (go_at_call 29; refine I.out.mono ?_; rintro e w1 ⟨rfl, rfl⟩)
  go_ret
  exact ⟨rfl, rfl⟩
theorem alld_of (b d : Nat) (dn : Bool) (G : Rows4) (w : World) (h : Wr w b dn G) (hd : d < 2) (hn : (G d).length ≤ 1000) : Calls Try.prog 9 #[.pointer (some ⟨b, 0, none⟩), .int .i64 (d : Int)] w fun e w' => ∃ a c, e = .returned (.slice a (G d).length c) ∧ Rs w.heap.size w' (.slice a (G d).length c) (G d) ∧ w.grownBy w' none := by
  have hI := is_of b d w h.cells.1
  rw [dOK_nat hd] at hI
  have I := Lib.hid hI
  have A := Lib.hid (all_w b (2 + d) d dn G w h (by omega) (by omega) hn)
  clear h hI
  go_enter Try.func9, Try.ntmps9
  go_wp2_with (first | (go_at_call 29; refine I.out.mono ?_; rintro e w1 ⟨rfl, rfl⟩) | (go_at_call 30; refine A.out.mono ?_; rintro e w1 ⟨a, c, rfl, hr, hg⟩; have HR := Lib.hid hr; have HG := Lib.hid hg; clear hr hg))
  go_ret
  exact ⟨a, c, rfl, HR.out, HG.out⟩
theorem wordsd_bad (b : Nat) (d : Int) (w : World) (h : w.cell? ⟨b, 0, none⟩ = some (.bool true)) (hd : dOK d = false) : Calls Try.prog 10 #[.pointer (some ⟨b, 0, none⟩), .int .i64 d] w fun e w' => e = .returned (.slice none 0 0) ∧ w' = w := by
  have hI := is_of b d w h
  rw [hd] at hI
  have I := Lib.hid hI
  clear h hI
  go_enter Try.func10, Try.ntmps10
  go_wp2_with (go_at_call 29; refine I.out.mono ?_; rintro e w1 ⟨rfl, rfl⟩)
  go_ret
  exact ⟨rfl, rfl⟩
theorem wordsd_of (b d : Nat) (dn : Bool) (G : Rows4) (w : World) (h : Wr w b dn G) (hd : d < 2) (hn : (G (2 + d)).length ≤ 1000) : Calls Try.prog 10 #[.pointer (some ⟨b, 0, none⟩), .int .i64 (d : Int)] w fun e w' => ∃ a c, e = .returned (.slice a (G (2 + d)).length c) ∧ Rs w.heap.size w' (.slice a (G (2 + d)).length c) (G (2 + d)) ∧ w.grownBy w' none := by
  have hI := is_of b d w h.cells.1
  rw [dOK_nat hd] at hI
  have I := Lib.hid hI
  have A := Lib.hid (all_w b (4 + d) (2 + d) dn G w h (by omega) (by omega) hn)
  clear h hI
  go_enter Try.func10, Try.ntmps10
  go_wp2_with (first | (go_at_call 29; refine I.out.mono ?_; rintro e w1 ⟨rfl, rfl⟩) | (go_at_call 30; refine A.out.mono ?_; rintro e w1 ⟨a, c, rfl, hr, hg⟩; have HR := Lib.hid hr; have HG := Lib.hid hg; clear hr hg))
  go_ret
  exact ⟨a, c, rfl, HR.out, HG.out⟩
theorem taked_bad (b : Nat) (d : Int) (n : Int) (w : World) (h : w.cell? ⟨b, 0, none⟩ = some (.bool true)) (hd : dOK d = false) : Calls Try.prog 12 #[.pointer (some ⟨b, 0, none⟩), .int .i64 d, .int .i64 n] w fun e w' => e = .returned (.tuple #[.slice none 0 0, .bool false]) ∧ w' = w := by
  have hI := is_of b d w h
  rw [hd] at hI
  have I := Lib.hid hI
  clear h hI
  go_enter Try.func12, Try.ntmps12
  go_wp2_with (go_at_call 29; refine I.out.mono ?_; rintro e w1 ⟨rfl, rfl⟩)
  go_ret2
  exact ⟨rfl, rfl⟩
theorem taked_of (b d : Nat) (dn : Bool) (G : Rows4) (n : Int) (w : World) (h : Wr w b dn G) (hd : d < 2) (hn : (G d).length ≤ 1000) : Calls Try.prog 12 #[.pointer (some ⟨b, 0, none⟩), .int .i64 (d : Int), .int .i64 n] w fun e w' => ∃ a l c, e = .returned (.tuple #[.slice a l c, .bool (inR (G d) n)]) ∧ Wr w' b dn (upd G d (takeL (G d) n)) ∧ BO 0 w' (.slice a l c) (tookL (G d) n) ∧ (tookL (G d) n).length ≤ 4096 ∧ w.grownBy w' (some b) := by
  have hI := is_of b d w h.cells.1
  rw [dOK_nat hd] at hI
  have I := Lib.hid hI
  have T := Lib.hid (take_w b (2 + d) d dn G n w h (by omega) (by omega) hn)
  clear h hI
  go_enter Try.func12, Try.ntmps12
  go_wp2_with (first | (go_at_call 29; refine I.out.mono ?_; rintro e w1 ⟨rfl, rfl⟩) | (go_at_call 33; refine T.out.mono ?_; rintro e w1 ⟨a, l, c, rfl, h1, h2, h3, h4⟩; have H1 := Lib.hid h1; have H2 := Lib.hid h2; have H3 := Lib.hid h3; have H4 := Lib.hid h4; clear h1 h2 h3 h4))
  go_ret2
  exact ⟨a, l, c, rfl, H1.out, H2.out, H3.out, H4.out⟩
theorem heard_bad (b : Nat) (d : Int) (w : World) (h : w.cell? ⟨b, 0, none⟩ = some (.bool true)) (hd : dOK d = false) : Calls Try.prog 15 #[.pointer (some ⟨b, 0, none⟩), .int .i64 d] w fun e w' => e = .returned (.tuple #[.slice none 0 0, .bool false]) ∧ w' = w := by
  have hI := is_of b d w h
  rw [hd] at hI
  have I := Lib.hid hI
  clear h hI
  go_enter Try.func15, Try.ntmps15
  go_wp2_with (go_at_call 29; refine I.out.mono ?_; rintro e w1 ⟨rfl, rfl⟩)
  go_ret2
  exact ⟨rfl, rfl⟩
theorem heard_of (b d : Nat) (dn : Bool) (G : Rows4) (w : World) (h : Wr w b dn G) (hd : d < 2) (hn : (G (2 + d)).length ≤ 1000) : Calls Try.prog 15 #[.pointer (some ⟨b, 0, none⟩), .int .i64 (d : Int)] w fun e w' => ∃ a l c, e = .returned (.tuple #[.slice a l c, .bool (inR (G (2 + d)) 0)]) ∧ Wr w' b dn (upd G (2 + d) (takeL (G (2 + d)) 0)) ∧ BO 0 w' (.slice a l c) (tookL (G (2 + d)) 0) ∧ (tookL (G (2 + d)) 0).length ≤ 4096 ∧ w.grownBy w' (some b) := by
  have hI := is_of b d w h.cells.1
  rw [dOK_nat hd] at hI
  have I := Lib.hid hI
  have T := Lib.hid (take_w b (4 + d) (2 + d) dn G 0 w h (by omega) (by omega) hn)
  clear h hI
  go_enter Try.func15, Try.ntmps15
  go_wp2_with (first | (go_at_call 29; refine I.out.mono ?_; rintro e w1 ⟨rfl, rfl⟩) | (go_at_call 33; refine T.out.mono ?_; rintro e w1 ⟨a, l, c, rfl, h1, h2, h3, h4⟩; have H1 := Lib.hid h1; have H2 := Lib.hid h2; have H3 := Lib.hid h3; have H4 := Lib.hid h4; clear h1 h2 h3 h4))
  go_ret2
  exact ⟨a, l, c, rfl, H1.out, H2.out, H3.out, H4.out⟩
theorem datad_may (b : Nat) (d m : Int) (dn : Bool) (v : Value) (w : World) (h : w.cell? ⟨b, 0, none⟩ = some (.bool true)) (h1 : w.cell? ⟨b, 1, none⟩ = some (.bool dn)) (hm : mayN dn d = m) (hm0 : m ≠ 0) : Calls Try.prog 11 #[.pointer (some ⟨b, 0, none⟩), .int .i64 d, v] w fun e w' => e = .returned (.int .i64 m) ∧ w' = w := by
  have hM := may_of b d dn w h h1
  rw [hm] at hM
  have M := Lib.hid hM
  have hne : (m == 0) = false := by simpa using hm0
  clear h h1 hM hm
  go_enter Try.func11, Try.ntmps11
  go_wp2_with (go_at_call 31; refine M.out.mono ?_; rintro e w1 ⟨rfl, rfl⟩)
  go_ret
  exact ⟨rfl, rfl⟩
theorem datad_ok (b d : Nat) (G : Rows4) (v : Value) (xs : List Int) (w : World) (h : Wr w b false G) (hd : d < 2) (hv : Bt w v xs) (hl : xs.length ≤ 4096) (hx : xs.length ≤ 2048) (hq : (G d).length < 32) (hn : (G d).length ≤ 1000) : Calls Try.prog 11 #[.pointer (some ⟨b, 0, none⟩), .int .i64 (d : Int), v] w fun e w' => e = .returned (.int .i64 0) ∧ Wr w' b false (upd G d (G d ++ [xs])) ∧ w.grownBy w' (some b) := by
  have hM := may_of b d false w h.cells.1 h.cells.2.1
  rw [show mayN false d = 0 by simp [mayN, dOK_nat hd]] at hM
  have M := Lib.hid hM
  have P := Lib.hid (put_w b (2 + d) d false G v xs w h (by omega) (by omega) hv hl hn)
  obtain ⟨a, c, hc⟩ := h.cell (show d < 4 by omega)
  rw [show 2 + d = 2 + d by omega] at hc
  obtain ⟨va, vc, rfl, _⟩ := hv.len
  clear h hM hv
  go_enter Try.func11, Try.ntmps11
  go_wp2_with (first | (go_at_call 31; refine M.out.mono ?_; rintro e w1 ⟨rfl, rfl⟩) | (go_at_call 32; refine P.out.mono ?_; rintro e w1 ⟨rfl, h1, h2⟩; have H1 := Lib.hid h1; have H2 := Lib.hid h2; clear h1 h2))
  go_ret
  exact ⟨rfl, H1.out, H2.out⟩
theorem sayd_may (b : Nat) (d m : Int) (dn : Bool) (v : Value) (w : World) (h : w.cell? ⟨b, 0, none⟩ = some (.bool true)) (h1 : w.cell? ⟨b, 1, none⟩ = some (.bool dn)) (hm : mayN dn d = m) (hm0 : m ≠ 0) : Calls Try.prog 14 #[.pointer (some ⟨b, 0, none⟩), .int .i64 d, v] w fun e w' => e = .returned (.int .i64 m) ∧ w' = w := by
  have hM := may_of b d dn w h h1
  rw [hm] at hM
  have M := Lib.hid hM
  have hne : (m == 0) = false := by simpa using hm0
  clear h h1 hM hm
  go_enter Try.func14, Try.ntmps14
  go_wp2_with (go_at_call 31; refine M.out.mono ?_; rintro e w1 ⟨rfl, rfl⟩)
  go_ret
  exact ⟨rfl, rfl⟩
theorem sayd_ok (b d : Nat) (G : Rows4) (v : Value) (xs : List Int) (w : World) (h : Wr w b false G) (hd : d < 2) (hv : Bt w v xs) (hl : xs.length ≤ 4096) (hn : (G (2 + d)).length ≤ 1000) : Calls Try.prog 14 #[.pointer (some ⟨b, 0, none⟩), .int .i64 (d : Int), v] w fun e w' => e = .returned (.int .i64 0) ∧ Wr w' b false (upd G (2 + d) (G (2 + d) ++ [xs])) ∧ w.grownBy w' (some b) := by
  have hM := may_of b d false w h.cells.1 h.cells.2.1
  rw [show mayN false d = 0 by simp [mayN, dOK_nat hd]] at hM
  have M := Lib.hid hM
  have P := Lib.hid (put_w b (4 + d) (2 + d) false G v xs w h (by omega) (by omega) hv hl hn)
  obtain ⟨a, c, hc⟩ := h.cell (show (2 + d) < 4 by omega)
  rw [show 2 + (2 + d) = 4 + d by omega] at hc
  obtain ⟨va, vc, rfl, _⟩ := hv.len
  clear h hM hv
  go_enter Try.func14, Try.ntmps14
  go_wp2_with (first | (go_at_call 31; refine M.out.mono ?_; rintro e w1 ⟨rfl, rfl⟩) | (go_at_call 32; refine P.out.mono ?_; rintro e w1 ⟨rfl, h1, h2⟩; have H1 := Lib.hid h1; have H2 := Lib.hid h2; clear h1 h2))
  go_ret
  exact ⟨rfl, H1.out, H2.out⟩
theorem datad_long (b d : Nat) (G : Rows4) (v : Value) (xs : List Int) (w : World) (h : Wr w b false G) (hd : d < 2) (hv : Bt w v xs) (hl : xs.length ≤ 4096) (hx : 2048 < xs.length) : Calls Try.prog 11 #[.pointer (some ⟨b, 0, none⟩), .int .i64 (d : Int), v] w fun e w' => e = .returned (.int .i64 2) ∧ w' = w := by
  have hM := may_of b d false w h.cells.1 h.cells.2.1
  rw [show mayN false d = 0 by simp [mayN, dOK_nat hd]] at hM
  have M := Lib.hid hM
  obtain ⟨a, c, hc⟩ := h.cell (show d < 4 by omega)
  obtain ⟨va, vc, rfl, _⟩ := hv.len
  clear h hM hv
  go_enter Try.func11, Try.ntmps11
  go_wp2_with (go_at_call 31; refine M.out.mono ?_; rintro e w1 ⟨rfl, rfl⟩)
  go_ret
  exact ⟨rfl, rfl⟩
theorem datad_many (b d : Nat) (G : Rows4) (v : Value) (xs : List Int) (w : World) (h : Wr w b false G) (hd : d < 2) (hv : Bt w v xs) (hl : xs.length ≤ 4096) (hx : xs.length ≤ 2048) (hq : 32 ≤ (G d).length) (hn : (G d).length ≤ 1000) : Calls Try.prog 11 #[.pointer (some ⟨b, 0, none⟩), .int .i64 (d : Int), v] w fun e w' => e = .returned (.int .i64 3) ∧ w' = w := by
  have hM := may_of b d false w h.cells.1 h.cells.2.1
  rw [show mayN false d = 0 by simp [mayN, dOK_nat hd]] at hM
  have M := Lib.hid hM
  obtain ⟨a, c, hc⟩ := h.cell (show d < 4 by omega)
  obtain ⟨va, vc, rfl, _⟩ := hv.len
  clear h hM hv
  go_enter Try.func11, Try.ntmps11
  go_wp2_with (go_at_call 31; refine M.out.mono ?_; rintro e w1 ⟨rfl, rfl⟩)
  go_ret
  exact ⟨rfl, rfl⟩
end Go.Proofs.Ytaidfcehicffbaa.W
