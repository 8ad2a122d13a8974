/-
  What Take and Put of the package queue do, over any memory.
-/
import Derived.Test.YtocicajjbkdbnaaW1
set_option linter.unusedVariables false
set_option linter.unusedSimpArgs false
namespace Go.Proofs.Ytocicajjbkdbnaa.W
open Go.RowKit Go.Deep Go.Conc

theorem grownChan (w : World) (c cap : Nat) (buf : Array Value) (cl : Bool) (s r : Nat) (tm : Bool) : w.grownBy (w.setChan c cap buf cl s r tm) (some c) :=
  ⟨rfl, rfl, rfl, by simp [World.setChan], fun k hk hne => by simp only [World.setChan]; rw [Array.getElem?_setIfInBounds_ne (fun e => hne (by rw [e]))]⟩

theorem take_some (b cb cap : Nat) (v : Value) (vs : List Value) (w : World) (h : QH w b cb cap (v :: vs)) : Calls Try.prog 8 #[.pointer (some ⟨b, 0, none⟩)] w fun e w' => e = .returned (.tuple #[v, .bool true]) ∧ QH w' b cb cap vs ∧ w.grownBy w' (some cb) := by
  have hc := h.cell
  have HH := Lib.hid h
  obtain ⟨s, r, hq⟩ := h.chan
  have HQ := Lib.hid hq
  have hlt := h.ltc
  clear h hq
  go_enter Try.func8, Try.ntmps8
  go_upto_region 4 with (first | (go_at_call 19; refine (none_made _ _ _ hc).mono ?_; rintro e w' ⟨rfl, rfl⟩))
  refine wp_region_comm rfl (w1 := w) (cases := #[rcase cb (.slice none 0 0)]) (blocking := false) (shape := .select) ?_ (fun fr cs es h => step_lone_select_recv_buf h HQ.out (by simp)) ?_
  · simp [go_sem, execOp, rcase, Act.eval]
  · go_wp2
    go_ret2
    exact ⟨rfl, ⟨(grownChan w cb cap _ false _ _ false).block b HH.out.ltb (by simpa using HH.out.ne) |>.trans HH.out.box, _, _, heap_setChan w cb cap _ false _ _ false hlt⟩, grownChan _ _ _ _ _ _ _ _⟩
theorem take_none (b cb cap : Nat) (w : World) (h : QH w b cb cap []) : Calls Try.prog 8 #[.pointer (some ⟨b, 0, none⟩)] w fun e w' => e = .returned (.tuple #[.slice none 0 0, .bool false]) ∧ w = w' := by
  have hc := h.cell
  obtain ⟨s, r, hq⟩ := h.chan
  have HQ := Lib.hid hq
  clear h hq
  go_enter Try.func8, Try.ntmps8
  go_upto_region 4 with (first | (go_at_call 19; refine (none_made _ _ _ hc).mono ?_; rintro e w' ⟨rfl, rfl⟩))
  refine wp_region_comm rfl (w1 := w) (cases := #[rcase cb (.slice none 0 0)]) (blocking := false) (shape := .select) ?_ (fun fr cs es h => step_lone_select_default h HQ.out) ?_
  · simp [go_sem, execOp, rcase, Act.eval]
  · go_wp2
    go_ret2
    exact ⟨rfl, rfl⟩

theorem put_ok (b cb cap : Nat) (vs : List Value) (v : Value) (xs : List Int) (w : World) (h : QH w b cb cap vs) (hv : Bt w v xs) (hl : xs.length ≤ 2048) (hr : vs.length < cap) :
    Calls Try.prog 9 #[.pointer (some ⟨b, 0, none⟩), v] w fun e w' => ∃ v', e = .returned (.int .i64 0) ∧ QH w' b cb cap (vs ++ [v']) ∧ BO w.heap.size w' v' xs ∧ w.grownBy w' (some cb) := by
  have hc := h.cell
  have HH := Lib.hid h
  have HV := Lib.hid hv
  have HR := Lib.hid hr
  obtain ⟨a, c, rfl, hcap⟩ := hv.len
  clear h hr hv
  go_enter Try.func9, Try.ntmps9
  go_upto_region 7 with (first | (go_at_call 19; refine (none_made _ _ _ hc).mono ?_; rintro e w' ⟨rfl, rfl⟩) | (go_at_call 20; refine (clone_of _ xs w HV.out (by omega)).mono ?_; rintro e w1 ⟨v', rfl, hb, hg⟩; have HB := Lib.hid hb; have HG := Lib.hid hg; clear hb hg))
  have HH1 := Lib.hid (HH.out.kept HG.out (by simp) (by simp))
  obtain ⟨s, r, hq⟩ := HH1.out.chan
  have HQ := Lib.hid hq
  clear hq hc
  refine wp_region_comm rfl (w1 := w1) (cases := #[scase cb v' (.slice none 0 0)]) (blocking := false) (shape := .select) ?_ (fun fr cs es h => step_lone_select_send_room h HQ.out (by simpa using HR.out)) ?_
  · simp [go_sem, execOp, scase, Act.eval]
  · have HNE := Lib.hid (HB.out.ne HQ.out (by simp))
    go_wp2
    go_ret
    refine ⟨v', rfl, ⟨(grownChan w1 cb cap _ false _ _ false).block b HH1.out.ltb (by simpa using HH.out.ne) |>.trans HH1.out.box, s + 1, r, ?_⟩, HB.out.kept (grownChan w1 cb cap _ false _ _ false) (by rintro q ⟨⟩; exact HNE.out), gn2 HG.out (grownChan _ _ _ _ _ _ _ _)⟩
    have := heap_setChan w1 cb cap (vs.toArray.push v') false (s + 1) r false HH1.out.ltc
    simpa using this
theorem put_full (b cb cap : Nat) (vs : List Value) (v : Value) (xs : List Int) (w : World) (h : QH w b cb cap vs) (hv : Bt w v xs) (hl : xs.length ≤ 2048) (hr : cap ≤ vs.length) :
    Calls Try.prog 9 #[.pointer (some ⟨b, 0, none⟩), v] w fun e w' => e = .returned (.int .i64 71) ∧ w.grownBy w' none := by
  have hc := h.cell
  have HH := Lib.hid h
  have HV := Lib.hid hv
  have HR := Lib.hid hr
  obtain ⟨a, c, rfl, hcap⟩ := hv.len
  clear h hr hv
  go_enter Try.func9, Try.ntmps9
  go_upto_region 7 with (first | (go_at_call 19; refine (none_made _ _ _ hc).mono ?_; rintro e w' ⟨rfl, rfl⟩) | (go_at_call 20; refine (clone_of _ xs w HV.out (by omega)).mono ?_; rintro e w1 ⟨v', rfl, hb, hg⟩; have HG := Lib.hid hg; clear hb hg))
  have HH1 := Lib.hid (HH.out.kept HG.out (by simp) (by simp))
  obtain ⟨s, r, hq⟩ := HH1.out.chan
  have HQ := Lib.hid hq
  clear hq hc
  refine wp_region_comm rfl (w1 := w1) (cases := #[scase cb v' (.slice none 0 0)]) (blocking := false) (shape := .select) ?_ (fun fr cs es h => step_lone_select_send_full h HQ.out (by simpa using HR.out)) ?_
  · simp [go_sem, execOp, scase, Act.eval]
  · go_wp2
    go_ret
    exact ⟨rfl, HG.out⟩
theorem put_long (b cb : Nat) (v : Value) (xs : List Int) (w : World) (h : w.cell? ⟨b, 0, none⟩ = some (.chan (some cb))) (hv : Bt w v xs) (hl : 2048 < xs.length) :
    Calls Try.prog 9 #[.pointer (some ⟨b, 0, none⟩), v] w fun e w' => e = .returned (.int .i64 2) ∧ w = w' := by
  obtain ⟨a, c, rfl, hcap⟩ := hv.len
  clear hv
  go_enter Try.func9, Try.ntmps9
  go_wp2_with (first | (go_at_call 19; refine (none_made _ _ _ h).mono ?_; rintro e w' ⟨rfl, rfl⟩))
  go_ret
  exact ⟨rfl, rfl⟩
theorem put_nob (p v : Value) (w : World) (h : Nob w p) : Calls Try.prog 9 #[p, v] w fun e w' => e = .returned (.int .i64 4) ∧ w = w' := by
  have H := Lib.hid h
  clear h
  go_enter Try.func9, Try.ntmps9
  go_wp2_with (first | (go_at_call 19; refine (none_nob _ _ H.out).mono ?_; rintro e w' ⟨rfl, rfl⟩))
  go_ret
  exact ⟨rfl, rfl⟩
theorem take_nob (p : Value) (w : World) (h : Nob w p) : Calls Try.prog 8 #[p] w fun e w' => e = .returned (.tuple #[.slice none 0 0, .bool false]) ∧ w = w' := by
  have H := Lib.hid h
  clear h
  go_enter Try.func8, Try.ntmps8
  go_wp2_with (first | (go_at_call 19; refine (none_nob _ _ H.out).mono ?_; rintro e w' ⟨rfl, rfl⟩))
  go_ret2
  exact ⟨rfl, rfl⟩
theorem len_nob (p : Value) (w : World) (h : Nob w p) : Calls Try.prog 10 #[p] w fun e w' => e = .returned (.int .i64 0) ∧ w = w' := by
  have H := Lib.hid h
  clear h
  go_enter Try.func10, Try.ntmps10
  go_wp2_with (first | (go_at_call 19; refine (none_nob _ _ H.out).mono ?_; rintro e w' ⟨rfl, rfl⟩))
  go_ret
  exact ⟨rfl, rfl⟩
theorem room_nob (p : Value) (w : World) (h : Nob w p) : Calls Try.prog 11 #[p] w fun e w' => e = .returned (.int .i64 0) ∧ w = w' := by
  have H := Lib.hid h
  clear h
  go_enter Try.func11, Try.ntmps11
  go_wp2_with (first | (go_at_call 19; refine (none_nob _ _ H.out).mono ?_; rintro e w' ⟨rfl, rfl⟩))
  go_ret
  exact ⟨rfl, rfl⟩
theorem fork_nob (p : Value) (w : World) (h : Nob w p) : Calls Try.prog 18 #[p] w fun e w' => e = .returned (.pointer none) ∧ w = w' := by
  have H := Lib.hid h
  clear h
  go_enter Try.func18, Try.ntmps18
  go_wp2_with (first | (go_at_call 19; refine (none_nob _ _ H.out).mono ?_; rintro e w' ⟨rfl, rfl⟩))
  go_ret
  exact ⟨rfl, rfl⟩
theorem clear_nob (p : Value) (w : World) (h : Nob w p) : Calls Try.prog 17 #[p] w fun e w' => e = .returned (.int .i64 0) ∧ w = w' := by
  have H := Lib.hid h
  clear h
  go_enter Try.func17, Try.ntmps17
  go_wp2
  go_loop [3] (fun nv => nv = .int .i64 0) (fun _ => 0)
  case atStart => rfl
  case round =>
    subst hrel
    go_wp2_with (first | (go_at_call 8; refine (take_nob _ _ H.out).mono ?_; rintro e w' ⟨rfl, rfl⟩))
    go_ret
    exact ⟨rfl, rfl⟩
theorem all_nob (p : Value) (w : World) (h : Nob w p) : Calls Try.prog 12 #[p] w fun e w' => e = .returned (.slice none 0 0) ∧ w = w' := by
  have H := Lib.hid h
  clear h
  go_enter Try.func12, Try.ntmps12
  go_wp2_with (first | (go_at_call 10; refine (len_nob _ _ H.out).mono ?_; rintro e w' ⟨rfl, rfl⟩))
  go_loop [3, 8] (fun ov iv => ov = .slice none 0 0 ∧ iv = .int .i64 0) (fun _ _ => 0)
  case atStart => exact ⟨rfl, rfl⟩
  case round =>
    obtain ⟨rfl, rfl⟩ := hrel
    go_wp2
    go_ret
    exact ⟨rfl, rfl⟩
end Go.Proofs.Ytocicajjbkdbnaa.W
