/-
  What awake of the package queue's law tells, and QueueNobody, over any memory.
-/
import Derived.Test.YtocicajjbkdbnaaW6
import Derived.Lib.SlBytesConst
set_option linter.unusedVariables false
set_option linter.unusedSimpArgs false
namespace Go.Proofs.Ytocicajjbkdbnaa.W
open Go.RowKit Go.Deep Go.Conc

structure QA (w : World) (b cb cap : Nat) (P : List Pr) : Prop where
  q : QH w b cb cap (P.map Prod.fst)
  r : RO 0 w P
theorem QA.kept {w w' : World} {b cb cap : Nat} {P : List Pr} (h : QA w b cb cap P) (hg : w.grownBy w' none) : QA w' b cb cap P := ⟨h.q.kept hg (by simp) (by simp), h.r.kept hg (by simp)⟩
theorem QA.take {w w' : World} {b cb cap : Nat} {p : Pr} {P : List Pr} (h : QA w b cb cap (p :: P)) (hq : QH w' b cb cap (P.map Prod.fst)) (hg : w.grownBy w' (some cb)) : QA w' b cb cap P ∧ BO 0 w' p.1 p.2 :=
  have h1 := h.r.chan h.q.chan hg
  ⟨⟨hq, fun q hq => h1 q (List.mem_cons_of_mem _ hq)⟩, (h1 p List.mem_cons_self).1⟩
theorem QA.put {w w' : World} {b cb cap : Nat} {P : List Pr} {v : Value} {xs : List Int} {B : Nat} (h : QA w b cb cap P) (hq : QH w' b cb cap (P.map Prod.fst ++ [v])) (hb : BO B w' v xs) (hl : xs.length ≤ 2048) (hg : w.grownBy w' (some cb)) : QA w' b cb cap (P ++ [(v, xs)]) :=
  ⟨by simpa using hq, (h.r.chan h.q.chan hg).app (.one (hb.le (Nat.zero_le _)) hl)⟩

theorem bt_lit (w : World) (cs : Array Value) (xs : List Int) (fr : Nat × Nat) (hc : cs = (xs.map (Value.int .u8)).toArray) : Bt (w.alloc (.cells cs 5 fr)) (.slice (some ⟨w.heap.size, 0, none⟩) xs.length xs.length) xs := by
  refine .inr (.inl ⟨_, 0, _, rfl, Nat.le_refl _, fun _ => by simp, fun i hi => ?_⟩)
  rw [Nat.zero_add, cell_of_row _ w.heap.size i cs 5 fr (heap_alloc_new w _), hc]
  simp [hi, List.getD_eq_getElem?_getD]
theorem put_lit (b cb cap : Nat) (x : Int) (P : List Pr) (w : World) (h : QA w b cb cap P) (hl : P.length < cap) :
    Calls Try.prog 9 #[.pointer (some ⟨b, 0, none⟩), .slice (some ⟨w.heap.size, 0, none⟩) 1 1] (w.alloc (.cells #[.int .u8 x] 5 (1, 2))) fun e w' => ∃ v', e = .returned (.int .i64 0) ∧ QA w' b cb cap (P ++ [(v', [x])]) ∧ w.grownBy w' (some cb) := by
  have hb := bt_lit w #[.int .u8 x] [x] (1, 2) rfl
  have ha := h.kept (World.grownBy_alloc w (.cells #[.int .u8 x] 5 (1, 2)) none)
  exact (put_ok b cb cap (P.map Prod.fst) _ [x] _ ha.q hb (by simp) (by simpa using hl)).mono fun e w' ⟨v', h1, h2, h3, h4⟩ => ⟨v', h1, ha.put h2 h3 (by simp) h4, gn2 (World.grownBy_alloc _ _ _) h4⟩
theorem put_litf (b cb cap : Nat) (x : Int) (P : List Pr) (w : World) (h : QA w b cb cap P) (hl : cap ≤ P.length) :
    Calls Try.prog 9 #[.pointer (some ⟨b, 0, none⟩), .slice (some ⟨w.heap.size, 0, none⟩) 1 1] (w.alloc (.cells #[.int .u8 x] 5 (1, 2))) fun e w' => e = .returned (.int .i64 71) ∧ QA w' b cb cap P ∧ w.grownBy w' none := by
  have hb := bt_lit w #[.int .u8 x] [x] (1, 2) rfl
  have ha := h.kept (World.grownBy_alloc w (.cells #[.int .u8 x] 5 (1, 2)) none)
  exact (put_full b cb cap (P.map Prod.fst) _ [x] _ ha.q hb (by simp) (by simpa using hl)).mono fun e w' ⟨h1, h4⟩ => ⟨h1, ha.kept h4, gn (World.grownBy_alloc _ _ _) h4⟩
theorem take_lit (b cb cap : Nat) (p : Pr) (P : List Pr) (w : World) (h : QA w b cb cap (p :: P)) :
    Calls Try.prog 8 #[.pointer (some ⟨b, 0, none⟩)] w fun e w' => e = .returned (.tuple #[p.1, .bool true]) ∧ QA w' b cb cap P ∧ BO 0 w' p.1 p.2 ∧ w.grownBy w' (some cb) :=
  (take_some b cb cap p.1 (P.map Prod.fst) w h.q).mono fun e w' ⟨h1, h2, h3⟩ => ⟨h1, (h.take h2 h3).1, (h.take h2 h3).2, h3⟩
theorem new_lit (w : World) : Calls Try.prog 6 #[.int .i64 2] w fun e w' => ∃ b cb, e = .returned (.tuple #[.pointer (some ⟨b, 0, none⟩), .int .i64 0]) ∧ QA w' b cb 2 [] ∧ w.grownBy w' none ∧ w.heap.size ≤ cb :=
  (new_ok 2 w (by decide) (by decide)).mono fun e w' ⟨b, cb, h1, h2, h3, h4, h5⟩ => ⟨b, cb, h1, ⟨h2, fun p hp => by simp at hp⟩, h3, h5⟩
theorem len_lit (b cb cap : Nat) (P : List Pr) (w : World) (h : QA w b cb cap P) : Calls Try.prog 10 #[.pointer (some ⟨b, 0, none⟩)] w fun e w' => e = .returned (.int .i64 (P.length : Int)) ∧ w = w' := by
  have := len_of b cb cap _ w h.q
  rwa [List.length_map] at this
theorem room_lit (b cb cap : Nat) (P : List Pr) (w : World) (h : QA w b cb cap P) (h1 : P.length ≤ cap) (h2 : cap ≤ 32) : Calls Try.prog 11 #[.pointer (some ⟨b, 0, none⟩)] w fun e w' => e = .returned (.int .i64 ((cap : Int) - (P.length : Int))) ∧ w.grownBy w' none := by
  have := room_of b cb cap _ w h.q (by simpa using h1) h2
  rwa [List.length_map] at this

theorem len_two (b cb cap : Nat) (p q : Pr) (w : World) (h : QA w b cb cap [p, q]) : Calls Try.prog 10 #[.pointer (some ⟨b, 0, none⟩)] w fun e w' => e = .returned (.int .i64 2) ∧ w = w' := len_lit b cb cap [p, q] w h
theorem room_two (b cb : Nat) (p q : Pr) (w : World) (h : QA w b cb 2 [p, q]) : Calls Try.prog 11 #[.pointer (some ⟨b, 0, none⟩)] w fun e w' => e = .returned (.int .i64 0) ∧ w.grownBy w' none := room_lit b cb 2 [p, q] w h (by simp) (by simp)
set_option maxHeartbeats 2000000 in
theorem awake_any (w : World) : Calls Try.prog 7 #[] w fun e w' => e = .returned (.bool true) ∧ w.grownBy w' none := by
  have kc := fun (W : World) (C : Array Value) (n c : Nat) => Lib.run_convert_bytes_const (P := Try.prog) W 29 5 C n c Try.underlying29 Try.underlying5
  go_enter Try.func7, Try.ntmps7
  go_wp2_with (first
    | (go_at_call 6; refine (new_lit _).mono ?_; rintro e w1 ⟨b, cb, rfl, hA, hg, hc⟩; have H1 := Lib.hid hA; have G1 := Lib.hid hg; have HC := Lib.hid hc; clear hA hg hc)
    | (go_at_call 9; (with_reducible refine (put_lit b cb 2 97 [] w1 H1.out (by decide)).mono ?_); rintro e w2 ⟨v1, rfl, hA, hg⟩; have H2 : Hid (QA w2 b cb 2 [(v1, [97])]) := Lib.hid hA; have L2 : Hid (([(v1, [97])] : List Pr).length < 2) := Lib.hid (by simp); have G2 := Lib.hid hg; clear hA hg)
    | (go_at_call 9; (with_reducible refine (put_lit b cb 2 98 [(v1, [97])] w2 H2.out L2.out).mono ?_); rintro e w3 ⟨v2, rfl, hA, hg⟩; have H3 : Hid (QA w3 b cb 2 [(v1, [97]), (v2, [98])]) := Lib.hid hA; have L3 : Hid (2 ≤ ([(v1, [97]), (v2, [98])] : List Pr).length) := Lib.hid (by simp); have G3 := Lib.hid hg; clear hA hg)
    | (go_at_call 9; (with_reducible refine (put_litf b cb 2 99 [(v1, [97]), (v2, [98])] w3 H3.out L3.out).mono ?_); rintro e w4 ⟨rfl, hA, hg⟩; have H4 := Lib.hid hA; have G4 := Lib.hid hg; clear hA hg)
    | (go_at_call 8; refine (take_lit b cb 2 (v1, [97]) [(v2, [98])] w4 H4.out).mono ?_; rintro e w5 ⟨rfl, hA, hB, hg⟩; have H5 := Lib.hid hA; have L5 : Hid (([(v2, [98])] : List Pr).length < 2) := Lib.hid (by simp); have G5 := Lib.hid hg; obtain ⟨va, vc, hv⟩ := hB.len; have hcv0 := conv_of hB.bt; simp only at hv hcv0; subst hv; have hcv : (convert 29 9 (.slice va 1 vc)).run Try.prog w5 = .ok (.string ⟨#[97]⟩) w5 := hcv0; clear hA hB hg hcv0)
    | (go_at_call 9; (with_reducible refine (put_lit b cb 2 99 [(v2, [98])] w5 H5.out L5.out).mono ?_); rintro e w6 ⟨v3, rfl, hA, hg⟩; have H6 : Hid (QA w6 b cb 2 [(v2, [98]), (v3, [99])]) := Lib.hid hA; have G6 := Lib.hid hg; clear hA hg)
    | (go_at_call 10; refine (len_two b cb 2 (v2, [98]) (v3, [99]) w6 H6.out).mono ?_; rintro e w' ⟨rfl, rfl⟩)
    | (go_at_call 11; refine (room_two b cb (v2, [98]) (v3, [99]) w6 H6.out).mono ?_; rintro e w7 ⟨rfl, hg⟩; have G7 := Lib.hid hg; clear hg))
  go_ret
  exact ⟨rfl, grownNew G1.out (gtrans (gn (gtrans (gn (gtrans G2.out G3.out (.inl rfl)) G4.out) G5.out (.inl rfl)) (World.grownBy.refl _ _)) (gn G6.out G7.out) (.inl rfl)) (by have := HC.out; omega)⟩

set_option maxHeartbeats 2000000 in
theorem walkNobody (a : Option Addr) (len cap : Nat) (w : World) (h1 : len ≤ cap) (h2 : cap ≤ 9223372036854775807) :
    Calls Try.prog 5 #[.slice a len cap] w fun e w' => e = .returned (.bool true) ∧ Below w.heap.size w w' := by
  go_enter Try.func5, Try.ntmps5
  go_wp2
  obtain ⟨W0, hW0⟩ : ∃ W0 : World, W0 = (w.alloc (.cells #[.chan none] 50)).alloc (.cells #[.pointer none, .pointer (some ⟨w.heap.size, 0, none⟩)] 23) := ⟨_, rfl⟩
  rw [← hW0]
  have hB0 : Hid (Below w.heap.size w W0) := by rw [hW0]; exact Lib.hid (((Below.refl _ _).alloc (Nat.le_refl _) _).alloc (by simp) _)
  have hL : Hid (W0.heap[w.heap.size + 1]? = some (.cells #[.pointer none, .pointer (some ⟨w.heap.size, 0, none⟩)] 23 (0, 0))) := by rw [hW0]; exact Lib.hid (heap2_new' w _ _)
  have hN : Hid (Nob W0 (.pointer (some ⟨w.heap.size, 0, none⟩))) := by
    have hx := heap2_old' w (.cells #[.chan none] 50) (.cells #[.pointer none, .pointer (some ⟨w.heap.size, 0, none⟩)] 23)
    rw [← hW0] at hx
    exact Lib.hid (.inr ⟨w.heap.size, rfl, (Array.getElem?_eq_some_iff.1 hx).1, by rw [cell_of_row _ _ _ _ _ _ hx]; rfl⟩)
  clear hW0
  go_loop [13] (fun i => ∃ k : Nat, k ≤ 2 ∧ i = .int .i64 k) (fun i => 2 - (intOf i).toNat)
  case atStart => exact ⟨0, Nat.zero_le _, rfl⟩
  case round =>
    obtain ⟨k, hk, rfl⟩ := hrel
    by_cases hlt : k < 2
    · obtain ⟨p, hp, hNp⟩ : ∃ p, W0.cell? ⟨w.heap.size + 1, k, none⟩ = some p ∧ Hid (Nob W0 p) := by
        rw [cell_of_row _ _ _ _ _ _ hL.out]
        match k, hlt with
        | 0, _ => exact ⟨_, rfl, Lib.hid (.inl rfl)⟩
        | 1, _ => exact ⟨_, rfl, hN⟩
      go_wp2_with (first | (go_at_call 8; refine (take_nob p _ hNp.out).mono ?_; rintro e w' ⟨rfl, rfl⟩) | (go_at_call 9; refine (put_nob p _ _ hNp.out).mono ?_; rintro e w' ⟨rfl, rfl⟩) | (go_at_call 10; refine (len_nob p _ hNp.out).mono ?_; rintro e w' ⟨rfl, rfl⟩) | (go_at_call 11; refine (room_nob p _ hNp.out).mono ?_; rintro e w' ⟨rfl, rfl⟩) | (go_at_call 12; refine (all_nob p _ hNp.out).mono ?_; rintro e w' ⟨rfl, rfl⟩) | (go_at_call 17; refine (clear_nob p _ hNp.out).mono ?_; rintro e w' ⟨rfl, rfl⟩) | (go_at_call 18; refine (fork_nob p _ hNp.out).mono ?_; rintro e w' ⟨rfl, rfl⟩))
      all_goals
        go_round
        case rel => exact ⟨k + 1, by omega, by go_num⟩
        case measure => simp [intOf]; omega
    · go_wp2_with (first | (go_at_call 7; refine (awake_any _).mono ?_; rintro e w6 ⟨rfl, hG6⟩))
      go_ret
      exact ⟨rfl, hB0.out.grown hG6 hB0.out.size (by simp)⟩
end Go.Proofs.Ytocicajjbkdbnaa.W
