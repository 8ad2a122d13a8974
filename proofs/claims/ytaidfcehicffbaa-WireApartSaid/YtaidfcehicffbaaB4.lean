/-
  The reference's Take and Hear, by value.
-/
import Derived.Test.YtaidfcehicffbaaB3
import Derived.Deep.RegionLaw
set_option linter.unusedVariables false
set_option linter.unusedSimpArgs false
namespace Go.Proofs.Ytaidfcehicffbaa.W
open Go.RowKit Go.Deep

/-- What stands ahead of a place and behind it, to be appended in turn. -/
theorem Rs.split {i m c g : Nat} {w : World} {L : List (List Int)} (h : Rs 0 w (.slice (some ⟨g, 0, none⟩) (i + m + 1) c) L) (hL : L.length = i + m + 1) : ∃ (X : List Pr) (o' : Nat), X.map Prod.snd = L ∧ X.length = i + m + 1 ∧ RO 0 w X ∧ i + m + 1 ≤ c ∧ Src w (.slice (some ⟨g, 0, none⟩) i c) i ((X.map Prod.fst).take i) ∧
    (∀ W : World, (Instr.slice 26 (.slice (some ⟨g, 0, none⟩) (i + m + 1) c) (some (.int .i64 ((i : Int) + 1))) none none).run Try.prog W = .ok (.slice (some ⟨g, o', none⟩) m (c - (i + 1))) W) ∧ Src w (.slice (some ⟨g, o', none⟩) m (c - (i + 1))) m ((X.map Prod.fst).drop (i + 1)) := by
  obtain ⟨X, rfl, ho, hr⟩ := h
  rw [List.length_map] at hL
  rw [hL] at ho
  have hcap := own_cap ho
  obtain ⟨o', hsl, ho'⟩ := rows_from g 0 (i + m + 1) c (i + 1) (by omega) hcap
  rw [show i + m + 1 - (i + 1) = m by omega] at hsl
  refine ⟨X, o', rfl, hL, hr, hcap, own_src (own_take ho (by omega)), fun W => by have := hsl W; simpa using this, .inr ⟨_, _, rfl, fun j u hj => ?_⟩⟩
  rw [List.getElem?_drop] at hj
  have hjl : i + 1 + j < X.length := by
    rcases Nat.lt_or_ge (i + 1 + j) X.length with h | h
    · exact h
    · rw [List.getElem?_eq_none (by simpa using h)] at hj
      simp at hj
  rw [addN, show o' = i + 1 by omega]
  exact (ho.cellAt (i + 1 + j) (by omega)).trans hj
theorem erase_rows {B i m : Nat} {w : World} {v : Value} {X : List Pr} (h : w.ownsRow B 28 1 v (i + m) ((X.map Prod.fst).take i ++ (X.map Prod.fst).drop (i + 1))) (hX : X.length = i + m + 1) (hr : RO 0 w X) : Rs 0 w v ((X.map Prod.snd).eraseIdx i) := by
  refine ⟨X.eraseIdx i, ?_, ?_, fun p hp => hr p (List.mem_of_mem_eraseIdx hp)⟩
  · rw [List.eraseIdx_eq_take_drop_succ, List.eraseIdx_eq_take_drop_succ, List.map_append, List.map_take, List.map_drop]
  · have hl : (X.eraseIdx i).length = i + m := by rw [List.length_eraseIdx, if_pos (by omega)]; omega
    rw [hl, List.eraseIdx_eq_take_drop_succ, List.map_append, List.map_take, List.map_drop]
    exact Joins.ownsRow_le h (Nat.zero_le _)
set_option maxHeartbeats 1000000 in
theorem rtake_bad0 (d n : Int) (on : Bool) (a0 a1 a2 a3 : Option Addr) (n0 n1 n2 n3 c0 c1 c2 c3 : Nat) (w : World) (hd : dOK d = false) (hn : n < 0) : Calls Try.prog 21 #[.agg #[.bool on, .slice a0 n0 c0, .slice a2 n2 c2, .slice a1 n1 c1, .slice a3 n3 c3], .int .i64 d, .int .i64 n] w fun e w' => e = .returned (.tuple #[.agg #[.bool on, .slice a0 n0 c0, .slice a2 n2 c2, .slice a1 n1 c1, .slice a3 n3 c3], .slice none 0 0, .bool false]) ∧ w.grownBy w' none := by
  have h01 : d ≠ 0 ∧ d ≠ 1 := by unfold dOK at hd; simp at hd; exact hd
  obtain ⟨h0, h1⟩ := h01
  clear hd
  go_enter Try.func21, Try.ntmps21
  go_upto_region 2 with (first | (go_at_call 36; refine (of_bad d on a0 a1 a2 a3 n0 n1 n2 n3 c0 c1 c2 c3 _ h0 h1).mono ?_; rintro e x ⟨rfl, hg⟩; have hx : Hid (XB w (x.alloc (.cells #[.slice none 0 0, .slice none 0 0] 43)) #[.bool on, .slice a0 n0 c0, .slice a2 n2 c2, .slice a1 n1 c1, .slice a3 n3 c3] #[.bool false, .slice none 0 0, .slice none 0 0, .slice none 0 0, .slice none 0 0] x.heap.size #[.slice none 0 0, .slice none 0 0]) := Lib.hid (.first hg); clear hg))
  obtain ⟨y, hy⟩ : ∃ y : World, y = x.alloc (.cells #[.slice none 0 0, .slice none 0 0] 43) := ⟨_, rfl⟩
  rw [← hy] at hx ⊢
  obtain ⟨b8, hb8⟩ : ∃ b : Nat, b = x.heap.size := ⟨_, rfl⟩
  rw [← hb8] at hx ⊢
  clear hy hb8
  have k0 := (cell_of_row y b8 0 _ 43 (0, 0) hx.out.r).trans (show _ = some (.slice none 0 0) from rfl)
  have k1 := (cell_of_row y b8 1 _ 43 (0, 0) hx.out.r).trans (show _ = some (.slice none 0 0) from rfl)
  have j0 := (cell_of_row y w.heap.size 0 _ 45 (0, 0) hx.out.b).trans (show _ = some (.bool on) from rfl)
  go_wp2_with (first | (refine wpList_load_row rfl 45 _ rfl w.heap.size rfl 45 _ (0, 0) _ hx.out.b Try.underlying45 rfl (by kernel_rfl) ?_) | (refine wpList_store_rowTo rfl 45 _ _ rfl rfl (w.heap.size + 1) #[.bool on, .slice a0 n0 c0, .slice a2 n2 c2, .slice a1 n1 c1, .slice a3 n3 c3] rfl rfl 45 _ hx.out.n size45 rfl (fine_agg _ _ _ _ _ _ _ _ _ _ _ _ _) ?_))
  have hres := hx.out.res (Y := #[.bool on, .slice a0 n0 c0, .slice a2 n2 c2, .slice a1 n1 c1, .slice a3 n3 c3])
  obtain ⟨z, hz⟩ : ∃ z : World, z = y.setRow (w.heap.size + 1) #[.bool on, .slice a0 n0 c0, .slice a2 n2 c2, .slice a1 n1 c1, .slice a3 n3 c3] := ⟨_, rfl⟩
  rw [← hz] at hres ⊢
  have r0 := cell_of_row z (w.heap.size + 1) 0 _ 45 (0, 0) hres.2
  have r1 := cell_of_row z (w.heap.size + 1) 1 _ 45 (0, 0) hres.2
  have r2 := cell_of_row z (w.heap.size + 1) 2 _ 45 (0, 0) hres.2
  have r3 := cell_of_row z (w.heap.size + 1) 3 _ 45 (0, 0) hres.2
  have r4 := cell_of_row z (w.heap.size + 1) 4 _ 45 (0, 0) hres.2
  exact bodyPost_ret (v := .tuple #[.agg #[.bool on, .slice a0 n0 c0, .slice a2 n2 c2, .slice a1 n1 c1, .slice a3 n3 c3], .slice none 0 0, .bool false]) (by simp [results, Try.results21, go_sem, r0, r1, r2, r3, r4]) rfl ⟨rfl, hres.1⟩
set_option maxHeartbeats 1000000 in
theorem rtake_bad1 (d n : Int) (on : Bool) (a0 a1 a2 a3 : Option Addr) (n0 n1 n2 n3 c0 c1 c2 c3 : Nat) (w : World) (hd : dOK d = false) (hn : 0 ≤ n) : Calls Try.prog 21 #[.agg #[.bool on, .slice a0 n0 c0, .slice a2 n2 c2, .slice a1 n1 c1, .slice a3 n3 c3], .int .i64 d, .int .i64 n] w fun e w' => e = .returned (.tuple #[.agg #[.bool on, .slice a0 n0 c0, .slice a2 n2 c2, .slice a1 n1 c1, .slice a3 n3 c3], .slice none 0 0, .bool false]) ∧ w.grownBy w' none := by
  have h01 : d ≠ 0 ∧ d ≠ 1 := by unfold dOK at hd; simp at hd; exact hd
  obtain ⟨h0, h1⟩ := h01
  clear hd
  go_enter Try.func21, Try.ntmps21
  go_upto_region 2 with (first | (go_at_call 36; refine (of_bad d on a0 a1 a2 a3 n0 n1 n2 n3 c0 c1 c2 c3 _ h0 h1).mono ?_; rintro e x ⟨rfl, hg⟩; have hx : Hid (XB w (x.alloc (.cells #[.slice none 0 0, .slice none 0 0] 43)) #[.bool on, .slice a0 n0 c0, .slice a2 n2 c2, .slice a1 n1 c1, .slice a3 n3 c3] #[.bool false, .slice none 0 0, .slice none 0 0, .slice none 0 0, .slice none 0 0] x.heap.size #[.slice none 0 0, .slice none 0 0]) := Lib.hid (.first hg); clear hg))
  obtain ⟨y, hy⟩ : ∃ y : World, y = x.alloc (.cells #[.slice none 0 0, .slice none 0 0] 43) := ⟨_, rfl⟩
  rw [← hy] at hx ⊢
  obtain ⟨b8, hb8⟩ : ∃ b : Nat, b = x.heap.size := ⟨_, rfl⟩
  rw [← hb8] at hx ⊢
  clear hy hb8
  have k0 := (cell_of_row y b8 0 _ 43 (0, 0) hx.out.r).trans (show _ = some (.slice none 0 0) from rfl)
  have k1 := (cell_of_row y b8 1 _ 43 (0, 0) hx.out.r).trans (show _ = some (.slice none 0 0) from rfl)
  have j0 := (cell_of_row y w.heap.size 0 _ 45 (0, 0) hx.out.b).trans (show _ = some (.bool on) from rfl)
  go_wp2_with (first | (refine wpList_load_row rfl 45 _ rfl w.heap.size rfl 45 _ (0, 0) _ hx.out.b Try.underlying45 rfl (by kernel_rfl) ?_) | (refine wpList_store_rowTo rfl 45 _ _ rfl rfl (w.heap.size + 1) #[.bool on, .slice a0 n0 c0, .slice a2 n2 c2, .slice a1 n1 c1, .slice a3 n3 c3] rfl rfl 45 _ hx.out.n size45 rfl (fine_agg _ _ _ _ _ _ _ _ _ _ _ _ _) ?_))
  have hres := hx.out.res (Y := #[.bool on, .slice a0 n0 c0, .slice a2 n2 c2, .slice a1 n1 c1, .slice a3 n3 c3])
  obtain ⟨z, hz⟩ : ∃ z : World, z = y.setRow (w.heap.size + 1) #[.bool on, .slice a0 n0 c0, .slice a2 n2 c2, .slice a1 n1 c1, .slice a3 n3 c3] := ⟨_, rfl⟩
  rw [← hz] at hres ⊢
  have r0 := cell_of_row z (w.heap.size + 1) 0 _ 45 (0, 0) hres.2
  have r1 := cell_of_row z (w.heap.size + 1) 1 _ 45 (0, 0) hres.2
  have r2 := cell_of_row z (w.heap.size + 1) 2 _ 45 (0, 0) hres.2
  have r3 := cell_of_row z (w.heap.size + 1) 3 _ 45 (0, 0) hres.2
  have r4 := cell_of_row z (w.heap.size + 1) 4 _ 45 (0, 0) hres.2
  exact bodyPost_ret (v := .tuple #[.agg #[.bool on, .slice a0 n0 c0, .slice a2 n2 c2, .slice a1 n1 c1, .slice a3 n3 c3], .slice none 0 0, .bool false]) (by simp [results, Try.results21, go_sem, r0, r1, r2, r3, r4]) rfl ⟨rfl, hres.1⟩
set_option maxHeartbeats 1000000 in
theorem rtake_out00 (n : Int) (on : Bool) (a0 a1 a2 a3 : Option Addr) (n0 n1 n2 n3 c0 c1 c2 c3 : Nat) (w : World) (hn : n < 0) : Calls Try.prog 21 #[.agg #[.bool on, .slice a0 n0 c0, .slice a2 n2 c2, .slice a1 n1 c1, .slice a3 n3 c3], .int .i64 0, .int .i64 n] w fun e w' => e = .returned (.tuple #[.agg #[.bool on, .slice a0 n0 c0, .slice a2 n2 c2, .slice a1 n1 c1, .slice a3 n3 c3], .slice none 0 0, .bool false]) ∧ w.grownBy w' none := by
  go_enter Try.func21, Try.ntmps21
  go_upto_region 2 with (first | (go_at_call 36; refine (of_0 on a0 a1 a2 a3 n0 n1 n2 n3 c0 c1 c2 c3 _).mono ?_; rintro e x ⟨rfl, hg⟩; have hx : Hid (XB w (x.alloc (.cells #[.slice a0 n0 c0, .slice a2 n2 c2] 43)) #[.bool on, .slice a0 n0 c0, .slice a2 n2 c2, .slice a1 n1 c1, .slice a3 n3 c3] #[.bool false, .slice none 0 0, .slice none 0 0, .slice none 0 0, .slice none 0 0] x.heap.size #[.slice a0 n0 c0, .slice a2 n2 c2]) := Lib.hid (.first hg); clear hg))
  obtain ⟨y, hy⟩ : ∃ y : World, y = x.alloc (.cells #[.slice a0 n0 c0, .slice a2 n2 c2] 43) := ⟨_, rfl⟩
  rw [← hy] at hx ⊢
  obtain ⟨b8, hb8⟩ : ∃ b : Nat, b = x.heap.size := ⟨_, rfl⟩
  rw [← hb8] at hx ⊢
  clear hy hb8
  have k0 := (cell_of_row y b8 0 _ 43 (0, 0) hx.out.r).trans (show _ = some (.slice a0 n0 c0) from rfl)
  have k1 := (cell_of_row y b8 1 _ 43 (0, 0) hx.out.r).trans (show _ = some (.slice a2 n2 c2) from rfl)
  have j0 := (cell_of_row y w.heap.size 0 _ 45 (0, 0) hx.out.b).trans (show _ = some (.bool on) from rfl)
  go_wp2_with (first | (refine wpList_load_row rfl 45 _ rfl w.heap.size rfl 45 _ (0, 0) _ hx.out.b Try.underlying45 rfl (by kernel_rfl) ?_) | (refine wpList_store_rowTo rfl 45 _ _ rfl rfl (w.heap.size + 1) #[.bool on, .slice a0 n0 c0, .slice a2 n2 c2, .slice a1 n1 c1, .slice a3 n3 c3] rfl rfl 45 _ hx.out.n size45 rfl (fine_agg _ _ _ _ _ _ _ _ _ _ _ _ _) ?_))
  have hres := hx.out.res (Y := #[.bool on, .slice a0 n0 c0, .slice a2 n2 c2, .slice a1 n1 c1, .slice a3 n3 c3])
  obtain ⟨z, hz⟩ : ∃ z : World, z = y.setRow (w.heap.size + 1) #[.bool on, .slice a0 n0 c0, .slice a2 n2 c2, .slice a1 n1 c1, .slice a3 n3 c3] := ⟨_, rfl⟩
  rw [← hz] at hres ⊢
  have r0 := cell_of_row z (w.heap.size + 1) 0 _ 45 (0, 0) hres.2
  have r1 := cell_of_row z (w.heap.size + 1) 1 _ 45 (0, 0) hres.2
  have r2 := cell_of_row z (w.heap.size + 1) 2 _ 45 (0, 0) hres.2
  have r3 := cell_of_row z (w.heap.size + 1) 3 _ 45 (0, 0) hres.2
  have r4 := cell_of_row z (w.heap.size + 1) 4 _ 45 (0, 0) hres.2
  exact bodyPost_ret (v := .tuple #[.agg #[.bool on, .slice a0 n0 c0, .slice a2 n2 c2, .slice a1 n1 c1, .slice a3 n3 c3], .slice none 0 0, .bool false]) (by simp [results, Try.results21, go_sem, r0, r1, r2, r3, r4]) rfl ⟨rfl, hres.1⟩
set_option maxHeartbeats 1000000 in
theorem rtake_out01 (n : Int) (on : Bool) (a0 a1 a2 a3 : Option Addr) (n0 n1 n2 n3 c0 c1 c2 c3 : Nat) (w : World) (hn : 0 ≤ n) (hn2 : (n0 : Int) ≤ n) : Calls Try.prog 21 #[.agg #[.bool on, .slice a0 n0 c0, .slice a2 n2 c2, .slice a1 n1 c1, .slice a3 n3 c3], .int .i64 0, .int .i64 n] w fun e w' => e = .returned (.tuple #[.agg #[.bool on, .slice a0 n0 c0, .slice a2 n2 c2, .slice a1 n1 c1, .slice a3 n3 c3], .slice none 0 0, .bool false]) ∧ w.grownBy w' none := by
  go_enter Try.func21, Try.ntmps21
  go_upto_region 2 with (first | (go_at_call 36; refine (of_0 on a0 a1 a2 a3 n0 n1 n2 n3 c0 c1 c2 c3 _).mono ?_; rintro e x ⟨rfl, hg⟩; have hx : Hid (XB w (x.alloc (.cells #[.slice a0 n0 c0, .slice a2 n2 c2] 43)) #[.bool on, .slice a0 n0 c0, .slice a2 n2 c2, .slice a1 n1 c1, .slice a3 n3 c3] #[.bool false, .slice none 0 0, .slice none 0 0, .slice none 0 0, .slice none 0 0] x.heap.size #[.slice a0 n0 c0, .slice a2 n2 c2]) := Lib.hid (.first hg); clear hg))
  obtain ⟨y, hy⟩ : ∃ y : World, y = x.alloc (.cells #[.slice a0 n0 c0, .slice a2 n2 c2] 43) := ⟨_, rfl⟩
  rw [← hy] at hx ⊢
  obtain ⟨b8, hb8⟩ : ∃ b : Nat, b = x.heap.size := ⟨_, rfl⟩
  rw [← hb8] at hx ⊢
  clear hy hb8
  have k0 := (cell_of_row y b8 0 _ 43 (0, 0) hx.out.r).trans (show _ = some (.slice a0 n0 c0) from rfl)
  have k1 := (cell_of_row y b8 1 _ 43 (0, 0) hx.out.r).trans (show _ = some (.slice a2 n2 c2) from rfl)
  have j0 := (cell_of_row y w.heap.size 0 _ 45 (0, 0) hx.out.b).trans (show _ = some (.bool on) from rfl)
  go_wp2_with (first | (refine wpList_load_row rfl 45 _ rfl w.heap.size rfl 45 _ (0, 0) _ hx.out.b Try.underlying45 rfl (by kernel_rfl) ?_) | (refine wpList_store_rowTo rfl 45 _ _ rfl rfl (w.heap.size + 1) #[.bool on, .slice a0 n0 c0, .slice a2 n2 c2, .slice a1 n1 c1, .slice a3 n3 c3] rfl rfl 45 _ hx.out.n size45 rfl (fine_agg _ _ _ _ _ _ _ _ _ _ _ _ _) ?_))
  have hres := hx.out.res (Y := #[.bool on, .slice a0 n0 c0, .slice a2 n2 c2, .slice a1 n1 c1, .slice a3 n3 c3])
  obtain ⟨z, hz⟩ : ∃ z : World, z = y.setRow (w.heap.size + 1) #[.bool on, .slice a0 n0 c0, .slice a2 n2 c2, .slice a1 n1 c1, .slice a3 n3 c3] := ⟨_, rfl⟩
  rw [← hz] at hres ⊢
  have r0 := cell_of_row z (w.heap.size + 1) 0 _ 45 (0, 0) hres.2
  have r1 := cell_of_row z (w.heap.size + 1) 1 _ 45 (0, 0) hres.2
  have r2 := cell_of_row z (w.heap.size + 1) 2 _ 45 (0, 0) hres.2
  have r3 := cell_of_row z (w.heap.size + 1) 3 _ 45 (0, 0) hres.2
  have r4 := cell_of_row z (w.heap.size + 1) 4 _ 45 (0, 0) hres.2
  exact bodyPost_ret (v := .tuple #[.agg #[.bool on, .slice a0 n0 c0, .slice a2 n2 c2, .slice a1 n1 c1, .slice a3 n3 c3], .slice none 0 0, .bool false]) (by simp [results, Try.results21, go_sem, r0, r1, r2, r3, r4]) rfl ⟨rfl, hres.1⟩
set_option maxHeartbeats 1000000 in
theorem rtake_out10 (n : Int) (on : Bool) (a0 a1 a2 a3 : Option Addr) (n0 n1 n2 n3 c0 c1 c2 c3 : Nat) (w : World) (hn : n < 0) : Calls Try.prog 21 #[.agg #[.bool on, .slice a0 n0 c0, .slice a2 n2 c2, .slice a1 n1 c1, .slice a3 n3 c3], .int .i64 1, .int .i64 n] w fun e w' => e = .returned (.tuple #[.agg #[.bool on, .slice a0 n0 c0, .slice a2 n2 c2, .slice a1 n1 c1, .slice a3 n3 c3], .slice none 0 0, .bool false]) ∧ w.grownBy w' none := by
  go_enter Try.func21, Try.ntmps21
  go_upto_region 2 with (first | (go_at_call 36; refine (of_1 on a0 a1 a2 a3 n0 n1 n2 n3 c0 c1 c2 c3 _).mono ?_; rintro e x ⟨rfl, hg⟩; have hx : Hid (XB w (x.alloc (.cells #[.slice a1 n1 c1, .slice a3 n3 c3] 43)) #[.bool on, .slice a0 n0 c0, .slice a2 n2 c2, .slice a1 n1 c1, .slice a3 n3 c3] #[.bool false, .slice none 0 0, .slice none 0 0, .slice none 0 0, .slice none 0 0] x.heap.size #[.slice a1 n1 c1, .slice a3 n3 c3]) := Lib.hid (.first hg); clear hg))
  obtain ⟨y, hy⟩ : ∃ y : World, y = x.alloc (.cells #[.slice a1 n1 c1, .slice a3 n3 c3] 43) := ⟨_, rfl⟩
  rw [← hy] at hx ⊢
  obtain ⟨b8, hb8⟩ : ∃ b : Nat, b = x.heap.size := ⟨_, rfl⟩
  rw [← hb8] at hx ⊢
  clear hy hb8
  have k0 := (cell_of_row y b8 0 _ 43 (0, 0) hx.out.r).trans (show _ = some (.slice a1 n1 c1) from rfl)
  have k1 := (cell_of_row y b8 1 _ 43 (0, 0) hx.out.r).trans (show _ = some (.slice a3 n3 c3) from rfl)
  have j0 := (cell_of_row y w.heap.size 0 _ 45 (0, 0) hx.out.b).trans (show _ = some (.bool on) from rfl)
  go_wp2_with (first | (refine wpList_load_row rfl 45 _ rfl w.heap.size rfl 45 _ (0, 0) _ hx.out.b Try.underlying45 rfl (by kernel_rfl) ?_) | (refine wpList_store_rowTo rfl 45 _ _ rfl rfl (w.heap.size + 1) #[.bool on, .slice a0 n0 c0, .slice a2 n2 c2, .slice a1 n1 c1, .slice a3 n3 c3] rfl rfl 45 _ hx.out.n size45 rfl (fine_agg _ _ _ _ _ _ _ _ _ _ _ _ _) ?_))
  have hres := hx.out.res (Y := #[.bool on, .slice a0 n0 c0, .slice a2 n2 c2, .slice a1 n1 c1, .slice a3 n3 c3])
  obtain ⟨z, hz⟩ : ∃ z : World, z = y.setRow (w.heap.size + 1) #[.bool on, .slice a0 n0 c0, .slice a2 n2 c2, .slice a1 n1 c1, .slice a3 n3 c3] := ⟨_, rfl⟩
  rw [← hz] at hres ⊢
  have r0 := cell_of_row z (w.heap.size + 1) 0 _ 45 (0, 0) hres.2
  have r1 := cell_of_row z (w.heap.size + 1) 1 _ 45 (0, 0) hres.2
  have r2 := cell_of_row z (w.heap.size + 1) 2 _ 45 (0, 0) hres.2
  have r3 := cell_of_row z (w.heap.size + 1) 3 _ 45 (0, 0) hres.2
  have r4 := cell_of_row z (w.heap.size + 1) 4 _ 45 (0, 0) hres.2
  exact bodyPost_ret (v := .tuple #[.agg #[.bool on, .slice a0 n0 c0, .slice a2 n2 c2, .slice a1 n1 c1, .slice a3 n3 c3], .slice none 0 0, .bool false]) (by simp [results, Try.results21, go_sem, r0, r1, r2, r3, r4]) rfl ⟨rfl, hres.1⟩
set_option maxHeartbeats 1000000 in
theorem rtake_out11 (n : Int) (on : Bool) (a0 a1 a2 a3 : Option Addr) (n0 n1 n2 n3 c0 c1 c2 c3 : Nat) (w : World) (hn : 0 ≤ n) (hn2 : (n1 : Int) ≤ n) : Calls Try.prog 21 #[.agg #[.bool on, .slice a0 n0 c0, .slice a2 n2 c2, .slice a1 n1 c1, .slice a3 n3 c3], .int .i64 1, .int .i64 n] w fun e w' => e = .returned (.tuple #[.agg #[.bool on, .slice a0 n0 c0, .slice a2 n2 c2, .slice a1 n1 c1, .slice a3 n3 c3], .slice none 0 0, .bool false]) ∧ w.grownBy w' none := by
  go_enter Try.func21, Try.ntmps21
  go_upto_region 2 with (first | (go_at_call 36; refine (of_1 on a0 a1 a2 a3 n0 n1 n2 n3 c0 c1 c2 c3 _).mono ?_; rintro e x ⟨rfl, hg⟩; have hx : Hid (XB w (x.alloc (.cells #[.slice a1 n1 c1, .slice a3 n3 c3] 43)) #[.bool on, .slice a0 n0 c0, .slice a2 n2 c2, .slice a1 n1 c1, .slice a3 n3 c3] #[.bool false, .slice none 0 0, .slice none 0 0, .slice none 0 0, .slice none 0 0] x.heap.size #[.slice a1 n1 c1, .slice a3 n3 c3]) := Lib.hid (.first hg); clear hg))
  obtain ⟨y, hy⟩ : ∃ y : World, y = x.alloc (.cells #[.slice a1 n1 c1, .slice a3 n3 c3] 43) := ⟨_, rfl⟩
  rw [← hy] at hx ⊢
  obtain ⟨b8, hb8⟩ : ∃ b : Nat, b = x.heap.size := ⟨_, rfl⟩
  rw [← hb8] at hx ⊢
  clear hy hb8
  have k0 := (cell_of_row y b8 0 _ 43 (0, 0) hx.out.r).trans (show _ = some (.slice a1 n1 c1) from rfl)
  have k1 := (cell_of_row y b8 1 _ 43 (0, 0) hx.out.r).trans (show _ = some (.slice a3 n3 c3) from rfl)
  have j0 := (cell_of_row y w.heap.size 0 _ 45 (0, 0) hx.out.b).trans (show _ = some (.bool on) from rfl)
  go_wp2_with (first | (refine wpList_load_row rfl 45 _ rfl w.heap.size rfl 45 _ (0, 0) _ hx.out.b Try.underlying45 rfl (by kernel_rfl) ?_) | (refine wpList_store_rowTo rfl 45 _ _ rfl rfl (w.heap.size + 1) #[.bool on, .slice a0 n0 c0, .slice a2 n2 c2, .slice a1 n1 c1, .slice a3 n3 c3] rfl rfl 45 _ hx.out.n size45 rfl (fine_agg _ _ _ _ _ _ _ _ _ _ _ _ _) ?_))
  have hres := hx.out.res (Y := #[.bool on, .slice a0 n0 c0, .slice a2 n2 c2, .slice a1 n1 c1, .slice a3 n3 c3])
  obtain ⟨z, hz⟩ : ∃ z : World, z = y.setRow (w.heap.size + 1) #[.bool on, .slice a0 n0 c0, .slice a2 n2 c2, .slice a1 n1 c1, .slice a3 n3 c3] := ⟨_, rfl⟩
  rw [← hz] at hres ⊢
  have r0 := cell_of_row z (w.heap.size + 1) 0 _ 45 (0, 0) hres.2
  have r1 := cell_of_row z (w.heap.size + 1) 1 _ 45 (0, 0) hres.2
  have r2 := cell_of_row z (w.heap.size + 1) 2 _ 45 (0, 0) hres.2
  have r3 := cell_of_row z (w.heap.size + 1) 3 _ 45 (0, 0) hres.2
  have r4 := cell_of_row z (w.heap.size + 1) 4 _ 45 (0, 0) hres.2
  exact bodyPost_ret (v := .tuple #[.agg #[.bool on, .slice a0 n0 c0, .slice a2 n2 c2, .slice a1 n1 c1, .slice a3 n3 c3], .slice none 0 0, .bool false]) (by simp [results, Try.results21, go_sem, r0, r1, r2, r3, r4]) rfl ⟨rfl, hres.1⟩
set_option maxHeartbeats 1000000 in
theorem rhear_bad (d : Int) (on : Bool) (a0 a1 a2 a3 : Option Addr) (n0 n1 n2 n3 c0 c1 c2 c3 : Nat) (w : World) (hd : dOK d = false) : Calls Try.prog 24 #[.agg #[.bool on, .slice a0 n0 c0, .slice a2 n2 c2, .slice a1 n1 c1, .slice a3 n3 c3], .int .i64 d] w fun e w' => e = .returned (.tuple #[.agg #[.bool on, .slice a0 n0 c0, .slice a2 n2 c2, .slice a1 n1 c1, .slice a3 n3 c3], .slice none 0 0, .bool false]) ∧ w.grownBy w' none := by
  have h01 : d ≠ 0 ∧ d ≠ 1 := by unfold dOK at hd; simp at hd; exact hd
  obtain ⟨h0, h1⟩ := h01
  clear hd
  go_enter Try.func24, Try.ntmps24
  go_upto_region 2 with (first | (go_at_call 36; refine (of_bad d on a0 a1 a2 a3 n0 n1 n2 n3 c0 c1 c2 c3 _ h0 h1).mono ?_; rintro e x ⟨rfl, hg⟩; have hx : Hid (XB w (x.alloc (.cells #[.slice none 0 0, .slice none 0 0] 43)) #[.bool on, .slice a0 n0 c0, .slice a2 n2 c2, .slice a1 n1 c1, .slice a3 n3 c3] #[.bool false, .slice none 0 0, .slice none 0 0, .slice none 0 0, .slice none 0 0] x.heap.size #[.slice none 0 0, .slice none 0 0]) := Lib.hid (.first hg); clear hg))
  obtain ⟨y, hy⟩ : ∃ y : World, y = x.alloc (.cells #[.slice none 0 0, .slice none 0 0] 43) := ⟨_, rfl⟩
  rw [← hy] at hx ⊢
  obtain ⟨b8, hb8⟩ : ∃ b : Nat, b = x.heap.size := ⟨_, rfl⟩
  rw [← hb8] at hx ⊢
  clear hy hb8
  have k0 := (cell_of_row y b8 0 _ 43 (0, 0) hx.out.r).trans (show _ = some (.slice none 0 0) from rfl)
  have k1 := (cell_of_row y b8 1 _ 43 (0, 0) hx.out.r).trans (show _ = some (.slice none 0 0) from rfl)
  have j0 := (cell_of_row y w.heap.size 0 _ 45 (0, 0) hx.out.b).trans (show _ = some (.bool on) from rfl)
  go_wp2_with (first | (refine wpList_load_row rfl 45 _ rfl w.heap.size rfl 45 _ (0, 0) _ hx.out.b Try.underlying45 rfl (by kernel_rfl) ?_) | (refine wpList_store_rowTo rfl 45 _ _ rfl rfl (w.heap.size + 1) #[.bool on, .slice a0 n0 c0, .slice a2 n2 c2, .slice a1 n1 c1, .slice a3 n3 c3] rfl rfl 45 _ hx.out.n size45 rfl (fine_agg _ _ _ _ _ _ _ _ _ _ _ _ _) ?_))
  have hres := hx.out.res (Y := #[.bool on, .slice a0 n0 c0, .slice a2 n2 c2, .slice a1 n1 c1, .slice a3 n3 c3])
  obtain ⟨z, hz⟩ : ∃ z : World, z = y.setRow (w.heap.size + 1) #[.bool on, .slice a0 n0 c0, .slice a2 n2 c2, .slice a1 n1 c1, .slice a3 n3 c3] := ⟨_, rfl⟩
  rw [← hz] at hres ⊢
  have r0 := cell_of_row z (w.heap.size + 1) 0 _ 45 (0, 0) hres.2
  have r1 := cell_of_row z (w.heap.size + 1) 1 _ 45 (0, 0) hres.2
  have r2 := cell_of_row z (w.heap.size + 1) 2 _ 45 (0, 0) hres.2
  have r3 := cell_of_row z (w.heap.size + 1) 3 _ 45 (0, 0) hres.2
  have r4 := cell_of_row z (w.heap.size + 1) 4 _ 45 (0, 0) hres.2
  exact bodyPost_ret (v := .tuple #[.agg #[.bool on, .slice a0 n0 c0, .slice a2 n2 c2, .slice a1 n1 c1, .slice a3 n3 c3], .slice none 0 0, .bool false]) (by simp [results, Try.results24, go_sem, r0, r1, r2, r3, r4]) rfl ⟨rfl, hres.1⟩
set_option maxHeartbeats 1000000 in
theorem rhear_none0 (on : Bool) (a0 a1 a2 a3 : Option Addr) (n0 n1 n2 n3 c0 c1 c2 c3 : Nat) (w : World) : Calls Try.prog 24 #[.agg #[.bool on, .slice a0 n0 c0, .slice a2 0 c2, .slice a1 n1 c1, .slice a3 n3 c3], .int .i64 0] w fun e w' => e = .returned (.tuple #[.agg #[.bool on, .slice a0 n0 c0, .slice a2 0 c2, .slice a1 n1 c1, .slice a3 n3 c3], .slice none 0 0, .bool false]) ∧ w.grownBy w' none := by
  go_enter Try.func24, Try.ntmps24
  go_upto_region 2 with (first | (go_at_call 36; refine (of_0 on a0 a1 a2 a3 n0 n1 0 n3 c0 c1 c2 c3 _).mono ?_; rintro e x ⟨rfl, hg⟩; have hx : Hid (XB w (x.alloc (.cells #[.slice a0 n0 c0, .slice a2 0 c2] 43)) #[.bool on, .slice a0 n0 c0, .slice a2 0 c2, .slice a1 n1 c1, .slice a3 n3 c3] #[.bool false, .slice none 0 0, .slice none 0 0, .slice none 0 0, .slice none 0 0] x.heap.size #[.slice a0 n0 c0, .slice a2 0 c2]) := Lib.hid (.first hg); clear hg))
  obtain ⟨y, hy⟩ : ∃ y : World, y = x.alloc (.cells #[.slice a0 n0 c0, .slice a2 0 c2] 43) := ⟨_, rfl⟩
  rw [← hy] at hx ⊢
  obtain ⟨b8, hb8⟩ : ∃ b : Nat, b = x.heap.size := ⟨_, rfl⟩
  rw [← hb8] at hx ⊢
  clear hy hb8
  have k0 := (cell_of_row y b8 0 _ 43 (0, 0) hx.out.r).trans (show _ = some (.slice a0 n0 c0) from rfl)
  have k1 := (cell_of_row y b8 1 _ 43 (0, 0) hx.out.r).trans (show _ = some (.slice a2 0 c2) from rfl)
  have j0 := (cell_of_row y w.heap.size 0 _ 45 (0, 0) hx.out.b).trans (show _ = some (.bool on) from rfl)
  go_wp2_with (first | (refine wpList_load_row rfl 45 _ rfl w.heap.size rfl 45 _ (0, 0) _ hx.out.b Try.underlying45 rfl (by kernel_rfl) ?_) | (refine wpList_store_rowTo rfl 45 _ _ rfl rfl (w.heap.size + 1) #[.bool on, .slice a0 n0 c0, .slice a2 0 c2, .slice a1 n1 c1, .slice a3 n3 c3] rfl rfl 45 _ hx.out.n size45 rfl (fine_agg _ _ _ _ _ _ _ _ _ _ _ _ _) ?_))
  have hres := hx.out.res (Y := #[.bool on, .slice a0 n0 c0, .slice a2 0 c2, .slice a1 n1 c1, .slice a3 n3 c3])
  obtain ⟨z, hz⟩ : ∃ z : World, z = y.setRow (w.heap.size + 1) #[.bool on, .slice a0 n0 c0, .slice a2 0 c2, .slice a1 n1 c1, .slice a3 n3 c3] := ⟨_, rfl⟩
  rw [← hz] at hres ⊢
  have r0 := cell_of_row z (w.heap.size + 1) 0 _ 45 (0, 0) hres.2
  have r1 := cell_of_row z (w.heap.size + 1) 1 _ 45 (0, 0) hres.2
  have r2 := cell_of_row z (w.heap.size + 1) 2 _ 45 (0, 0) hres.2
  have r3 := cell_of_row z (w.heap.size + 1) 3 _ 45 (0, 0) hres.2
  have r4 := cell_of_row z (w.heap.size + 1) 4 _ 45 (0, 0) hres.2
  exact bodyPost_ret (v := .tuple #[.agg #[.bool on, .slice a0 n0 c0, .slice a2 0 c2, .slice a1 n1 c1, .slice a3 n3 c3], .slice none 0 0, .bool false]) (by simp [results, Try.results24, go_sem, r0, r1, r2, r3, r4]) rfl ⟨rfl, hres.1⟩
set_option maxHeartbeats 1000000 in
theorem rhear_none1 (on : Bool) (a0 a1 a2 a3 : Option Addr) (n0 n1 n2 n3 c0 c1 c2 c3 : Nat) (w : World) : Calls Try.prog 24 #[.agg #[.bool on, .slice a0 n0 c0, .slice a2 n2 c2, .slice a1 n1 c1, .slice a3 0 c3], .int .i64 1] w fun e w' => e = .returned (.tuple #[.agg #[.bool on, .slice a0 n0 c0, .slice a2 n2 c2, .slice a1 n1 c1, .slice a3 0 c3], .slice none 0 0, .bool false]) ∧ w.grownBy w' none := by
  go_enter Try.func24, Try.ntmps24
  go_upto_region 2 with (first | (go_at_call 36; refine (of_1 on a0 a1 a2 a3 n0 n1 n2 0 c0 c1 c2 c3 _).mono ?_; rintro e x ⟨rfl, hg⟩; have hx : Hid (XB w (x.alloc (.cells #[.slice a1 n1 c1, .slice a3 0 c3] 43)) #[.bool on, .slice a0 n0 c0, .slice a2 n2 c2, .slice a1 n1 c1, .slice a3 0 c3] #[.bool false, .slice none 0 0, .slice none 0 0, .slice none 0 0, .slice none 0 0] x.heap.size #[.slice a1 n1 c1, .slice a3 0 c3]) := Lib.hid (.first hg); clear hg))
  obtain ⟨y, hy⟩ : ∃ y : World, y = x.alloc (.cells #[.slice a1 n1 c1, .slice a3 0 c3] 43) := ⟨_, rfl⟩
  rw [← hy] at hx ⊢
  obtain ⟨b8, hb8⟩ : ∃ b : Nat, b = x.heap.size := ⟨_, rfl⟩
  rw [← hb8] at hx ⊢
  clear hy hb8
  have k0 := (cell_of_row y b8 0 _ 43 (0, 0) hx.out.r).trans (show _ = some (.slice a1 n1 c1) from rfl)
  have k1 := (cell_of_row y b8 1 _ 43 (0, 0) hx.out.r).trans (show _ = some (.slice a3 0 c3) from rfl)
  have j0 := (cell_of_row y w.heap.size 0 _ 45 (0, 0) hx.out.b).trans (show _ = some (.bool on) from rfl)
  go_wp2_with (first | (refine wpList_load_row rfl 45 _ rfl w.heap.size rfl 45 _ (0, 0) _ hx.out.b Try.underlying45 rfl (by kernel_rfl) ?_) | (refine wpList_store_rowTo rfl 45 _ _ rfl rfl (w.heap.size + 1) #[.bool on, .slice a0 n0 c0, .slice a2 n2 c2, .slice a1 n1 c1, .slice a3 0 c3] rfl rfl 45 _ hx.out.n size45 rfl (fine_agg _ _ _ _ _ _ _ _ _ _ _ _ _) ?_))
  have hres := hx.out.res (Y := #[.bool on, .slice a0 n0 c0, .slice a2 n2 c2, .slice a1 n1 c1, .slice a3 0 c3])
  obtain ⟨z, hz⟩ : ∃ z : World, z = y.setRow (w.heap.size + 1) #[.bool on, .slice a0 n0 c0, .slice a2 n2 c2, .slice a1 n1 c1, .slice a3 0 c3] := ⟨_, rfl⟩
  rw [← hz] at hres ⊢
  have r0 := cell_of_row z (w.heap.size + 1) 0 _ 45 (0, 0) hres.2
  have r1 := cell_of_row z (w.heap.size + 1) 1 _ 45 (0, 0) hres.2
  have r2 := cell_of_row z (w.heap.size + 1) 2 _ 45 (0, 0) hres.2
  have r3 := cell_of_row z (w.heap.size + 1) 3 _ 45 (0, 0) hres.2
  have r4 := cell_of_row z (w.heap.size + 1) 4 _ 45 (0, 0) hres.2
  exact bodyPost_ret (v := .tuple #[.agg #[.bool on, .slice a0 n0 c0, .slice a2 n2 c2, .slice a1 n1 c1, .slice a3 0 c3], .slice none 0 0, .bool false]) (by simp [results, Try.results24, go_sem, r0, r1, r2, r3, r4]) rfl ⟨rfl, hres.1⟩
set_option maxHeartbeats 4000000 in
theorem rtake_ok0 (i m : Nat) (on : Bool) (a0 a1 a2 a3 : Option Addr) (n0 n1 n2 n3 c0 c1 c2 c3 : Nat) (L : List (List Int)) (w : World) (hr : Rs 0 w (.slice a0 (i + m + 1) c0) L) (hL : L.length = (i + m + 1)) (hq : (i + m + 1) ≤ 1000) : Calls Try.prog 21 #[.agg #[.bool on, .slice a0 (i + m + 1) c0, .slice a2 n2 c2, .slice a1 n1 c1, .slice a3 n3 c3], .int .i64 0, .int .i64 (i : Int)] w fun e w' => ∃ ma mc ea ec, e = .returned (.tuple #[.agg #[.bool on, .slice ma (i + m) mc, .slice a2 n2 c2, .slice a1 n1 c1, .slice a3 n3 c3], .slice ea (L.getD i []).length ec, .bool true]) ∧ Rs 0 w' (.slice ma (i + m) mc) (L.eraseIdx i) ∧ BO 0 w' (.slice ea (L.getD i []).length ec) (L.getD i []) ∧ w.grownBy w' none := by
  obtain ⟨i0, hi, hz0, hz1, hz2⟩ := info_parts info28
  obtain ⟨g, ea, ec, rfl, hce, hbo, hle⟩ := hr.elem (show i < L.length by omega)
  obtain ⟨X, o', hXL, hXn, hro, hcap, hs1, hsl, hs2⟩ := hr.split hL
  have HRO := Lib.hid hro
  have HBO := Lib.hid hbo
  have HCE := Lib.hid hce
  have HXN := Lib.hid hXn
  have HXL := Lib.hid hXL
  have HS1w := Lib.hid hs1
  have HS2w := Lib.hid hs2
  have hone := ro_one hro
  have HONE1 : Hid (∀ u ∈ (X.map Prod.fst).take i, u.oneCell' = true) := Lib.hid (fun u hu => hone u (List.mem_of_mem_take hu))
  have HONE2 : Hid (∀ u ∈ (X.map Prod.fst).drop (i + 1), u.oneCell' = true) := Lib.hid (fun u hu => hone u (List.mem_of_mem_drop hu))
  have HL1 : Hid (((X.map Prod.fst).take i).length = i * 1) := Lib.hid (by simp; omega)
  have HL2 : Hid (((X.map Prod.fst).drop (i + 1)).length = m * 1) := Lib.hid (by simp; omega)
  obtain ⟨xs, hxs⟩ : ∃ xs, xs = L.getD i [] := ⟨_, rfl⟩
  rw [← hxs] at HCE HBO hle ⊢
  have hst := rows_to (some ⟨g, 0, none⟩) (i + m + 1) c0 i (by omega)
  clear hr hbo hce hxs hro hXn hXL hs1 hs2 hone hL
  have q1 : (0 : Int) ≤ (i : Int) := by omega
  have q2 : (i : Int) < ((i : Int) + (m : Int) + 1) := by omega
  have q3 : (i : Int) ≤ (c0 : Int) := by omega
  have q4 : (i : Int) + 1 ≤ ((i : Int) + (m : Int) + 1) := by omega
  go_enter Try.func21, Try.ntmps21
  go_upto_region 2 with (first | (go_at_call 36; refine (of_0 on (some ⟨g, 0, none⟩) a1 a2 a3 (i + m + 1) n1 n2 n3 c0 c1 c2 c3 _).mono ?_; rintro e x ⟨rfl, hg⟩; have hx : Hid (XB w (x.alloc (.cells #[.slice (some ⟨g, 0, none⟩) (i + m + 1) c0, .slice a2 n2 c2] 43)) #[.bool on, .slice (some ⟨g, 0, none⟩) (i + m + 1) c0, .slice a2 n2 c2, .slice a1 n1 c1, .slice a3 n3 c3] #[.bool false, .slice none 0 0, .slice none 0 0, .slice none 0 0, .slice none 0 0] x.heap.size #[.slice (some ⟨g, 0, none⟩) (i + m + 1) c0, .slice a2 n2 c2]) := Lib.hid (.first hg); clear hg))
  obtain ⟨y, hy⟩ : ∃ y : World, y = x.alloc (.cells #[.slice (some ⟨g, 0, none⟩) (i + m + 1) c0, .slice a2 n2 c2] 43) := ⟨_, rfl⟩
  rw [← hy] at hx ⊢
  obtain ⟨b8, hb8⟩ : ∃ b : Nat, b = x.heap.size := ⟨_, rfl⟩
  rw [← hb8] at hx ⊢
  clear hy hb8
  have k0 := (cell_of_row y b8 0 _ 43 (0, 0) hx.out.r).trans (show _ = some (.slice (some ⟨g, 0, none⟩) (i + m + 1) c0) from rfl)
  have k1 := (cell_of_row y b8 1 _ 43 (0, 0) hx.out.r).trans (show _ = some (.slice a2 n2 c2) from rfl)
  have j0 := (cell_of_row y w.heap.size 0 _ 45 (0, 0) hx.out.b).trans (show _ = some (.bool on) from rfl)
  have hce : y.cell? ⟨g, i, none⟩ = some (.slice ea xs.length ec) := hx.out.g.cell HCE.out (by simp)
  have gw : w.grownBy y none := hx.out.g
  have ga := gn (World.grownBy_alloc y (.cells #[] 28) none) (grown_drew (y.alloc (.cells #[] 28)) none)
  have kA : (y.alloc (.cells #[] 28)).drew.cell? ⟨b8, 0, none⟩ = some (.slice (some ⟨g, 0, none⟩) (i + m + 1) c0) := ga.cell k0 (by simp)
  have kD : y.drew.cell? ⟨b8, 0, none⟩ = some (.slice (some ⟨g, 0, none⟩) (i + m + 1) c0) := k0
  have hxd := Lib.hid (hx.out.kept (World.grownBy.refl y none))
  have HO1 := Lib.hid (own_new y y.heap.size 28 (Nat.le_refl _)).drew
  have HZ1 : Hid (y.heap.size ≤ (y.alloc (.cells #[] 28)).drew.heap.size) := Lib.hid ga.size
  have HS1 := Lib.hid (HS1w.out.kept (gn gw ga) (by simp))
  have HS2y := Lib.hid (HS2w.out.kept gw (by simp))
  have HGA := Lib.hid ga
  clear ga
  have hwr : IntKind.i64.wrap ((i : Int) + 1) = (i : Int) + 1 := IntWalk.i64_in _ (by omega)
  go_upto_region 5 with fail
  go_region_law (first
    | (refine step_append_any _ (by rfl) _ _ 26 (by rfl) y.heap.size 28 i0 (.slice none 0 0) 1 24 Try.underlying26 hi hz0 hz1 hz2 rfl (by decide) (.slice (some ⟨y.heap.size, 0, none⟩) 0 0) 0 [] (by rfl) HO1.out (.slice (some ⟨g, 0, none⟩) i c0) i ((X.map Prod.fst).take i) (by rfl) HS1.out HL1.out HONE1.out (by unfold maxLen; omega) (by omega) HZ1.out ?_; intro l1 w2 ho hg; rw [Nat.zero_add, List.nil_append] at ho; have HO2 := Lib.hid ho; have G2 := Lib.hid (grownOwn HGA.out HO1.out (Nat.le_refl _) hg); have HS2 := Lib.hid (HS2y.out.kept G2.out (by simp)); have kB := G2.out.cell k0 (by simp); clear ho hg)
    | (refine step_append_any _ (by rfl) _ _ 26 (by rfl) y.heap.size 28 i0 (.slice none 0 0) 1 24 Try.underlying26 hi hz0 hz1 hz2 rfl (by decide) l1 i _ (by rfl) HO2.out (.slice (some ⟨g, o', none⟩) m (c0 - (i + 1))) m ((X.map Prod.fst).drop (i + 1)) (by rfl) HS2.out HL2.out HONE2.out (by unfold maxLen; omega) (by omega) G2.out.size ?_; intro l2 w3 ho hg; have HO3 := Lib.hid ho; have G3 := Lib.hid (grownOwn G2.out HO2.out (Nat.le_refl _) hg); obtain ⟨ma, mc, hl2⟩ := own_len ho; subst hl2; have hx2 := Lib.hid (hxd.out.kept G3.out); have k2 := (cell_of_row w3 b8 0 _ 43 (0, 0) hx2.out.r).trans (show _ = some (.slice (some ⟨g, 0, none⟩) (i + m + 1) c0) from rfl); have z2 := blk_frozen hx2.out.r 0; clear ho hg))
  all_goals
    have gw3 := gn hx.out.g G3.out
    have HM : Hid (Rs 0 w3 (.slice ma (i + m) mc) (L.eraseIdx i)) := by rw [← HXL.out]; exact Lib.hid (erase_rows HO3.out HXN.out (HRO.out.kept gw3 (by simp)))
    have HB3 := Lib.hid (HBO.out.kept gw3 (by simp))
    have hx3 := Lib.hid (hx2.out.set0 (.slice ma (i + m) mc))
    have gs := grownSet w3 b8 0 (.slice ma (i + m) mc)
    have HM3 := Lib.hid (HM.out.far hx2.out.r (by decide) (by decide) gs)
    have HB4 := Lib.hid (HB3.out.kept gs (by rintro r ⟨⟩; exact HB3.out.ne hx2.out.r (by simp)))
    clear gs gw3
    generalize w3.setCell ⟨b8, 0, none⟩ (.slice ma (i + m) mc) = y3 at hx3 HM3 HB4 ⊢
    clear k0 k1 j0 k2 z2 kA kD kB HM hx hxd hx2 hce HS1 HS2 HS1w HS2w HS2y HO1 HO2 HO3 G2 G3 HB3 HBO HCE hsl hst hwr
    go_wp2_with (first | (refine wpList_load_row rfl 45 _ rfl w.heap.size rfl 45 _ (0, 0) _ hx3.out.b Try.underlying45 rfl (by kernel_rfl) ?_) | (refine wpList_load_row rfl 43 _ rfl b8 rfl 43 _ (0, 0) _ hx3.out.r Try.underlying43 rfl (by kernel_rfl) ?_) | (go_at_call 39; refine (with_0 on (some ⟨g, 0, none⟩) a1 a2 a3 (i + m + 1) n1 n2 n3 c0 c1 c2 c3 ma a2 (i + m) n2 mc c2 _).mono ?_; rintro e y4 ⟨rfl, hg⟩; have hx4 := Lib.hid (hx3.out.kept hg); have HM4 := Lib.hid (HM3.out.kept hg); have HB5 := Lib.hid (HB4.out.kept hg (by simp)); clear hg) | (refine wpList_store_rowTo rfl 45 _ _ rfl rfl (w.heap.size + 1) #[.bool on, .slice ma (i + m) mc, .slice a2 n2 c2, .slice a1 n1 c1, .slice a3 n3 c3] rfl rfl 45 _ hx4.out.n size45 rfl (fine_agg _ _ _ _ _ _ _ _ _ _ _ _ _) ?_))
    have gr := grownSetRow y4 (w.heap.size + 1) #[.bool on, .slice ma (i + m) mc, .slice a2 n2 c2, .slice a1 n1 c1, .slice a3 n3 c3]
    have HM5 := HM4.out.far hx4.out.n (by decide) (by decide) gr
    have HB6 := HB5.out.kept gr (by rintro r ⟨⟩; exact HB5.out.ne hx4.out.n (by simp))
    clear gr
    have hres := hx4.out.res (Y := #[.bool on, .slice ma (i + m) mc, .slice a2 n2 c2, .slice a1 n1 c1, .slice a3 n3 c3])
    obtain ⟨z, hz⟩ : ∃ z : World, z = y4.setRow (w.heap.size + 1) #[.bool on, .slice ma (i + m) mc, .slice a2 n2 c2, .slice a1 n1 c1, .slice a3 n3 c3] := ⟨_, rfl⟩
    rw [← hz] at hres HM5 HB6 ⊢
    have r0 := cell_of_row z (w.heap.size + 1) 0 _ 45 (0, 0) hres.2
    have r1 := cell_of_row z (w.heap.size + 1) 1 _ 45 (0, 0) hres.2
    have r2 := cell_of_row z (w.heap.size + 1) 2 _ 45 (0, 0) hres.2
    have r3 := cell_of_row z (w.heap.size + 1) 3 _ 45 (0, 0) hres.2
    have r4 := cell_of_row z (w.heap.size + 1) 4 _ 45 (0, 0) hres.2
    exact bodyPost_ret (v := .tuple #[.agg #[.bool on, .slice ma (i + m) mc, .slice a2 n2 c2, .slice a1 n1 c1, .slice a3 n3 c3], .slice ea xs.length ec, .bool true]) (by simp [results, Try.results21, go_sem, r0, r1, r2, r3, r4]) rfl ⟨ma, mc, ea, ec, rfl, HM5, HB6, hres.1⟩
set_option maxHeartbeats 4000000 in
theorem rtake_ok1 (i m : Nat) (on : Bool) (a0 a1 a2 a3 : Option Addr) (n0 n1 n2 n3 c0 c1 c2 c3 : Nat) (L : List (List Int)) (w : World) (hr : Rs 0 w (.slice a1 (i + m + 1) c1) L) (hL : L.length = (i + m + 1)) (hq : (i + m + 1) ≤ 1000) : Calls Try.prog 21 #[.agg #[.bool on, .slice a0 n0 c0, .slice a2 n2 c2, .slice a1 (i + m + 1) c1, .slice a3 n3 c3], .int .i64 1, .int .i64 (i : Int)] w fun e w' => ∃ ma mc ea ec, e = .returned (.tuple #[.agg #[.bool on, .slice a0 n0 c0, .slice a2 n2 c2, .slice ma (i + m) mc, .slice a3 n3 c3], .slice ea (L.getD i []).length ec, .bool true]) ∧ Rs 0 w' (.slice ma (i + m) mc) (L.eraseIdx i) ∧ BO 0 w' (.slice ea (L.getD i []).length ec) (L.getD i []) ∧ w.grownBy w' none := by
  obtain ⟨i0, hi, hz0, hz1, hz2⟩ := info_parts info28
  obtain ⟨g, ea, ec, rfl, hce, hbo, hle⟩ := hr.elem (show i < L.length by omega)
  obtain ⟨X, o', hXL, hXn, hro, hcap, hs1, hsl, hs2⟩ := hr.split hL
  have HRO := Lib.hid hro
  have HBO := Lib.hid hbo
  have HCE := Lib.hid hce
  have HXN := Lib.hid hXn
  have HXL := Lib.hid hXL
  have HS1w := Lib.hid hs1
  have HS2w := Lib.hid hs2
  have hone := ro_one hro
  have HONE1 : Hid (∀ u ∈ (X.map Prod.fst).take i, u.oneCell' = true) := Lib.hid (fun u hu => hone u (List.mem_of_mem_take hu))
  have HONE2 : Hid (∀ u ∈ (X.map Prod.fst).drop (i + 1), u.oneCell' = true) := Lib.hid (fun u hu => hone u (List.mem_of_mem_drop hu))
  have HL1 : Hid (((X.map Prod.fst).take i).length = i * 1) := Lib.hid (by simp; omega)
  have HL2 : Hid (((X.map Prod.fst).drop (i + 1)).length = m * 1) := Lib.hid (by simp; omega)
  obtain ⟨xs, hxs⟩ : ∃ xs, xs = L.getD i [] := ⟨_, rfl⟩
  rw [← hxs] at HCE HBO hle ⊢
  have hst := rows_to (some ⟨g, 0, none⟩) (i + m + 1) c1 i (by omega)
  clear hr hbo hce hxs hro hXn hXL hs1 hs2 hone hL
  have q1 : (0 : Int) ≤ (i : Int) := by omega
  have q2 : (i : Int) < ((i : Int) + (m : Int) + 1) := by omega
  have q3 : (i : Int) ≤ (c1 : Int) := by omega
  have q4 : (i : Int) + 1 ≤ ((i : Int) + (m : Int) + 1) := by omega
  go_enter Try.func21, Try.ntmps21
  go_upto_region 2 with (first | (go_at_call 36; refine (of_1 on a0 (some ⟨g, 0, none⟩) a2 a3 n0 (i + m + 1) n2 n3 c0 c1 c2 c3 _).mono ?_; rintro e x ⟨rfl, hg⟩; have hx : Hid (XB w (x.alloc (.cells #[.slice (some ⟨g, 0, none⟩) (i + m + 1) c1, .slice a3 n3 c3] 43)) #[.bool on, .slice a0 n0 c0, .slice a2 n2 c2, .slice (some ⟨g, 0, none⟩) (i + m + 1) c1, .slice a3 n3 c3] #[.bool false, .slice none 0 0, .slice none 0 0, .slice none 0 0, .slice none 0 0] x.heap.size #[.slice (some ⟨g, 0, none⟩) (i + m + 1) c1, .slice a3 n3 c3]) := Lib.hid (.first hg); clear hg))
  obtain ⟨y, hy⟩ : ∃ y : World, y = x.alloc (.cells #[.slice (some ⟨g, 0, none⟩) (i + m + 1) c1, .slice a3 n3 c3] 43) := ⟨_, rfl⟩
  rw [← hy] at hx ⊢
  obtain ⟨b8, hb8⟩ : ∃ b : Nat, b = x.heap.size := ⟨_, rfl⟩
  rw [← hb8] at hx ⊢
  clear hy hb8
  have k0 := (cell_of_row y b8 0 _ 43 (0, 0) hx.out.r).trans (show _ = some (.slice (some ⟨g, 0, none⟩) (i + m + 1) c1) from rfl)
  have k1 := (cell_of_row y b8 1 _ 43 (0, 0) hx.out.r).trans (show _ = some (.slice a3 n3 c3) from rfl)
  have j0 := (cell_of_row y w.heap.size 0 _ 45 (0, 0) hx.out.b).trans (show _ = some (.bool on) from rfl)
  have hce : y.cell? ⟨g, i, none⟩ = some (.slice ea xs.length ec) := hx.out.g.cell HCE.out (by simp)
  have gw : w.grownBy y none := hx.out.g
  have ga := gn (World.grownBy_alloc y (.cells #[] 28) none) (grown_drew (y.alloc (.cells #[] 28)) none)
  have kA : (y.alloc (.cells #[] 28)).drew.cell? ⟨b8, 0, none⟩ = some (.slice (some ⟨g, 0, none⟩) (i + m + 1) c1) := ga.cell k0 (by simp)
  have kD : y.drew.cell? ⟨b8, 0, none⟩ = some (.slice (some ⟨g, 0, none⟩) (i + m + 1) c1) := k0
  have hxd := Lib.hid (hx.out.kept (World.grownBy.refl y none))
  have HO1 := Lib.hid (own_new y y.heap.size 28 (Nat.le_refl _)).drew
  have HZ1 : Hid (y.heap.size ≤ (y.alloc (.cells #[] 28)).drew.heap.size) := Lib.hid ga.size
  have HS1 := Lib.hid (HS1w.out.kept (gn gw ga) (by simp))
  have HS2y := Lib.hid (HS2w.out.kept gw (by simp))
  have HGA := Lib.hid ga
  clear ga
  have hwr : IntKind.i64.wrap ((i : Int) + 1) = (i : Int) + 1 := IntWalk.i64_in _ (by omega)
  go_upto_region 5 with fail
  go_region_law (first
    | (refine step_append_any _ (by rfl) _ _ 26 (by rfl) y.heap.size 28 i0 (.slice none 0 0) 1 24 Try.underlying26 hi hz0 hz1 hz2 rfl (by decide) (.slice (some ⟨y.heap.size, 0, none⟩) 0 0) 0 [] (by rfl) HO1.out (.slice (some ⟨g, 0, none⟩) i c1) i ((X.map Prod.fst).take i) (by rfl) HS1.out HL1.out HONE1.out (by unfold maxLen; omega) (by omega) HZ1.out ?_; intro l1 w2 ho hg; rw [Nat.zero_add, List.nil_append] at ho; have HO2 := Lib.hid ho; have G2 := Lib.hid (grownOwn HGA.out HO1.out (Nat.le_refl _) hg); have HS2 := Lib.hid (HS2y.out.kept G2.out (by simp)); have kB := G2.out.cell k0 (by simp); clear ho hg)
    | (refine step_append_any _ (by rfl) _ _ 26 (by rfl) y.heap.size 28 i0 (.slice none 0 0) 1 24 Try.underlying26 hi hz0 hz1 hz2 rfl (by decide) l1 i _ (by rfl) HO2.out (.slice (some ⟨g, o', none⟩) m (c1 - (i + 1))) m ((X.map Prod.fst).drop (i + 1)) (by rfl) HS2.out HL2.out HONE2.out (by unfold maxLen; omega) (by omega) G2.out.size ?_; intro l2 w3 ho hg; have HO3 := Lib.hid ho; have G3 := Lib.hid (grownOwn G2.out HO2.out (Nat.le_refl _) hg); obtain ⟨ma, mc, hl2⟩ := own_len ho; subst hl2; have hx2 := Lib.hid (hxd.out.kept G3.out); have k2 := (cell_of_row w3 b8 0 _ 43 (0, 0) hx2.out.r).trans (show _ = some (.slice (some ⟨g, 0, none⟩) (i + m + 1) c1) from rfl); have z2 := blk_frozen hx2.out.r 0; clear ho hg))
  all_goals
    have gw3 := gn hx.out.g G3.out
    have HM : Hid (Rs 0 w3 (.slice ma (i + m) mc) (L.eraseIdx i)) := by rw [← HXL.out]; exact Lib.hid (erase_rows HO3.out HXN.out (HRO.out.kept gw3 (by simp)))
    have HB3 := Lib.hid (HBO.out.kept gw3 (by simp))
    have hx3 := Lib.hid (hx2.out.set0 (.slice ma (i + m) mc))
    have gs := grownSet w3 b8 0 (.slice ma (i + m) mc)
    have HM3 := Lib.hid (HM.out.far hx2.out.r (by decide) (by decide) gs)
    have HB4 := Lib.hid (HB3.out.kept gs (by rintro r ⟨⟩; exact HB3.out.ne hx2.out.r (by simp)))
    clear gs gw3
    generalize w3.setCell ⟨b8, 0, none⟩ (.slice ma (i + m) mc) = y3 at hx3 HM3 HB4 ⊢
    clear k0 k1 j0 k2 z2 kA kD kB HM hx hxd hx2 hce HS1 HS2 HS1w HS2w HS2y HO1 HO2 HO3 G2 G3 HB3 HBO HCE hsl hst hwr
    go_wp2_with (first | (refine wpList_load_row rfl 45 _ rfl w.heap.size rfl 45 _ (0, 0) _ hx3.out.b Try.underlying45 rfl (by kernel_rfl) ?_) | (refine wpList_load_row rfl 43 _ rfl b8 rfl 43 _ (0, 0) _ hx3.out.r Try.underlying43 rfl (by kernel_rfl) ?_) | (go_at_call 39; refine (with_1 on a0 (some ⟨g, 0, none⟩) a2 a3 n0 (i + m + 1) n2 n3 c0 c1 c2 c3 ma a3 (i + m) n3 mc c3 _).mono ?_; rintro e y4 ⟨rfl, hg⟩; have hx4 := Lib.hid (hx3.out.kept hg); have HM4 := Lib.hid (HM3.out.kept hg); have HB5 := Lib.hid (HB4.out.kept hg (by simp)); clear hg) | (refine wpList_store_rowTo rfl 45 _ _ rfl rfl (w.heap.size + 1) #[.bool on, .slice a0 n0 c0, .slice a2 n2 c2, .slice ma (i + m) mc, .slice a3 n3 c3] rfl rfl 45 _ hx4.out.n size45 rfl (fine_agg _ _ _ _ _ _ _ _ _ _ _ _ _) ?_))
    have gr := grownSetRow y4 (w.heap.size + 1) #[.bool on, .slice a0 n0 c0, .slice a2 n2 c2, .slice ma (i + m) mc, .slice a3 n3 c3]
    have HM5 := HM4.out.far hx4.out.n (by decide) (by decide) gr
    have HB6 := HB5.out.kept gr (by rintro r ⟨⟩; exact HB5.out.ne hx4.out.n (by simp))
    clear gr
    have hres := hx4.out.res (Y := #[.bool on, .slice a0 n0 c0, .slice a2 n2 c2, .slice ma (i + m) mc, .slice a3 n3 c3])
    obtain ⟨z, hz⟩ : ∃ z : World, z = y4.setRow (w.heap.size + 1) #[.bool on, .slice a0 n0 c0, .slice a2 n2 c2, .slice ma (i + m) mc, .slice a3 n3 c3] := ⟨_, rfl⟩
    rw [← hz] at hres HM5 HB6 ⊢
    have r0 := cell_of_row z (w.heap.size + 1) 0 _ 45 (0, 0) hres.2
    have r1 := cell_of_row z (w.heap.size + 1) 1 _ 45 (0, 0) hres.2
    have r2 := cell_of_row z (w.heap.size + 1) 2 _ 45 (0, 0) hres.2
    have r3 := cell_of_row z (w.heap.size + 1) 3 _ 45 (0, 0) hres.2
    have r4 := cell_of_row z (w.heap.size + 1) 4 _ 45 (0, 0) hres.2
    exact bodyPost_ret (v := .tuple #[.agg #[.bool on, .slice a0 n0 c0, .slice a2 n2 c2, .slice ma (i + m) mc, .slice a3 n3 c3], .slice ea xs.length ec, .bool true]) (by simp [results, Try.results21, go_sem, r0, r1, r2, r3, r4]) rfl ⟨ma, mc, ea, ec, rfl, HM5, HB6, hres.1⟩
end Go.Proofs.Ytaidfcehicffbaa.W
