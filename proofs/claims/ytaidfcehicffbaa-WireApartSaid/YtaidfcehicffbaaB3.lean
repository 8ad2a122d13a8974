/-
  The reference's Twin, by value.
-/
import Derived.Test.YtaidfcehicffbaaB2
set_option linter.unusedVariables false
set_option linter.unusedSimpArgs false
namespace Go.Proofs.Ytaidfcehicffbaa.W
open Go.RowKit Go.Deep

theorem Rs.elem {B n c i : Nat} {w : World} {a : Option Addr} {L : List (List Int)} (h : Rs B w (.slice a n c) L) (hi : i < L.length) : ∃ g ea ec, a = some ⟨g, 0, none⟩ ∧ w.cell? ⟨g, i, none⟩ = some (.slice ea (L.getD i []).length ec) ∧ BO B w (.slice ea (L.getD i []).length ec) (L.getD i []) ∧ (L.getD i []).length ≤ 4096 := by
  obtain ⟨X, rfl, ho, hr⟩ := h
  rw [List.length_map] at hi
  obtain ⟨g, c', hv, hc⟩ := own_read ho (by omega)
  injection hv with e1 e2 e3
  have hm := hr _ (row_mem hi)
  obtain ⟨ea, ec, he⟩ := hm.1.len
  have hg : (X.map Prod.snd).getD i [] = (X.getD i default).2 := by simp [List.getD_eq_getElem?_getD, List.getElem?_map, List.getElem?_eq_getElem hi]
  refine ⟨g, ea, ec, e1, ?_, ?_, by rw [hg]; exact hm.2⟩
  · rw [hc i hi, hg, ← he, List.getElem?_map, List.getD_eq_getElem?_getD, List.getElem?_eq_getElem hi]
    rfl
  · rw [hg, ← he]; exact hm.1
set_option maxHeartbeats 1000000 in
theorem rtwin_bad0 (d n : Int) (on : Bool) (a0 a1 a2 a3 : Option Addr) (n0 n1 n2 n3 c0 c1 c2 c3 : Nat) (w : World) (hd : dOK d = false) (hn : n < 0) : Calls Try.prog 22 #[.agg #[.bool on, .slice a0 n0 c0, .slice a2 n2 c2, .slice a1 n1 c1, .slice a3 n3 c3], .int .i64 d, .int .i64 n] w fun e w' => e = .returned (.tuple #[.agg #[.bool on, .slice a0 n0 c0, .slice a2 n2 c2, .slice a1 n1 c1, .slice a3 n3 c3], .int .i64 5]) ∧ w.grownBy w' none := by
  have h01 : d ≠ 0 ∧ d ≠ 1 := by unfold dOK at hd; simp at hd; exact hd
  obtain ⟨h0, h1⟩ := h01
  clear hd
  go_enter Try.func22, Try.ntmps22
  go_upto_region 2 with (first | (go_at_call 36; refine (of_bad d on a0 a1 a2 a3 n0 n1 n2 n3 c0 c1 c2 c3 _ h0 h1).mono ?_; rintro e x ⟨rfl, hg⟩; have hx : Hid (XB w (x.alloc (.cells #[.slice none 0 0, .slice none 0 0] 43)) #[.bool on, .slice a0 n0 c0, .slice a2 n2 c2, .slice a1 n1 c1, .slice a3 n3 c3] #[.bool false, .slice none 0 0, .slice none 0 0, .slice none 0 0, .slice none 0 0] x.heap.size #[.slice none 0 0, .slice none 0 0]) := Lib.hid (.first hg); clear hg))
  obtain ⟨y, hy⟩ : ∃ y : World, y = x.alloc (.cells #[.slice none 0 0, .slice none 0 0] 43) := ⟨_, rfl⟩
  rw [← hy] at hx ⊢
  obtain ⟨b8, hb8⟩ : ∃ b : Nat, b = x.heap.size := ⟨_, rfl⟩
  rw [← hb8] at hx ⊢
  clear hy hb8
  have k0 := (cell_of_row y b8 0 _ 43 (0, 0) hx.out.r).trans (show _ = some (.slice none 0 0) from rfl)
  have k1 := (cell_of_row y b8 1 _ 43 (0, 0) hx.out.r).trans (show _ = some (.slice none 0 0) from rfl)
  have j0 := (cell_of_row y w.heap.size 0 _ 45 (0, 0) hx.out.b).trans (show _ = some (.bool on) from rfl)
  go_wp2_with (first | (refine wpList_load_row rfl 45 _ rfl w.heap.size rfl 45 _ (0, 0) _ hx.out.b Try.underlying45 rfl (by kernel_rfl) ?_) | (refine wpList_store_rowTo rfl 45 _ _ rfl rfl (w.heap.size + 1) #[.bool on, .slice a0 n0 c0, .slice a2 n2 c2, .slice a1 n1 c1, .slice a3 n3 c3] rfl rfl 45 _ hx.out.n size45 rfl (fine_agg _ _ _ _ _ _ _ _ _ _ _ _ _) ?_))
  have hres := hx.out.res (Y := #[.bool on, .slice a0 n0 c0, .slice a2 n2 c2, .slice a1 n1 c1, .slice a3 n3 c3])
  obtain ⟨z, hz⟩ : ∃ z : World, z = y.setRow (w.heap.size + 1) #[.bool on, .slice a0 n0 c0, .slice a2 n2 c2, .slice a1 n1 c1, .slice a3 n3 c3] := ⟨_, rfl⟩
  rw [← hz] at hres ⊢
  have r0 := cell_of_row z (w.heap.size + 1) 0 _ 45 (0, 0) hres.2
  have r1 := cell_of_row z (w.heap.size + 1) 1 _ 45 (0, 0) hres.2
  have r2 := cell_of_row z (w.heap.size + 1) 2 _ 45 (0, 0) hres.2
  have r3 := cell_of_row z (w.heap.size + 1) 3 _ 45 (0, 0) hres.2
  have r4 := cell_of_row z (w.heap.size + 1) 4 _ 45 (0, 0) hres.2
  exact bodyPost_ret (v := .tuple #[.agg #[.bool on, .slice a0 n0 c0, .slice a2 n2 c2, .slice a1 n1 c1, .slice a3 n3 c3], .int .i64 5]) (by simp [results, Try.results22, go_sem, r0, r1, r2, r3, r4]) rfl ⟨rfl, hres.1⟩
set_option maxHeartbeats 1000000 in
theorem rtwin_bad1 (d n : Int) (on : Bool) (a0 a1 a2 a3 : Option Addr) (n0 n1 n2 n3 c0 c1 c2 c3 : Nat) (w : World) (hd : dOK d = false) (hn : 0 ≤ n) : Calls Try.prog 22 #[.agg #[.bool on, .slice a0 n0 c0, .slice a2 n2 c2, .slice a1 n1 c1, .slice a3 n3 c3], .int .i64 d, .int .i64 n] w fun e w' => e = .returned (.tuple #[.agg #[.bool on, .slice a0 n0 c0, .slice a2 n2 c2, .slice a1 n1 c1, .slice a3 n3 c3], .int .i64 5]) ∧ w.grownBy w' none := by
  have h01 : d ≠ 0 ∧ d ≠ 1 := by unfold dOK at hd; simp at hd; exact hd
  obtain ⟨h0, h1⟩ := h01
  clear hd
  go_enter Try.func22, Try.ntmps22
  go_upto_region 2 with (first | (go_at_call 36; refine (of_bad d on a0 a1 a2 a3 n0 n1 n2 n3 c0 c1 c2 c3 _ h0 h1).mono ?_; rintro e x ⟨rfl, hg⟩; have hx : Hid (XB w (x.alloc (.cells #[.slice none 0 0, .slice none 0 0] 43)) #[.bool on, .slice a0 n0 c0, .slice a2 n2 c2, .slice a1 n1 c1, .slice a3 n3 c3] #[.bool false, .slice none 0 0, .slice none 0 0, .slice none 0 0, .slice none 0 0] x.heap.size #[.slice none 0 0, .slice none 0 0]) := Lib.hid (.first hg); clear hg))
  obtain ⟨y, hy⟩ : ∃ y : World, y = x.alloc (.cells #[.slice none 0 0, .slice none 0 0] 43) := ⟨_, rfl⟩
  rw [← hy] at hx ⊢
  obtain ⟨b8, hb8⟩ : ∃ b : Nat, b = x.heap.size := ⟨_, rfl⟩
  rw [← hb8] at hx ⊢
  clear hy hb8
  have k0 := (cell_of_row y b8 0 _ 43 (0, 0) hx.out.r).trans (show _ = some (.slice none 0 0) from rfl)
  have k1 := (cell_of_row y b8 1 _ 43 (0, 0) hx.out.r).trans (show _ = some (.slice none 0 0) from rfl)
  have j0 := (cell_of_row y w.heap.size 0 _ 45 (0, 0) hx.out.b).trans (show _ = some (.bool on) from rfl)
  go_wp2_with (first | (refine wpList_load_row rfl 45 _ rfl w.heap.size rfl 45 _ (0, 0) _ hx.out.b Try.underlying45 rfl (by kernel_rfl) ?_) | (refine wpList_store_rowTo rfl 45 _ _ rfl rfl (w.heap.size + 1) #[.bool on, .slice a0 n0 c0, .slice a2 n2 c2, .slice a1 n1 c1, .slice a3 n3 c3] rfl rfl 45 _ hx.out.n size45 rfl (fine_agg _ _ _ _ _ _ _ _ _ _ _ _ _) ?_))
  have hres := hx.out.res (Y := #[.bool on, .slice a0 n0 c0, .slice a2 n2 c2, .slice a1 n1 c1, .slice a3 n3 c3])
  obtain ⟨z, hz⟩ : ∃ z : World, z = y.setRow (w.heap.size + 1) #[.bool on, .slice a0 n0 c0, .slice a2 n2 c2, .slice a1 n1 c1, .slice a3 n3 c3] := ⟨_, rfl⟩
  rw [← hz] at hres ⊢
  have r0 := cell_of_row z (w.heap.size + 1) 0 _ 45 (0, 0) hres.2
  have r1 := cell_of_row z (w.heap.size + 1) 1 _ 45 (0, 0) hres.2
  have r2 := cell_of_row z (w.heap.size + 1) 2 _ 45 (0, 0) hres.2
  have r3 := cell_of_row z (w.heap.size + 1) 3 _ 45 (0, 0) hres.2
  have r4 := cell_of_row z (w.heap.size + 1) 4 _ 45 (0, 0) hres.2
  exact bodyPost_ret (v := .tuple #[.agg #[.bool on, .slice a0 n0 c0, .slice a2 n2 c2, .slice a1 n1 c1, .slice a3 n3 c3], .int .i64 5]) (by simp [results, Try.results22, go_sem, r0, r1, r2, r3, r4]) rfl ⟨rfl, hres.1⟩
set_option maxHeartbeats 1000000 in
theorem rtwin_out00 (n : Int) (on : Bool) (a0 a1 a2 a3 : Option Addr) (n0 n1 n2 n3 c0 c1 c2 c3 : Nat) (w : World) (hn : n < 0) : Calls Try.prog 22 #[.agg #[.bool on, .slice a0 n0 c0, .slice a2 n2 c2, .slice a1 n1 c1, .slice a3 n3 c3], .int .i64 0, .int .i64 n] w fun e w' => e = .returned (.tuple #[.agg #[.bool on, .slice a0 n0 c0, .slice a2 n2 c2, .slice a1 n1 c1, .slice a3 n3 c3], .int .i64 5]) ∧ w.grownBy w' none := by
  go_enter Try.func22, Try.ntmps22
  go_upto_region 2 with (first | (go_at_call 36; refine (of_0 on a0 a1 a2 a3 n0 n1 n2 n3 c0 c1 c2 c3 _).mono ?_; rintro e x ⟨rfl, hg⟩; have hx : Hid (XB w (x.alloc (.cells #[.slice a0 n0 c0, .slice a2 n2 c2] 43)) #[.bool on, .slice a0 n0 c0, .slice a2 n2 c2, .slice a1 n1 c1, .slice a3 n3 c3] #[.bool false, .slice none 0 0, .slice none 0 0, .slice none 0 0, .slice none 0 0] x.heap.size #[.slice a0 n0 c0, .slice a2 n2 c2]) := Lib.hid (.first hg); clear hg))
  obtain ⟨y, hy⟩ : ∃ y : World, y = x.alloc (.cells #[.slice a0 n0 c0, .slice a2 n2 c2] 43) := ⟨_, rfl⟩
  rw [← hy] at hx ⊢
  obtain ⟨b8, hb8⟩ : ∃ b : Nat, b = x.heap.size := ⟨_, rfl⟩
  rw [← hb8] at hx ⊢
  clear hy hb8
  have k0 := (cell_of_row y b8 0 _ 43 (0, 0) hx.out.r).trans (show _ = some (.slice a0 n0 c0) from rfl)
  have k1 := (cell_of_row y b8 1 _ 43 (0, 0) hx.out.r).trans (show _ = some (.slice a2 n2 c2) from rfl)
  have j0 := (cell_of_row y w.heap.size 0 _ 45 (0, 0) hx.out.b).trans (show _ = some (.bool on) from rfl)
  go_wp2_with (first | (refine wpList_load_row rfl 45 _ rfl w.heap.size rfl 45 _ (0, 0) _ hx.out.b Try.underlying45 rfl (by kernel_rfl) ?_) | (refine wpList_store_rowTo rfl 45 _ _ rfl rfl (w.heap.size + 1) #[.bool on, .slice a0 n0 c0, .slice a2 n2 c2, .slice a1 n1 c1, .slice a3 n3 c3] rfl rfl 45 _ hx.out.n size45 rfl (fine_agg _ _ _ _ _ _ _ _ _ _ _ _ _) ?_))
  have hres := hx.out.res (Y := #[.bool on, .slice a0 n0 c0, .slice a2 n2 c2, .slice a1 n1 c1, .slice a3 n3 c3])
  obtain ⟨z, hz⟩ : ∃ z : World, z = y.setRow (w.heap.size + 1) #[.bool on, .slice a0 n0 c0, .slice a2 n2 c2, .slice a1 n1 c1, .slice a3 n3 c3] := ⟨_, rfl⟩
  rw [← hz] at hres ⊢
  have r0 := cell_of_row z (w.heap.size + 1) 0 _ 45 (0, 0) hres.2
  have r1 := cell_of_row z (w.heap.size + 1) 1 _ 45 (0, 0) hres.2
  have r2 := cell_of_row z (w.heap.size + 1) 2 _ 45 (0, 0) hres.2
  have r3 := cell_of_row z (w.heap.size + 1) 3 _ 45 (0, 0) hres.2
  have r4 := cell_of_row z (w.heap.size + 1) 4 _ 45 (0, 0) hres.2
  exact bodyPost_ret (v := .tuple #[.agg #[.bool on, .slice a0 n0 c0, .slice a2 n2 c2, .slice a1 n1 c1, .slice a3 n3 c3], .int .i64 5]) (by simp [results, Try.results22, go_sem, r0, r1, r2, r3, r4]) rfl ⟨rfl, hres.1⟩
set_option maxHeartbeats 1000000 in
theorem rtwin_out01 (n : Int) (on : Bool) (a0 a1 a2 a3 : Option Addr) (n0 n1 n2 n3 c0 c1 c2 c3 : Nat) (w : World) (hn : 0 ≤ n) (hn2 : (n0 : Int) ≤ n) : Calls Try.prog 22 #[.agg #[.bool on, .slice a0 n0 c0, .slice a2 n2 c2, .slice a1 n1 c1, .slice a3 n3 c3], .int .i64 0, .int .i64 n] w fun e w' => e = .returned (.tuple #[.agg #[.bool on, .slice a0 n0 c0, .slice a2 n2 c2, .slice a1 n1 c1, .slice a3 n3 c3], .int .i64 5]) ∧ w.grownBy w' none := by
  go_enter Try.func22, Try.ntmps22
  go_upto_region 2 with (first | (go_at_call 36; refine (of_0 on a0 a1 a2 a3 n0 n1 n2 n3 c0 c1 c2 c3 _).mono ?_; rintro e x ⟨rfl, hg⟩; have hx : Hid (XB w (x.alloc (.cells #[.slice a0 n0 c0, .slice a2 n2 c2] 43)) #[.bool on, .slice a0 n0 c0, .slice a2 n2 c2, .slice a1 n1 c1, .slice a3 n3 c3] #[.bool false, .slice none 0 0, .slice none 0 0, .slice none 0 0, .slice none 0 0] x.heap.size #[.slice a0 n0 c0, .slice a2 n2 c2]) := Lib.hid (.first hg); clear hg))
  obtain ⟨y, hy⟩ : ∃ y : World, y = x.alloc (.cells #[.slice a0 n0 c0, .slice a2 n2 c2] 43) := ⟨_, rfl⟩
  rw [← hy] at hx ⊢
  obtain ⟨b8, hb8⟩ : ∃ b : Nat, b = x.heap.size := ⟨_, rfl⟩
  rw [← hb8] at hx ⊢
  clear hy hb8
  have k0 := (cell_of_row y b8 0 _ 43 (0, 0) hx.out.r).trans (show _ = some (.slice a0 n0 c0) from rfl)
  have k1 := (cell_of_row y b8 1 _ 43 (0, 0) hx.out.r).trans (show _ = some (.slice a2 n2 c2) from rfl)
  have j0 := (cell_of_row y w.heap.size 0 _ 45 (0, 0) hx.out.b).trans (show _ = some (.bool on) from rfl)
  go_wp2_with (first | (refine wpList_load_row rfl 45 _ rfl w.heap.size rfl 45 _ (0, 0) _ hx.out.b Try.underlying45 rfl (by kernel_rfl) ?_) | (refine wpList_store_rowTo rfl 45 _ _ rfl rfl (w.heap.size + 1) #[.bool on, .slice a0 n0 c0, .slice a2 n2 c2, .slice a1 n1 c1, .slice a3 n3 c3] rfl rfl 45 _ hx.out.n size45 rfl (fine_agg _ _ _ _ _ _ _ _ _ _ _ _ _) ?_))
  have hres := hx.out.res (Y := #[.bool on, .slice a0 n0 c0, .slice a2 n2 c2, .slice a1 n1 c1, .slice a3 n3 c3])
  obtain ⟨z, hz⟩ : ∃ z : World, z = y.setRow (w.heap.size + 1) #[.bool on, .slice a0 n0 c0, .slice a2 n2 c2, .slice a1 n1 c1, .slice a3 n3 c3] := ⟨_, rfl⟩
  rw [← hz] at hres ⊢
  have r0 := cell_of_row z (w.heap.size + 1) 0 _ 45 (0, 0) hres.2
  have r1 := cell_of_row z (w.heap.size + 1) 1 _ 45 (0, 0) hres.2
  have r2 := cell_of_row z (w.heap.size + 1) 2 _ 45 (0, 0) hres.2
  have r3 := cell_of_row z (w.heap.size + 1) 3 _ 45 (0, 0) hres.2
  have r4 := cell_of_row z (w.heap.size + 1) 4 _ 45 (0, 0) hres.2
  exact bodyPost_ret (v := .tuple #[.agg #[.bool on, .slice a0 n0 c0, .slice a2 n2 c2, .slice a1 n1 c1, .slice a3 n3 c3], .int .i64 5]) (by simp [results, Try.results22, go_sem, r0, r1, r2, r3, r4]) rfl ⟨rfl, hres.1⟩
set_option maxHeartbeats 1000000 in
theorem rtwin_many0 (n : Int) (on : Bool) (a0 a1 a2 a3 : Option Addr) (n0 n1 n2 n3 c0 c1 c2 c3 : Nat) (w : World) (hn : 0 ≤ n) (hn2 : n < (n0 : Int)) (hq : 32 ≤ n0) : Calls Try.prog 22 #[.agg #[.bool on, .slice a0 n0 c0, .slice a2 n2 c2, .slice a1 n1 c1, .slice a3 n3 c3], .int .i64 0, .int .i64 n] w fun e w' => e = .returned (.tuple #[.agg #[.bool on, .slice a0 n0 c0, .slice a2 n2 c2, .slice a1 n1 c1, .slice a3 n3 c3], .int .i64 3]) ∧ w.grownBy w' none := by
  go_enter Try.func22, Try.ntmps22
  go_upto_region 2 with (first | (go_at_call 36; refine (of_0 on a0 a1 a2 a3 n0 n1 n2 n3 c0 c1 c2 c3 _).mono ?_; rintro e x ⟨rfl, hg⟩; have hx : Hid (XB w (x.alloc (.cells #[.slice a0 n0 c0, .slice a2 n2 c2] 43)) #[.bool on, .slice a0 n0 c0, .slice a2 n2 c2, .slice a1 n1 c1, .slice a3 n3 c3] #[.bool false, .slice none 0 0, .slice none 0 0, .slice none 0 0, .slice none 0 0] x.heap.size #[.slice a0 n0 c0, .slice a2 n2 c2]) := Lib.hid (.first hg); clear hg))
  obtain ⟨y, hy⟩ : ∃ y : World, y = x.alloc (.cells #[.slice a0 n0 c0, .slice a2 n2 c2] 43) := ⟨_, rfl⟩
  rw [← hy] at hx ⊢
  obtain ⟨b8, hb8⟩ : ∃ b : Nat, b = x.heap.size := ⟨_, rfl⟩
  rw [← hb8] at hx ⊢
  clear hy hb8
  have k0 := (cell_of_row y b8 0 _ 43 (0, 0) hx.out.r).trans (show _ = some (.slice a0 n0 c0) from rfl)
  have k1 := (cell_of_row y b8 1 _ 43 (0, 0) hx.out.r).trans (show _ = some (.slice a2 n2 c2) from rfl)
  have j0 := (cell_of_row y w.heap.size 0 _ 45 (0, 0) hx.out.b).trans (show _ = some (.bool on) from rfl)
  go_wp2_with (first | (refine wpList_load_row rfl 45 _ rfl w.heap.size rfl 45 _ (0, 0) _ hx.out.b Try.underlying45 rfl (by kernel_rfl) ?_) | (refine wpList_store_rowTo rfl 45 _ _ rfl rfl (w.heap.size + 1) #[.bool on, .slice a0 n0 c0, .slice a2 n2 c2, .slice a1 n1 c1, .slice a3 n3 c3] rfl rfl 45 _ hx.out.n size45 rfl (fine_agg _ _ _ _ _ _ _ _ _ _ _ _ _) ?_))
  have hres := hx.out.res (Y := #[.bool on, .slice a0 n0 c0, .slice a2 n2 c2, .slice a1 n1 c1, .slice a3 n3 c3])
  obtain ⟨z, hz⟩ : ∃ z : World, z = y.setRow (w.heap.size + 1) #[.bool on, .slice a0 n0 c0, .slice a2 n2 c2, .slice a1 n1 c1, .slice a3 n3 c3] := ⟨_, rfl⟩
  rw [← hz] at hres ⊢
  have r0 := cell_of_row z (w.heap.size + 1) 0 _ 45 (0, 0) hres.2
  have r1 := cell_of_row z (w.heap.size + 1) 1 _ 45 (0, 0) hres.2
  have r2 := cell_of_row z (w.heap.size + 1) 2 _ 45 (0, 0) hres.2
  have r3 := cell_of_row z (w.heap.size + 1) 3 _ 45 (0, 0) hres.2
  have r4 := cell_of_row z (w.heap.size + 1) 4 _ 45 (0, 0) hres.2
  exact bodyPost_ret (v := .tuple #[.agg #[.bool on, .slice a0 n0 c0, .slice a2 n2 c2, .slice a1 n1 c1, .slice a3 n3 c3], .int .i64 3]) (by simp [results, Try.results22, go_sem, r0, r1, r2, r3, r4]) rfl ⟨rfl, hres.1⟩
set_option maxHeartbeats 2000000 in
theorem rtwin_ok0 (i : Nat) (on : Bool) (a0 a1 a2 a3 : Option Addr) (n0 n1 n2 n3 c0 c1 c2 c3 : Nat) (L : List (List Int)) (w : World) (hr : Rs 0 w (.slice a0 n0 c0) L) (hnn : n0 = L.length) (hi : i < n0) (hq : n0 < 32) : Calls Try.prog 22 #[.agg #[.bool on, .slice a0 n0 c0, .slice a2 n2 c2, .slice a1 n1 c1, .slice a3 n3 c3], .int .i64 0, .int .i64 (i : Int)] w fun e w' => ∃ ma mc, e = .returned (.tuple #[.agg #[.bool on, .slice ma (n0 + 1) mc, .slice a2 n2 c2, .slice a1 n1 c1, .slice a3 n3 c3], .int .i64 0]) ∧ Rs 0 w' (.slice ma (n0 + 1) mc) (L ++ [L.getD i []]) ∧ w.grownBy w' none := by
  obtain ⟨g, ea, ec, rfl, hce, hbo, hle⟩ := hr.elem (show i < L.length by omega)
  have HRR := Lib.hid hr
  have HNN := Lib.hid hnn
  have HBO := Lib.hid hbo
  have HCE := Lib.hid hce
  obtain ⟨xs, hxs⟩ : ∃ xs, xs = L.getD i [] := ⟨_, rfl⟩
  rw [← hxs] at HCE HBO hle ⊢
  have hL : L.length ≤ 1000 := by omega
  clear hr hnn hbo hce hxs
  have q1 : (0 : Int) ≤ (i : Int) := by omega
  have q2 : (i : Int) < (n0 : Int) := by omega
  go_enter Try.func22, Try.ntmps22
  go_upto_region 2 with (first | (go_at_call 36; refine (of_0 on (some ⟨g, 0, none⟩) a1 a2 a3 n0 n1 n2 n3 c0 c1 c2 c3 _).mono ?_; rintro e x ⟨rfl, hg⟩; have hx : Hid (XB w (x.alloc (.cells #[.slice (some ⟨g, 0, none⟩) n0 c0, .slice a2 n2 c2] 43)) #[.bool on, .slice (some ⟨g, 0, none⟩) n0 c0, .slice a2 n2 c2, .slice a1 n1 c1, .slice a3 n3 c3] #[.bool false, .slice none 0 0, .slice none 0 0, .slice none 0 0, .slice none 0 0] x.heap.size #[.slice (some ⟨g, 0, none⟩) n0 c0, .slice a2 n2 c2]) := Lib.hid (.first hg); clear hg))
  obtain ⟨y, hy⟩ : ∃ y : World, y = x.alloc (.cells #[.slice (some ⟨g, 0, none⟩) n0 c0, .slice a2 n2 c2] 43) := ⟨_, rfl⟩
  rw [← hy] at hx ⊢
  obtain ⟨b8, hb8⟩ : ∃ b : Nat, b = x.heap.size := ⟨_, rfl⟩
  rw [← hb8] at hx ⊢
  clear hy hb8
  have k0 := (cell_of_row y b8 0 _ 43 (0, 0) hx.out.r).trans (show _ = some (.slice (some ⟨g, 0, none⟩) n0 c0) from rfl)
  have k1 := (cell_of_row y b8 1 _ 43 (0, 0) hx.out.r).trans (show _ = some (.slice a2 n2 c2) from rfl)
  have j0 := (cell_of_row y w.heap.size 0 _ 45 (0, 0) hx.out.b).trans (show _ = some (.bool on) from rfl)
  have M := Lib.hid (more_of _ _ L xs y.drew (HRR.out.kept (gn hx.out.g (grown_drew _ _))) ((HBO.out.kept (gn hx.out.g (grown_drew _ _)) (by simp)).bt) hle hL)
  have hce : y.drew.cell? ⟨g, i, none⟩ = some (.slice ea xs.length ec) := hx.out.g.cell HCE.out (by simp)
  have hce2 : y.cell? ⟨g, i, none⟩ = some (.slice ea xs.length ec) := hx.out.g.cell HCE.out (by simp)
  have hxd := Lib.hid (hx.out.kept (grown_drew y none))
  go_upto_region 6 with fail
  go_region_with (first | (go_at_call 38; refine M.out.mono ?_; rintro e y2 ⟨ma, mc, rfl, hm, hg⟩; rw [← HNN.out] at hm ⊢; have HM := Lib.hid hm; have hx2 := Lib.hid (hxd.out.kept hg); have k2 := (cell_of_row y2 b8 0 _ 43 (0, 0) hx2.out.r).trans (show _ = some (.slice (some ⟨g, 0, none⟩) n0 c0) from rfl); have z2 := blk_frozen hx2.out.r 0; clear hg hm))
  all_goals
    have hx3 := Lib.hid (hx2.out.set0 (.slice ma (n0 + 1) mc))
    have HM3 := Lib.hid (HM.out.far hx2.out.r (by decide) (by decide) (grownSet y2 b8 0 (.slice ma (n0 + 1) mc)))
    generalize y2.setCell ⟨b8, 0, none⟩ (.slice ma (n0 + 1) mc) = y3 at hx3 HM3 ⊢
    clear k0 k1 j0 k2 z2 HM hx hxd hx2 M hce hce2
    go_wp2_with (first | (refine wpList_load_row rfl 45 _ rfl w.heap.size rfl 45 _ (0, 0) _ hx3.out.b Try.underlying45 rfl (by kernel_rfl) ?_) | (refine wpList_load_row rfl 43 _ rfl b8 rfl 43 _ (0, 0) _ hx3.out.r Try.underlying43 rfl (by kernel_rfl) ?_) | (go_at_call 39; refine (with_0 on (some ⟨g, 0, none⟩) a1 a2 a3 n0 n1 n2 n3 c0 c1 c2 c3 ma a2 (n0 + 1) n2 mc c2 _).mono ?_; rintro e y4 ⟨rfl, hg⟩; have hx4 := Lib.hid (hx3.out.kept hg); have HM4 := Lib.hid (HM3.out.kept hg); clear hg) | (refine wpList_store_rowTo rfl 45 _ _ rfl rfl (w.heap.size + 1) #[.bool on, .slice ma (n0 + 1) mc, .slice a2 n2 c2, .slice a1 n1 c1, .slice a3 n3 c3] rfl rfl 45 _ hx4.out.n size45 rfl (fine_agg _ _ _ _ _ _ _ _ _ _ _ _ _) ?_))
    have HM5 := HM4.out.far hx4.out.n (by decide) (by decide) (grownSetRow y4 (w.heap.size + 1) #[.bool on, .slice ma (n0 + 1) mc, .slice a2 n2 c2, .slice a1 n1 c1, .slice a3 n3 c3])
    have hres := hx4.out.res (Y := #[.bool on, .slice ma (n0 + 1) mc, .slice a2 n2 c2, .slice a1 n1 c1, .slice a3 n3 c3])
    obtain ⟨z, hz⟩ : ∃ z : World, z = y4.setRow (w.heap.size + 1) #[.bool on, .slice ma (n0 + 1) mc, .slice a2 n2 c2, .slice a1 n1 c1, .slice a3 n3 c3] := ⟨_, rfl⟩
    rw [← hz] at hres HM5 ⊢
    have r0 := cell_of_row z (w.heap.size + 1) 0 _ 45 (0, 0) hres.2
    have r1 := cell_of_row z (w.heap.size + 1) 1 _ 45 (0, 0) hres.2
    have r2 := cell_of_row z (w.heap.size + 1) 2 _ 45 (0, 0) hres.2
    have r3 := cell_of_row z (w.heap.size + 1) 3 _ 45 (0, 0) hres.2
    have r4 := cell_of_row z (w.heap.size + 1) 4 _ 45 (0, 0) hres.2
    exact bodyPost_ret (v := .tuple #[.agg #[.bool on, .slice ma (n0 + 1) mc, .slice a2 n2 c2, .slice a1 n1 c1, .slice a3 n3 c3], .int .i64 0]) (by simp [results, Try.results22, go_sem, r0, r1, r2, r3, r4]) rfl ⟨ma, mc, rfl, HM5, hres.1⟩
set_option maxHeartbeats 1000000 in
theorem rtwin_out10 (n : Int) (on : Bool) (a0 a1 a2 a3 : Option Addr) (n0 n1 n2 n3 c0 c1 c2 c3 : Nat) (w : World) (hn : n < 0) : Calls Try.prog 22 #[.agg #[.bool on, .slice a0 n0 c0, .slice a2 n2 c2, .slice a1 n1 c1, .slice a3 n3 c3], .int .i64 1, .int .i64 n] w fun e w' => e = .returned (.tuple #[.agg #[.bool on, .slice a0 n0 c0, .slice a2 n2 c2, .slice a1 n1 c1, .slice a3 n3 c3], .int .i64 5]) ∧ w.grownBy w' none := by
  go_enter Try.func22, Try.ntmps22
  go_upto_region 2 with (first | (go_at_call 36; refine (of_1 on a0 a1 a2 a3 n0 n1 n2 n3 c0 c1 c2 c3 _).mono ?_; rintro e x ⟨rfl, hg⟩; have hx : Hid (XB w (x.alloc (.cells #[.slice a1 n1 c1, .slice a3 n3 c3] 43)) #[.bool on, .slice a0 n0 c0, .slice a2 n2 c2, .slice a1 n1 c1, .slice a3 n3 c3] #[.bool false, .slice none 0 0, .slice none 0 0, .slice none 0 0, .slice none 0 0] x.heap.size #[.slice a1 n1 c1, .slice a3 n3 c3]) := Lib.hid (.first hg); clear hg))
  obtain ⟨y, hy⟩ : ∃ y : World, y = x.alloc (.cells #[.slice a1 n1 c1, .slice a3 n3 c3] 43) := ⟨_, rfl⟩
  rw [← hy] at hx ⊢
  obtain ⟨b8, hb8⟩ : ∃ b : Nat, b = x.heap.size := ⟨_, rfl⟩
  rw [← hb8] at hx ⊢
  clear hy hb8
  have k0 := (cell_of_row y b8 0 _ 43 (0, 0) hx.out.r).trans (show _ = some (.slice a1 n1 c1) from rfl)
  have k1 := (cell_of_row y b8 1 _ 43 (0, 0) hx.out.r).trans (show _ = some (.slice a3 n3 c3) from rfl)
  have j0 := (cell_of_row y w.heap.size 0 _ 45 (0, 0) hx.out.b).trans (show _ = some (.bool on) from rfl)
  go_wp2_with (first | (refine wpList_load_row rfl 45 _ rfl w.heap.size rfl 45 _ (0, 0) _ hx.out.b Try.underlying45 rfl (by kernel_rfl) ?_) | (refine wpList_store_rowTo rfl 45 _ _ rfl rfl (w.heap.size + 1) #[.bool on, .slice a0 n0 c0, .slice a2 n2 c2, .slice a1 n1 c1, .slice a3 n3 c3] rfl rfl 45 _ hx.out.n size45 rfl (fine_agg _ _ _ _ _ _ _ _ _ _ _ _ _) ?_))
  have hres := hx.out.res (Y := #[.bool on, .slice a0 n0 c0, .slice a2 n2 c2, .slice a1 n1 c1, .slice a3 n3 c3])
  obtain ⟨z, hz⟩ : ∃ z : World, z = y.setRow (w.heap.size + 1) #[.bool on, .slice a0 n0 c0, .slice a2 n2 c2, .slice a1 n1 c1, .slice a3 n3 c3] := ⟨_, rfl⟩
  rw [← hz] at hres ⊢
  have r0 := cell_of_row z (w.heap.size + 1) 0 _ 45 (0, 0) hres.2
  have r1 := cell_of_row z (w.heap.size + 1) 1 _ 45 (0, 0) hres.2
  have r2 := cell_of_row z (w.heap.size + 1) 2 _ 45 (0, 0) hres.2
  have r3 := cell_of_row z (w.heap.size + 1) 3 _ 45 (0, 0) hres.2
  have r4 := cell_of_row z (w.heap.size + 1) 4 _ 45 (0, 0) hres.2
  exact bodyPost_ret (v := .tuple #[.agg #[.bool on, .slice a0 n0 c0, .slice a2 n2 c2, .slice a1 n1 c1, .slice a3 n3 c3], .int .i64 5]) (by simp [results, Try.results22, go_sem, r0, r1, r2, r3, r4]) rfl ⟨rfl, hres.1⟩
set_option maxHeartbeats 1000000 in
theorem rtwin_out11 (n : Int) (on : Bool) (a0 a1 a2 a3 : Option Addr) (n0 n1 n2 n3 c0 c1 c2 c3 : Nat) (w : World) (hn : 0 ≤ n) (hn2 : (n1 : Int) ≤ n) : Calls Try.prog 22 #[.agg #[.bool on, .slice a0 n0 c0, .slice a2 n2 c2, .slice a1 n1 c1, .slice a3 n3 c3], .int .i64 1, .int .i64 n] w fun e w' => e = .returned (.tuple #[.agg #[.bool on, .slice a0 n0 c0, .slice a2 n2 c2, .slice a1 n1 c1, .slice a3 n3 c3], .int .i64 5]) ∧ w.grownBy w' none := by
  go_enter Try.func22, Try.ntmps22
  go_upto_region 2 with (first | (go_at_call 36; refine (of_1 on a0 a1 a2 a3 n0 n1 n2 n3 c0 c1 c2 c3 _).mono ?_; rintro e x ⟨rfl, hg⟩; have hx : Hid (XB w (x.alloc (.cells #[.slice a1 n1 c1, .slice a3 n3 c3] 43)) #[.bool on, .slice a0 n0 c0, .slice a2 n2 c2, .slice a1 n1 c1, .slice a3 n3 c3] #[.bool false, .slice none 0 0, .slice none 0 0, .slice none 0 0, .slice none 0 0] x.heap.size #[.slice a1 n1 c1, .slice a3 n3 c3]) := Lib.hid (.first hg); clear hg))
  obtain ⟨y, hy⟩ : ∃ y : World, y = x.alloc (.cells #[.slice a1 n1 c1, .slice a3 n3 c3] 43) := ⟨_, rfl⟩
  rw [← hy] at hx ⊢
  obtain ⟨b8, hb8⟩ : ∃ b : Nat, b = x.heap.size := ⟨_, rfl⟩
  rw [← hb8] at hx ⊢
  clear hy hb8
  have k0 := (cell_of_row y b8 0 _ 43 (0, 0) hx.out.r).trans (show _ = some (.slice a1 n1 c1) from rfl)
  have k1 := (cell_of_row y b8 1 _ 43 (0, 0) hx.out.r).trans (show _ = some (.slice a3 n3 c3) from rfl)
  have j0 := (cell_of_row y w.heap.size 0 _ 45 (0, 0) hx.out.b).trans (show _ = some (.bool on) from rfl)
  go_wp2_with (first | (refine wpList_load_row rfl 45 _ rfl w.heap.size rfl 45 _ (0, 0) _ hx.out.b Try.underlying45 rfl (by kernel_rfl) ?_) | (refine wpList_store_rowTo rfl 45 _ _ rfl rfl (w.heap.size + 1) #[.bool on, .slice a0 n0 c0, .slice a2 n2 c2, .slice a1 n1 c1, .slice a3 n3 c3] rfl rfl 45 _ hx.out.n size45 rfl (fine_agg _ _ _ _ _ _ _ _ _ _ _ _ _) ?_))
  have hres := hx.out.res (Y := #[.bool on, .slice a0 n0 c0, .slice a2 n2 c2, .slice a1 n1 c1, .slice a3 n3 c3])
  obtain ⟨z, hz⟩ : ∃ z : World, z = y.setRow (w.heap.size + 1) #[.bool on, .slice a0 n0 c0, .slice a2 n2 c2, .slice a1 n1 c1, .slice a3 n3 c3] := ⟨_, rfl⟩
  rw [← hz] at hres ⊢
  have r0 := cell_of_row z (w.heap.size + 1) 0 _ 45 (0, 0) hres.2
  have r1 := cell_of_row z (w.heap.size + 1) 1 _ 45 (0, 0) hres.2
  have r2 := cell_of_row z (w.heap.size + 1) 2 _ 45 (0, 0) hres.2
  have r3 := cell_of_row z (w.heap.size + 1) 3 _ 45 (0, 0) hres.2
  have r4 := cell_of_row z (w.heap.size + 1) 4 _ 45 (0, 0) hres.2
  exact bodyPost_ret (v := .tuple #[.agg #[.bool on, .slice a0 n0 c0, .slice a2 n2 c2, .slice a1 n1 c1, .slice a3 n3 c3], .int .i64 5]) (by simp [results, Try.results22, go_sem, r0, r1, r2, r3, r4]) rfl ⟨rfl, hres.1⟩
set_option maxHeartbeats 1000000 in
theorem rtwin_many1 (n : Int) (on : Bool) (a0 a1 a2 a3 : Option Addr) (n0 n1 n2 n3 c0 c1 c2 c3 : Nat) (w : World) (hn : 0 ≤ n) (hn2 : n < (n1 : Int)) (hq : 32 ≤ n1) : Calls Try.prog 22 #[.agg #[.bool on, .slice a0 n0 c0, .slice a2 n2 c2, .slice a1 n1 c1, .slice a3 n3 c3], .int .i64 1, .int .i64 n] w fun e w' => e = .returned (.tuple #[.agg #[.bool on, .slice a0 n0 c0, .slice a2 n2 c2, .slice a1 n1 c1, .slice a3 n3 c3], .int .i64 3]) ∧ w.grownBy w' none := by
  go_enter Try.func22, Try.ntmps22
  go_upto_region 2 with (first | (go_at_call 36; refine (of_1 on a0 a1 a2 a3 n0 n1 n2 n3 c0 c1 c2 c3 _).mono ?_; rintro e x ⟨rfl, hg⟩; have hx : Hid (XB w (x.alloc (.cells #[.slice a1 n1 c1, .slice a3 n3 c3] 43)) #[.bool on, .slice a0 n0 c0, .slice a2 n2 c2, .slice a1 n1 c1, .slice a3 n3 c3] #[.bool false, .slice none 0 0, .slice none 0 0, .slice none 0 0, .slice none 0 0] x.heap.size #[.slice a1 n1 c1, .slice a3 n3 c3]) := Lib.hid (.first hg); clear hg))
  obtain ⟨y, hy⟩ : ∃ y : World, y = x.alloc (.cells #[.slice a1 n1 c1, .slice a3 n3 c3] 43) := ⟨_, rfl⟩
  rw [← hy] at hx ⊢
  obtain ⟨b8, hb8⟩ : ∃ b : Nat, b = x.heap.size := ⟨_, rfl⟩
  rw [← hb8] at hx ⊢
  clear hy hb8
  have k0 := (cell_of_row y b8 0 _ 43 (0, 0) hx.out.r).trans (show _ = some (.slice a1 n1 c1) from rfl)
  have k1 := (cell_of_row y b8 1 _ 43 (0, 0) hx.out.r).trans (show _ = some (.slice a3 n3 c3) from rfl)
  have j0 := (cell_of_row y w.heap.size 0 _ 45 (0, 0) hx.out.b).trans (show _ = some (.bool on) from rfl)
  go_wp2_with (first | (refine wpList_load_row rfl 45 _ rfl w.heap.size rfl 45 _ (0, 0) _ hx.out.b Try.underlying45 rfl (by kernel_rfl) ?_) | (refine wpList_store_rowTo rfl 45 _ _ rfl rfl (w.heap.size + 1) #[.bool on, .slice a0 n0 c0, .slice a2 n2 c2, .slice a1 n1 c1, .slice a3 n3 c3] rfl rfl 45 _ hx.out.n size45 rfl (fine_agg _ _ _ _ _ _ _ _ _ _ _ _ _) ?_))
  have hres := hx.out.res (Y := #[.bool on, .slice a0 n0 c0, .slice a2 n2 c2, .slice a1 n1 c1, .slice a3 n3 c3])
  obtain ⟨z, hz⟩ : ∃ z : World, z = y.setRow (w.heap.size + 1) #[.bool on, .slice a0 n0 c0, .slice a2 n2 c2, .slice a1 n1 c1, .slice a3 n3 c3] := ⟨_, rfl⟩
  rw [← hz] at hres ⊢
  have r0 := cell_of_row z (w.heap.size + 1) 0 _ 45 (0, 0) hres.2
  have r1 := cell_of_row z (w.heap.size + 1) 1 _ 45 (0, 0) hres.2
  have r2 := cell_of_row z (w.heap.size + 1) 2 _ 45 (0, 0) hres.2
  have r3 := cell_of_row z (w.heap.size + 1) 3 _ 45 (0, 0) hres.2
  have r4 := cell_of_row z (w.heap.size + 1) 4 _ 45 (0, 0) hres.2
  exact bodyPost_ret (v := .tuple #[.agg #[.bool on, .slice a0 n0 c0, .slice a2 n2 c2, .slice a1 n1 c1, .slice a3 n3 c3], .int .i64 3]) (by simp [results, Try.results22, go_sem, r0, r1, r2, r3, r4]) rfl ⟨rfl, hres.1⟩
set_option maxHeartbeats 2000000 in
theorem rtwin_ok1 (i : Nat) (on : Bool) (a0 a1 a2 a3 : Option Addr) (n0 n1 n2 n3 c0 c1 c2 c3 : Nat) (L : List (List Int)) (w : World) (hr : Rs 0 w (.slice a1 n1 c1) L) (hnn : n1 = L.length) (hi : i < n1) (hq : n1 < 32) : Calls Try.prog 22 #[.agg #[.bool on, .slice a0 n0 c0, .slice a2 n2 c2, .slice a1 n1 c1, .slice a3 n3 c3], .int .i64 1, .int .i64 (i : Int)] w fun e w' => ∃ ma mc, e = .returned (.tuple #[.agg #[.bool on, .slice a0 n0 c0, .slice a2 n2 c2, .slice ma (n1 + 1) mc, .slice a3 n3 c3], .int .i64 0]) ∧ Rs 0 w' (.slice ma (n1 + 1) mc) (L ++ [L.getD i []]) ∧ w.grownBy w' none := by
  obtain ⟨g, ea, ec, rfl, hce, hbo, hle⟩ := hr.elem (show i < L.length by omega)
  have HRR := Lib.hid hr
  have HNN := Lib.hid hnn
  have HBO := Lib.hid hbo
  have HCE := Lib.hid hce
  obtain ⟨xs, hxs⟩ : ∃ xs, xs = L.getD i [] := ⟨_, rfl⟩
  rw [← hxs] at HCE HBO hle ⊢
  have hL : L.length ≤ 1000 := by omega
  clear hr hnn hbo hce hxs
  have q1 : (0 : Int) ≤ (i : Int) := by omega
  have q2 : (i : Int) < (n1 : Int) := by omega
  go_enter Try.func22, Try.ntmps22
  go_upto_region 2 with (first | (go_at_call 36; refine (of_1 on a0 (some ⟨g, 0, none⟩) a2 a3 n0 n1 n2 n3 c0 c1 c2 c3 _).mono ?_; rintro e x ⟨rfl, hg⟩; have hx : Hid (XB w (x.alloc (.cells #[.slice (some ⟨g, 0, none⟩) n1 c1, .slice a3 n3 c3] 43)) #[.bool on, .slice a0 n0 c0, .slice a2 n2 c2, .slice (some ⟨g, 0, none⟩) n1 c1, .slice a3 n3 c3] #[.bool false, .slice none 0 0, .slice none 0 0, .slice none 0 0, .slice none 0 0] x.heap.size #[.slice (some ⟨g, 0, none⟩) n1 c1, .slice a3 n3 c3]) := Lib.hid (.first hg); clear hg))
  obtain ⟨y, hy⟩ : ∃ y : World, y = x.alloc (.cells #[.slice (some ⟨g, 0, none⟩) n1 c1, .slice a3 n3 c3] 43) := ⟨_, rfl⟩
  rw [← hy] at hx ⊢
  obtain ⟨b8, hb8⟩ : ∃ b : Nat, b = x.heap.size := ⟨_, rfl⟩
  rw [← hb8] at hx ⊢
  clear hy hb8
  have k0 := (cell_of_row y b8 0 _ 43 (0, 0) hx.out.r).trans (show _ = some (.slice (some ⟨g, 0, none⟩) n1 c1) from rfl)
  have k1 := (cell_of_row y b8 1 _ 43 (0, 0) hx.out.r).trans (show _ = some (.slice a3 n3 c3) from rfl)
  have j0 := (cell_of_row y w.heap.size 0 _ 45 (0, 0) hx.out.b).trans (show _ = some (.bool on) from rfl)
  have M := Lib.hid (more_of _ _ L xs y.drew (HRR.out.kept (gn hx.out.g (grown_drew _ _))) ((HBO.out.kept (gn hx.out.g (grown_drew _ _)) (by simp)).bt) hle hL)
  have hce : y.drew.cell? ⟨g, i, none⟩ = some (.slice ea xs.length ec) := hx.out.g.cell HCE.out (by simp)
  have hce2 : y.cell? ⟨g, i, none⟩ = some (.slice ea xs.length ec) := hx.out.g.cell HCE.out (by simp)
  have hxd := Lib.hid (hx.out.kept (grown_drew y none))
  go_upto_region 6 with fail
  go_region_with (first | (go_at_call 38; refine M.out.mono ?_; rintro e y2 ⟨ma, mc, rfl, hm, hg⟩; rw [← HNN.out] at hm ⊢; have HM := Lib.hid hm; have hx2 := Lib.hid (hxd.out.kept hg); have k2 := (cell_of_row y2 b8 0 _ 43 (0, 0) hx2.out.r).trans (show _ = some (.slice (some ⟨g, 0, none⟩) n1 c1) from rfl); have z2 := blk_frozen hx2.out.r 0; clear hg hm))
  all_goals
    have hx3 := Lib.hid (hx2.out.set0 (.slice ma (n1 + 1) mc))
    have HM3 := Lib.hid (HM.out.far hx2.out.r (by decide) (by decide) (grownSet y2 b8 0 (.slice ma (n1 + 1) mc)))
    generalize y2.setCell ⟨b8, 0, none⟩ (.slice ma (n1 + 1) mc) = y3 at hx3 HM3 ⊢
    clear k0 k1 j0 k2 z2 HM hx hxd hx2 M hce hce2
    go_wp2_with (first | (refine wpList_load_row rfl 45 _ rfl w.heap.size rfl 45 _ (0, 0) _ hx3.out.b Try.underlying45 rfl (by kernel_rfl) ?_) | (refine wpList_load_row rfl 43 _ rfl b8 rfl 43 _ (0, 0) _ hx3.out.r Try.underlying43 rfl (by kernel_rfl) ?_) | (go_at_call 39; refine (with_1 on a0 (some ⟨g, 0, none⟩) a2 a3 n0 n1 n2 n3 c0 c1 c2 c3 ma a3 (n1 + 1) n3 mc c3 _).mono ?_; rintro e y4 ⟨rfl, hg⟩; have hx4 := Lib.hid (hx3.out.kept hg); have HM4 := Lib.hid (HM3.out.kept hg); clear hg) | (refine wpList_store_rowTo rfl 45 _ _ rfl rfl (w.heap.size + 1) #[.bool on, .slice a0 n0 c0, .slice a2 n2 c2, .slice ma (n1 + 1) mc, .slice a3 n3 c3] rfl rfl 45 _ hx4.out.n size45 rfl (fine_agg _ _ _ _ _ _ _ _ _ _ _ _ _) ?_))
    have HM5 := HM4.out.far hx4.out.n (by decide) (by decide) (grownSetRow y4 (w.heap.size + 1) #[.bool on, .slice a0 n0 c0, .slice a2 n2 c2, .slice ma (n1 + 1) mc, .slice a3 n3 c3])
    have hres := hx4.out.res (Y := #[.bool on, .slice a0 n0 c0, .slice a2 n2 c2, .slice ma (n1 + 1) mc, .slice a3 n3 c3])
    obtain ⟨z, hz⟩ : ∃ z : World, z = y4.setRow (w.heap.size + 1) #[.bool on, .slice a0 n0 c0, .slice a2 n2 c2, .slice ma (n1 + 1) mc, .slice a3 n3 c3] := ⟨_, rfl⟩
    rw [← hz] at hres HM5 ⊢
    have r0 := cell_of_row z (w.heap.size + 1) 0 _ 45 (0, 0) hres.2
    have r1 := cell_of_row z (w.heap.size + 1) 1 _ 45 (0, 0) hres.2
    have r2 := cell_of_row z (w.heap.size + 1) 2 _ 45 (0, 0) hres.2
    have r3 := cell_of_row z (w.heap.size + 1) 3 _ 45 (0, 0) hres.2
    have r4 := cell_of_row z (w.heap.size + 1) 4 _ 45 (0, 0) hres.2
    exact bodyPost_ret (v := .tuple #[.agg #[.bool on, .slice a0 n0 c0, .slice a2 n2 c2, .slice ma (n1 + 1) mc, .slice a3 n3 c3], .int .i64 0]) (by simp [results, Try.results22, go_sem, r0, r1, r2, r3, r4]) rfl ⟨ma, mc, rfl, HM5, hres.1⟩
end Go.Proofs.Ytaidfcehicffbaa.W
