/-
  The reference's Data and Say, by value.
-/
import Derived.Test.YtaidfcehicffbaaB1
set_option linter.unusedVariables false
set_option linter.unusedSimpArgs false
namespace Go.Proofs.Ytaidfcehicffbaa.W
open Go.RowKit Go.Deep

/-- The two boxes of a reference's call, its argument and its result, and a direction's row. -/
structure XB (w0 w : World) (A Z : Array Value) (b8 : Nat) (R : Array Value) : Prop where
  g : w0.grownBy w none
  b : w.heap[w0.heap.size]? = some (.cells A 45 (0, 0))
  n : w.heap[w0.heap.size + 1]? = some (.cells Z 45 (0, 0))
  r : w.heap[b8]? = some (.cells R 43 (0, 0))
  l : w0.heap.size + 1 < b8
theorem XB.first {w x : World} {A Z R : Array Value} (hg : ((w.alloc (.cells A 45)).alloc (.cells Z 45)).grownBy x none) : XB w (x.alloc (.cells R 43)) A Z x.heap.size R := by
  have h1 := blk_kept (heap2_old' w (.cells A 45) (.cells Z 45)) hg (by simp)
  have h2 := blk_kept (heap2_new' w (.cells A 45) (.cells Z 45)) hg (by simp)
  have ha := World.grownBy_alloc x (.cells R 43) none
  exact ⟨gn (gn (two_alloc _ _ _) hg) ha, blk_kept h1 ha (by simp), blk_kept h2 ha (by simp), heap_alloc_new x _, blk_lt h2⟩
theorem XB.kept {w0 w x : World} {A Z R : Array Value} {b8 : Nat} (h : XB w0 w A Z b8 R) (hg : w.grownBy x none) : XB w0 x A Z b8 R :=
  ⟨gn h.g hg, blk_kept h.b hg (by simp), blk_kept h.n hg (by simp), blk_kept h.r hg (by simp), h.l⟩
theorem XB.set0 {w0 w : World} {A Z : Array Value} {b8 : Nat} {p q : Value} (h : XB w0 w A Z b8 #[p, q]) (v : Value) : XB w0 (w.setCell ⟨b8, 0, none⟩ v) A Z b8 #[v, q] :=
  ⟨grownNew h.g (grownSet _ _ _ _) (by have := h.l; omega), blk_far h.b _ _ _ (by have := h.l; omega), blk_far h.n _ _ _ (by have := h.l; omega), heap_setCell_same w b8 0 _ 43 v h.r, h.l⟩
theorem XB.set1 {w0 w : World} {A Z : Array Value} {b8 : Nat} {p q : Value} (h : XB w0 w A Z b8 #[p, q]) (v : Value) : XB w0 (w.setCell ⟨b8, 1, none⟩ v) A Z b8 #[p, v] :=
  ⟨grownNew h.g (grownSet _ _ _ _) (by have := h.l; omega), blk_far h.b _ _ _ (by have := h.l; omega), blk_far h.n _ _ _ (by have := h.l; omega), heap_setCell_same w b8 1 _ 43 v h.r, h.l⟩
theorem XB.res {w0 w : World} {A Z R Y : Array Value} {b8 : Nat} (h : XB w0 w A Z b8 R) : w0.grownBy (w.setRow (w0.heap.size + 1) Y) none ∧ (w.setRow (w0.heap.size + 1) Y).heap[w0.heap.size + 1]? = some (.cells Y 45 (0, 0)) :=
  ⟨grownNew h.g (grownSetRow _ _ _) (by omega), setRow_heap w (w0.heap.size + 1) _ Y 45 (0, 0) h.n⟩
theorem Rs.far {B r : Nat} {w w' : World} {v : Value} {L : List (List Int)} {cs : Array Value} {t : TypeId} (h : Rs B w v L) (hb : w.heap[r]? = some (.cells cs t (0, 0))) (h5 : t ≠ 5) (h28 : t ≠ 28) (hg : w.grownBy w' (some r)) : Rs B w' v L := by
  obtain ⟨X, h1, h2, h3⟩ := h
  exact ⟨X, h1, own_kept h2 hg (by rintro r ⟨⟩; exact own_far h2 hb (by simp; exact fun e => absurd e h28)), h3.kept hg (by rintro r ⟨⟩; exact h3.far hb (by simp; exact fun e => absurd e h5))⟩
theorem fine_agg (on : Bool) (a0 a1 a2 a3 : Option Addr) (n0 n1 n2 n3 c0 c1 c2 c3 : Nat) : ((#[.bool on, .slice a0 n0 c0, .slice a2 n2 c2, .slice a1 n1 c1, .slice a3 n3 c3] : Array Value).all (·.oneCell')) = true := by kernel_rfl
theorem size45 : (Try.prog.info? 45).map (·.size) = some 5 := by kernel_rfl
set_option maxHeartbeats 1000000 in
theorem rdata_bad (d : Int) (on : Bool) (a0 a1 a2 a3 : Option Addr) (n0 n1 n2 n3 c0 c1 c2 c3 : Nat) (va : Option Addr) (vn vc : Nat) (w : World) (hd : dOK d = false) : Calls Try.prog 20 #[.agg #[.bool on, .slice a0 n0 c0, .slice a2 n2 c2, .slice a1 n1 c1, .slice a3 n3 c3], .int .i64 d, .slice va vn vc] w fun e w' => e = .returned (.tuple #[.agg #[.bool on, .slice a0 n0 c0, .slice a2 n2 c2, .slice a1 n1 c1, .slice a3 n3 c3], .int .i64 5]) ∧ w.grownBy w' none := by
  have h01 : d ≠ 0 ∧ d ≠ 1 := by unfold dOK at hd; simp at hd; exact hd
  obtain ⟨h0, h1⟩ := h01
  have HD := Lib.hid hd
  clear hd
  go_enter Try.func20, Try.ntmps20
  go_upto_region 2 with (first | (go_at_call 36; refine (of_bad d on a0 a1 a2 a3 n0 n1 n2 n3 c0 c1 c2 c3 _ h0 h1).mono ?_; rintro e x ⟨rfl, hg⟩; have hx : Hid (XB w (x.alloc (.cells #[.slice none 0 0, .slice none 0 0] 43)) #[.bool on, .slice a0 n0 c0, .slice a2 n2 c2, .slice a1 n1 c1, .slice a3 n3 c3] #[.bool false, .slice none 0 0, .slice none 0 0, .slice none 0 0, .slice none 0 0] x.heap.size #[.slice none 0 0, .slice none 0 0]) := Lib.hid (.first hg); clear hg))
  obtain ⟨y, hy⟩ : ∃ y : World, y = x.alloc (.cells #[.slice none 0 0, .slice none 0 0] 43) := ⟨_, rfl⟩
  rw [← hy] at hx ⊢
  obtain ⟨b8, hb8⟩ : ∃ b : Nat, b = x.heap.size := ⟨_, rfl⟩
  rw [← hb8] at hx ⊢
  clear hy hb8
  have k0 := (cell_of_row y b8 0 _ 43 (0, 0) hx.out.r).trans (show _ = some (.slice none 0 0) from rfl)
  have k1 := (cell_of_row y b8 1 _ 43 (0, 0) hx.out.r).trans (show _ = some (.slice none 0 0) from rfl)
  have j0 := (cell_of_row y w.heap.size 0 _ 45 (0, 0) hx.out.b).trans (show _ = some (.bool on) from rfl)
  go_wp2_with (first | (go_at_call 37; refine (dirok_of _ _).mono ?_; rintro e y ⟨rfl, rfl⟩; rw [HD.out]) | (refine wpList_load_row rfl 45 _ rfl w.heap.size rfl 45 _ (0, 0) _ hx.out.b Try.underlying45 rfl (by kernel_rfl) ?_) | (refine wpList_store_rowTo rfl 45 _ _ rfl rfl (w.heap.size + 1) #[.bool on, .slice a0 n0 c0, .slice a2 n2 c2, .slice a1 n1 c1, .slice a3 n3 c3] rfl rfl 45 _ hx.out.n size45 rfl (fine_agg _ _ _ _ _ _ _ _ _ _ _ _ _) ?_))
  have hres := hx.out.res (Y := #[.bool on, .slice a0 n0 c0, .slice a2 n2 c2, .slice a1 n1 c1, .slice a3 n3 c3])
  obtain ⟨z, hz⟩ : ∃ z : World, z = y.setRow (w.heap.size + 1) #[.bool on, .slice a0 n0 c0, .slice a2 n2 c2, .slice a1 n1 c1, .slice a3 n3 c3] := ⟨_, rfl⟩
  rw [← hz] at hres ⊢
  have r0 := cell_of_row z (w.heap.size + 1) 0 _ 45 (0, 0) hres.2
  have r1 := cell_of_row z (w.heap.size + 1) 1 _ 45 (0, 0) hres.2
  have r2 := cell_of_row z (w.heap.size + 1) 2 _ 45 (0, 0) hres.2
  have r3 := cell_of_row z (w.heap.size + 1) 3 _ 45 (0, 0) hres.2
  have r4 := cell_of_row z (w.heap.size + 1) 4 _ 45 (0, 0) hres.2
  exact bodyPost_ret (v := .tuple #[.agg #[.bool on, .slice a0 n0 c0, .slice a2 n2 c2, .slice a1 n1 c1, .slice a3 n3 c3], .int .i64 5]) (by simp [results, Try.results20, go_sem, r0, r1, r2, r3, r4]) rfl ⟨rfl, hres.1⟩
set_option maxHeartbeats 1000000 in
theorem rsay_bad (d : Int) (on : Bool) (a0 a1 a2 a3 : Option Addr) (n0 n1 n2 n3 c0 c1 c2 c3 : Nat) (va : Option Addr) (vn vc : Nat) (w : World) (hd : dOK d = false) : Calls Try.prog 23 #[.agg #[.bool on, .slice a0 n0 c0, .slice a2 n2 c2, .slice a1 n1 c1, .slice a3 n3 c3], .int .i64 d, .slice va vn vc] w fun e w' => e = .returned (.tuple #[.agg #[.bool on, .slice a0 n0 c0, .slice a2 n2 c2, .slice a1 n1 c1, .slice a3 n3 c3], .int .i64 5]) ∧ w.grownBy w' none := by
  have h01 : d ≠ 0 ∧ d ≠ 1 := by unfold dOK at hd; simp at hd; exact hd
  obtain ⟨h0, h1⟩ := h01
  have HD := Lib.hid hd
  clear hd
  go_enter Try.func23, Try.ntmps23
  go_upto_region 2 with (first | (go_at_call 36; refine (of_bad d on a0 a1 a2 a3 n0 n1 n2 n3 c0 c1 c2 c3 _ h0 h1).mono ?_; rintro e x ⟨rfl, hg⟩; have hx : Hid (XB w (x.alloc (.cells #[.slice none 0 0, .slice none 0 0] 43)) #[.bool on, .slice a0 n0 c0, .slice a2 n2 c2, .slice a1 n1 c1, .slice a3 n3 c3] #[.bool false, .slice none 0 0, .slice none 0 0, .slice none 0 0, .slice none 0 0] x.heap.size #[.slice none 0 0, .slice none 0 0]) := Lib.hid (.first hg); clear hg))
  obtain ⟨y, hy⟩ : ∃ y : World, y = x.alloc (.cells #[.slice none 0 0, .slice none 0 0] 43) := ⟨_, rfl⟩
  rw [← hy] at hx ⊢
  obtain ⟨b8, hb8⟩ : ∃ b : Nat, b = x.heap.size := ⟨_, rfl⟩
  rw [← hb8] at hx ⊢
  clear hy hb8
  have k0 := (cell_of_row y b8 0 _ 43 (0, 0) hx.out.r).trans (show _ = some (.slice none 0 0) from rfl)
  have k1 := (cell_of_row y b8 1 _ 43 (0, 0) hx.out.r).trans (show _ = some (.slice none 0 0) from rfl)
  have j0 := (cell_of_row y w.heap.size 0 _ 45 (0, 0) hx.out.b).trans (show _ = some (.bool on) from rfl)
  go_wp2_with (first | (go_at_call 37; refine (dirok_of _ _).mono ?_; rintro e y ⟨rfl, rfl⟩; rw [HD.out]) | (refine wpList_load_row rfl 45 _ rfl w.heap.size rfl 45 _ (0, 0) _ hx.out.b Try.underlying45 rfl (by kernel_rfl) ?_) | (refine wpList_store_rowTo rfl 45 _ _ rfl rfl (w.heap.size + 1) #[.bool on, .slice a0 n0 c0, .slice a2 n2 c2, .slice a1 n1 c1, .slice a3 n3 c3] rfl rfl 45 _ hx.out.n size45 rfl (fine_agg _ _ _ _ _ _ _ _ _ _ _ _ _) ?_))
  have hres := hx.out.res (Y := #[.bool on, .slice a0 n0 c0, .slice a2 n2 c2, .slice a1 n1 c1, .slice a3 n3 c3])
  obtain ⟨z, hz⟩ : ∃ z : World, z = y.setRow (w.heap.size + 1) #[.bool on, .slice a0 n0 c0, .slice a2 n2 c2, .slice a1 n1 c1, .slice a3 n3 c3] := ⟨_, rfl⟩
  rw [← hz] at hres ⊢
  have r0 := cell_of_row z (w.heap.size + 1) 0 _ 45 (0, 0) hres.2
  have r1 := cell_of_row z (w.heap.size + 1) 1 _ 45 (0, 0) hres.2
  have r2 := cell_of_row z (w.heap.size + 1) 2 _ 45 (0, 0) hres.2
  have r3 := cell_of_row z (w.heap.size + 1) 3 _ 45 (0, 0) hres.2
  have r4 := cell_of_row z (w.heap.size + 1) 4 _ 45 (0, 0) hres.2
  exact bodyPost_ret (v := .tuple #[.agg #[.bool on, .slice a0 n0 c0, .slice a2 n2 c2, .slice a1 n1 c1, .slice a3 n3 c3], .int .i64 5]) (by simp [results, Try.results23, go_sem, r0, r1, r2, r3, r4]) rfl ⟨rfl, hres.1⟩
set_option maxHeartbeats 1000000 in
theorem rdata_down0 (a0 a1 a2 a3 : Option Addr) (n0 n1 n2 n3 c0 c1 c2 c3 : Nat) (va : Option Addr) (vn vc : Nat) (w : World) : Calls Try.prog 20 #[.agg #[.bool false, .slice a0 n0 c0, .slice a2 n2 c2, .slice a1 n1 c1, .slice a3 n3 c3], .int .i64 0, .slice va vn vc] w fun e w' => e = .returned (.tuple #[.agg #[.bool false, .slice a0 n0 c0, .slice a2 n2 c2, .slice a1 n1 c1, .slice a3 n3 c3], .int .i64 250]) ∧ w.grownBy w' none := by
  go_enter Try.func20, Try.ntmps20
  go_upto_region 2 with (first | (go_at_call 36; refine (of_0 false a0 a1 a2 a3 n0 n1 n2 n3 c0 c1 c2 c3 _).mono ?_; rintro e x ⟨rfl, hg⟩; have hx : Hid (XB w (x.alloc (.cells #[.slice a0 n0 c0, .slice a2 n2 c2] 43)) #[.bool false, .slice a0 n0 c0, .slice a2 n2 c2, .slice a1 n1 c1, .slice a3 n3 c3] #[.bool false, .slice none 0 0, .slice none 0 0, .slice none 0 0, .slice none 0 0] x.heap.size #[.slice a0 n0 c0, .slice a2 n2 c2]) := Lib.hid (.first hg); clear hg))
  obtain ⟨y, hy⟩ : ∃ y : World, y = x.alloc (.cells #[.slice a0 n0 c0, .slice a2 n2 c2] 43) := ⟨_, rfl⟩
  rw [← hy] at hx ⊢
  obtain ⟨b8, hb8⟩ : ∃ b : Nat, b = x.heap.size := ⟨_, rfl⟩
  rw [← hb8] at hx ⊢
  clear hy hb8
  have k0 := (cell_of_row y b8 0 _ 43 (0, 0) hx.out.r).trans (show _ = some (.slice a0 n0 c0) from rfl)
  have k1 := (cell_of_row y b8 1 _ 43 (0, 0) hx.out.r).trans (show _ = some (.slice a2 n2 c2) from rfl)
  have j0 := (cell_of_row y w.heap.size 0 _ 45 (0, 0) hx.out.b).trans (show _ = some (.bool false) from rfl)
  go_wp2_with (first | (go_at_call 37; refine (dirok_of _ _).mono ?_; rintro e y ⟨rfl, rfl⟩) | (refine wpList_load_row rfl 45 _ rfl w.heap.size rfl 45 _ (0, 0) _ hx.out.b Try.underlying45 rfl (by kernel_rfl) ?_) | (refine wpList_store_rowTo rfl 45 _ _ rfl rfl (w.heap.size + 1) #[.bool false, .slice a0 n0 c0, .slice a2 n2 c2, .slice a1 n1 c1, .slice a3 n3 c3] rfl rfl 45 _ hx.out.n size45 rfl (fine_agg _ _ _ _ _ _ _ _ _ _ _ _ _) ?_))
  have hres := hx.out.res (Y := #[.bool false, .slice a0 n0 c0, .slice a2 n2 c2, .slice a1 n1 c1, .slice a3 n3 c3])
  obtain ⟨z, hz⟩ : ∃ z : World, z = y.setRow (w.heap.size + 1) #[.bool false, .slice a0 n0 c0, .slice a2 n2 c2, .slice a1 n1 c1, .slice a3 n3 c3] := ⟨_, rfl⟩
  rw [← hz] at hres ⊢
  have r0 := cell_of_row z (w.heap.size + 1) 0 _ 45 (0, 0) hres.2
  have r1 := cell_of_row z (w.heap.size + 1) 1 _ 45 (0, 0) hres.2
  have r2 := cell_of_row z (w.heap.size + 1) 2 _ 45 (0, 0) hres.2
  have r3 := cell_of_row z (w.heap.size + 1) 3 _ 45 (0, 0) hres.2
  have r4 := cell_of_row z (w.heap.size + 1) 4 _ 45 (0, 0) hres.2
  exact bodyPost_ret (v := .tuple #[.agg #[.bool false, .slice a0 n0 c0, .slice a2 n2 c2, .slice a1 n1 c1, .slice a3 n3 c3], .int .i64 250]) (by simp [results, Try.results20, go_sem, r0, r1, r2, r3, r4]) rfl ⟨rfl, hres.1⟩
set_option maxHeartbeats 1000000 in
theorem rdata_long0 (a0 a1 a2 a3 : Option Addr) (n0 n1 n2 n3 c0 c1 c2 c3 : Nat) (va : Option Addr) (vn vc : Nat) (w : World) (hx2 : 2048 < vn) : Calls Try.prog 20 #[.agg #[.bool true, .slice a0 n0 c0, .slice a2 n2 c2, .slice a1 n1 c1, .slice a3 n3 c3], .int .i64 0, .slice va vn vc] w fun e w' => e = .returned (.tuple #[.agg #[.bool true, .slice a0 n0 c0, .slice a2 n2 c2, .slice a1 n1 c1, .slice a3 n3 c3], .int .i64 2]) ∧ w.grownBy w' none := by
  go_enter Try.func20, Try.ntmps20
  go_upto_region 2 with (first | (go_at_call 36; refine (of_0 true a0 a1 a2 a3 n0 n1 n2 n3 c0 c1 c2 c3 _).mono ?_; rintro e x ⟨rfl, hg⟩; have hx : Hid (XB w (x.alloc (.cells #[.slice a0 n0 c0, .slice a2 n2 c2] 43)) #[.bool true, .slice a0 n0 c0, .slice a2 n2 c2, .slice a1 n1 c1, .slice a3 n3 c3] #[.bool false, .slice none 0 0, .slice none 0 0, .slice none 0 0, .slice none 0 0] x.heap.size #[.slice a0 n0 c0, .slice a2 n2 c2]) := Lib.hid (.first hg); clear hg))
  obtain ⟨y, hy⟩ : ∃ y : World, y = x.alloc (.cells #[.slice a0 n0 c0, .slice a2 n2 c2] 43) := ⟨_, rfl⟩
  rw [← hy] at hx ⊢
  obtain ⟨b8, hb8⟩ : ∃ b : Nat, b = x.heap.size := ⟨_, rfl⟩
  rw [← hb8] at hx ⊢
  clear hy hb8
  have k0 := (cell_of_row y b8 0 _ 43 (0, 0) hx.out.r).trans (show _ = some (.slice a0 n0 c0) from rfl)
  have k1 := (cell_of_row y b8 1 _ 43 (0, 0) hx.out.r).trans (show _ = some (.slice a2 n2 c2) from rfl)
  have j0 := (cell_of_row y w.heap.size 0 _ 45 (0, 0) hx.out.b).trans (show _ = some (.bool true) from rfl)
  go_wp2_with (first | (go_at_call 37; refine (dirok_of _ _).mono ?_; rintro e y ⟨rfl, rfl⟩) | (refine wpList_load_row rfl 45 _ rfl w.heap.size rfl 45 _ (0, 0) _ hx.out.b Try.underlying45 rfl (by kernel_rfl) ?_) | (refine wpList_store_rowTo rfl 45 _ _ rfl rfl (w.heap.size + 1) #[.bool true, .slice a0 n0 c0, .slice a2 n2 c2, .slice a1 n1 c1, .slice a3 n3 c3] rfl rfl 45 _ hx.out.n size45 rfl (fine_agg _ _ _ _ _ _ _ _ _ _ _ _ _) ?_))
  have hres := hx.out.res (Y := #[.bool true, .slice a0 n0 c0, .slice a2 n2 c2, .slice a1 n1 c1, .slice a3 n3 c3])
  obtain ⟨z, hz⟩ : ∃ z : World, z = y.setRow (w.heap.size + 1) #[.bool true, .slice a0 n0 c0, .slice a2 n2 c2, .slice a1 n1 c1, .slice a3 n3 c3] := ⟨_, rfl⟩
  rw [← hz] at hres ⊢
  have r0 := cell_of_row z (w.heap.size + 1) 0 _ 45 (0, 0) hres.2
  have r1 := cell_of_row z (w.heap.size + 1) 1 _ 45 (0, 0) hres.2
  have r2 := cell_of_row z (w.heap.size + 1) 2 _ 45 (0, 0) hres.2
  have r3 := cell_of_row z (w.heap.size + 1) 3 _ 45 (0, 0) hres.2
  have r4 := cell_of_row z (w.heap.size + 1) 4 _ 45 (0, 0) hres.2
  exact bodyPost_ret (v := .tuple #[.agg #[.bool true, .slice a0 n0 c0, .slice a2 n2 c2, .slice a1 n1 c1, .slice a3 n3 c3], .int .i64 2]) (by simp [results, Try.results20, go_sem, r0, r1, r2, r3, r4]) rfl ⟨rfl, hres.1⟩
set_option maxHeartbeats 1000000 in
theorem rdata_many0 (a0 a1 a2 a3 : Option Addr) (n0 n1 n2 n3 c0 c1 c2 c3 : Nat) (va : Option Addr) (vn vc : Nat) (w : World) (hx2 : vn ≤ 2048) (hq : 32 ≤ n0) : Calls Try.prog 20 #[.agg #[.bool true, .slice a0 n0 c0, .slice a2 n2 c2, .slice a1 n1 c1, .slice a3 n3 c3], .int .i64 0, .slice va vn vc] w fun e w' => e = .returned (.tuple #[.agg #[.bool true, .slice a0 n0 c0, .slice a2 n2 c2, .slice a1 n1 c1, .slice a3 n3 c3], .int .i64 3]) ∧ w.grownBy w' none := by
  go_enter Try.func20, Try.ntmps20
  go_upto_region 2 with (first | (go_at_call 36; refine (of_0 true a0 a1 a2 a3 n0 n1 n2 n3 c0 c1 c2 c3 _).mono ?_; rintro e x ⟨rfl, hg⟩; have hx : Hid (XB w (x.alloc (.cells #[.slice a0 n0 c0, .slice a2 n2 c2] 43)) #[.bool true, .slice a0 n0 c0, .slice a2 n2 c2, .slice a1 n1 c1, .slice a3 n3 c3] #[.bool false, .slice none 0 0, .slice none 0 0, .slice none 0 0, .slice none 0 0] x.heap.size #[.slice a0 n0 c0, .slice a2 n2 c2]) := Lib.hid (.first hg); clear hg))
  obtain ⟨y, hy⟩ : ∃ y : World, y = x.alloc (.cells #[.slice a0 n0 c0, .slice a2 n2 c2] 43) := ⟨_, rfl⟩
  rw [← hy] at hx ⊢
  obtain ⟨b8, hb8⟩ : ∃ b : Nat, b = x.heap.size := ⟨_, rfl⟩
  rw [← hb8] at hx ⊢
  clear hy hb8
  have k0 := (cell_of_row y b8 0 _ 43 (0, 0) hx.out.r).trans (show _ = some (.slice a0 n0 c0) from rfl)
  have k1 := (cell_of_row y b8 1 _ 43 (0, 0) hx.out.r).trans (show _ = some (.slice a2 n2 c2) from rfl)
  have j0 := (cell_of_row y w.heap.size 0 _ 45 (0, 0) hx.out.b).trans (show _ = some (.bool true) from rfl)
  go_wp2_with (first | (go_at_call 37; refine (dirok_of _ _).mono ?_; rintro e y ⟨rfl, rfl⟩) | (refine wpList_load_row rfl 45 _ rfl w.heap.size rfl 45 _ (0, 0) _ hx.out.b Try.underlying45 rfl (by kernel_rfl) ?_) | (refine wpList_store_rowTo rfl 45 _ _ rfl rfl (w.heap.size + 1) #[.bool true, .slice a0 n0 c0, .slice a2 n2 c2, .slice a1 n1 c1, .slice a3 n3 c3] rfl rfl 45 _ hx.out.n size45 rfl (fine_agg _ _ _ _ _ _ _ _ _ _ _ _ _) ?_))
  have hres := hx.out.res (Y := #[.bool true, .slice a0 n0 c0, .slice a2 n2 c2, .slice a1 n1 c1, .slice a3 n3 c3])
  obtain ⟨z, hz⟩ : ∃ z : World, z = y.setRow (w.heap.size + 1) #[.bool true, .slice a0 n0 c0, .slice a2 n2 c2, .slice a1 n1 c1, .slice a3 n3 c3] := ⟨_, rfl⟩
  rw [← hz] at hres ⊢
  have r0 := cell_of_row z (w.heap.size + 1) 0 _ 45 (0, 0) hres.2
  have r1 := cell_of_row z (w.heap.size + 1) 1 _ 45 (0, 0) hres.2
  have r2 := cell_of_row z (w.heap.size + 1) 2 _ 45 (0, 0) hres.2
  have r3 := cell_of_row z (w.heap.size + 1) 3 _ 45 (0, 0) hres.2
  have r4 := cell_of_row z (w.heap.size + 1) 4 _ 45 (0, 0) hres.2
  exact bodyPost_ret (v := .tuple #[.agg #[.bool true, .slice a0 n0 c0, .slice a2 n2 c2, .slice a1 n1 c1, .slice a3 n3 c3], .int .i64 3]) (by simp [results, Try.results20, go_sem, r0, r1, r2, r3, r4]) rfl ⟨rfl, hres.1⟩
set_option maxHeartbeats 2000000 in
theorem rdata_ok0 (a0 a1 a2 a3 : Option Addr) (n0 n1 n2 n3 c0 c1 c2 c3 : Nat) (v : Value) (xs : List Int) (L : List (List Int)) (w : World) (hv : Bt w v xs) (hl : xs.length ≤ 4096) (hr : Rs 0 w (.slice a0 n0 c0) L) (hn : L.length ≤ 1000) (hnn : n0 = L.length) (hx2 : xs.length ≤ 2048) (hq : n0 < 32) : Calls Try.prog 20 #[.agg #[.bool true, .slice a0 n0 c0, .slice a2 n2 c2, .slice a1 n1 c1, .slice a3 n3 c3], .int .i64 0, v] w fun e w' => ∃ ma mc, e = .returned (.tuple #[.agg #[.bool true, .slice ma (n0 + 1) mc, .slice a2 n2 c2, .slice a1 n1 c1, .slice a3 n3 c3], .int .i64 0]) ∧ Rs 0 w' (.slice ma (n0 + 1) mc) (L ++ [xs]) ∧ w.grownBy w' none := by
  obtain ⟨va, vc, rfl, _⟩ := hv.len
  have HV := Lib.hid hv
  have HRR := Lib.hid hr
  have HNN := Lib.hid hnn
  clear hv hr hnn
  go_enter Try.func20, Try.ntmps20
  go_upto_region 2 with (first | (go_at_call 36; refine (of_0 true a0 a1 a2 a3 n0 n1 n2 n3 c0 c1 c2 c3 _).mono ?_; rintro e x ⟨rfl, hg⟩; have hx : Hid (XB w (x.alloc (.cells #[.slice a0 n0 c0, .slice a2 n2 c2] 43)) #[.bool true, .slice a0 n0 c0, .slice a2 n2 c2, .slice a1 n1 c1, .slice a3 n3 c3] #[.bool false, .slice none 0 0, .slice none 0 0, .slice none 0 0, .slice none 0 0] x.heap.size #[.slice a0 n0 c0, .slice a2 n2 c2]) := Lib.hid (.first hg); clear hg))
  obtain ⟨y, hy⟩ : ∃ y : World, y = x.alloc (.cells #[.slice a0 n0 c0, .slice a2 n2 c2] 43) := ⟨_, rfl⟩
  rw [← hy] at hx ⊢
  obtain ⟨b8, hb8⟩ : ∃ b : Nat, b = x.heap.size := ⟨_, rfl⟩
  rw [← hb8] at hx ⊢
  clear hy hb8
  have k0 := (cell_of_row y b8 0 _ 43 (0, 0) hx.out.r).trans (show _ = some (.slice a0 n0 c0) from rfl)
  have k1 := (cell_of_row y b8 1 _ 43 (0, 0) hx.out.r).trans (show _ = some (.slice a2 n2 c2) from rfl)
  have j0 := (cell_of_row y w.heap.size 0 _ 45 (0, 0) hx.out.b).trans (show _ = some (.bool true) from rfl)
  have M := Lib.hid (more_of _ _ L xs y (HRR.out.kept hx.out.g) (HV.out.kept hx.out.g (by simp)) hl hn)
  go_upto_region 11 with (first | (go_at_call 37; refine (dirok_of _ _).mono ?_; rintro e y ⟨rfl, rfl⟩) | (go_at_call 38; refine M.out.mono ?_; rintro e y2 ⟨ma, mc, rfl, hm, hg⟩; rw [← HNN.out] at hm ⊢; have HM := Lib.hid hm; have hx2 := Lib.hid (hx.out.kept hg); have k2 := (cell_of_row y2 b8 0 _ 43 (0, 0) hx2.out.r).trans (show _ = some (.slice a0 n0 c0) from rfl); have z2 := blk_frozen hx2.out.r 0; clear hg hm))
  have hx3 := Lib.hid (hx2.out.set0 (.slice ma (n0 + 1) mc))
  have HM3 := Lib.hid (HM.out.far hx2.out.r (by decide) (by decide) (grownSet y2 b8 0 (.slice ma (n0 + 1) mc)))
  generalize y2.setCell ⟨b8, 0, none⟩ (.slice ma (n0 + 1) mc) = y3 at hx3 HM3 ⊢
  clear k0 k1 j0 k2 z2 HM hx hx2 M
  go_wp2_with (first | (refine wpList_load_row rfl 45 _ rfl w.heap.size rfl 45 _ (0, 0) _ hx3.out.b Try.underlying45 rfl (by kernel_rfl) ?_) | (refine wpList_load_row rfl 43 _ rfl b8 rfl 43 _ (0, 0) _ hx3.out.r Try.underlying43 rfl (by kernel_rfl) ?_) | (go_at_call 39; refine (with_0 true a0 a1 a2 a3 n0 n1 n2 n3 c0 c1 c2 c3 ma a2 (n0 + 1) n2 mc c2 _).mono ?_; rintro e y4 ⟨rfl, hg⟩; have hx4 := Lib.hid (hx3.out.kept hg); have HM4 := Lib.hid (HM3.out.kept hg); clear hg) | (refine wpList_store_rowTo rfl 45 _ _ rfl rfl (w.heap.size + 1) #[.bool true, .slice ma (n0 + 1) mc, .slice a2 n2 c2, .slice a1 n1 c1, .slice a3 n3 c3] rfl rfl 45 _ hx4.out.n size45 rfl (fine_agg _ _ _ _ _ _ _ _ _ _ _ _ _) ?_))
  have HM5 := HM4.out.far hx4.out.n (by decide) (by decide) (grownSetRow y4 (w.heap.size + 1) #[.bool true, .slice ma (n0 + 1) mc, .slice a2 n2 c2, .slice a1 n1 c1, .slice a3 n3 c3])
  have hres := hx4.out.res (Y := #[.bool true, .slice ma (n0 + 1) mc, .slice a2 n2 c2, .slice a1 n1 c1, .slice a3 n3 c3])
  obtain ⟨z, hz⟩ : ∃ z : World, z = y4.setRow (w.heap.size + 1) #[.bool true, .slice ma (n0 + 1) mc, .slice a2 n2 c2, .slice a1 n1 c1, .slice a3 n3 c3] := ⟨_, rfl⟩
  rw [← hz] at hres HM5 ⊢
  have r0 := cell_of_row z (w.heap.size + 1) 0 _ 45 (0, 0) hres.2
  have r1 := cell_of_row z (w.heap.size + 1) 1 _ 45 (0, 0) hres.2
  have r2 := cell_of_row z (w.heap.size + 1) 2 _ 45 (0, 0) hres.2
  have r3 := cell_of_row z (w.heap.size + 1) 3 _ 45 (0, 0) hres.2
  have r4 := cell_of_row z (w.heap.size + 1) 4 _ 45 (0, 0) hres.2
  exact bodyPost_ret (v := .tuple #[.agg #[.bool true, .slice ma (n0 + 1) mc, .slice a2 n2 c2, .slice a1 n1 c1, .slice a3 n3 c3], .int .i64 0]) (by simp [results, Try.results20, go_sem, r0, r1, r2, r3, r4]) rfl ⟨ma, mc, rfl, HM5, hres.1⟩
set_option maxHeartbeats 1000000 in
theorem rdata_down1 (a0 a1 a2 a3 : Option Addr) (n0 n1 n2 n3 c0 c1 c2 c3 : Nat) (va : Option Addr) (vn vc : Nat) (w : World) : Calls Try.prog 20 #[.agg #[.bool false, .slice a0 n0 c0, .slice a2 n2 c2, .slice a1 n1 c1, .slice a3 n3 c3], .int .i64 1, .slice va vn vc] w fun e w' => e = .returned (.tuple #[.agg #[.bool false, .slice a0 n0 c0, .slice a2 n2 c2, .slice a1 n1 c1, .slice a3 n3 c3], .int .i64 250]) ∧ w.grownBy w' none := by
  go_enter Try.func20, Try.ntmps20
  go_upto_region 2 with (first | (go_at_call 36; refine (of_1 false a0 a1 a2 a3 n0 n1 n2 n3 c0 c1 c2 c3 _).mono ?_; rintro e x ⟨rfl, hg⟩; have hx : Hid (XB w (x.alloc (.cells #[.slice a1 n1 c1, .slice a3 n3 c3] 43)) #[.bool false, .slice a0 n0 c0, .slice a2 n2 c2, .slice a1 n1 c1, .slice a3 n3 c3] #[.bool false, .slice none 0 0, .slice none 0 0, .slice none 0 0, .slice none 0 0] x.heap.size #[.slice a1 n1 c1, .slice a3 n3 c3]) := Lib.hid (.first hg); clear hg))
  obtain ⟨y, hy⟩ : ∃ y : World, y = x.alloc (.cells #[.slice a1 n1 c1, .slice a3 n3 c3] 43) := ⟨_, rfl⟩
  rw [← hy] at hx ⊢
  obtain ⟨b8, hb8⟩ : ∃ b : Nat, b = x.heap.size := ⟨_, rfl⟩
  rw [← hb8] at hx ⊢
  clear hy hb8
  have k0 := (cell_of_row y b8 0 _ 43 (0, 0) hx.out.r).trans (show _ = some (.slice a1 n1 c1) from rfl)
  have k1 := (cell_of_row y b8 1 _ 43 (0, 0) hx.out.r).trans (show _ = some (.slice a3 n3 c3) from rfl)
  have j0 := (cell_of_row y w.heap.size 0 _ 45 (0, 0) hx.out.b).trans (show _ = some (.bool false) from rfl)
  go_wp2_with (first | (go_at_call 37; refine (dirok_of _ _).mono ?_; rintro e y ⟨rfl, rfl⟩) | (refine wpList_load_row rfl 45 _ rfl w.heap.size rfl 45 _ (0, 0) _ hx.out.b Try.underlying45 rfl (by kernel_rfl) ?_) | (refine wpList_store_rowTo rfl 45 _ _ rfl rfl (w.heap.size + 1) #[.bool false, .slice a0 n0 c0, .slice a2 n2 c2, .slice a1 n1 c1, .slice a3 n3 c3] rfl rfl 45 _ hx.out.n size45 rfl (fine_agg _ _ _ _ _ _ _ _ _ _ _ _ _) ?_))
  have hres := hx.out.res (Y := #[.bool false, .slice a0 n0 c0, .slice a2 n2 c2, .slice a1 n1 c1, .slice a3 n3 c3])
  obtain ⟨z, hz⟩ : ∃ z : World, z = y.setRow (w.heap.size + 1) #[.bool false, .slice a0 n0 c0, .slice a2 n2 c2, .slice a1 n1 c1, .slice a3 n3 c3] := ⟨_, rfl⟩
  rw [← hz] at hres ⊢
  have r0 := cell_of_row z (w.heap.size + 1) 0 _ 45 (0, 0) hres.2
  have r1 := cell_of_row z (w.heap.size + 1) 1 _ 45 (0, 0) hres.2
  have r2 := cell_of_row z (w.heap.size + 1) 2 _ 45 (0, 0) hres.2
  have r3 := cell_of_row z (w.heap.size + 1) 3 _ 45 (0, 0) hres.2
  have r4 := cell_of_row z (w.heap.size + 1) 4 _ 45 (0, 0) hres.2
  exact bodyPost_ret (v := .tuple #[.agg #[.bool false, .slice a0 n0 c0, .slice a2 n2 c2, .slice a1 n1 c1, .slice a3 n3 c3], .int .i64 250]) (by simp [results, Try.results20, go_sem, r0, r1, r2, r3, r4]) rfl ⟨rfl, hres.1⟩
set_option maxHeartbeats 1000000 in
theorem rdata_long1 (a0 a1 a2 a3 : Option Addr) (n0 n1 n2 n3 c0 c1 c2 c3 : Nat) (va : Option Addr) (vn vc : Nat) (w : World) (hx2 : 2048 < vn) : Calls Try.prog 20 #[.agg #[.bool true, .slice a0 n0 c0, .slice a2 n2 c2, .slice a1 n1 c1, .slice a3 n3 c3], .int .i64 1, .slice va vn vc] w fun e w' => e = .returned (.tuple #[.agg #[.bool true, .slice a0 n0 c0, .slice a2 n2 c2, .slice a1 n1 c1, .slice a3 n3 c3], .int .i64 2]) ∧ w.grownBy w' none := by
  go_enter Try.func20, Try.ntmps20
  go_upto_region 2 with (first | (go_at_call 36; refine (of_1 true a0 a1 a2 a3 n0 n1 n2 n3 c0 c1 c2 c3 _).mono ?_; rintro e x ⟨rfl, hg⟩; have hx : Hid (XB w (x.alloc (.cells #[.slice a1 n1 c1, .slice a3 n3 c3] 43)) #[.bool true, .slice a0 n0 c0, .slice a2 n2 c2, .slice a1 n1 c1, .slice a3 n3 c3] #[.bool false, .slice none 0 0, .slice none 0 0, .slice none 0 0, .slice none 0 0] x.heap.size #[.slice a1 n1 c1, .slice a3 n3 c3]) := Lib.hid (.first hg); clear hg))
  obtain ⟨y, hy⟩ : ∃ y : World, y = x.alloc (.cells #[.slice a1 n1 c1, .slice a3 n3 c3] 43) := ⟨_, rfl⟩
  rw [← hy] at hx ⊢
  obtain ⟨b8, hb8⟩ : ∃ b : Nat, b = x.heap.size := ⟨_, rfl⟩
  rw [← hb8] at hx ⊢
  clear hy hb8
  have k0 := (cell_of_row y b8 0 _ 43 (0, 0) hx.out.r).trans (show _ = some (.slice a1 n1 c1) from rfl)
  have k1 := (cell_of_row y b8 1 _ 43 (0, 0) hx.out.r).trans (show _ = some (.slice a3 n3 c3) from rfl)
  have j0 := (cell_of_row y w.heap.size 0 _ 45 (0, 0) hx.out.b).trans (show _ = some (.bool true) from rfl)
  go_wp2_with (first | (go_at_call 37; refine (dirok_of _ _).mono ?_; rintro e y ⟨rfl, rfl⟩) | (refine wpList_load_row rfl 45 _ rfl w.heap.size rfl 45 _ (0, 0) _ hx.out.b Try.underlying45 rfl (by kernel_rfl) ?_) | (refine wpList_store_rowTo rfl 45 _ _ rfl rfl (w.heap.size + 1) #[.bool true, .slice a0 n0 c0, .slice a2 n2 c2, .slice a1 n1 c1, .slice a3 n3 c3] rfl rfl 45 _ hx.out.n size45 rfl (fine_agg _ _ _ _ _ _ _ _ _ _ _ _ _) ?_))
  have hres := hx.out.res (Y := #[.bool true, .slice a0 n0 c0, .slice a2 n2 c2, .slice a1 n1 c1, .slice a3 n3 c3])
  obtain ⟨z, hz⟩ : ∃ z : World, z = y.setRow (w.heap.size + 1) #[.bool true, .slice a0 n0 c0, .slice a2 n2 c2, .slice a1 n1 c1, .slice a3 n3 c3] := ⟨_, rfl⟩
  rw [← hz] at hres ⊢
  have r0 := cell_of_row z (w.heap.size + 1) 0 _ 45 (0, 0) hres.2
  have r1 := cell_of_row z (w.heap.size + 1) 1 _ 45 (0, 0) hres.2
  have r2 := cell_of_row z (w.heap.size + 1) 2 _ 45 (0, 0) hres.2
  have r3 := cell_of_row z (w.heap.size + 1) 3 _ 45 (0, 0) hres.2
  have r4 := cell_of_row z (w.heap.size + 1) 4 _ 45 (0, 0) hres.2
  exact bodyPost_ret (v := .tuple #[.agg #[.bool true, .slice a0 n0 c0, .slice a2 n2 c2, .slice a1 n1 c1, .slice a3 n3 c3], .int .i64 2]) (by simp [results, Try.results20, go_sem, r0, r1, r2, r3, r4]) rfl ⟨rfl, hres.1⟩
set_option maxHeartbeats 1000000 in
theorem rdata_many1 (a0 a1 a2 a3 : Option Addr) (n0 n1 n2 n3 c0 c1 c2 c3 : Nat) (va : Option Addr) (vn vc : Nat) (w : World) (hx2 : vn ≤ 2048) (hq : 32 ≤ n1) : Calls Try.prog 20 #[.agg #[.bool true, .slice a0 n0 c0, .slice a2 n2 c2, .slice a1 n1 c1, .slice a3 n3 c3], .int .i64 1, .slice va vn vc] w fun e w' => e = .returned (.tuple #[.agg #[.bool true, .slice a0 n0 c0, .slice a2 n2 c2, .slice a1 n1 c1, .slice a3 n3 c3], .int .i64 3]) ∧ w.grownBy w' none := by
  go_enter Try.func20, Try.ntmps20
  go_upto_region 2 with (first | (go_at_call 36; refine (of_1 true a0 a1 a2 a3 n0 n1 n2 n3 c0 c1 c2 c3 _).mono ?_; rintro e x ⟨rfl, hg⟩; have hx : Hid (XB w (x.alloc (.cells #[.slice a1 n1 c1, .slice a3 n3 c3] 43)) #[.bool true, .slice a0 n0 c0, .slice a2 n2 c2, .slice a1 n1 c1, .slice a3 n3 c3] #[.bool false, .slice none 0 0, .slice none 0 0, .slice none 0 0, .slice none 0 0] x.heap.size #[.slice a1 n1 c1, .slice a3 n3 c3]) := Lib.hid (.first hg); clear hg))
  obtain ⟨y, hy⟩ : ∃ y : World, y = x.alloc (.cells #[.slice a1 n1 c1, .slice a3 n3 c3] 43) := ⟨_, rfl⟩
  rw [← hy] at hx ⊢
  obtain ⟨b8, hb8⟩ : ∃ b : Nat, b = x.heap.size := ⟨_, rfl⟩
  rw [← hb8] at hx ⊢
  clear hy hb8
  have k0 := (cell_of_row y b8 0 _ 43 (0, 0) hx.out.r).trans (show _ = some (.slice a1 n1 c1) from rfl)
  have k1 := (cell_of_row y b8 1 _ 43 (0, 0) hx.out.r).trans (show _ = some (.slice a3 n3 c3) from rfl)
  have j0 := (cell_of_row y w.heap.size 0 _ 45 (0, 0) hx.out.b).trans (show _ = some (.bool true) from rfl)
  go_wp2_with (first | (go_at_call 37; refine (dirok_of _ _).mono ?_; rintro e y ⟨rfl, rfl⟩) | (refine wpList_load_row rfl 45 _ rfl w.heap.size rfl 45 _ (0, 0) _ hx.out.b Try.underlying45 rfl (by kernel_rfl) ?_) | (refine wpList_store_rowTo rfl 45 _ _ rfl rfl (w.heap.size + 1) #[.bool true, .slice a0 n0 c0, .slice a2 n2 c2, .slice a1 n1 c1, .slice a3 n3 c3] rfl rfl 45 _ hx.out.n size45 rfl (fine_agg _ _ _ _ _ _ _ _ _ _ _ _ _) ?_))
  have hres := hx.out.res (Y := #[.bool true, .slice a0 n0 c0, .slice a2 n2 c2, .slice a1 n1 c1, .slice a3 n3 c3])
  obtain ⟨z, hz⟩ : ∃ z : World, z = y.setRow (w.heap.size + 1) #[.bool true, .slice a0 n0 c0, .slice a2 n2 c2, .slice a1 n1 c1, .slice a3 n3 c3] := ⟨_, rfl⟩
  rw [← hz] at hres ⊢
  have r0 := cell_of_row z (w.heap.size + 1) 0 _ 45 (0, 0) hres.2
  have r1 := cell_of_row z (w.heap.size + 1) 1 _ 45 (0, 0) hres.2
  have r2 := cell_of_row z (w.heap.size + 1) 2 _ 45 (0, 0) hres.2
  have r3 := cell_of_row z (w.heap.size + 1) 3 _ 45 (0, 0) hres.2
  have r4 := cell_of_row z (w.heap.size + 1) 4 _ 45 (0, 0) hres.2
  exact bodyPost_ret (v := .tuple #[.agg #[.bool true, .slice a0 n0 c0, .slice a2 n2 c2, .slice a1 n1 c1, .slice a3 n3 c3], .int .i64 3]) (by simp [results, Try.results20, go_sem, r0, r1, r2, r3, r4]) rfl ⟨rfl, hres.1⟩
set_option maxHeartbeats 2000000 in
theorem rdata_ok1 (a0 a1 a2 a3 : Option Addr) (n0 n1 n2 n3 c0 c1 c2 c3 : Nat) (v : Value) (xs : List Int) (L : List (List Int)) (w : World) (hv : Bt w v xs) (hl : xs.length ≤ 4096) (hr : Rs 0 w (.slice a1 n1 c1) L) (hn : L.length ≤ 1000) (hnn : n1 = L.length) (hx2 : xs.length ≤ 2048) (hq : n1 < 32) : Calls Try.prog 20 #[.agg #[.bool true, .slice a0 n0 c0, .slice a2 n2 c2, .slice a1 n1 c1, .slice a3 n3 c3], .int .i64 1, v] w fun e w' => ∃ ma mc, e = .returned (.tuple #[.agg #[.bool true, .slice a0 n0 c0, .slice a2 n2 c2, .slice ma (n1 + 1) mc, .slice a3 n3 c3], .int .i64 0]) ∧ Rs 0 w' (.slice ma (n1 + 1) mc) (L ++ [xs]) ∧ w.grownBy w' none := by
  obtain ⟨va, vc, rfl, _⟩ := hv.len
  have HV := Lib.hid hv
  have HRR := Lib.hid hr
  have HNN := Lib.hid hnn
  clear hv hr hnn
  go_enter Try.func20, Try.ntmps20
  go_upto_region 2 with (first | (go_at_call 36; refine (of_1 true a0 a1 a2 a3 n0 n1 n2 n3 c0 c1 c2 c3 _).mono ?_; rintro e x ⟨rfl, hg⟩; have hx : Hid (XB w (x.alloc (.cells #[.slice a1 n1 c1, .slice a3 n3 c3] 43)) #[.bool true, .slice a0 n0 c0, .slice a2 n2 c2, .slice a1 n1 c1, .slice a3 n3 c3] #[.bool false, .slice none 0 0, .slice none 0 0, .slice none 0 0, .slice none 0 0] x.heap.size #[.slice a1 n1 c1, .slice a3 n3 c3]) := Lib.hid (.first hg); clear hg))
  obtain ⟨y, hy⟩ : ∃ y : World, y = x.alloc (.cells #[.slice a1 n1 c1, .slice a3 n3 c3] 43) := ⟨_, rfl⟩
  rw [← hy] at hx ⊢
  obtain ⟨b8, hb8⟩ : ∃ b : Nat, b = x.heap.size := ⟨_, rfl⟩
  rw [← hb8] at hx ⊢
  clear hy hb8
  have k0 := (cell_of_row y b8 0 _ 43 (0, 0) hx.out.r).trans (show _ = some (.slice a1 n1 c1) from rfl)
  have k1 := (cell_of_row y b8 1 _ 43 (0, 0) hx.out.r).trans (show _ = some (.slice a3 n3 c3) from rfl)
  have j0 := (cell_of_row y w.heap.size 0 _ 45 (0, 0) hx.out.b).trans (show _ = some (.bool true) from rfl)
  have M := Lib.hid (more_of _ _ L xs y (HRR.out.kept hx.out.g) (HV.out.kept hx.out.g (by simp)) hl hn)
  go_upto_region 11 with (first | (go_at_call 37; refine (dirok_of _ _).mono ?_; rintro e y ⟨rfl, rfl⟩) | (go_at_call 38; refine M.out.mono ?_; rintro e y2 ⟨ma, mc, rfl, hm, hg⟩; rw [← HNN.out] at hm ⊢; have HM := Lib.hid hm; have hx2 := Lib.hid (hx.out.kept hg); have k2 := (cell_of_row y2 b8 0 _ 43 (0, 0) hx2.out.r).trans (show _ = some (.slice a1 n1 c1) from rfl); have z2 := blk_frozen hx2.out.r 0; clear hg hm))
  have hx3 := Lib.hid (hx2.out.set0 (.slice ma (n1 + 1) mc))
  have HM3 := Lib.hid (HM.out.far hx2.out.r (by decide) (by decide) (grownSet y2 b8 0 (.slice ma (n1 + 1) mc)))
  generalize y2.setCell ⟨b8, 0, none⟩ (.slice ma (n1 + 1) mc) = y3 at hx3 HM3 ⊢
  clear k0 k1 j0 k2 z2 HM hx hx2 M
  go_wp2_with (first | (refine wpList_load_row rfl 45 _ rfl w.heap.size rfl 45 _ (0, 0) _ hx3.out.b Try.underlying45 rfl (by kernel_rfl) ?_) | (refine wpList_load_row rfl 43 _ rfl b8 rfl 43 _ (0, 0) _ hx3.out.r Try.underlying43 rfl (by kernel_rfl) ?_) | (go_at_call 39; refine (with_1 true a0 a1 a2 a3 n0 n1 n2 n3 c0 c1 c2 c3 ma a3 (n1 + 1) n3 mc c3 _).mono ?_; rintro e y4 ⟨rfl, hg⟩; have hx4 := Lib.hid (hx3.out.kept hg); have HM4 := Lib.hid (HM3.out.kept hg); clear hg) | (refine wpList_store_rowTo rfl 45 _ _ rfl rfl (w.heap.size + 1) #[.bool true, .slice a0 n0 c0, .slice a2 n2 c2, .slice ma (n1 + 1) mc, .slice a3 n3 c3] rfl rfl 45 _ hx4.out.n size45 rfl (fine_agg _ _ _ _ _ _ _ _ _ _ _ _ _) ?_))
  have HM5 := HM4.out.far hx4.out.n (by decide) (by decide) (grownSetRow y4 (w.heap.size + 1) #[.bool true, .slice a0 n0 c0, .slice a2 n2 c2, .slice ma (n1 + 1) mc, .slice a3 n3 c3])
  have hres := hx4.out.res (Y := #[.bool true, .slice a0 n0 c0, .slice a2 n2 c2, .slice ma (n1 + 1) mc, .slice a3 n3 c3])
  obtain ⟨z, hz⟩ : ∃ z : World, z = y4.setRow (w.heap.size + 1) #[.bool true, .slice a0 n0 c0, .slice a2 n2 c2, .slice ma (n1 + 1) mc, .slice a3 n3 c3] := ⟨_, rfl⟩
  rw [← hz] at hres HM5 ⊢
  have r0 := cell_of_row z (w.heap.size + 1) 0 _ 45 (0, 0) hres.2
  have r1 := cell_of_row z (w.heap.size + 1) 1 _ 45 (0, 0) hres.2
  have r2 := cell_of_row z (w.heap.size + 1) 2 _ 45 (0, 0) hres.2
  have r3 := cell_of_row z (w.heap.size + 1) 3 _ 45 (0, 0) hres.2
  have r4 := cell_of_row z (w.heap.size + 1) 4 _ 45 (0, 0) hres.2
  exact bodyPost_ret (v := .tuple #[.agg #[.bool true, .slice a0 n0 c0, .slice a2 n2 c2, .slice ma (n1 + 1) mc, .slice a3 n3 c3], .int .i64 0]) (by simp [results, Try.results20, go_sem, r0, r1, r2, r3, r4]) rfl ⟨ma, mc, rfl, HM5, hres.1⟩
set_option maxHeartbeats 1000000 in
theorem rsay_down0 (a0 a1 a2 a3 : Option Addr) (n0 n1 n2 n3 c0 c1 c2 c3 : Nat) (va : Option Addr) (vn vc : Nat) (w : World) : Calls Try.prog 23 #[.agg #[.bool false, .slice a0 n0 c0, .slice a2 n2 c2, .slice a1 n1 c1, .slice a3 n3 c3], .int .i64 0, .slice va vn vc] w fun e w' => e = .returned (.tuple #[.agg #[.bool false, .slice a0 n0 c0, .slice a2 n2 c2, .slice a1 n1 c1, .slice a3 n3 c3], .int .i64 250]) ∧ w.grownBy w' none := by
  go_enter Try.func23, Try.ntmps23
  go_upto_region 2 with (first | (go_at_call 36; refine (of_0 false a0 a1 a2 a3 n0 n1 n2 n3 c0 c1 c2 c3 _).mono ?_; rintro e x ⟨rfl, hg⟩; have hx : Hid (XB w (x.alloc (.cells #[.slice a0 n0 c0, .slice a2 n2 c2] 43)) #[.bool false, .slice a0 n0 c0, .slice a2 n2 c2, .slice a1 n1 c1, .slice a3 n3 c3] #[.bool false, .slice none 0 0, .slice none 0 0, .slice none 0 0, .slice none 0 0] x.heap.size #[.slice a0 n0 c0, .slice a2 n2 c2]) := Lib.hid (.first hg); clear hg))
  obtain ⟨y, hy⟩ : ∃ y : World, y = x.alloc (.cells #[.slice a0 n0 c0, .slice a2 n2 c2] 43) := ⟨_, rfl⟩
  rw [← hy] at hx ⊢
  obtain ⟨b8, hb8⟩ : ∃ b : Nat, b = x.heap.size := ⟨_, rfl⟩
  rw [← hb8] at hx ⊢
  clear hy hb8
  have k0 := (cell_of_row y b8 0 _ 43 (0, 0) hx.out.r).trans (show _ = some (.slice a0 n0 c0) from rfl)
  have k1 := (cell_of_row y b8 1 _ 43 (0, 0) hx.out.r).trans (show _ = some (.slice a2 n2 c2) from rfl)
  have j0 := (cell_of_row y w.heap.size 0 _ 45 (0, 0) hx.out.b).trans (show _ = some (.bool false) from rfl)
  go_wp2_with (first | (go_at_call 37; refine (dirok_of _ _).mono ?_; rintro e y ⟨rfl, rfl⟩) | (refine wpList_load_row rfl 45 _ rfl w.heap.size rfl 45 _ (0, 0) _ hx.out.b Try.underlying45 rfl (by kernel_rfl) ?_) | (refine wpList_store_rowTo rfl 45 _ _ rfl rfl (w.heap.size + 1) #[.bool false, .slice a0 n0 c0, .slice a2 n2 c2, .slice a1 n1 c1, .slice a3 n3 c3] rfl rfl 45 _ hx.out.n size45 rfl (fine_agg _ _ _ _ _ _ _ _ _ _ _ _ _) ?_))
  have hres := hx.out.res (Y := #[.bool false, .slice a0 n0 c0, .slice a2 n2 c2, .slice a1 n1 c1, .slice a3 n3 c3])
  obtain ⟨z, hz⟩ : ∃ z : World, z = y.setRow (w.heap.size + 1) #[.bool false, .slice a0 n0 c0, .slice a2 n2 c2, .slice a1 n1 c1, .slice a3 n3 c3] := ⟨_, rfl⟩
  rw [← hz] at hres ⊢
  have r0 := cell_of_row z (w.heap.size + 1) 0 _ 45 (0, 0) hres.2
  have r1 := cell_of_row z (w.heap.size + 1) 1 _ 45 (0, 0) hres.2
  have r2 := cell_of_row z (w.heap.size + 1) 2 _ 45 (0, 0) hres.2
  have r3 := cell_of_row z (w.heap.size + 1) 3 _ 45 (0, 0) hres.2
  have r4 := cell_of_row z (w.heap.size + 1) 4 _ 45 (0, 0) hres.2
  exact bodyPost_ret (v := .tuple #[.agg #[.bool false, .slice a0 n0 c0, .slice a2 n2 c2, .slice a1 n1 c1, .slice a3 n3 c3], .int .i64 250]) (by simp [results, Try.results23, go_sem, r0, r1, r2, r3, r4]) rfl ⟨rfl, hres.1⟩
set_option maxHeartbeats 2000000 in
theorem rsay_ok0 (a0 a1 a2 a3 : Option Addr) (n0 n1 n2 n3 c0 c1 c2 c3 : Nat) (v : Value) (xs : List Int) (L : List (List Int)) (w : World) (hv : Bt w v xs) (hl : xs.length ≤ 4096) (hr : Rs 0 w (.slice a2 n2 c2) L) (hn : L.length ≤ 1000) (hnn : n2 = L.length) : Calls Try.prog 23 #[.agg #[.bool true, .slice a0 n0 c0, .slice a2 n2 c2, .slice a1 n1 c1, .slice a3 n3 c3], .int .i64 0, v] w fun e w' => ∃ ma mc, e = .returned (.tuple #[.agg #[.bool true, .slice a0 n0 c0, .slice ma (n2 + 1) mc, .slice a1 n1 c1, .slice a3 n3 c3], .int .i64 0]) ∧ Rs 0 w' (.slice ma (n2 + 1) mc) (L ++ [xs]) ∧ w.grownBy w' none := by
  obtain ⟨va, vc, rfl, _⟩ := hv.len
  have HV := Lib.hid hv
  have HRR := Lib.hid hr
  have HNN := Lib.hid hnn
  clear hv hr hnn
  go_enter Try.func23, Try.ntmps23
  go_upto_region 2 with (first | (go_at_call 36; refine (of_0 true a0 a1 a2 a3 n0 n1 n2 n3 c0 c1 c2 c3 _).mono ?_; rintro e x ⟨rfl, hg⟩; have hx : Hid (XB w (x.alloc (.cells #[.slice a0 n0 c0, .slice a2 n2 c2] 43)) #[.bool true, .slice a0 n0 c0, .slice a2 n2 c2, .slice a1 n1 c1, .slice a3 n3 c3] #[.bool false, .slice none 0 0, .slice none 0 0, .slice none 0 0, .slice none 0 0] x.heap.size #[.slice a0 n0 c0, .slice a2 n2 c2]) := Lib.hid (.first hg); clear hg))
  obtain ⟨y, hy⟩ : ∃ y : World, y = x.alloc (.cells #[.slice a0 n0 c0, .slice a2 n2 c2] 43) := ⟨_, rfl⟩
  rw [← hy] at hx ⊢
  obtain ⟨b8, hb8⟩ : ∃ b : Nat, b = x.heap.size := ⟨_, rfl⟩
  rw [← hb8] at hx ⊢
  clear hy hb8
  have k0 := (cell_of_row y b8 0 _ 43 (0, 0) hx.out.r).trans (show _ = some (.slice a0 n0 c0) from rfl)
  have k1 := (cell_of_row y b8 1 _ 43 (0, 0) hx.out.r).trans (show _ = some (.slice a2 n2 c2) from rfl)
  have j0 := (cell_of_row y w.heap.size 0 _ 45 (0, 0) hx.out.b).trans (show _ = some (.bool true) from rfl)
  have M := Lib.hid (more_of _ _ L xs y (HRR.out.kept hx.out.g) (HV.out.kept hx.out.g (by simp)) hl hn)
  go_upto_region 7 with (first | (go_at_call 37; refine (dirok_of _ _).mono ?_; rintro e y ⟨rfl, rfl⟩) | (go_at_call 38; refine M.out.mono ?_; rintro e y2 ⟨ma, mc, rfl, hm, hg⟩; rw [← HNN.out] at hm ⊢; have HM := Lib.hid hm; have hx2 := Lib.hid (hx.out.kept hg); have k2 := (cell_of_row y2 b8 1 _ 43 (0, 0) hx2.out.r).trans (show _ = some (.slice a2 n2 c2) from rfl); have z2 := blk_frozen hx2.out.r 1; clear hg hm))
  have hx3 := Lib.hid (hx2.out.set1 (.slice ma (n2 + 1) mc))
  have HM3 := Lib.hid (HM.out.far hx2.out.r (by decide) (by decide) (grownSet y2 b8 1 (.slice ma (n2 + 1) mc)))
  generalize y2.setCell ⟨b8, 1, none⟩ (.slice ma (n2 + 1) mc) = y3 at hx3 HM3 ⊢
  clear k0 k1 j0 k2 z2 HM hx hx2 M
  go_wp2_with (first | (refine wpList_load_row rfl 45 _ rfl w.heap.size rfl 45 _ (0, 0) _ hx3.out.b Try.underlying45 rfl (by kernel_rfl) ?_) | (refine wpList_load_row rfl 43 _ rfl b8 rfl 43 _ (0, 0) _ hx3.out.r Try.underlying43 rfl (by kernel_rfl) ?_) | (go_at_call 39; refine (with_0 true a0 a1 a2 a3 n0 n1 n2 n3 c0 c1 c2 c3 a0 ma n0 (n2 + 1) c0 mc _).mono ?_; rintro e y4 ⟨rfl, hg⟩; have hx4 := Lib.hid (hx3.out.kept hg); have HM4 := Lib.hid (HM3.out.kept hg); clear hg) | (refine wpList_store_rowTo rfl 45 _ _ rfl rfl (w.heap.size + 1) #[.bool true, .slice a0 n0 c0, .slice ma (n2 + 1) mc, .slice a1 n1 c1, .slice a3 n3 c3] rfl rfl 45 _ hx4.out.n size45 rfl (fine_agg _ _ _ _ _ _ _ _ _ _ _ _ _) ?_))
  have HM5 := HM4.out.far hx4.out.n (by decide) (by decide) (grownSetRow y4 (w.heap.size + 1) #[.bool true, .slice a0 n0 c0, .slice ma (n2 + 1) mc, .slice a1 n1 c1, .slice a3 n3 c3])
  have hres := hx4.out.res (Y := #[.bool true, .slice a0 n0 c0, .slice ma (n2 + 1) mc, .slice a1 n1 c1, .slice a3 n3 c3])
  obtain ⟨z, hz⟩ : ∃ z : World, z = y4.setRow (w.heap.size + 1) #[.bool true, .slice a0 n0 c0, .slice ma (n2 + 1) mc, .slice a1 n1 c1, .slice a3 n3 c3] := ⟨_, rfl⟩
  rw [← hz] at hres HM5 ⊢
  have r0 := cell_of_row z (w.heap.size + 1) 0 _ 45 (0, 0) hres.2
  have r1 := cell_of_row z (w.heap.size + 1) 1 _ 45 (0, 0) hres.2
  have r2 := cell_of_row z (w.heap.size + 1) 2 _ 45 (0, 0) hres.2
  have r3 := cell_of_row z (w.heap.size + 1) 3 _ 45 (0, 0) hres.2
  have r4 := cell_of_row z (w.heap.size + 1) 4 _ 45 (0, 0) hres.2
  exact bodyPost_ret (v := .tuple #[.agg #[.bool true, .slice a0 n0 c0, .slice ma (n2 + 1) mc, .slice a1 n1 c1, .slice a3 n3 c3], .int .i64 0]) (by simp [results, Try.results23, go_sem, r0, r1, r2, r3, r4]) rfl ⟨ma, mc, rfl, HM5, hres.1⟩
set_option maxHeartbeats 1000000 in
theorem rsay_down1 (a0 a1 a2 a3 : Option Addr) (n0 n1 n2 n3 c0 c1 c2 c3 : Nat) (va : Option Addr) (vn vc : Nat) (w : World) : Calls Try.prog 23 #[.agg #[.bool false, .slice a0 n0 c0, .slice a2 n2 c2, .slice a1 n1 c1, .slice a3 n3 c3], .int .i64 1, .slice va vn vc] w fun e w' => e = .returned (.tuple #[.agg #[.bool false, .slice a0 n0 c0, .slice a2 n2 c2, .slice a1 n1 c1, .slice a3 n3 c3], .int .i64 250]) ∧ w.grownBy w' none := by
  go_enter Try.func23, Try.ntmps23
  go_upto_region 2 with (first | (go_at_call 36; refine (of_1 false a0 a1 a2 a3 n0 n1 n2 n3 c0 c1 c2 c3 _).mono ?_; rintro e x ⟨rfl, hg⟩; have hx : Hid (XB w (x.alloc (.cells #[.slice a1 n1 c1, .slice a3 n3 c3] 43)) #[.bool false, .slice a0 n0 c0, .slice a2 n2 c2, .slice a1 n1 c1, .slice a3 n3 c3] #[.bool false, .slice none 0 0, .slice none 0 0, .slice none 0 0, .slice none 0 0] x.heap.size #[.slice a1 n1 c1, .slice a3 n3 c3]) := Lib.hid (.first hg); clear hg))
  obtain ⟨y, hy⟩ : ∃ y : World, y = x.alloc (.cells #[.slice a1 n1 c1, .slice a3 n3 c3] 43) := ⟨_, rfl⟩
  rw [← hy] at hx ⊢
  obtain ⟨b8, hb8⟩ : ∃ b : Nat, b = x.heap.size := ⟨_, rfl⟩
  rw [← hb8] at hx ⊢
  clear hy hb8
  have k0 := (cell_of_row y b8 0 _ 43 (0, 0) hx.out.r).trans (show _ = some (.slice a1 n1 c1) from rfl)
  have k1 := (cell_of_row y b8 1 _ 43 (0, 0) hx.out.r).trans (show _ = some (.slice a3 n3 c3) from rfl)
  have j0 := (cell_of_row y w.heap.size 0 _ 45 (0, 0) hx.out.b).trans (show _ = some (.bool false) from rfl)
  go_wp2_with (first | (go_at_call 37; refine (dirok_of _ _).mono ?_; rintro e y ⟨rfl, rfl⟩) | (refine wpList_load_row rfl 45 _ rfl w.heap.size rfl 45 _ (0, 0) _ hx.out.b Try.underlying45 rfl (by kernel_rfl) ?_) | (refine wpList_store_rowTo rfl 45 _ _ rfl rfl (w.heap.size + 1) #[.bool false, .slice a0 n0 c0, .slice a2 n2 c2, .slice a1 n1 c1, .slice a3 n3 c3] rfl rfl 45 _ hx.out.n size45 rfl (fine_agg _ _ _ _ _ _ _ _ _ _ _ _ _) ?_))
  have hres := hx.out.res (Y := #[.bool false, .slice a0 n0 c0, .slice a2 n2 c2, .slice a1 n1 c1, .slice a3 n3 c3])
  obtain ⟨z, hz⟩ : ∃ z : World, z = y.setRow (w.heap.size + 1) #[.bool false, .slice a0 n0 c0, .slice a2 n2 c2, .slice a1 n1 c1, .slice a3 n3 c3] := ⟨_, rfl⟩
  rw [← hz] at hres ⊢
  have r0 := cell_of_row z (w.heap.size + 1) 0 _ 45 (0, 0) hres.2
  have r1 := cell_of_row z (w.heap.size + 1) 1 _ 45 (0, 0) hres.2
  have r2 := cell_of_row z (w.heap.size + 1) 2 _ 45 (0, 0) hres.2
  have r3 := cell_of_row z (w.heap.size + 1) 3 _ 45 (0, 0) hres.2
  have r4 := cell_of_row z (w.heap.size + 1) 4 _ 45 (0, 0) hres.2
  exact bodyPost_ret (v := .tuple #[.agg #[.bool false, .slice a0 n0 c0, .slice a2 n2 c2, .slice a1 n1 c1, .slice a3 n3 c3], .int .i64 250]) (by simp [results, Try.results23, go_sem, r0, r1, r2, r3, r4]) rfl ⟨rfl, hres.1⟩
set_option maxHeartbeats 2000000 in
theorem rsay_ok1 (a0 a1 a2 a3 : Option Addr) (n0 n1 n2 n3 c0 c1 c2 c3 : Nat) (v : Value) (xs : List Int) (L : List (List Int)) (w : World) (hv : Bt w v xs) (hl : xs.length ≤ 4096) (hr : Rs 0 w (.slice a3 n3 c3) L) (hn : L.length ≤ 1000) (hnn : n3 = L.length) : Calls Try.prog 23 #[.agg #[.bool true, .slice a0 n0 c0, .slice a2 n2 c2, .slice a1 n1 c1, .slice a3 n3 c3], .int .i64 1, v] w fun e w' => ∃ ma mc, e = .returned (.tuple #[.agg #[.bool true, .slice a0 n0 c0, .slice a2 n2 c2, .slice a1 n1 c1, .slice ma (n3 + 1) mc], .int .i64 0]) ∧ Rs 0 w' (.slice ma (n3 + 1) mc) (L ++ [xs]) ∧ w.grownBy w' none := by
  obtain ⟨va, vc, rfl, _⟩ := hv.len
  have HV := Lib.hid hv
  have HRR := Lib.hid hr
  have HNN := Lib.hid hnn
  clear hv hr hnn
  go_enter Try.func23, Try.ntmps23
  go_upto_region 2 with (first | (go_at_call 36; refine (of_1 true a0 a1 a2 a3 n0 n1 n2 n3 c0 c1 c2 c3 _).mono ?_; rintro e x ⟨rfl, hg⟩; have hx : Hid (XB w (x.alloc (.cells #[.slice a1 n1 c1, .slice a3 n3 c3] 43)) #[.bool true, .slice a0 n0 c0, .slice a2 n2 c2, .slice a1 n1 c1, .slice a3 n3 c3] #[.bool false, .slice none 0 0, .slice none 0 0, .slice none 0 0, .slice none 0 0] x.heap.size #[.slice a1 n1 c1, .slice a3 n3 c3]) := Lib.hid (.first hg); clear hg))
  obtain ⟨y, hy⟩ : ∃ y : World, y = x.alloc (.cells #[.slice a1 n1 c1, .slice a3 n3 c3] 43) := ⟨_, rfl⟩
  rw [← hy] at hx ⊢
  obtain ⟨b8, hb8⟩ : ∃ b : Nat, b = x.heap.size := ⟨_, rfl⟩
  rw [← hb8] at hx ⊢
  clear hy hb8
  have k0 := (cell_of_row y b8 0 _ 43 (0, 0) hx.out.r).trans (show _ = some (.slice a1 n1 c1) from rfl)
  have k1 := (cell_of_row y b8 1 _ 43 (0, 0) hx.out.r).trans (show _ = some (.slice a3 n3 c3) from rfl)
  have j0 := (cell_of_row y w.heap.size 0 _ 45 (0, 0) hx.out.b).trans (show _ = some (.bool true) from rfl)
  have M := Lib.hid (more_of _ _ L xs y (HRR.out.kept hx.out.g) (HV.out.kept hx.out.g (by simp)) hl hn)
  go_upto_region 7 with (first | (go_at_call 37; refine (dirok_of _ _).mono ?_; rintro e y ⟨rfl, rfl⟩) | (go_at_call 38; refine M.out.mono ?_; rintro e y2 ⟨ma, mc, rfl, hm, hg⟩; rw [← HNN.out] at hm ⊢; have HM := Lib.hid hm; have hx2 := Lib.hid (hx.out.kept hg); have k2 := (cell_of_row y2 b8 1 _ 43 (0, 0) hx2.out.r).trans (show _ = some (.slice a3 n3 c3) from rfl); have z2 := blk_frozen hx2.out.r 1; clear hg hm))
  have hx3 := Lib.hid (hx2.out.set1 (.slice ma (n3 + 1) mc))
  have HM3 := Lib.hid (HM.out.far hx2.out.r (by decide) (by decide) (grownSet y2 b8 1 (.slice ma (n3 + 1) mc)))
  generalize y2.setCell ⟨b8, 1, none⟩ (.slice ma (n3 + 1) mc) = y3 at hx3 HM3 ⊢
  clear k0 k1 j0 k2 z2 HM hx hx2 M
  go_wp2_with (first | (refine wpList_load_row rfl 45 _ rfl w.heap.size rfl 45 _ (0, 0) _ hx3.out.b Try.underlying45 rfl (by kernel_rfl) ?_) | (refine wpList_load_row rfl 43 _ rfl b8 rfl 43 _ (0, 0) _ hx3.out.r Try.underlying43 rfl (by kernel_rfl) ?_) | (go_at_call 39; refine (with_1 true a0 a1 a2 a3 n0 n1 n2 n3 c0 c1 c2 c3 a1 ma n1 (n3 + 1) c1 mc _).mono ?_; rintro e y4 ⟨rfl, hg⟩; have hx4 := Lib.hid (hx3.out.kept hg); have HM4 := Lib.hid (HM3.out.kept hg); clear hg) | (refine wpList_store_rowTo rfl 45 _ _ rfl rfl (w.heap.size + 1) #[.bool true, .slice a0 n0 c0, .slice a2 n2 c2, .slice a1 n1 c1, .slice ma (n3 + 1) mc] rfl rfl 45 _ hx4.out.n size45 rfl (fine_agg _ _ _ _ _ _ _ _ _ _ _ _ _) ?_))
  have HM5 := HM4.out.far hx4.out.n (by decide) (by decide) (grownSetRow y4 (w.heap.size + 1) #[.bool true, .slice a0 n0 c0, .slice a2 n2 c2, .slice a1 n1 c1, .slice ma (n3 + 1) mc])
  have hres := hx4.out.res (Y := #[.bool true, .slice a0 n0 c0, .slice a2 n2 c2, .slice a1 n1 c1, .slice ma (n3 + 1) mc])
  obtain ⟨z, hz⟩ : ∃ z : World, z = y4.setRow (w.heap.size + 1) #[.bool true, .slice a0 n0 c0, .slice a2 n2 c2, .slice a1 n1 c1, .slice ma (n3 + 1) mc] := ⟨_, rfl⟩
  rw [← hz] at hres HM5 ⊢
  have r0 := cell_of_row z (w.heap.size + 1) 0 _ 45 (0, 0) hres.2
  have r1 := cell_of_row z (w.heap.size + 1) 1 _ 45 (0, 0) hres.2
  have r2 := cell_of_row z (w.heap.size + 1) 2 _ 45 (0, 0) hres.2
  have r3 := cell_of_row z (w.heap.size + 1) 3 _ 45 (0, 0) hres.2
  have r4 := cell_of_row z (w.heap.size + 1) 4 _ 45 (0, 0) hres.2
  exact bodyPost_ret (v := .tuple #[.agg #[.bool true, .slice a0 n0 c0, .slice a2 n2 c2, .slice a1 n1 c1, .slice ma (n3 + 1) mc], .int .i64 0]) (by simp [results, Try.results23, go_sem, r0, r1, r2, r3, r4]) rfl ⟨ma, mc, rfl, HM5, hres.1⟩
end Go.Proofs.Ytaidfcehicffbaa.W
