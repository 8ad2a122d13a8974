/-
  The reference's Hear, by value, where there is a message.
-/
import Derived.Test.YtaidfcehicffbaaB4
set_option linter.unusedVariables false
set_option linter.unusedSimpArgs false
namespace Go.Proofs.Ytaidfcehicffbaa.W
open Go.RowKit Go.Deep

theorem Rs.tail {m c g : Nat} {w : World} {L : List (List Int)} (h : Rs 0 w (.slice (some ⟨g, 0, none⟩) (m + 1) c) L) (hL : L.length = m + 1) : ∃ (X : List Pr) (o' : Nat), X.map Prod.snd = L ∧ X.length = m + 1 ∧ RO 0 w X ∧ m + 1 ≤ c ∧
    (∀ W : World, (Instr.slice 26 (.slice (some ⟨g, 0, none⟩) (m + 1) c) (some (.int .i64 1)) none none).run Try.prog W = .ok (.slice (some ⟨g, o', none⟩) m (c - 1)) W) ∧ Src w (.slice (some ⟨g, o', none⟩) m (c - 1)) m ((X.map Prod.fst).drop 1) := by
  have h' : Rs 0 w (.slice (some ⟨g, 0, none⟩) (0 + m + 1) c) L := by rw [Nat.zero_add]; exact h
  obtain ⟨X, o', h1, h2, h3, h4, _, h5, h6⟩ := Rs.split (i := 0) h' (by omega)
  rw [Nat.zero_add] at h2 h4
  exact ⟨X, o', h1, h2, h3, h4, fun W => by have := h5 W; simpa using this, by simpa using h6⟩
theorem tail_rows {B m : Nat} {w : World} {v : Value} {X : List Pr} (h : w.ownsRow B 28 1 v m ((X.map Prod.fst).drop 1)) (hX : X.length = m + 1) (hr : RO 0 w X) : Rs 0 w v ((X.map Prod.snd).tail) := by
  refine ⟨X.tail, by rw [List.map_tail], ?_, fun p hp => hr p (List.mem_of_mem_tail hp)⟩
  have hl : X.tail.length = m := by simp; omega
  rw [hl, List.map_tail]
  rw [List.drop_one] at h
  exact Joins.ownsRow_le h (Nat.zero_le _)
set_option maxHeartbeats 4000000 in
theorem rhear_ok0 (m : Nat) (on : Bool) (a0 a1 a2 a3 : Option Addr) (n0 n1 n2 n3 c0 c1 c2 c3 : Nat) (L : List (List Int)) (w : World) (hr : Rs 0 w (.slice a2 (m + 1) c2) L) (hL : L.length = (m + 1)) (hq : (m + 1) ≤ 1000) : Calls Try.prog 24 #[.agg #[.bool on, .slice a0 n0 c0, .slice a2 (m + 1) c2, .slice a1 n1 c1, .slice a3 n3 c3], .int .i64 0] w fun e w' => ∃ ma mc ea ec, e = .returned (.tuple #[.agg #[.bool on, .slice a0 n0 c0, .slice ma m mc, .slice a1 n1 c1, .slice a3 n3 c3], .slice ea (L.getD 0 []).length ec, .bool true]) ∧ Rs 0 w' (.slice ma m mc) L.tail ∧ BO 0 w' (.slice ea (L.getD 0 []).length ec) (L.getD 0 []) ∧ w.grownBy w' none := by
  obtain ⟨i0, hi, hz0, hz1, hz2⟩ := info_parts info28
  obtain ⟨g, ea, ec, rfl, hce, hbo, hle⟩ := hr.elem (show 0 < L.length by omega)
  obtain ⟨X, o', hXL, hXn, hro, hcap, hsl, hs2⟩ := hr.tail hL
  have HRO := Lib.hid hro
  have HBO := Lib.hid hbo
  have HCE := Lib.hid hce
  have HXN := Lib.hid hXn
  have HXL := Lib.hid hXL
  have HS2w := Lib.hid hs2
  have hone := ro_one hro
  have HONE2 : Hid (∀ u ∈ (X.map Prod.fst).drop 1, u.oneCell' = true) := Lib.hid (fun u hu => hone u (List.mem_of_mem_drop hu))
  have HL2 : Hid (((X.map Prod.fst).drop 1).length = m * 1) := Lib.hid (by simp; omega)
  obtain ⟨xs, hxs⟩ : ∃ xs, xs = L.getD 0 [] := ⟨_, rfl⟩
  rw [← hxs] at HCE HBO hle ⊢
  clear hr hbo hce hxs hro hXn hXL hs2 hone hL
  go_enter Try.func24, Try.ntmps24
  go_upto_region 2 with (first | (go_at_call 36; refine (of_0 on a0 a1 (some ⟨g, 0, none⟩) a3 n0 n1 (m + 1) n3 c0 c1 c2 c3 _).mono ?_; rintro e x ⟨rfl, hg⟩; have hx : Hid (XB w (x.alloc (.cells #[.slice a0 n0 c0, .slice (some ⟨g, 0, none⟩) (m + 1) c2] 43)) #[.bool on, .slice a0 n0 c0, .slice (some ⟨g, 0, none⟩) (m + 1) c2, .slice a1 n1 c1, .slice a3 n3 c3] #[.bool false, .slice none 0 0, .slice none 0 0, .slice none 0 0, .slice none 0 0] x.heap.size #[.slice a0 n0 c0, .slice (some ⟨g, 0, none⟩) (m + 1) c2]) := Lib.hid (.first hg); clear hg))
  obtain ⟨y, hy⟩ : ∃ y : World, y = x.alloc (.cells #[.slice a0 n0 c0, .slice (some ⟨g, 0, none⟩) (m + 1) c2] 43) := ⟨_, rfl⟩
  rw [← hy] at hx ⊢
  obtain ⟨b8, hb8⟩ : ∃ b : Nat, b = x.heap.size := ⟨_, rfl⟩
  rw [← hb8] at hx ⊢
  clear hy hb8
  have k0 := (cell_of_row y b8 0 _ 43 (0, 0) hx.out.r).trans (show _ = some (.slice a0 n0 c0) from rfl)
  have k1 := (cell_of_row y b8 1 _ 43 (0, 0) hx.out.r).trans (show _ = some (.slice (some ⟨g, 0, none⟩) (m + 1) c2) from rfl)
  have j0 := (cell_of_row y w.heap.size 0 _ 45 (0, 0) hx.out.b).trans (show _ = some (.bool on) from rfl)
  have hce : y.cell? ⟨g, 0, none⟩ = some (.slice ea xs.length ec) := hx.out.g.cell HCE.out (by simp)
  have gw : w.grownBy y none := hx.out.g
  have ga := World.grownBy_alloc y (.cells #[] 28) none
  have HO1 := Lib.hid (own_new y y.heap.size 28 (Nat.le_refl _))
  have HZ1 : Hid (y.heap.size ≤ (y.alloc (.cells #[] 28)).heap.size) := Lib.hid ga.size
  have HS2 := Lib.hid (HS2w.out.kept (gn gw ga) (by simp))
  have HGA := Lib.hid ga
  have kA : (y.alloc (.cells #[] 28)).cell? ⟨b8, 1, none⟩ = some (.slice (some ⟨g, 0, none⟩) (m + 1) c2) := ga.cell k1 (by simp)
  clear ga
  go_upto_region 6 with (first
    | (at_builtin; refine wpList_append_any _ rfl _ _ 26 rfl y.heap.size 28 i0 (.slice none 0 0) 1 24 Try.underlying26 hi hz0 hz1 hz2 rfl (by decide) (.slice (some ⟨y.heap.size, 0, none⟩) 0 0) 0 [] rfl HO1.out (.slice (some ⟨g, o', none⟩) m (c2 - 1)) m ((X.map Prod.fst).drop 1) rfl HS2.out HL2.out HONE2.out (by unfold maxLen; omega) (by omega) HZ1.out ?_; intro l2 w3 ho hg; rw [Nat.zero_add, List.nil_append] at ho; have HO3 := Lib.hid ho; have G3 := Lib.hid (grownOwn HGA.out HO1.out (Nat.le_refl _) hg); obtain ⟨ma, mc, hl2⟩ := own_len ho; subst hl2; have hx2 := Lib.hid (hx.out.kept G3.out); have k2 := (cell_of_row w3 b8 1 _ 43 (0, 0) hx2.out.r).trans (show _ = some (.slice (some ⟨g, 0, none⟩) (m + 1) c2) from rfl); have z2 := blk_frozen hx2.out.r 1; clear ho hg))
  have gw3 := gn hx.out.g G3.out
  have HM : Hid (Rs 0 w3 (.slice ma m mc) L.tail) := by rw [← HXL.out]; exact Lib.hid (tail_rows HO3.out HXN.out (HRO.out.kept gw3 (by simp)))
  have HB3 := Lib.hid (HBO.out.kept gw3 (by simp))
  have hx3 := Lib.hid (hx2.out.set1 (.slice ma m mc))
  have gs := grownSet w3 b8 1 (.slice ma m mc)
  have HM3 := Lib.hid (HM.out.far hx2.out.r (by decide) (by decide) gs)
  have HB4 := Lib.hid (HB3.out.kept gs (by rintro r ⟨⟩; exact HB3.out.ne hx2.out.r (by simp)))
  clear gs gw3
  generalize w3.setCell ⟨b8, 1, none⟩ (.slice ma m mc) = y3 at hx3 HM3 HB4 ⊢
  clear k0 k1 j0 k2 z2 kA HM hx hx2 hce HS2 HS2w HO1 HO3 G3 HB3 HBO HCE hsl
  go_wp2_with (first | (refine wpList_load_row rfl 45 _ rfl w.heap.size rfl 45 _ (0, 0) _ hx3.out.b Try.underlying45 rfl (by kernel_rfl) ?_) | (refine wpList_load_row rfl 43 _ rfl b8 rfl 43 _ (0, 0) _ hx3.out.r Try.underlying43 rfl (by kernel_rfl) ?_) | (go_at_call 39; refine (with_0 on a0 a1 (some ⟨g, 0, none⟩) a3 n0 n1 (m + 1) n3 c0 c1 c2 c3 a0 ma n0 m c0 mc _).mono ?_; rintro e y4 ⟨rfl, hg⟩; have hx4 := Lib.hid (hx3.out.kept hg); have HM4 := Lib.hid (HM3.out.kept hg); have HB5 := Lib.hid (HB4.out.kept hg (by simp)); clear hg) | (refine wpList_store_rowTo rfl 45 _ _ rfl rfl (w.heap.size + 1) #[.bool on, .slice a0 n0 c0, .slice ma m mc, .slice a1 n1 c1, .slice a3 n3 c3] rfl rfl 45 _ hx4.out.n size45 rfl (fine_agg _ _ _ _ _ _ _ _ _ _ _ _ _) ?_))
  have gr := grownSetRow y4 (w.heap.size + 1) #[.bool on, .slice a0 n0 c0, .slice ma m mc, .slice a1 n1 c1, .slice a3 n3 c3]
  have HM5 := HM4.out.far hx4.out.n (by decide) (by decide) gr
  have HB6 := HB5.out.kept gr (by rintro r ⟨⟩; exact HB5.out.ne hx4.out.n (by simp))
  clear gr
  have hres := hx4.out.res (Y := #[.bool on, .slice a0 n0 c0, .slice ma m mc, .slice a1 n1 c1, .slice a3 n3 c3])
  obtain ⟨z, hz⟩ : ∃ z : World, z = y4.setRow (w.heap.size + 1) #[.bool on, .slice a0 n0 c0, .slice ma m mc, .slice a1 n1 c1, .slice a3 n3 c3] := ⟨_, rfl⟩
  rw [← hz] at hres HM5 HB6 ⊢
  have r0 := cell_of_row z (w.heap.size + 1) 0 _ 45 (0, 0) hres.2
  have r1 := cell_of_row z (w.heap.size + 1) 1 _ 45 (0, 0) hres.2
  have r2 := cell_of_row z (w.heap.size + 1) 2 _ 45 (0, 0) hres.2
  have r3 := cell_of_row z (w.heap.size + 1) 3 _ 45 (0, 0) hres.2
  have r4 := cell_of_row z (w.heap.size + 1) 4 _ 45 (0, 0) hres.2
  exact bodyPost_ret (v := .tuple #[.agg #[.bool on, .slice a0 n0 c0, .slice ma m mc, .slice a1 n1 c1, .slice a3 n3 c3], .slice ea xs.length ec, .bool true]) (by simp [results, Try.results24, go_sem, r0, r1, r2, r3, r4]) rfl ⟨ma, mc, ea, ec, rfl, HM5, HB6, hres.1⟩
set_option maxHeartbeats 4000000 in
theorem rhear_ok1 (m : Nat) (on : Bool) (a0 a1 a2 a3 : Option Addr) (n0 n1 n2 n3 c0 c1 c2 c3 : Nat) (L : List (List Int)) (w : World) (hr : Rs 0 w (.slice a3 (m + 1) c3) L) (hL : L.length = (m + 1)) (hq : (m + 1) ≤ 1000) : Calls Try.prog 24 #[.agg #[.bool on, .slice a0 n0 c0, .slice a2 n2 c2, .slice a1 n1 c1, .slice a3 (m + 1) c3], .int .i64 1] w fun e w' => ∃ ma mc ea ec, e = .returned (.tuple #[.agg #[.bool on, .slice a0 n0 c0, .slice a2 n2 c2, .slice a1 n1 c1, .slice ma m mc], .slice ea (L.getD 0 []).length ec, .bool true]) ∧ Rs 0 w' (.slice ma m mc) L.tail ∧ BO 0 w' (.slice ea (L.getD 0 []).length ec) (L.getD 0 []) ∧ w.grownBy w' none := by
  obtain ⟨i0, hi, hz0, hz1, hz2⟩ := info_parts info28
  obtain ⟨g, ea, ec, rfl, hce, hbo, hle⟩ := hr.elem (show 0 < L.length by omega)
  obtain ⟨X, o', hXL, hXn, hro, hcap, hsl, hs2⟩ := hr.tail hL
  have HRO := Lib.hid hro
  have HBO := Lib.hid hbo
  have HCE := Lib.hid hce
  have HXN := Lib.hid hXn
  have HXL := Lib.hid hXL
  have HS2w := Lib.hid hs2
  have hone := ro_one hro
  have HONE2 : Hid (∀ u ∈ (X.map Prod.fst).drop 1, u.oneCell' = true) := Lib.hid (fun u hu => hone u (List.mem_of_mem_drop hu))
  have HL2 : Hid (((X.map Prod.fst).drop 1).length = m * 1) := Lib.hid (by simp; omega)
  obtain ⟨xs, hxs⟩ : ∃ xs, xs = L.getD 0 [] := ⟨_, rfl⟩
  rw [← hxs] at HCE HBO hle ⊢
  clear hr hbo hce hxs hro hXn hXL hs2 hone hL
  go_enter Try.func24, Try.ntmps24
  go_upto_region 2 with (first | (go_at_call 36; refine (of_1 on a0 a1 a2 (some ⟨g, 0, none⟩) n0 n1 n2 (m + 1) c0 c1 c2 c3 _).mono ?_; rintro e x ⟨rfl, hg⟩; have hx : Hid (XB w (x.alloc (.cells #[.slice a1 n1 c1, .slice (some ⟨g, 0, none⟩) (m + 1) c3] 43)) #[.bool on, .slice a0 n0 c0, .slice a2 n2 c2, .slice a1 n1 c1, .slice (some ⟨g, 0, none⟩) (m + 1) c3] #[.bool false, .slice none 0 0, .slice none 0 0, .slice none 0 0, .slice none 0 0] x.heap.size #[.slice a1 n1 c1, .slice (some ⟨g, 0, none⟩) (m + 1) c3]) := Lib.hid (.first hg); clear hg))
  obtain ⟨y, hy⟩ : ∃ y : World, y = x.alloc (.cells #[.slice a1 n1 c1, .slice (some ⟨g, 0, none⟩) (m + 1) c3] 43) := ⟨_, rfl⟩
  rw [← hy] at hx ⊢
  obtain ⟨b8, hb8⟩ : ∃ b : Nat, b = x.heap.size := ⟨_, rfl⟩
  rw [← hb8] at hx ⊢
  clear hy hb8
  have k0 := (cell_of_row y b8 0 _ 43 (0, 0) hx.out.r).trans (show _ = some (.slice a1 n1 c1) from rfl)
  have k1 := (cell_of_row y b8 1 _ 43 (0, 0) hx.out.r).trans (show _ = some (.slice (some ⟨g, 0, none⟩) (m + 1) c3) from rfl)
  have j0 := (cell_of_row y w.heap.size 0 _ 45 (0, 0) hx.out.b).trans (show _ = some (.bool on) from rfl)
  have hce : y.cell? ⟨g, 0, none⟩ = some (.slice ea xs.length ec) := hx.out.g.cell HCE.out (by simp)
  have gw : w.grownBy y none := hx.out.g
  have ga := World.grownBy_alloc y (.cells #[] 28) none
  have HO1 := Lib.hid (own_new y y.heap.size 28 (Nat.le_refl _))
  have HZ1 : Hid (y.heap.size ≤ (y.alloc (.cells #[] 28)).heap.size) := Lib.hid ga.size
  have HS2 := Lib.hid (HS2w.out.kept (gn gw ga) (by simp))
  have HGA := Lib.hid ga
  have kA : (y.alloc (.cells #[] 28)).cell? ⟨b8, 1, none⟩ = some (.slice (some ⟨g, 0, none⟩) (m + 1) c3) := ga.cell k1 (by simp)
  clear ga
  go_upto_region 6 with (first
    | (at_builtin; refine wpList_append_any _ rfl _ _ 26 rfl y.heap.size 28 i0 (.slice none 0 0) 1 24 Try.underlying26 hi hz0 hz1 hz2 rfl (by decide) (.slice (some ⟨y.heap.size, 0, none⟩) 0 0) 0 [] rfl HO1.out (.slice (some ⟨g, o', none⟩) m (c3 - 1)) m ((X.map Prod.fst).drop 1) rfl HS2.out HL2.out HONE2.out (by unfold maxLen; omega) (by omega) HZ1.out ?_; intro l2 w3 ho hg; rw [Nat.zero_add, List.nil_append] at ho; have HO3 := Lib.hid ho; have G3 := Lib.hid (grownOwn HGA.out HO1.out (Nat.le_refl _) hg); obtain ⟨ma, mc, hl2⟩ := own_len ho; subst hl2; have hx2 := Lib.hid (hx.out.kept G3.out); have k2 := (cell_of_row w3 b8 1 _ 43 (0, 0) hx2.out.r).trans (show _ = some (.slice (some ⟨g, 0, none⟩) (m + 1) c3) from rfl); have z2 := blk_frozen hx2.out.r 1; clear ho hg))
  have gw3 := gn hx.out.g G3.out
  have HM : Hid (Rs 0 w3 (.slice ma m mc) L.tail) := by rw [← HXL.out]; exact Lib.hid (tail_rows HO3.out HXN.out (HRO.out.kept gw3 (by simp)))
  have HB3 := Lib.hid (HBO.out.kept gw3 (by simp))
  have hx3 := Lib.hid (hx2.out.set1 (.slice ma m mc))
  have gs := grownSet w3 b8 1 (.slice ma m mc)
  have HM3 := Lib.hid (HM.out.far hx2.out.r (by decide) (by decide) gs)
  have HB4 := Lib.hid (HB3.out.kept gs (by rintro r ⟨⟩; exact HB3.out.ne hx2.out.r (by simp)))
  clear gs gw3
  generalize w3.setCell ⟨b8, 1, none⟩ (.slice ma m mc) = y3 at hx3 HM3 HB4 ⊢
  clear k0 k1 j0 k2 z2 kA HM hx hx2 hce HS2 HS2w HO1 HO3 G3 HB3 HBO HCE hsl
  go_wp2_with (first | (refine wpList_load_row rfl 45 _ rfl w.heap.size rfl 45 _ (0, 0) _ hx3.out.b Try.underlying45 rfl (by kernel_rfl) ?_) | (refine wpList_load_row rfl 43 _ rfl b8 rfl 43 _ (0, 0) _ hx3.out.r Try.underlying43 rfl (by kernel_rfl) ?_) | (go_at_call 39; refine (with_1 on a0 a1 a2 (some ⟨g, 0, none⟩) n0 n1 n2 (m + 1) c0 c1 c2 c3 a1 ma n1 m c1 mc _).mono ?_; rintro e y4 ⟨rfl, hg⟩; have hx4 := Lib.hid (hx3.out.kept hg); have HM4 := Lib.hid (HM3.out.kept hg); have HB5 := Lib.hid (HB4.out.kept hg (by simp)); clear hg) | (refine wpList_store_rowTo rfl 45 _ _ rfl rfl (w.heap.size + 1) #[.bool on, .slice a0 n0 c0, .slice a2 n2 c2, .slice a1 n1 c1, .slice ma m mc] rfl rfl 45 _ hx4.out.n size45 rfl (fine_agg _ _ _ _ _ _ _ _ _ _ _ _ _) ?_))
  have gr := grownSetRow y4 (w.heap.size + 1) #[.bool on, .slice a0 n0 c0, .slice a2 n2 c2, .slice a1 n1 c1, .slice ma m mc]
  have HM5 := HM4.out.far hx4.out.n (by decide) (by decide) gr
  have HB6 := HB5.out.kept gr (by rintro r ⟨⟩; exact HB5.out.ne hx4.out.n (by simp))
  clear gr
  have hres := hx4.out.res (Y := #[.bool on, .slice a0 n0 c0, .slice a2 n2 c2, .slice a1 n1 c1, .slice ma m mc])
  obtain ⟨z, hz⟩ : ∃ z : World, z = y4.setRow (w.heap.size + 1) #[.bool on, .slice a0 n0 c0, .slice a2 n2 c2, .slice a1 n1 c1, .slice ma m mc] := ⟨_, rfl⟩
  rw [← hz] at hres HM5 HB6 ⊢
  have r0 := cell_of_row z (w.heap.size + 1) 0 _ 45 (0, 0) hres.2
  have r1 := cell_of_row z (w.heap.size + 1) 1 _ 45 (0, 0) hres.2
  have r2 := cell_of_row z (w.heap.size + 1) 2 _ 45 (0, 0) hres.2
  have r3 := cell_of_row z (w.heap.size + 1) 3 _ 45 (0, 0) hres.2
  have r4 := cell_of_row z (w.heap.size + 1) 4 _ 45 (0, 0) hres.2
  exact bodyPost_ret (v := .tuple #[.agg #[.bool on, .slice a0 n0 c0, .slice a2 n2 c2, .slice a1 n1 c1, .slice ma m mc], .slice ea xs.length ec, .bool true]) (by simp [results, Try.results24, go_sem, r0, r1, r2, r3, r4]) rfl ⟨ma, mc, ea, ec, rfl, HM5, HB6, hres.1⟩
end Go.Proofs.Ytaidfcehicffbaa.W
