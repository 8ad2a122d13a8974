/-
  The reference's small functions, by value.
-/
import Derived.Test.YtaidfcehicffbaaA8
import Derived.BigRegion
set_option linter.unusedVariables false
set_option linter.unusedSimpArgs false
namespace Go.Proofs.Ytaidfcehicffbaa.W
open Go.RowKit Go.Deep

theorem two_alloc (w : World) (o q : Obj) : w.grownBy ((w.alloc o).alloc q) none := gn (World.grownBy_alloc _ _ none) (World.grownBy_alloc _ _ none)
theorem three_alloc (w : World) (o q r : Obj) : w.grownBy (((w.alloc o).alloc q).alloc r) none := gn (two_alloc _ _ _) (World.grownBy_alloc _ _ none)
theorem rnew_of (w : World) : Calls Try.prog 17 #[] w fun e w' => e = .returned (.agg #[.bool true, .slice none 0 0, .slice none 0 0, .slice none 0 0, .slice none 0 0]) ∧ w.grownBy w' none := by
  go_enter Try.func17, Try.ntmps17
  go_wp2
  exact bodyPost_ret (v := .agg #[.bool true, .slice none 0 0, .slice none 0 0, .slice none 0 0, .slice none 0 0]) (by simp [results, Try.results17, go_sem]) rfl ⟨rfl, World.grownBy_alloc _ _ _⟩
theorem of_0 (on : Bool) (a0 a1 a2 a3 : Option Addr) (n0 n1 n2 n3 c0 c1 c2 c3 : Nat) (w : World) : Calls Try.prog 36 #[.agg #[.bool on, .slice a0 n0 c0, .slice a2 n2 c2, .slice a1 n1 c1, .slice a3 n3 c3], .int .i64 0] w fun e w' => e = .returned (.agg #[.slice a0 n0 c0, .slice a2 n2 c2]) ∧ w.grownBy w' none := by
  go_enter Try.func36, Try.ntmps36
  go_wp2
  exact bodyPost_ret (v := .agg #[.slice a0 n0 c0, .slice a2 n2 c2]) (by simp [results, Try.results36, go_sem]) rfl ⟨rfl, two_alloc _ _ _⟩
theorem with_0 (on : Bool) (a0 a1 a2 a3 : Option Addr) (n0 n1 n2 n3 c0 c1 c2 c3 : Nat) (a4 a5 : Option Addr) (n4 n5 c4 c5 : Nat) (w : World) : Calls Try.prog 39 #[.agg #[.bool on, .slice a0 n0 c0, .slice a2 n2 c2, .slice a1 n1 c1, .slice a3 n3 c3], .int .i64 0, .agg #[.slice a4 n4 c4, .slice a5 n5 c5]] w fun e w' => e = .returned (.agg #[.bool on, .slice a4 n4 c4, .slice a5 n5 c5, .slice a1 n1 c1, .slice a3 n3 c3]) ∧ w.grownBy w' none := by
  go_enter Try.func39, Try.ntmps39
  go_wp2
  exact bodyPost_ret (v := .agg #[.bool on, .slice a4 n4 c4, .slice a5 n5 c5, .slice a1 n1 c1, .slice a3 n3 c3]) (by simp [results, Try.results39, go_sem]) rfl ⟨rfl, three_alloc _ _ _ _⟩
theorem of_1 (on : Bool) (a0 a1 a2 a3 : Option Addr) (n0 n1 n2 n3 c0 c1 c2 c3 : Nat) (w : World) : Calls Try.prog 36 #[.agg #[.bool on, .slice a0 n0 c0, .slice a2 n2 c2, .slice a1 n1 c1, .slice a3 n3 c3], .int .i64 1] w fun e w' => e = .returned (.agg #[.slice a1 n1 c1, .slice a3 n3 c3]) ∧ w.grownBy w' none := by
  go_enter Try.func36, Try.ntmps36
  go_wp2
  exact bodyPost_ret (v := .agg #[.slice a1 n1 c1, .slice a3 n3 c3]) (by simp [results, Try.results36, go_sem]) rfl ⟨rfl, two_alloc _ _ _⟩
theorem with_1 (on : Bool) (a0 a1 a2 a3 : Option Addr) (n0 n1 n2 n3 c0 c1 c2 c3 : Nat) (a4 a5 : Option Addr) (n4 n5 c4 c5 : Nat) (w : World) : Calls Try.prog 39 #[.agg #[.bool on, .slice a0 n0 c0, .slice a2 n2 c2, .slice a1 n1 c1, .slice a3 n3 c3], .int .i64 1, .agg #[.slice a4 n4 c4, .slice a5 n5 c5]] w fun e w' => e = .returned (.agg #[.bool on, .slice a0 n0 c0, .slice a2 n2 c2, .slice a4 n4 c4, .slice a5 n5 c5]) ∧ w.grownBy w' none := by
  go_enter Try.func39, Try.ntmps39
  go_wp2
  exact bodyPost_ret (v := .agg #[.bool on, .slice a0 n0 c0, .slice a2 n2 c2, .slice a4 n4 c4, .slice a5 n5 c5]) (by simp [results, Try.results39, go_sem]) rfl ⟨rfl, three_alloc _ _ _ _⟩
theorem of_bad (d : Int) (on : Bool) (a0 a1 a2 a3 : Option Addr) (n0 n1 n2 n3 c0 c1 c2 c3 : Nat) (w : World) (h0 : d ≠ 0) (h1 : d ≠ 1) : Calls Try.prog 36 #[.agg #[.bool on, .slice a0 n0 c0, .slice a2 n2 c2, .slice a1 n1 c1, .slice a3 n3 c3], .int .i64 d] w fun e w' => e = .returned (.agg #[.slice none 0 0, .slice none 0 0]) ∧ w.grownBy w' none := by
  have e0 : (d == 0) = false := by simpa using h0
  have e1 : (d == 1) = false := by simpa using h1
  go_enter Try.func36, Try.ntmps36
  go_wp2
  exact bodyPost_ret (v := .agg #[.slice none 0 0, .slice none 0 0]) (by simp [results, Try.results36, go_sem]) rfl ⟨rfl, two_alloc _ _ _⟩
theorem dirok_of (d : Int) (w : World) : Calls Try.prog 37 #[.int .i64 d] w fun e w' => e = .returned (.bool (dOK d)) ∧ w' = w := by
  by_cases h0 : d = 0
  · subst h0
    go_enter Try.func37, Try.ntmps37
    go_wp2
    go_ret
    exact ⟨rfl, rfl⟩
  · by_cases h1 : d = 1
    · subst h1
      go_enter Try.func37, Try.ntmps37
      go_wp2
      go_ret
      exact ⟨rfl, rfl⟩
    · have e0 : (d == 0) = false := by simpa using h0
      have e1 : (d == 1) = false := by simpa using h1
      have hd : dOK d = false := by simp [dOK, h0, h1]
      rw [hd]
      go_enter Try.func37, Try.ntmps37
      go_wp2
      go_ret
      exact ⟨by simp [h0, h1], rfl⟩
theorem rset_up (on : Bool) (a0 a1 a2 a3 : Option Addr) (n0 n1 n2 n3 c0 c1 c2 c3 : Nat) (w : World) : Calls Try.prog 19 #[.agg #[.bool on, .slice a0 n0 c0, .slice a2 n2 c2, .slice a1 n1 c1, .slice a3 n3 c3], .bool true] w fun e w' => e = .returned (.tuple #[.agg #[.bool true, .slice a0 n0 c0, .slice a2 n2 c2, .slice a1 n1 c1, .slice a3 n3 c3], .int .i64 0]) ∧ w.grownBy w' none := by
  go_enter Try.func19, Try.ntmps19
  go_wp2
  exact bodyPost_ret (v := .tuple #[.agg #[.bool true, .slice a0 n0 c0, .slice a2 n2 c2, .slice a1 n1 c1, .slice a3 n3 c3], .int .i64 0]) (by simp [results, Try.results19, go_sem]) rfl ⟨rfl, two_alloc _ _ _⟩
set_option maxHeartbeats 2000000 in
theorem rset_down (on : Bool) (a0 a1 a2 a3 : Option Addr) (n0 n1 n2 n3 c0 c1 c2 c3 : Nat) (w : World) (hn : n0 ≤ 1000 ∧ n1 ≤ 1000 ∧ n2 ≤ 1000 ∧ n3 ≤ 1000) : Calls Try.prog 19 #[.agg #[.bool on, .slice a0 n0 c0, .slice a2 n2 c2, .slice a1 n1 c1, .slice a3 n3 c3], .bool false] w fun e w' => e = .returned (.tuple #[.agg #[.bool false, .slice none 0 0, .slice none 0 0, .slice none 0 0, .slice none 0 0], .int .i64 ((n0 : Int) + n2 + n1 + n3)]) ∧ w.grownBy w' none := by
  obtain ⟨hn0, hn1, hn2, hn3⟩ := hn
  go_enter Try.func19, Try.ntmps19
  go_upto_region 4 with fail
  go_region
  go_wp2
  exact bodyPost_ret (v := .tuple #[.agg #[.bool false, .slice none 0 0, .slice none 0 0, .slice none 0 0, .slice none 0 0], .int .i64 ((n0 : Int) + n2 + n1 + n3)]) (by simp [results, Try.results19, go_sem]) rfl ⟨rfl, gn (two_alloc _ _ _) (grown_drew _ _)⟩
theorem Rs.kept {B : Nat} {w w' : World} {v : Value} {L : List (List Int)} (h : Rs B w v L) (hg : w.grownBy w' none) : Rs B w' v L := by
  obtain ⟨X, h1, h2, h3⟩ := h
  exact ⟨X, h1, own_kept h2 hg (by simp), h3.kept hg (by simp)⟩
theorem Rs.form {B : Nat} {w : World} {v : Value} {L : List (List Int)} (h : Rs B w v L) : ∃ a c, v = .slice a L.length c := by
  obtain ⟨X, rfl, h2, _⟩ := h
  obtain ⟨a, c, hv⟩ := own_len h2
  exact ⟨a, c, by rw [hv, List.length_map]⟩
theorem Rs.nil {B : Nat} {w : World} : Rs B w (.slice none 0 0) [] := ⟨[], rfl, World.ownsRow_nil _ _ _ _, fun p hp => by simp at hp⟩
theorem Rs.le {B B' : Nat} {w : World} {v : Value} {L : List (List Int)} (h : Rs B w v L) (hb : B' ≤ B) : Rs B' w v L := by
  obtain ⟨X, h1, h2, h3⟩ := h
  exact ⟨X, h1, Joins.ownsRow_le h2 hb, h3.le hb⟩

set_option maxHeartbeats 1000000 in
theorem more_of (l v : Value) (L : List (List Int)) (xs : List Int) (w : World) (h : Rs 0 w l L) (hv : Bt w v xs) (hl : xs.length ≤ 4096) (hn : L.length ≤ 1000) :
    Calls Try.prog 38 #[l, v] w fun e w' => ∃ a c, e = .returned (.slice a (L.length + 1) c) ∧ Rs 0 w' (.slice a (L.length + 1) c) (L ++ [xs]) ∧ w.grownBy w' none := by
  obtain ⟨i0, hi, hz0, hz1, hz2⟩ := info_parts info28
  obtain ⟨j0, ji, jz0, jz1, jz2⟩ := info_parts info5
  obtain ⟨R, hR, hrow, hr⟩ := h
  have hRL : L.length = R.length := by rw [← hR, List.length_map]
  rw [hRL] at hn ⊢
  obtain ⟨ra, rc, rfl⟩ := own_len hrow
  obtain ⟨va, vc, rfl, hcap⟩ := hv.len
  have HV := Lib.hid hv
  have HRR := Lib.hid hr
  have HOne := Lib.hid (ro_one hr)
  have HM : Hid ((R.map Prod.fst).length = R.length * 1) := Lib.hid (by simp)
  have HX : Hid ((xs.map (Value.int .u8)).length = xs.length * 1) := Lib.hid (by simp)
  have G1 := Lib.hid (World.grownBy_alloc w (.cells #[] 28) none)
  have HS1 := Lib.hid ((own_src hrow).kept G1.out (by simp))
  have HO1 := Lib.hid (own_new w w.heap.size 28 (Nat.le_refl _))
  have HRES := Lib.hid hR
  clear hrow hr hv hRL hR
  go_enter Try.func38, Try.ntmps38
  go_wp2_with (first
    | (at_builtin; refine wpList_append_any _ rfl _ _ 26 rfl w.heap.size 28 i0 (.slice none 0 0) 1 24 Try.underlying26 hi hz0 hz1 hz2 rfl (by decide) _ 0 _ rfl HO1.out (.slice ra R.length rc) R.length _ rfl HS1.out HM.out HOne.out (by unfold maxLen; omega) (by omega) G1.out.size ?_; intro l1 w2 ho hg; rw [Nat.zero_add, List.nil_append] at ho; have HO2 := Lib.hid ho; have G2 := Lib.hid (grownOwn G1.out HO1.out (Nat.le_refl _) hg); have HO3 := Lib.hid (own_new w2 w.heap.size 5 G2.out.size); have G3 := Lib.hid (gn G2.out (World.grownBy_alloc w2 (.cells #[] 5) none)); have HS3 := Lib.hid (HV.out.kept G3.out (by simp)).src; clear ho hg)
    | (at_builtin; refine wpList_append_any _ rfl _ _ 28 rfl w.heap.size 5 j0 (.int .u8 0) 1 1 Try.underlying28 ji jz0 jz1 jz2 rfl (by decide) _ 0 _ rfl HO3.out (.slice va xs.length vc) xs.length _ rfl HS3.out HX.out (bytes_one xs) (by unfold maxLen; omega) (by omega) G3.out.size ?_; intro l3 w4 ho hg; rw [Nat.zero_add, List.nil_append] at ho; have HBO := Lib.hid (show BO w.heap.size w4 l3 xs from ho); have G4 := Lib.hid (grownOwn G3.out HO3.out (Nat.le_refl _) hg); have HO4 := Lib.hid (own_cross (own_kept HO2.out (World.grownBy_alloc w2 (.cells #[] 5) none) (by simp)) HO3.out (by decide) hg); obtain ⟨l3a, l3c, hl3⟩ := HBO.out.len; subst hl3; have G5 := Lib.hid (gn G4.out (World.grownBy_alloc w4 (.cells #[.slice l3a xs.length l3c] 28) none)); have HO5 := Lib.hid (own_kept HO4.out (World.grownBy_alloc w4 (.cells #[.slice l3a xs.length l3c] 28) none) (by simp)); clear ho hg)
    | (at_builtin; refine wpList_append_own _ rfl _ _ 26 rfl w.heap.size 28 i0 (.slice none 0 0) 1 24 Try.underlying26 hi hz0 hz1 hz2 rfl (by decide) l1 R.length _ rfl HO5.out ⟨w4.heap.size, 0, none⟩ 1 1 [.slice l3a xs.length l3c] rfl rfl (cell_one_new _ _ _) (by simp [Value.oneCell']) (by unfold maxLen; omega) (by omega) G5.out.size ?_; intro l5 w6 ho hg _; have HO6 := Lib.hid ho; have G6 := Lib.hid (grownOwn G5.out HO5.out (Nat.le_refl _) hg); have HB6 := Lib.hid (show BO w.heap.size w6 (.slice l3a xs.length l3c) xs from own_cross (HBO.out.kept (World.grownBy_alloc w4 (.cells #[.slice l3a xs.length l3c] 28) none) (by simp)) HO5.out (by decide) hg); obtain ⟨l5a, l5c, hl5⟩ := own_len ho; subst hl5; clear ho hg))
  go_ret
  refine ⟨l5a, l5c, rfl, ⟨R ++ [(.slice l3a xs.length l3c, xs)], by simp [HRES.out], ?_, (HRR.out.kept G6.out (by simp)).app (.one (HB6.out.le (Nat.zero_le _)) hl)⟩, G6.out⟩
  simpa using Joins.ownsRow_le HO6.out (Nat.zero_le _)
end Go.Proofs.Ytaidfcehicffbaa.W
