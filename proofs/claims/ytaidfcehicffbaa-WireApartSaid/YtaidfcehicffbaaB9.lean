/-
  The comparison of the link and the reference, where both hold the same rows.
-/
import Derived.Test.YtaidfcehicffbaaB8
set_option linter.unusedVariables false
set_option linter.unusedSimpArgs false
namespace Go.Proofs.Ytaidfcehicffbaa.W
open Go.RowKit Go.Deep

def dL (G : Rows4) (d : Int) : List (List Int) := if dOK d then G d.toNat else []
def mL (G : Rows4) (d : Int) : List (List Int) := if dOK d then G (2 + d.toNat) else []
theorem of_spec (d : Int) (on : Bool) (G : Rows4) (val : Value) (w : World) (h : RF w val on G) : Calls Try.prog 36 #[val, .int .i64 d] w fun e w' => ∃ a c a' c', e = .returned (.agg #[.slice a (dL G d).length c, .slice a' (mL G d).length c']) ∧ Rs 0 w' (.slice a (dL G d).length c) (dL G d) ∧ Rs 0 w' (.slice a' (mL G d).length c') (mL G d) ∧ w.grownBy w' none := by
  obtain ⟨a, c, rfl, hr⟩ := h
  unfold dL mL
  by_cases hd : dOK d = true
  · rw [if_pos hd, if_pos hd]
    rcases d_cases hd with rfl | rfl
    · exact (of_0 on _ _ _ _ _ _ _ _ _ _ _ _ w).mono fun e w' ⟨he, hg⟩ => ⟨_, _, _, _, he, (hr 0 (by omega)).kept hg, (hr 2 (by omega)).kept hg, hg⟩
    · exact (of_1 on _ _ _ _ _ _ _ _ _ _ _ _ w).mono fun e w' ⟨he, hg⟩ => ⟨_, _, _, _, he, (hr 1 (by omega)).kept hg, (hr 3 (by omega)).kept hg, hg⟩
  · rw [if_neg hd, if_neg hd]
    have h01 : d ≠ 0 ∧ d ≠ 1 := by unfold dOK at hd; simpa using hd
    exact (of_bad d on _ _ _ _ _ _ _ _ _ _ _ _ w h01.1 h01.2).mono fun e w' ⟨he, hg⟩ => ⟨none, 0, none, 0, he, Rs.nil, Rs.nil, hg⟩
theorem Rs.rows {B : Nat} {w : World} {v : Value} {L : List (List Int)} (h : Rs B w v L) : ∃ X : List Pr, X.map Prod.snd = L ∧ Row w v X ∧ RB w X := by
  obtain ⟨X, h1, h2, h3⟩ := h
  exact ⟨X, h1, own_rows h2 rfl, h3.rb⟩
theorem len_S (b : Nat) (dn : Bool) (G : Rows4) (d : Int) (w : World) (h : Wr w b dn G) (hn : ∀ k, k < 4 → (G k).length ≤ 1000) : Calls Try.prog 26 #[.pointer (some ⟨b, 0, none⟩), .int .i64 d] w fun e w' => e = .returned (.int .i64 ((dL G d).length : Int)) ∧ w' = w := by
  unfold dL
  by_cases hd : dOK d = true
  · obtain ⟨k, rfl, hk⟩ := d_nat hd
    rw [if_pos hd, Int.toNat_natCast]
    exact len_of b k dn G w h hk (hn k (by omega))
  · rw [if_neg hd]
    exact len_bad b d w h.cells.1 (by simpa using hd)
theorem said_S (b : Nat) (dn : Bool) (G : Rows4) (d : Int) (w : World) (h : Wr w b dn G) (hn : ∀ k, k < 4 → (G k).length ≤ 1000) : Calls Try.prog 27 #[.pointer (some ⟨b, 0, none⟩), .int .i64 d] w fun e w' => e = .returned (.int .i64 ((mL G d).length : Int)) ∧ w' = w := by
  unfold mL
  by_cases hd : dOK d = true
  · obtain ⟨k, rfl, hk⟩ := d_nat hd
    rw [if_pos hd, Int.toNat_natCast]
    exact said_of b k dn G w h hk (hn (2 + k) (by omega))
  · rw [if_neg hd]
    exact said_bad b d w h.cells.1 (by simpa using hd)
theorem all_S (b : Nat) (dn : Bool) (G : Rows4) (d : Int) (w : World) (h : Wr w b dn G) (hn : ∀ k, k < 4 → (G k).length ≤ 1000) : Calls Try.prog 9 #[.pointer (some ⟨b, 0, none⟩), .int .i64 d] w fun e w' => ∃ a c, e = .returned (.slice a (dL G d).length c) ∧ Rs 0 w' (.slice a (dL G d).length c) (dL G d) ∧ w.grownBy w' none := by
  unfold dL
  by_cases hd : dOK d = true
  · obtain ⟨k, rfl, hk⟩ := d_nat hd
    rw [if_pos hd, Int.toNat_natCast]
    exact (alld_of b k dn G w h hk (hn k (by omega))).mono fun e w' ⟨a, c, h1, h2, h3⟩ => ⟨a, c, h1, h2.le (Nat.zero_le _), h3⟩
  · rw [if_neg hd]
    exact (alld_bad b d w h.cells.1 (by simpa using hd)).mono fun e w' ⟨h1, h2⟩ => ⟨none, 0, h1, Rs.nil, by rw [h2]; exact World.grownBy.refl _ _⟩
theorem words_S (b : Nat) (dn : Bool) (G : Rows4) (d : Int) (w : World) (h : Wr w b dn G) (hn : ∀ k, k < 4 → (G k).length ≤ 1000) : Calls Try.prog 10 #[.pointer (some ⟨b, 0, none⟩), .int .i64 d] w fun e w' => ∃ a c, e = .returned (.slice a (mL G d).length c) ∧ Rs 0 w' (.slice a (mL G d).length c) (mL G d) ∧ w.grownBy w' none := by
  unfold mL
  by_cases hd : dOK d = true
  · obtain ⟨k, rfl, hk⟩ := d_nat hd
    rw [if_pos hd, Int.toNat_natCast]
    exact (wordsd_of b k dn G w h hk (hn (2 + k) (by omega))).mono fun e w' ⟨a, c, h1, h2, h3⟩ => ⟨a, c, h1, h2.le (Nat.zero_le _), h3⟩
  · rw [if_neg hd]
    exact (wordsd_bad b d w h.cells.1 (by simpa using hd)).mono fun e w' ⟨h1, h2⟩ => ⟨none, 0, h1, Rs.nil, by rw [h2]; exact World.grownBy.refl _ _⟩
theorem rows_same (u v : Value) (L : List (List Int)) (w : World) (hu : Rs 0 w u L) (hv : Rs 0 w v L) (hl : L.length ≤ 1000) : Calls Try.prog 16 #[u, v] w fun e w' => e = .returned (.bool true) ∧ w.grownBy w' none := by
  obtain ⟨X, x1, x2, x3⟩ := hu.rows
  obtain ⟨Y, y1, y2, y3⟩ := hv.rows
  have hX : X.length = L.length := by rw [← x1, List.length_map]
  exact (same_of u v X Y w x2 y2 x3 y3 (by rw [x1, y1]) (by omega)).mono fun e w' ⟨he, n, hw⟩ => ⟨he, by rw [hw]; exact grown_drewN _ _ _⟩
theorem L_len {G : Rows4} (hn : ∀ k, k < 4 → (G k).length ≤ 1000) (d : Int) : (dL G d).length ≤ 1000 ∧ (mL G d).length ≤ 1000 := by
  unfold dL mL
  by_cases hd : dOK d = true
  · obtain ⟨k, rfl, hk⟩ := d_nat hd
    rw [if_pos hd, if_pos hd, Int.toNat_natCast]
    exact ⟨hn k (by omega), hn (2 + k) (by omega)⟩
  · rw [if_neg hd, if_neg hd]
    simp
/-- What stands behind each call of the look: the link, the reference's two rows and the box of both. -/
structure KT (b b6 : Nat) (dn : Bool) (G : Rows4) (d : Int) (LD LM : List (List Int)) (u v : Value) (w0 w : World) : Prop where
  wr : Wr w b dn G
  hd : dL G d = LD
  hm : mL G d = LM
  ru : Rs 0 w u LD
  rv : Rs 0 w v LM
  ld : LD.length ≤ 1000
  lm : LM.length ≤ 1000
  g : w0.grownBy w none
  bx : w.heap[b6]? = some (.cells #[u, v] 43 (0, 0))
section
variable {b b6 : Nat} {dn : Bool} {G : Rows4} {d : Int} {LD LM : List (List Int)} {u v : Value} {w0 w w' : World}
theorem KT.grown (h : KT b b6 dn G d LD LM u v w0 w) (hg : w.grownBy w' none) : KT b b6 dn G d LD LM u v w0 w' := ⟨h.wr.kept hg, h.hd, h.hm, h.ru.kept hg, h.rv.kept hg, h.ld, h.lm, gn h.g hg, blk_kept h.bx hg (by simp)⟩
theorem KT.s (h : KT b b6 dn G d LD LM u v w0 w) : w.cell? ⟨b6, 0, none⟩ = some u ∧ w.cell? ⟨b6, 1, none⟩ = some v ∧ KT b b6 dn G d LD LM u v w0 w :=
  ⟨(cell_of_row w b6 0 _ 43 (0, 0) h.bx).trans rfl, (cell_of_row w b6 1 _ 43 (0, 0) h.bx).trans rfl, h⟩
theorem len_T (hn : ∀ k, k < 4 → (G k).length ≤ 1000) (h : KT b b6 dn G d LD LM u v w0 w) : Calls Try.prog 26 #[.pointer (some ⟨b, 0, none⟩), .int .i64 d] w fun e w' => e = .returned (.int .i64 (LD.length : Int)) ∧ KT b b6 dn G d LD LM u v w0 w' :=
  (len_S b dn G d w h.wr hn).mono fun e w' ⟨h1, h2⟩ => ⟨by rw [h1, h.hd], h2 ▸ h⟩
theorem said_T (hn : ∀ k, k < 4 → (G k).length ≤ 1000) (h : KT b b6 dn G d LD LM u v w0 w) : Calls Try.prog 27 #[.pointer (some ⟨b, 0, none⟩), .int .i64 d] w fun e w' => e = .returned (.int .i64 (LM.length : Int)) ∧ KT b b6 dn G d LD LM u v w0 w' :=
  (said_S b dn G d w h.wr hn).mono fun e w' ⟨h1, h2⟩ => ⟨by rw [h1, h.hm], h2 ▸ h⟩
def AS (L : List (List Int)) (v : Value) (w : World) : Prop := Rs 0 w v L
theorem all_T (hn : ∀ k, k < 4 → (G k).length ≤ 1000) (h : KT b b6 dn G d LD LM u v w0 w) : Calls Try.prog 9 #[.pointer (some ⟨b, 0, none⟩), .int .i64 d] w fun e w' => ∃ a c, e = .returned (.slice a LD.length c) ∧ KT b b6 dn G d LD LM u v w0 w' ∧ AS LD (.slice a LD.length c) w' :=
  (all_S b dn G d w h.wr hn).mono fun e w' ⟨a, c, h1, h2, h3⟩ => ⟨a, c, by rw [h1, h.hd], h.grown h3, by rw [h.hd] at h2; exact h2⟩
theorem words_T (hn : ∀ k, k < 4 → (G k).length ≤ 1000) (h : KT b b6 dn G d LD LM u v w0 w) : Calls Try.prog 10 #[.pointer (some ⟨b, 0, none⟩), .int .i64 d] w fun e w' => ∃ a c, e = .returned (.slice a LM.length c) ∧ KT b b6 dn G d LD LM u v w0 w' ∧ AS LM (.slice a LM.length c) w' :=
  (words_S b dn G d w h.wr hn).mono fun e w' ⟨a, c, h1, h2, h3⟩ => ⟨a, c, by rw [h1, h.hm], h.grown h3, by rw [h.hm] at h2; exact h2⟩
theorem same_T0 (x : Value) (h : KT b b6 dn G d LD LM u v w0 w) (ha : AS LD x w) : Calls Try.prog 16 #[x, u] w fun e w' => e = .returned (.bool true) ∧ KT b b6 dn G d LD LM u v w0 w' :=
  (rows_same x u _ w ha h.ru h.ld).mono fun e w' ⟨h1, h2⟩ => ⟨h1, h.grown h2⟩
theorem same_T1 (x : Value) (h : KT b b6 dn G d LD LM u v w0 w) (ha : AS LM x w) : Calls Try.prog 16 #[x, v] w fun e w' => e = .returned (.bool true) ∧ KT b b6 dn G d LD LM u v w0 w' :=
  (rows_same x v _ w ha h.rv h.lm).mono fun e w' ⟨h1, h2⟩ => ⟨h1, h.grown h2⟩
end
structure KU (w0 : World) (b b3 : Nat) (on : Bool) (G : Rows4) (cs : Array Value) (w : World) : Prop where
  wr : Wr w b (!on) G
  rf : RF w (.agg cs) on G
  bx : w.heap[b3]? = some (.cells cs 45 (0, 0))
  g : w0.grownBy w none
theorem KU.grown {w0 : World} {b b3 : Nat} {on : Bool} {G : Rows4} {cs : Array Value} {w w' : World} (h : KU w0 b b3 on G cs w) (hg : w.grownBy w' none) : KU w0 b b3 on G cs w' := ⟨h.wr.kept hg, h.rf.kept hg, blk_kept h.bx hg (by simp), gn h.g hg⟩
theorem KU.form {w0 : World} {b b3 : Nat} {on : Bool} {G : Rows4} {cs : Array Value} {w : World} (h : KU w0 b b3 on G cs w) : cs.size = 5 ∧ cs[0]? = some (.bool on) := by
  obtain ⟨a, c, h1, _⟩ := h.rf
  unfold rvl at h1
  injection h1 with h1
  rw [h1]
  exact ⟨rfl, rfl⟩
set_option maxHeartbeats 1000000 in
theorem same2_of (b : Nat) (on : Bool) (G : Rows4) (val : Value) (w : World) (h : Wr w b (!on) G) (hr : RF w val on G) (hn : ∀ k, k < 4 → (G k).length ≤ 1000) :
    Calls Try.prog 25 #[.pointer (some ⟨b, 0, none⟩), val] w fun e w' => e = .returned (.bool true) ∧ w.grownBy w' none := by
  have hr0 := hr
  obtain ⟨a, c, rfl, _⟩ := hr
  unfold rvl at hr0 ⊢
  have HN := Lib.hid hn
  have H1 := Lib.hid h
  have H2 := Lib.hid hr0
  clear hn h hr0
  go_enter Try.func25, Try.ntmps25
  go_upto_region 2 with fail
  have h0 : Hid (KU w b w.heap.size on G #[.bool on, .slice (a 0) (G 0).length (c 0), .slice (a 2) (G 2).length (c 2), .slice (a 1) (G 1).length (c 1), .slice (a 3) (G 3).length (c 3)] (w.alloc (.cells #[.bool on, .slice (a 0) (G 0).length (c 0), .slice (a 2) (G 2).length (c 2), .slice (a 1) (G 1).length (c 1), .slice (a 3) (G 3).length (c 3)] 45))) := Lib.hid ⟨H1.out.kept (World.grownBy_alloc _ _ none), H2.out.kept (World.grownBy_alloc _ _ none), heap_alloc_new w _, World.grownBy_alloc _ _ none⟩
  obtain ⟨b3, hb3⟩ : ∃ q, q = w.heap.size := ⟨_, rfl⟩
  rw [← hb3] at h0 ⊢
  generalize Value.slice (a 0) (G 0).length (c 0) = s0 at h0 ⊢
  generalize Value.slice (a 2) (G 2).length (c 2) = s2 at h0 ⊢
  generalize Value.slice (a 1) (G 1).length (c 1) = s1 at h0 ⊢
  generalize Value.slice (a 3) (G 3).length (c 3) = s3 at h0 ⊢
  obtain ⟨w1, hw1⟩ : ∃ q : World, q = w.alloc (.cells #[.bool on, s0, s2, s1, s3] 45) := ⟨_, rfl⟩
  rw [← hw1] at h0 ⊢
  clear hw1 hb3 H1 H2
  go_loopw [5] (fun iv wr => ∃ d : Int, iv = .int .i64 d ∧ -1 ≤ d ∧ d ≤ 3 ∧ Hid (KU w b b3 on G #[.bool on, s0, s2, s1, s3] wr)) (fun iv _ => (3 - intOf iv).toNat)
  case atStart => exact ⟨-1, rfl, by omega, by omega, h0⟩
  case round =>
    clear h0
    obtain ⟨d, rfl, hd1, hd2, HI⟩ := hrel
    by_cases hd : d < 3
    · obtain ⟨LD, hLD⟩ : ∃ q, dL G d = q := ⟨_, rfl⟩
      obtain ⟨LM, hLM⟩ : ∃ q, mL G d = q := ⟨_, rfl⟩
      have HOF := Lib.hid (fun (X : World) (hX : RF X (.agg #[.bool on, s0, s2, s1, s3]) on G) => of_spec d on G _ X hX)
      obtain ⟨l1, l2⟩ := L_len HN.out d
      rw [hLD] at l1
      rw [hLM] at l2
      rw [hLD, hLM] at HOF
      have HLD := Lib.hid hLD
      have HLM := Lib.hid hLM
      clear hLD hLM
      go_upto_region 5 with (first
        | (refine wpList_load_row rfl 45 _ rfl b3 rfl 45 _ (0, 0) _ HI.out.bx Try.underlying45 rfl (by kernel_rfl) ?_)
        | (go_at_call 36; refine (HOF.out _ HI.out.rf).mono ?_; rintro e x ⟨ua, uc, va, vc, rfl, hu, hv, hg⟩; have HU := Lib.hid hu; have HV := Lib.hid hv; have HG := Lib.hid hg; clear hu hv hg))
      have hg1 := gn HG.out (World.grownBy_alloc x (.cells #[Value.slice ua LD.length uc, Value.slice va LM.length vc] 43) none)
      have hk : Hid (KT b x.heap.size (!on) G d LD LM (.slice ua LD.length uc) (.slice va LM.length vc) wr (x.alloc (.cells #[Value.slice ua LD.length uc, Value.slice va LM.length vc] 43))) :=
        Lib.hid ⟨HI.out.wr.kept hg1, HLD.out, HLM.out, HU.out.kept (World.grownBy_alloc _ _ none), HV.out.kept (World.grownBy_alloc _ _ none), l1, l2, hg1, heap_alloc_new x _⟩
      obtain ⟨y, hy⟩ : ∃ y : World, y = x.alloc (.cells #[Value.slice ua LD.length uc, Value.slice va LM.length vc] 43) := ⟨_, rfl⟩
      rw [← hy] at hk ⊢
      obtain ⟨b6, hb6⟩ : ∃ q, q = x.heap.size := ⟨_, rfl⟩
      rw [← hb6] at hk ⊢
      clear hg1 hy hb6 HU HV HG HOF HLD HLM
      go_cut [47] (fun v wx => v = .bool false ∧ Hid (KT b b6 (!on) G d LD LM (.slice ua LD.length uc) (.slice va LM.length vc) wr wx))
      case first =>
        go_region_held3 (fun w' => w'.cell? ⟨b6, 0, none⟩ = some (.slice ua LD.length uc) ∧ w'.cell? ⟨b6, 1, none⟩ = some (.slice va LM.length vc) ∧ KT b b6 (!on) G d LD LM (.slice ua LD.length uc) (.slice va LM.length vc) wr w')
          (first | exact KT.s (hk.out.grown (grown_drewN _ _ _)) | exact KT.s (by assumption))
          (first
            | (go_at_call 26; go_split_ands; refine (len_T HN.out (by assumption)).mono ?_; rintro e wN ⟨rfl, hN⟩)
            | (go_at_call 27; go_split_ands; refine (said_T HN.out (by assumption)).mono ?_; rintro e wN ⟨rfl, hN⟩)
            | (go_at_call 9; go_split_ands; refine (all_T HN.out (by assumption)).mono ?_; rintro e wN ⟨aa, ac, rfl, hN, hA⟩)
            | (go_at_call 10; go_split_ands; refine (words_T HN.out (by assumption)).mono ?_; rintro e wN ⟨aa, ac, rfl, hN, hA⟩)
            | (go_at_call 16; go_split_ands; refine (same_T0 _ (by assumption) (by assumption)).mono ?_; rintro e wN ⟨rfl, hN⟩)
            | (go_at_call 16; go_split_ands; refine (same_T1 _ (by assumption) (by assumption)).mono ?_; rintro e wN ⟨rfl, hN⟩))
        go_split_ands
        go_wp2_with fail
        go_meet
        exact ⟨rfl, Lib.hid (by assumption)⟩
      case rest =>
        obtain ⟨rfl, HZ⟩ := hcut
        have HK := Lib.hid (HI.out.grown HZ.out.g)
        go_wp2
        go_roundw
        case rel => exact ⟨d + 1, by go_num, by omega, by omega, HK⟩
        case measure => simp [intOf]; omega
    · obtain ⟨wA, hwA⟩ : ∃ y, y = wr := ⟨_, rfl⟩
      subst hwA
      have hu : ∀ q, Calls Try.prog 28 #[.pointer (some ⟨b, 0, none⟩)] (wA.drewN q) fun e w' => e = .returned (.bool on) ∧ w' = wA.drewN q := fun q => by
        have h := HI.out.wr.kept (grown_drewN wA q none)
        have h2 := up_of b (!on) (wA.drewN q) h.cells.1 h.cells.2.1
        rwa [Bool.not_not] at h2
      have HU := Lib.hid hu
      clear hu
      have g0 : wA.cell? ⟨b3, 0, none⟩ = some (.bool on) := (cell_of_row wA b3 0 _ 45 (0, 0) HI.out.bx).trans rfl
      have e0 : (on == on) = true := by simp
      go_upto_region 7 with fail
      go_quiet (first | (go_at_call 28; exact Calls.quiet_of_same (HU.out _)))
      go_wp2
      go_ret
      exact ⟨by simp, gn HI.out.g (grown_drewN _ _ _)⟩
end Go.Proofs.Ytaidfcehicffbaa.W
