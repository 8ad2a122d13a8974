/-
  What each call makes of the reference, in the link's words.
-/
import Derived.Test.YtaidfcehicffbaaB6
set_option linter.unusedVariables false
set_option linter.unusedSimpArgs false
namespace Go.Proofs.Ytaidfcehicffbaa.W
open Go.RowKit Go.Deep

def rvl (on : Bool) (a : Nat → Option Addr) (c : Nat → Nat) (G : Rows4) : Value := .agg #[.bool on, .slice (a 0) (G 0).length (c 0), .slice (a 2) (G 2).length (c 2), .slice (a 1) (G 1).length (c 1), .slice (a 3) (G 3).length (c 3)]
def RF (w : World) (val : Value) (on : Bool) (G : Rows4) : Prop := ∃ a c, val = rvl on a c G ∧ ∀ k, k < 4 → Rs 0 w (.slice (a k) (G k).length (c k)) (G k)
theorem RF.kept {w w' : World} {val : Value} {on : Bool} {G : Rows4} (h : RF w val on G) (hg : w.grownBy w' none) : RF w' val on G := by
  obtain ⟨a, c, h1, h2⟩ := h
  exact ⟨a, c, h1, fun k hk => (h2 k hk).kept hg⟩
/-- One row new. -/
theorem RF.upd {w w' : World} {on : Bool} {G : Rows4} {a : Nat → Option Addr} {c : Nat → Nat} (h2 : ∀ k, k < 4 → Rs 0 w (.slice (a k) (G k).length (c k)) (G k)) (hg : w.grownBy w' none) (k : Nat) (L : List (List Int)) (ma : Option Addr) (mc : Nat) (hr : Rs 0 w' (.slice ma L.length mc) L) :
    RF w' (rvl on (fun j => if j = k then ma else a j) (fun j => if j = k then mc else c j) (upd G k L)) on (upd G k L) :=
  ⟨_, _, rfl, fun j hj => by
    by_cases hjk : j = k
    · simp only [W.upd, if_pos hjk]
      exact hr
    · simp only [W.upd, if_neg hjk]
      exact (h2 j hj).kept hg⟩
theorem rdata_spec (d : Int) (on : Bool) (G : Rows4) (val v : Value) (xs : List Int) (w : World) (h : RF w val on G) (hv : Bt w v xs) (hl : xs.length ≤ 4096) (hn : ∀ k, k < 4 → (G k).length ≤ 1000) :
    Calls Try.prog 20 #[val, .int .i64 d, v] w fun e w' => ∃ val', e = .returned (.tuple #[val', .int .i64 (dataN (!on) G d xs)]) ∧ RF w' val' on (dataG (!on) G d xs) ∧ w.grownBy w' none := by
  have h0 := h
  obtain ⟨a, c, rfl, hr⟩ := h
  obtain ⟨va, vc, rfl, _⟩ := hv.len
  have fin : ∀ m : Int, dataN (!on) G d xs = m → m ≠ 0 → Calls Try.prog 20 #[rvl on a c G, .int .i64 d, .slice va xs.length vc] w (fun e w' => e = .returned (.tuple #[rvl on a c G, .int .i64 m]) ∧ w.grownBy w' none) → Calls Try.prog 20 #[rvl on a c G, .int .i64 d, .slice va xs.length vc] w fun e w' => ∃ val', e = .returned (.tuple #[val', .int .i64 (dataN (!on) G d xs)]) ∧ RF w' val' on (dataG (!on) G d xs) ∧ w.grownBy w' none := fun m h1 h2 h3 =>
    h3.mono fun e w' ⟨he, hg⟩ => ⟨rvl on a c G, by rw [he, h1], by unfold dataG; rw [h1, if_neg h2]; exact h0.kept hg, hg⟩
  cases hd : dOK d with
  | false => exact fin 5 (by unfold dataN mayN; rw [hd]; simp) (by decide) (rdata_bad d on _ _ _ _ _ _ _ _ _ _ _ _ va xs.length vc w hd)
  | true =>
    cases on with
    | false =>
      rcases d_cases hd with rfl | rfl
      · exact fin 250 (by unfold dataN mayN; rw [hd]; simp) (by decide) (rdata_down0 _ _ _ _ _ _ _ _ _ _ _ _ va xs.length vc w)
      · exact fin 250 (by unfold dataN mayN; rw [hd]; simp) (by decide) (rdata_down1 _ _ _ _ _ _ _ _ _ _ _ _ va xs.length vc w)
    | true =>
      have hm : mayN (!true) d = 0 := by unfold mayN; rw [hd]; rfl
      by_cases hx : 2048 < xs.length
      · have h2 : dataN (!true) G d xs = 2 := by unfold dataN; rw [if_neg (by simpa using hm), if_pos hx]
        rcases d_cases hd with rfl | rfl
        · exact fin 2 h2 (by decide) (rdata_long0 _ _ _ _ _ _ _ _ _ _ _ _ va xs.length vc w hx)
        · exact fin 2 h2 (by decide) (rdata_long1 _ _ _ _ _ _ _ _ _ _ _ _ va xs.length vc w hx)
      · by_cases hq : 32 ≤ (G d.toNat).length
        · have h2 : dataN (!true) G d xs = 3 := by unfold dataN; rw [if_neg (by simpa using hm), if_neg hx, if_pos hq]
          rcases d_cases hd with rfl | rfl
          · exact fin 3 h2 (by decide) (rdata_many0 _ _ _ _ _ _ _ _ _ _ _ _ va xs.length vc w (by omega) hq)
          · exact fin 3 h2 (by decide) (rdata_many1 _ _ _ _ _ _ _ _ _ _ _ _ va xs.length vc w (by omega) hq)
        · have h2 : dataN (!true) G d xs = 0 := by unfold dataN; rw [if_neg (by simpa using hm), if_neg hx, if_neg hq]
          have hG : dataG (!true) G d xs = upd G d.toNat (G d.toNat ++ [xs]) := by unfold dataG; rw [if_pos h2]
          rw [h2, hG]
          rcases d_cases hd with rfl | rfl
          · refine (rdata_ok0 (a 0) (a 1) (a 2) (a 3) _ _ _ _ (c 0) (c 1) (c 2) (c 3) _ xs (G 0) w hv hl (hr 0 (by omega)) (hn 0 (by omega)) rfl (by omega) (by simpa using hq)).mono fun e w' ⟨ma, mc, he, hm, hg⟩ => ⟨rvl true (fun j => if j = 0 then ma else a j) (fun j => if j = 0 then mc else c j) (upd G 0 (G 0 ++ [xs])), ?_, RF.upd hr hg 0 (G 0 ++ [xs]) ma mc (by simpa using hm), hg⟩
            rw [he]
            simp [rvl, W.upd]
          · refine (rdata_ok1 (a 0) (a 1) (a 2) (a 3) _ _ _ _ (c 0) (c 1) (c 2) (c 3) _ xs (G 1) w hv hl (hr 1 (by omega)) (hn 1 (by omega)) rfl (by omega) (by simpa using hq)).mono fun e w' ⟨ma, mc, he, hm, hg⟩ => ⟨rvl true (fun j => if j = 1 then ma else a j) (fun j => if j = 1 then mc else c j) (upd G 1 (G 1 ++ [xs])), ?_, RF.upd hr hg 1 (G 1 ++ [xs]) ma mc (by simpa using hm), hg⟩
            rw [he]
            simp [rvl, W.upd]
theorem rsay_spec (d : Int) (on : Bool) (G : Rows4) (val v : Value) (xs : List Int) (w : World) (h : RF w val on G) (hv : Bt w v xs) (hl : xs.length ≤ 4096) (hn : ∀ k, k < 4 → (G k).length ≤ 1000) :
    Calls Try.prog 23 #[val, .int .i64 d, v] w fun e w' => ∃ val', e = .returned (.tuple #[val', .int .i64 (mayN (!on) d)]) ∧ RF w' val' on (sayG (!on) G d xs) ∧ w.grownBy w' none := by
  have h0 := h
  obtain ⟨a, c, rfl, hr⟩ := h
  obtain ⟨va, vc, rfl, _⟩ := hv.len
  have fin : ∀ m : Int, mayN (!on) d = m → m ≠ 0 → Calls Try.prog 23 #[rvl on a c G, .int .i64 d, .slice va xs.length vc] w (fun e w' => e = .returned (.tuple #[rvl on a c G, .int .i64 m]) ∧ w.grownBy w' none) → Calls Try.prog 23 #[rvl on a c G, .int .i64 d, .slice va xs.length vc] w fun e w' => ∃ val', e = .returned (.tuple #[val', .int .i64 (mayN (!on) d)]) ∧ RF w' val' on (sayG (!on) G d xs) ∧ w.grownBy w' none := fun m h1 h2 h3 =>
    h3.mono fun e w' ⟨he, hg⟩ => ⟨rvl on a c G, by rw [he, h1], by unfold sayG; rw [h1, if_neg h2]; exact h0.kept hg, hg⟩
  cases hd : dOK d with
  | false => exact fin 5 (by unfold mayN; rw [hd]; simp) (by decide) (rsay_bad d on _ _ _ _ _ _ _ _ _ _ _ _ va xs.length vc w hd)
  | true =>
    cases on with
    | false =>
      rcases d_cases hd with rfl | rfl
      · exact fin 250 (by unfold mayN; rw [hd]; simp) (by decide) (rsay_down0 _ _ _ _ _ _ _ _ _ _ _ _ va xs.length vc w)
      · exact fin 250 (by unfold mayN; rw [hd]; simp) (by decide) (rsay_down1 _ _ _ _ _ _ _ _ _ _ _ _ va xs.length vc w)
    | true =>
      have hm : mayN (!true) d = 0 := by unfold mayN; rw [hd]; rfl
      have hG : sayG (!true) G d xs = upd G (2 + d.toNat) (G (2 + d.toNat) ++ [xs]) := by unfold sayG; rw [if_pos hm]
      rw [hm, hG]
      rcases d_cases hd with rfl | rfl
      · refine (rsay_ok0 (a 0) (a 1) (a 2) (a 3) _ _ _ _ (c 0) (c 1) (c 2) (c 3) _ xs (G 2) w hv hl (hr 2 (by omega)) (hn 2 (by omega)) rfl).mono fun e w' ⟨ma, mc, he, hm, hg⟩ => ⟨rvl true (fun j => if j = 2 then ma else a j) (fun j => if j = 2 then mc else c j) (upd G 2 (G 2 ++ [xs])), ?_, RF.upd hr hg 2 (G 2 ++ [xs]) ma mc (by simpa using hm), hg⟩
        rw [he]
        simp [rvl, W.upd]
      · refine (rsay_ok1 (a 0) (a 1) (a 2) (a 3) _ _ _ _ (c 0) (c 1) (c 2) (c 3) _ xs (G 3) w hv hl (hr 3 (by omega)) (hn 3 (by omega)) rfl).mono fun e w' ⟨ma, mc, he, hm, hg⟩ => ⟨rvl true (fun j => if j = 3 then ma else a j) (fun j => if j = 3 then mc else c j) (upd G 3 (G 3 ++ [xs])), ?_, RF.upd hr hg 3 (G 3 ++ [xs]) ma mc (by simpa using hm), hg⟩
        rw [he]
        simp [rvl, W.upd]
theorem rtwin_spec (d n : Int) (on : Bool) (G : Rows4) (val : Value) (w : World) (h : RF w val on G) (hn : ∀ k, k < 4 → (G k).length ≤ 1000) :
    Calls Try.prog 22 #[val, .int .i64 d, .int .i64 n] w fun e w' => ∃ val', e = .returned (.tuple #[val', .int .i64 (twinN G d n)]) ∧ RF w' val' on (twinG G d n) ∧ w.grownBy w' none := by
  have h0 := h
  obtain ⟨a, c, rfl, hr⟩ := h
  have fin : ∀ m : Int, twinN G d n = m → m ≠ 0 → Calls Try.prog 22 #[rvl on a c G, .int .i64 d, .int .i64 n] w (fun e w' => e = .returned (.tuple #[rvl on a c G, .int .i64 m]) ∧ w.grownBy w' none) → Calls Try.prog 22 #[rvl on a c G, .int .i64 d, .int .i64 n] w fun e w' => ∃ val', e = .returned (.tuple #[val', .int .i64 (twinN G d n)]) ∧ RF w' val' on (twinG G d n) ∧ w.grownBy w' none := fun m h1 h2 h3 =>
    h3.mono fun e w' ⟨he, hg⟩ => ⟨rvl on a c G, by rw [he, h1], by unfold twinG; rw [h1, if_neg h2]; exact h0.kept hg, hg⟩
  by_cases hd : dOK d = true
  · by_cases hin : inR (G d.toNat) n = true
    · have hin' := hin
      unfold inR at hin'
      simp only [decide_eq_true_eq] at hin'
      by_cases hq : 32 ≤ (G d.toNat).length
      · have h2 : twinN G d n = 3 := by unfold twinN; rw [hd, hin]; simp [hq]
        rcases d_cases hd with rfl | rfl
        · exact fin 3 h2 (by decide) (rtwin_many0 n on _ _ _ _ _ _ _ _ _ _ _ _ w hin'.1 hin'.2 hq)
        · exact fin 3 h2 (by decide) (rtwin_many1 n on _ _ _ _ _ _ _ _ _ _ _ _ w hin'.1 hin'.2 hq)
      · have h2 : twinN G d n = 0 := by unfold twinN; rw [hd, hin]; simp; omega
        have hG : twinG G d n = upd G d.toNat (G d.toNat ++ [(G d.toNat).getD n.toNat []]) := by unfold twinG; rw [if_pos h2]
        rw [h2, hG]
        obtain ⟨i, rfl⟩ : ∃ i : Nat, n = i := ⟨n.toNat, by omega⟩
        rw [Int.toNat_natCast]
        rcases d_cases hd with rfl | rfl
        · refine (rtwin_ok0 i on (a 0) (a 1) (a 2) (a 3) _ _ _ _ (c 0) (c 1) (c 2) (c 3) (G 0) w (hr 0 (by omega)) rfl (by have := hin'.2; exact Int.ofNat_lt.1 this) (by simpa using hq)).mono fun e w' ⟨ma, mc, he, hm, hg⟩ => ⟨rvl on (fun j => if j = 0 then ma else a j) (fun j => if j = 0 then mc else c j) (upd G 0 (G 0 ++ [(G 0).getD i []])), ?_, RF.upd hr hg 0 (G 0 ++ [(G 0).getD i []]) ma mc (by simpa using hm), hg⟩
          rw [he]
          simp [rvl, W.upd]
        · refine (rtwin_ok1 i on (a 0) (a 1) (a 2) (a 3) _ _ _ _ (c 0) (c 1) (c 2) (c 3) (G 1) w (hr 1 (by omega)) rfl (by have := hin'.2; exact Int.ofNat_lt.1 this) (by simpa using hq)).mono fun e w' ⟨ma, mc, he, hm, hg⟩ => ⟨rvl on (fun j => if j = 1 then ma else a j) (fun j => if j = 1 then mc else c j) (upd G 1 (G 1 ++ [(G 1).getD i []])), ?_, RF.upd hr hg 1 (G 1 ++ [(G 1).getD i []]) ma mc (by simpa using hm), hg⟩
          rw [he]
          simp [rvl, W.upd]
    · have hin' : inR (G d.toNat) n = false := by simpa using hin
      have h2 : twinN G d n = 5 := by unfold twinN; rw [hin']; simp
      unfold inR at hin'
      simp only [decide_eq_false_iff_not] at hin'
      rcases d_cases hd with rfl | rfl
      · by_cases h3 : n < 0
        · exact fin 5 h2 (by decide) (rtwin_out00 n on _ _ _ _ _ _ _ _ _ _ _ _ w h3)
        · exact fin 5 h2 (by decide) (rtwin_out01 n on _ _ _ _ _ _ _ _ _ _ _ _ w (by omega) (by show ((G 0).length : Int) ≤ n; have h5 : ¬(0 ≤ n ∧ n < ((G 0).length : Int)) := hin'; omega))
      · by_cases h3 : n < 0
        · exact fin 5 h2 (by decide) (rtwin_out10 n on _ _ _ _ _ _ _ _ _ _ _ _ w h3)
        · exact fin 5 h2 (by decide) (rtwin_out11 n on _ _ _ _ _ _ _ _ _ _ _ _ w (by omega) (by show ((G 1).length : Int) ≤ n; have h5 : ¬(0 ≤ n ∧ n < ((G 1).length : Int)) := hin'; omega))
  · have hd' : dOK d = false := by simpa using hd
    have h2 : twinN G d n = 5 := by unfold twinN; rw [hd']; simp
    by_cases h3 : n < 0
    · exact fin 5 h2 (by decide) (rtwin_bad0 d n on _ _ _ _ _ _ _ _ _ _ _ _ w hd' h3)
    · exact fin 5 h2 (by decide) (rtwin_bad1 d n on _ _ _ _ _ _ _ _ _ _ _ _ w hd' (by omega))
end Go.Proofs.Ytaidfcehicffbaa.W
