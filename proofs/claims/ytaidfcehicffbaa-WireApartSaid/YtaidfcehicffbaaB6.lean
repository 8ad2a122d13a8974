/-
  What each call makes of the link and of the reference, in one.
-/
import Derived.Test.YtaidfcehicffbaaB5
set_option linter.unusedVariables false
set_option linter.unusedSimpArgs false
namespace Go.Proofs.Ytaidfcehicffbaa.W
open Go.RowKit Go.Deep

def dataN (dn : Bool) (G : Rows4) (d : Int) (xs : List Int) : Int := if mayN dn d ≠ 0 then mayN dn d else if 2048 < xs.length then 2 else if 32 ≤ (G d.toNat).length then 3 else 0
def dataG (dn : Bool) (G : Rows4) (d : Int) (xs : List Int) : Rows4 := if dataN dn G d xs = 0 then upd G d.toNat (G d.toNat ++ [xs]) else G
theorem d_cases {d : Int} (h : dOK d = true) : d = 0 ∨ d = 1 := by unfold dOK at h; simpa using h
theorem may_zero {dn : Bool} {d : Int} (h : mayN dn d = 0) : dOK d = true ∧ dn = false := by
  unfold mayN at h
  cases hd : dOK d <;> cases hn : dn <;> simp [hd, hn] at h ⊢
theorem data_spec (b : Nat) (d : Int) (dn : Bool) (G : Rows4) (v : Value) (xs : List Int) (w : World) (h : Wr w b dn G) (hv : Bt w v xs) (hl : xs.length ≤ 4096) (hn : ∀ k, k < 4 → (G k).length ≤ 1000) :
    Calls Try.prog 11 #[.pointer (some ⟨b, 0, none⟩), .int .i64 d, v] w fun e w' => e = .returned (.int .i64 (dataN dn G d xs)) ∧ Wr w' b dn (dataG dn G d xs) ∧ w.grownBy w' (some b) := by
  have hsame : ∀ m : Int, dataN dn G d xs = m → m ≠ 0 → dataG dn G d xs = G := fun m h1 h2 => by unfold dataG; rw [h1, if_neg h2]
  have fin : ∀ m : Int, dataN dn G d xs = m → m ≠ 0 → Calls Try.prog 11 #[.pointer (some ⟨b, 0, none⟩), .int .i64 d, v] w (fun e w' => e = .returned (.int .i64 m) ∧ w' = w) → Calls Try.prog 11 #[.pointer (some ⟨b, 0, none⟩), .int .i64 d, v] w fun e w' => e = .returned (.int .i64 (dataN dn G d xs)) ∧ Wr w' b dn (dataG dn G d xs) ∧ w.grownBy w' (some b) := fun m h1 h2 h3 =>
    h3.mono fun e w' ⟨he, hw⟩ => ⟨by rw [he, h1], by rw [hsame m h1 h2, hw]; exact h, by rw [hw]; exact World.grownBy.refl _ _⟩
  by_cases hm : mayN dn d = 0
  · obtain ⟨hd, rfl⟩ := may_zero hm
    obtain ⟨k, rfl, hk⟩ : ∃ k : Nat, d = k ∧ k < 2 := by
      rcases d_cases hd with rfl | rfl
      · exact ⟨0, rfl, by omega⟩
      · exact ⟨1, rfl, by omega⟩
    by_cases hx : 2048 < xs.length
    · exact fin 2 (by unfold dataN; rw [if_neg (by simpa using hm), if_pos hx]) (by decide) (datad_long b k G v xs w h hk hv hl hx)
    · by_cases hq : 32 ≤ (G k).length
      · exact fin 3 (by unfold dataN; rw [if_neg (by simpa using hm), if_neg hx, Int.toNat_natCast, if_pos hq]) (by decide) (datad_many b k G v xs w h hk hv hl (by omega) hq (hn k (by omega)))
      · have h0 : dataN false G k xs = 0 := by unfold dataN; rw [if_neg (by simpa using hm), if_neg hx, Int.toNat_natCast, if_neg hq]
        refine (datad_ok b k G v xs w h hk hv hl (by omega) (by omega) (hn k (by omega))).mono fun e w' ⟨he, hw, hg⟩ => ⟨by rw [he, h0], ?_, hg⟩
        unfold dataG
        rw [if_pos h0, Int.toNat_natCast]
        exact hw
  · exact fin _ (by unfold dataN; rw [if_pos hm]) hm (datad_may b d _ dn v w h.cells.1 h.cells.2.1 rfl hm)
theorem d_nat {d : Int} (h : dOK d = true) : ∃ k : Nat, d = k ∧ k < 2 := by
  rcases d_cases h with rfl | rfl
  · exact ⟨0, rfl, by omega⟩
  · exact ⟨1, rfl, by omega⟩
def sayG (dn : Bool) (G : Rows4) (d : Int) (xs : List Int) : Rows4 := if mayN dn d = 0 then upd G (2 + d.toNat) (G (2 + d.toNat) ++ [xs]) else G
theorem say_spec (b : Nat) (d : Int) (dn : Bool) (G : Rows4) (v : Value) (xs : List Int) (w : World) (h : Wr w b dn G) (hv : Bt w v xs) (hl : xs.length ≤ 4096) (hn : ∀ k, k < 4 → (G k).length ≤ 1000) :
    Calls Try.prog 14 #[.pointer (some ⟨b, 0, none⟩), .int .i64 d, v] w fun e w' => e = .returned (.int .i64 (mayN dn d)) ∧ Wr w' b dn (sayG dn G d xs) ∧ w.grownBy w' (some b) := by
  unfold sayG
  by_cases hm : mayN dn d = 0
  · rw [if_pos hm, hm]
    obtain ⟨hd, rfl⟩ := may_zero hm
    obtain ⟨k, rfl, hk⟩ := d_nat hd
    exact sayd_ok b k G v xs w h hk hv hl (hn (2 + k) (by omega))
  · rw [if_neg hm]
    exact (sayd_may b d _ dn v w h.cells.1 h.cells.2.1 rfl hm).mono fun e w' ⟨he, hw⟩ => ⟨he, by rw [hw]; exact h, by rw [hw]; exact World.grownBy.refl _ _⟩
def twinN (G : Rows4) (d n : Int) : Int := if dOK d && inR (G d.toNat) n then (if 32 ≤ (G d.toNat).length then 3 else 0) else 5
def twinG (G : Rows4) (d n : Int) : Rows4 := if twinN G d n = 0 then upd G d.toNat (G d.toNat ++ [(G d.toNat).getD n.toNat []]) else G
theorem twin_spec (b : Nat) (d n : Int) (dn : Bool) (G : Rows4) (w : World) (h : Wr w b dn G) (hn : ∀ k, k < 4 → (G k).length ≤ 1000) :
    Calls Try.prog 13 #[.pointer (some ⟨b, 0, none⟩), .int .i64 d, .int .i64 n] w fun e w' => e = .returned (.int .i64 (twinN G d n)) ∧ Wr w' b dn (twinG G d n) ∧ w.grownBy w' (some b) := by
  have fin : ∀ m : Int, twinN G d n = m → m ≠ 0 → Calls Try.prog 13 #[.pointer (some ⟨b, 0, none⟩), .int .i64 d, .int .i64 n] w (fun e w' => e = .returned (.int .i64 m) ∧ w' = w) → Calls Try.prog 13 #[.pointer (some ⟨b, 0, none⟩), .int .i64 d, .int .i64 n] w fun e w' => e = .returned (.int .i64 (twinN G d n)) ∧ Wr w' b dn (twinG G d n) ∧ w.grownBy w' (some b) := fun m h1 h2 h3 =>
    h3.mono fun e w' ⟨he, hw⟩ => ⟨by rw [he, h1], by unfold twinG; rw [h1, if_neg h2, hw]; exact h, by rw [hw]; exact World.grownBy.refl _ _⟩
  by_cases hd : dOK d = true
  · obtain ⟨k, rfl, hk⟩ := d_nat hd
    by_cases hr : inR (G k) n = true
    · by_cases hq : 32 ≤ (G k).length
      · exact fin 3 (by unfold twinN; rw [hd, Int.toNat_natCast, hr]; simp [hq]) (by decide) (twin_many b k n dn G w h hk (hn k (by omega)) hr hq)
      · have hr' := hr
        unfold inR at hr'
        simp only [decide_eq_true_eq] at hr'
        obtain ⟨i, rfl⟩ : ∃ i : Nat, n = i := ⟨n.toNat, by omega⟩
        have h0 : twinN G k i = 0 := by unfold twinN; rw [hd, Int.toNat_natCast, hr]; simp; omega
        refine (twin_ok b k i dn G w h hk (by omega) (by omega)).mono fun e w' ⟨he, hw, hg⟩ => ⟨by rw [he, h0], ?_, hg⟩
        unfold twinG
        rw [if_pos h0, Int.toNat_natCast, Int.toNat_natCast]
        exact hw
    · have hr' : inR (G k) n = false := by simpa using hr
      exact fin 5 (by unfold twinN; rw [hd, Int.toNat_natCast, hr']; simp) (by decide) (twin_out b k n dn G w h hk (hn k (by omega)) hr')
  · have hd' : dOK d = false := by simpa using hd
    exact fin 5 (by unfold twinN; rw [hd']; simp) (by decide) (twin_bad b d n w h.cells.1 hd')
def takeB (G : Rows4) (d n : Int) : Bool := dOK d && inR (G d.toNat) n
def takeG (G : Rows4) (d n : Int) : Rows4 := if dOK d then upd G d.toNat (takeL (G d.toNat) n) else G
def takeX (G : Rows4) (d n : Int) : List Int := if dOK d then tookL (G d.toNat) n else []
theorem take_spec (b : Nat) (d n : Int) (dn : Bool) (G : Rows4) (w : World) (h : Wr w b dn G) (hn : ∀ k, k < 4 → (G k).length ≤ 1000) :
    Calls Try.prog 12 #[.pointer (some ⟨b, 0, none⟩), .int .i64 d, .int .i64 n] w fun e w' => ∃ a l c, e = .returned (.tuple #[.slice a l c, .bool (takeB G d n)]) ∧ Wr w' b dn (takeG G d n) ∧ BO 0 w' (.slice a l c) (takeX G d n) ∧ w.grownBy w' (some b) := by
  by_cases hd : dOK d = true
  · obtain ⟨k, rfl, hk⟩ := d_nat hd
    refine (taked_of b k dn G n w h hk (hn k (by omega))).mono fun e w' ⟨a, l, c, h1, h2, h3, _, h4⟩ => ⟨a, l, c, ?_, ?_, ?_, h4⟩
    · unfold takeB; rw [hd, Int.toNat_natCast]; exact h1
    · unfold takeG; rw [if_pos hd, Int.toNat_natCast]; exact h2
    · unfold takeX; rw [if_pos hd, Int.toNat_natCast]; exact h3
  · have hd' : dOK d = false := by simpa using hd
    refine (taked_bad b d n w h.cells.1 hd').mono fun e w' ⟨h1, h2⟩ => ⟨none, 0, 0, ?_, ?_, ?_, by rw [h2]; exact World.grownBy.refl _ _⟩
    · unfold takeB; rw [hd', h1]; rfl
    · unfold takeG; rw [if_neg hd, h2]; exact h
    · unfold takeX; rw [if_neg hd]; exact World.ownsRow_nil _ _ _ _
def hearB (G : Rows4) (d : Int) : Bool := dOK d && inR (G (2 + d.toNat)) 0
def hearG (G : Rows4) (d : Int) : Rows4 := if dOK d then upd G (2 + d.toNat) (takeL (G (2 + d.toNat)) 0) else G
def hearX (G : Rows4) (d : Int) : List Int := if dOK d then tookL (G (2 + d.toNat)) 0 else []
theorem hear_spec (b : Nat) (d : Int) (dn : Bool) (G : Rows4) (w : World) (h : Wr w b dn G) (hn : ∀ k, k < 4 → (G k).length ≤ 1000) :
    Calls Try.prog 15 #[.pointer (some ⟨b, 0, none⟩), .int .i64 d] w fun e w' => ∃ a l c, e = .returned (.tuple #[.slice a l c, .bool (hearB G d)]) ∧ Wr w' b dn (hearG G d) ∧ BO 0 w' (.slice a l c) (hearX G d) ∧ w.grownBy w' (some b) := by
  by_cases hd : dOK d = true
  · obtain ⟨k, rfl, hk⟩ := d_nat hd
    refine (heard_of b k dn G w h hk (hn (2 + k) (by omega))).mono fun e w' ⟨a, l, c, h1, h2, h3, _, h4⟩ => ⟨a, l, c, ?_, ?_, ?_, h4⟩
    · unfold hearB; rw [hd, Int.toNat_natCast]; exact h1
    · unfold hearG; rw [if_pos hd, Int.toNat_natCast]; exact h2
    · unfold hearX; rw [if_pos hd, Int.toNat_natCast]; exact h3
  · have hd' : dOK d = false := by simpa using hd
    refine (heard_bad b d w h.cells.1 hd').mono fun e w' ⟨h1, h2⟩ => ⟨none, 0, 0, ?_, ?_, ?_, by rw [h2]; exact World.grownBy.refl _ _⟩
    · unfold hearB; rw [hd', h1]; rfl
    · unfold hearG; rw [if_neg hd, h2]; exact h
    · unfold hearX; rw [if_neg hd]; exact World.ownsRow_nil _ _ _ _
end Go.Proofs.Ytaidfcehicffbaa.W
