/-
  A link in memory, over the bytes that its four rows hold; its small methods.
-/
import Derived.Test.YtaidfcehicffbaaA3
set_option linter.unusedVariables false
set_option linter.unusedSimpArgs false
namespace Go.Proofs.Ytaidfcehicffbaa.W
open Go.RowKit Go.Deep

abbrev Rows4 := Nat → List (List Int)
def upd (G : Rows4) (k : Nat) (l : List (List Int)) : Rows4 := fun j => if j = k then l else G j
theorem upd_self (G : Rows4) (k : Nat) : upd G k (G k) = G := by
  funext j
  unfold upd
  split
  · rename_i h; rw [h]
  · rfl
def csOf (dn : Bool) (rv : Nat → Value) : Array Value := #[.bool true, .bool dn, rv 0, rv 1, rv 2, rv 3]
theorem csOf_get {dn : Bool} {rv : Nat → Value} {k : Nat} (hk : k < 4) : (csOf dn rv)[2 + k]? = some (rv k) := by
  match k, hk with
  | 0, _ => rfl
  | 1, _ => rfl
  | 2, _ => rfl
  | 3, _ => rfl
theorem csOf_set {dn : Bool} {rv : Nat → Value} {k : Nat} (hk : k < 4) (v : Value) : (csOf dn rv).setIfInBounds (2 + k) v = csOf dn (fun j => if j = k then v else rv j) := by
  match k, hk with
  | 0, _ => rfl
  | 1, _ => rfl
  | 2, _ => rfl
  | 3, _ => rfl
structure Wr (w : World) (b : Nat) (dn : Bool) (G : Rows4) : Prop where
  ex : ∃ (rv : Nat → Value) (F : Nat → List Pr), w.heap[b]? = some (.cells (csOf dn rv) 60 (0, 0)) ∧ ∀ k, k < 4 → RW 0 w (rv k) (F k) ∧ (F k).map Prod.snd = G k
theorem Wr.kept {w w' : World} {b : Nat} {dn : Bool} {G : Rows4} (h : Wr w b dn G) (hg : w.grownBy w' none) : Wr w' b dn G := by
  obtain ⟨rv, F, hb, hF⟩ := h.ex
  exact ⟨rv, F, blk_kept hb hg (by simp), fun k hk => ⟨(hF k hk).1.kept hg, (hF k hk).2⟩⟩
theorem Wr.cells {w : World} {b : Nat} {dn : Bool} {G : Rows4} (h : Wr w b dn G) : w.cell? ⟨b, 0, none⟩ = some (.bool true) ∧ w.cell? ⟨b, 1, none⟩ = some (.bool dn) ∧ w.frozen? ⟨b, 1, none⟩ = false := by
  obtain ⟨rv, F, hb, hF⟩ := h.ex
  exact ⟨(cell_of_row w b 0 _ 60 (0, 0) hb).trans rfl, (cell_of_row w b 1 _ 60 (0, 0) hb).trans rfl, blk_frozen hb 1⟩
theorem Wr.row {w : World} {b : Nat} {dn : Bool} {G : Rows4} (h : Wr w b dn G) {k : Nat} (hk : k < 4) : ∃ (cs : Array Value) (rv : Value) (P : List Pr), w.heap[b]? = some (.cells cs 60 (0, 0)) ∧ cs[2 + k]? = some rv ∧ RW 0 w rv P ∧ P.map Prod.snd = G k ∧
    ∀ w' rv' P', w'.heap[b]? = some (.cells (cs.setIfInBounds (2 + k) rv') 60 (0, 0)) → RW 0 w' rv' P' → w.grownBy w' (some b) → Wr w' b dn (upd G k (P'.map Prod.snd)) := by
  obtain ⟨rv, F, hb, hF⟩ := h.ex
  refine ⟨csOf dn rv, rv k, F k, hb, csOf_get hk, (hF k hk).1, (hF k hk).2, fun w' rv' P' hb' hr' hg => ⟨fun j => if j = k then rv' else rv j, fun j => if j = k then P' else F j, ?_, fun j hj => ?_⟩⟩
  · rw [hb', csOf_set hk]
  · by_cases hjk : j = k
    · simp only [upd, if_pos hjk]
      exact ⟨hr', trivial⟩
    · simp only [upd, if_neg hjk]
      exact ⟨(hF j hj).1.box hb hg, (hF j hj).2⟩
theorem Wr.cell {w : World} {b : Nat} {dn : Bool} {G : Rows4} (h : Wr w b dn G) {k : Nat} (hk : k < 4) : ∃ a c, w.cell? ⟨b, 2 + k, none⟩ = some (.slice a (G k).length c) := by
  obtain ⟨cs, rv, P, hb, ho, hr, hs, _⟩ := h.row hk
  obtain ⟨a, c, hrv⟩ := own_len hr.1
  refine ⟨a, c, ?_⟩
  rw [(cell_of_row w b (2 + k) cs 60 (0, 0) hb).trans ho, hrv, ← hs, List.length_map]
theorem Wr.lt {w : World} {b : Nat} {dn : Bool} {G : Rows4} (h : Wr w b dn G) : b < w.heap.size := by
  obtain ⟨rv, F, hb, hF⟩ := h.ex
  exact blk_lt hb
/-- Rows that were told: what they hold. -/
def Rs (B : Nat) (w : World) (v : Value) (L : List (List Int)) : Prop := ∃ X : List Pr, X.map Prod.snd = L ∧ w.ownsRow B 28 1 v X.length (X.map Prod.fst) ∧ RO B w X

theorem put_w (b o k : Nat) (dn : Bool) (G : Rows4) (v : Value) (xs : List Int) (w : World) (h : Wr w b dn G) (hk : k < 4) (ho : o = 2 + k) (hv : Bt w v xs) (hl : xs.length ≤ 4096) (hn : (G k).length ≤ 1000) :
    Calls Try.prog 32 #[.pointer (some ⟨b, o, none⟩), v] w fun e w' => e = .returned (.tuple #[]) ∧ Wr w' b dn (upd G k (G k ++ [xs])) ∧ w.grownBy w' (some b) := by
  subst ho
  obtain ⟨cs, rv, P, hb, ho, hr, hs, hnew⟩ := h.row hk
  have hPl : P.length = (G k).length := by rw [← hs, List.length_map]
  refine (put_of b (2 + k) cs rv v P xs w hb ho hr hv hl (by omega)).mono fun e w' ⟨rv', v', he, hb', hr', hg⟩ => ⟨he, ?_, hg⟩
  have h2 := hnew w' rv' _ hb' hr' hg
  simpa [hs] using h2
def inR (l : List (List Int)) (n : Int) : Bool := decide (0 ≤ n ∧ n < (l.length : Int))
def takeL (l : List (List Int)) (n : Int) : List (List Int) := if inR l n then l.eraseIdx n.toNat else l
def tookL (l : List (List Int)) (n : Int) : List Int := if inR l n then l.getD n.toNat [] else []
theorem take_w (b o k : Nat) (dn : Bool) (G : Rows4) (n : Int) (w : World) (h : Wr w b dn G) (hk : k < 4) (ho : o = 2 + k) (hn : (G k).length ≤ 1000) :
    Calls Try.prog 33 #[.pointer (some ⟨b, o, none⟩), .int .i64 n] w fun e w' => ∃ a l c, e = .returned (.tuple #[.slice a l c, .bool (inR (G k) n)]) ∧ Wr w' b dn (upd G k (takeL (G k) n)) ∧ BO 0 w' (.slice a l c) (tookL (G k) n) ∧ (tookL (G k) n).length ≤ 4096 ∧ w.grownBy w' (some b) := by
  subst ho
  obtain ⟨cs, rv, P, hb, ho, hr, hs, hnew⟩ := h.row hk
  have hPl : P.length = (G k).length := by rw [← hs, List.length_map]
  by_cases hin : 0 ≤ n ∧ n < (P.length : Int)
  · obtain ⟨j, rfl⟩ : ∃ j : Nat, n = j := ⟨n.toNat, by omega⟩
    have hj : j < P.length := by omega
    have hin' : inR (G k) j = true := by unfold inR; rw [← hPl]; simpa using hj
    refine (take_some b (2 + k) cs rv P j (P.length - j - 1) w hb ho hr (by omega) (by omega)).mono fun e w' ⟨rv', he, hb', hr', hp, hg⟩ => ?_
    have hm := hp _ (row_mem hj)
    obtain ⟨a, c, hv⟩ := hm.1.len
    have ht : tookL (G k) j = (P.getD j default).2 := by
      unfold tookL
      rw [if_pos hin', ← hs]
      simp [List.getD_eq_getElem?_getD, List.getElem?_map, List.getElem?_eq_getElem hj]
    refine ⟨a, _, c, by rw [he, hv, hin'], ?_, by rw [ht, ← hv]; exact hm.1, by rw [ht]; exact hm.2, hg⟩
    have h2 := hnew w' rv' _ hb' hr' hg
    unfold takeL
    rw [if_pos hin']
    have he2 : (P.eraseIdx j).map Prod.snd = (G k).eraseIdx j := by rw [← hs, List.eraseIdx_eq_take_drop_succ, List.eraseIdx_eq_take_drop_succ, List.map_append, List.map_take, List.map_drop]
    rw [he2] at h2
    simpa using h2
  · have hin' : inR (G k) n = false := by unfold inR; rw [← hPl]; simpa using hin
    refine (take_none b (2 + k) cs rv P n w hb ho hr (by omega) (by omega)).mono fun e w' ⟨he, hw⟩ => ?_
    subst hw
    refine ⟨none, 0, 0, by rw [he, hin'], ?_, ?_, ?_, World.grownBy.refl _ _⟩
    · unfold takeL
      rw [hin']
      simpa [upd_self] using h
    · unfold tookL
      rw [hin']
      exact World.ownsRow_nil _ _ _ _
    · unfold tookL
      rw [hin']
      simp
theorem has_w (b o k : Nat) (dn : Bool) (G : Rows4) (n : Int) (w : World) (h : Wr w b dn G) (hk : k < 4) (ho : o = 2 + k) (hn : (G k).length ≤ 1000) :
    Calls Try.prog 35 #[.pointer (some ⟨b, o, none⟩), .int .i64 n] w fun e w' => e = .returned (.bool (inR (G k) n)) ∧ w' = w := by
  subst ho
  obtain ⟨cs, rv, P, hb, ho, hr, hs, hnew⟩ := h.row hk
  have hPl : P.length = (G k).length := by rw [← hs, List.length_map]
  refine (has_of b (2 + k) cs rv P n w hb ho hr (by omega)).mono fun e w' ⟨he, hw⟩ => ⟨?_, hw⟩
  rw [he, hPl]
  rfl
theorem all_w (b o k : Nat) (dn : Bool) (G : Rows4) (w : World) (h : Wr w b dn G) (hk : k < 4) (ho : o = 2 + k) (hn : (G k).length ≤ 1000) :
    Calls Try.prog 30 #[.pointer (some ⟨b, o, none⟩)] w fun e w' => ∃ a c, e = .returned (.slice a (G k).length c) ∧ Rs w.heap.size w' (.slice a (G k).length c) (G k) ∧ w.grownBy w' none := by
  subst ho
  obtain ⟨cs, rv, P, hb, ho, hr, hs, hnew⟩ := h.row hk
  have hPl : P.length = (G k).length := by rw [← hs, List.length_map]
  refine (all_of b (2 + k) cs rv P w hb ho hr (by omega)).mono fun e w' ⟨v, X, he, hX, hown, hro, hg⟩ => ?_
  have hXl : X.length = (G k).length := by rw [← hPl]; simpa using congrArg List.length hX
  obtain ⟨a, c, hv⟩ := own_len hown
  rw [hXl] at hv
  exact ⟨a, c, by rw [he, hv], ⟨X, by rw [hX, hs], by rw [← hv]; exact hown, hro⟩, hg⟩

theorem none_of (b : Nat) (w : World) (h : w.cell? ⟨b, 0, none⟩ = some (.bool true)) : Calls Try.prog 34 #[.pointer (some ⟨b, 0, none⟩)] w fun e w' => e = .returned (.bool false) ∧ w' = w := by
  go_enter Try.func34, Try.ntmps34
  go_wp2
  go_ret
  exact ⟨rfl, rfl⟩
def dOK (d : Int) : Bool := decide (d = 0 ∨ d = 1)
theorem is_of (b : Nat) (d : Int) (w : World) (h : w.cell? ⟨b, 0, none⟩ = some (.bool true)) : Calls Try.prog 29 #[.pointer (some ⟨b, 0, none⟩), .int .i64 d] w fun e w' => e = .returned (.bool (dOK d)) ∧ w' = w := by
  have N := Lib.hid (none_of b w h)
  by_cases h0 : d = 0
  · subst h0
    go_enter Try.func29, Try.ntmps29
    go_wp2_with (go_at_call 34; refine N.out.mono ?_; rintro e w1 ⟨rfl, rfl⟩)
    go_ret
    exact ⟨rfl, rfl⟩
  · by_cases h1 : d = 1
    · subst h1
      go_enter Try.func29, Try.ntmps29
      go_wp2_with (go_at_call 34; refine N.out.mono ?_; rintro e w1 ⟨rfl, rfl⟩)
      go_ret
      exact ⟨rfl, rfl⟩
    · have e0 : (d == 0) = false := by simpa using h0
      have e1 : (d == 1) = false := by simpa using h1
      have hd : dOK d = false := by simp [dOK, h0, h1]
      rw [hd]
      go_enter Try.func29, Try.ntmps29
      go_wp2_with (go_at_call 34; refine N.out.mono ?_; rintro e w1 ⟨rfl, rfl⟩)
      go_ret
      exact ⟨by simp [h0, h1], rfl⟩
def mayN (dn : Bool) (d : Int) : Int := if dOK d then (if dn then 250 else 0) else 5
theorem may_of (b : Nat) (d : Int) (dn : Bool) (w : World) (h : w.cell? ⟨b, 0, none⟩ = some (.bool true)) (h1 : w.cell? ⟨b, 1, none⟩ = some (.bool dn)) : Calls Try.prog 31 #[.pointer (some ⟨b, 0, none⟩), .int .i64 d] w fun e w' => e = .returned (.int .i64 (mayN dn d)) ∧ w' = w := by
  have N := Lib.hid (none_of b w h)
  have I := Lib.hid (is_of b d w h)
  obtain ⟨y, hy⟩ : ∃ y, dOK d = y := ⟨_, rfl⟩
  unfold mayN
  rw [hy] at I ⊢
  clear hy
  cases y <;> cases dn <;>
  · go_enter Try.func31, Try.ntmps31
    go_wp2_with (first | (go_at_call 34; refine N.out.mono ?_; rintro e w1 ⟨rfl, rfl⟩) | (go_at_call 29; refine I.out.mono ?_; rintro e w1 ⟨rfl, rfl⟩))
    go_ret
    exact ⟨rfl, rfl⟩
theorem up_of (b : Nat) (dn : Bool) (w : World) (h : w.cell? ⟨b, 0, none⟩ = some (.bool true)) (h1 : w.cell? ⟨b, 1, none⟩ = some (.bool dn)) : Calls Try.prog 28 #[.pointer (some ⟨b, 0, none⟩)] w fun e w' => e = .returned (.bool !dn) ∧ w' = w := by
  have N := Lib.hid (none_of b w h)
  go_enter Try.func28, Try.ntmps28
  go_wp2_with (go_at_call 34; refine N.out.mono ?_; rintro e w1 ⟨rfl, rfl⟩)
  go_ret
  exact ⟨rfl, rfl⟩
end Go.Proofs.Ytaidfcehicffbaa.W
