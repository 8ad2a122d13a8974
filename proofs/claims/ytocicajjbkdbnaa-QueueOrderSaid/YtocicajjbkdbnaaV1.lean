/-
  How the queue and the reference's stand in the midst of QueueRuns, and what each call makes of it.
-/
import Derived.Test.YtocicajjbkdbnaaW7
set_option linter.unusedVariables false
set_option linter.unusedSimpArgs false
namespace Go.Proofs.Ytocicajjbkdbnaa.W
open Go.RowKit Go.Deep Go.Conc

structure QK (w0 w : World) (B7 b cb cap : Nat) (P R : List Pr) (rl : Value) : Prop where
  q : QH w b cb cap (P.map Prod.fst)
  p : RO 0 w P
  r : RO 0 w R
  row : w.ownsRow 0 29 1 rl R.length (R.map Prod.fst)
  box : w.heap[B7]? = some (.cells #[.int .i64 (cap : Int), rl] 40 (0, 0))
  below : Below w0.heap.size w0 w
  lc : w0.heap.size ≤ cb
  l7 : w0.heap.size ≤ B7
  len : P.length ≤ cap
  top : cap ≤ 32
theorem QK.ne {w0 w : World} {B7 b cb cap : Nat} {P R : List Pr} {rl : Value} (h : QK w0 w B7 b cb cap P R rl) : B7 ≠ cb ∧ B7 ≠ b := by
  constructor
  · rintro rfl
    obtain ⟨s, r, hc⟩ := h.q.chan
    rw [h.box] at hc
    simp at hc
  · rintro rfl
    have hc := h.q.box
    rw [h.box] at hc
    simp at hc
theorem QK.grown {w0 w w' : World} {B7 b cb cap : Nat} {P R : List Pr} {rl : Value} (h : QK w0 w B7 b cb cap P R rl) (hg : w.grownBy w' none) : QK w0 w' B7 b cb cap P R rl :=
  ⟨h.q.kept hg (by simp) (by simp), h.p.kept hg (by simp), h.r.kept hg (by simp), own_kept h.row hg (by simp), blk_kept h.box hg (by simp), h.below.grown hg h.below.size (by simp), h.lc, h.l7, h.len, h.top⟩
theorem QK.on {w0 w w' : World} {B7 b cb cap : Nat} {P P' R : List Pr} {rl : Value} (h : QK w0 w B7 b cb cap P R rl) (hq : QH w' b cb cap (P'.map Prod.fst)) (hp : RO 0 w' P') (hl : P'.length ≤ cap) (hg : w.grownBy w' (some cb)) : QK w0 w' B7 b cb cap P' R rl :=
  ⟨hq, hp, h.r.chan h.q.chan hg, own_chan h.row h.q.chan hg, blk_kept h.box hg (by simpa using h.ne.1), h.below.grown hg h.below.size (by rintro _ ⟨⟩; exact h.lc), h.lc, h.l7, hl, h.top⟩
theorem QK.put {w0 w w' : World} {B7 b cb cap : Nat} {P R : List Pr} {rl v : Value} {xs : List Int} {B : Nat} (h : QK w0 w B7 b cb cap P R rl) (hq : QH w' b cb cap (P.map Prod.fst ++ [v])) (hb : BO B w' v xs) (hl : xs.length ≤ 2048) (hn : P.length < cap) (hg : w.grownBy w' (some cb)) : QK w0 w' B7 b cb cap (P ++ [(v, xs)]) R rl :=
  h.on (by simpa using hq) ((h.p.chan h.q.chan hg).app (.one (hb.le (Nat.zero_le _)) hl)) (by simp; omega) hg
theorem QK.take {w0 w w' : World} {B7 b cb cap : Nat} {p : Pr} {P R : List Pr} {rl : Value} (h : QK w0 w B7 b cb cap (p :: P) R rl) (hq : QH w' b cb cap (P.map Prod.fst)) (hg : w.grownBy w' (some cb)) : QK w0 w' B7 b cb cap P R rl ∧ BO 0 w' p.1 p.2 :=
  have h1 := h.p.chan h.q.chan hg
  ⟨h.on hq (fun q hq => h1 q (List.mem_cons_of_mem _ hq)) (by have := h.len; simp at this; omega) hg, (h1 p List.mem_cons_self).1⟩
theorem QK.other {w0 w w' : World} {B7 b cb cap c' cap' : Nat} {P R : List Pr} {rl : Value} {vs : List Value} (h : QK w0 w B7 b cb cap P R rl) (hc : QC w c' cap' vs) (h1 : cb ≠ c') (h2 : b ≠ c') (h3 : w0.heap.size ≤ c') (hg : w.grownBy w' (some c')) : QK w0 w' B7 b cb cap P R rl :=
  ⟨h.q.kept hg (by simpa using h2) (by simpa using h1), h.p.chan hc hg, h.r.chan hc hg, own_chan h.row hc hg, blk_kept h.box hg (by
    intro e
    injection e with e
    subst e
    obtain ⟨s, r, hh⟩ := hc
    rw [h.box] at hh
    simp at hh), h.below.grown hg h.below.size (by rintro _ ⟨⟩; exact h3), h.lc, h.l7, h.len, h.top⟩
/-- The box's new value. -/
theorem QK.box' {w0 w w' : World} {B7 b cb cap : Nat} {P R R' : List Pr} {rl rl' : Value} (h : QK w0 w B7 b cb cap P R rl) (hr : RO 0 w R') (hrow : w.ownsRow 0 29 1 rl' R'.length (R'.map Prod.fst)) (hg : w.grownBy w' (some B7)) (hb : w'.heap[B7]? = some (.cells #[.int .i64 (cap : Int), rl'] 40 (0, 0))) : QK w0 w' B7 b cb cap P R' rl' :=
  ⟨h.q.kept hg (by simpa using h.ne.2.symm) (by simpa using h.ne.1.symm), h.p.kept hg (by rintro _ ⟨⟩; exact h.p.far h.box (by simp)), hr.kept hg (by rintro _ ⟨⟩; exact hr.far h.box (by simp)), own_kept hrow hg (by rintro _ ⟨⟩; exact own_far hrow h.box (by simp)), hb, h.below.grown hg h.below.size (by rintro _ ⟨⟩; exact h.l7), h.lc, h.l7, h.len, h.top⟩
theorem QK.cells {w0 w : World} {B7 b cb cap : Nat} {P R : List Pr} {rl : Value} (h : QK w0 w B7 b cb cap P R rl) : w.cell? ⟨B7, 0, none⟩ = some (.int .i64 (cap : Int)) ∧ w.cell? ⟨B7, 1, none⟩ = some rl ∧ w.frozen? ⟨B7, 1, none⟩ = false :=
  ⟨(cell_of_row w B7 0 _ 40 (0, 0) h.box).trans rfl, (cell_of_row w B7 1 _ 40 (0, 0) h.box).trans rfl, blk_frozen h.box 1⟩
theorem QK.form {w0 w : World} {B7 b cb cap : Nat} {P R : List Pr} {rl : Value} (h : QK w0 w B7 b cb cap P R rl) : ∃ a c, rl = .slice a R.length c := own_len h.row

theorem Bt.later {w w' : World} {v : Value} {xs : List Int} (h : Bt w v xs) (hb : Below w.heap.size w w') : Bt w' v xs :=
  h.below hb (fun q hq h0 => by
    rcases h with ⟨_, h⟩ | ⟨g, o, c, h, _, h2, _⟩ | ⟨_, _, _, h⟩
    · rw [h] at h0; simp at h0
    · rw [h] at hq; simp only [Value.ownBlock, Option.some.injEq] at hq; subst hq; exact h2 h0
    · rw [h] at h0; simp at h0)
theorem put_any (b cb cap : Nat) (vs : List Value) (v : Value) (xs : List Int) (w : World) (h : QH w b cb cap vs) (hv : Bt w v xs) (hl : xs.length ≤ 2048) :
    Calls Try.prog 9 #[.pointer (some ⟨b, 0, none⟩), v] w fun e w' => ∃ (n : Int) (us : List Value), e = .returned (.int .i64 n) ∧ QH w' b cb cap us ∧ w.grownBy w' (some cb) := by
  by_cases hr : vs.length < cap
  · exact (put_ok b cb cap vs v xs w h hv hl hr).mono fun e w' ⟨v', h1, h2, _, h4⟩ => ⟨0, _, h1, h2, h4⟩
  · exact (put_full b cb cap vs v xs w h hv hl (by omega)).mono fun e w' ⟨h1, h4⟩ => ⟨71, vs, h1, h.kept h4 (by simp) (by simp), ⟨h4.os, h4.tape, h4.output, h4.size, fun k hk _ => h4.block k hk (by simp)⟩⟩
theorem take_any (b cb cap : Nat) (vs : List Value) (w : World) (h : QH w b cb cap vs) :
    Calls Try.prog 8 #[.pointer (some ⟨b, 0, none⟩)] w fun e w' => ∃ (v : Value) (ok : Bool), e = .returned (.tuple #[v, .bool ok]) ∧ w.grownBy w' (some cb) := by
  cases vs with
  | nil => exact (take_none b cb cap w h).mono fun e w' ⟨h1, h2⟩ => ⟨_, _, h1, by subst h2; exact World.grownBy.refl _ _⟩
  | cons v vs => exact (take_some b cb cap v vs w h).mono fun e w' ⟨h1, _, h3⟩ => ⟨_, _, h1, h3⟩

/-- What Put and the reference's Put leave and tell, in one. -/
def putN (cap : Nat) (P : List Pr) (xs : List Int) : Int := if 2048 < xs.length then 2 else if cap ≤ P.length then 71 else 0
theorem put_spec {w0 : World} (B7 b cb cap : Nat) (P R : List Pr) (rl v : Value) (xs : List Int) (w : World) (h : QK w0 w B7 b cb cap P R rl) (hv : Bt w v xs) :
    Calls Try.prog 9 #[.pointer (some ⟨b, 0, none⟩), v] w fun e w' => ∃ P', e = .returned (.int .i64 (putN cap P xs)) ∧ P'.map Prod.snd = P.map Prod.snd ++ (if putN cap P xs = 0 then [xs] else []) ∧ QK w0 w' B7 b cb cap P' R rl ∧ w.grownBy w' (some cb) := by
  unfold putN
  by_cases h1 : 2048 < xs.length
  · rw [if_pos h1]
    exact (put_long b cb v xs w h.q.cell hv h1).mono fun e w' ⟨he, hw⟩ => ⟨P, he, by simp, by subst hw; exact h, by subst hw; exact World.grownBy.refl _ _⟩
  · rw [if_neg h1]
    by_cases h2 : cap ≤ P.length
    · rw [if_pos h2]
      exact (put_full b cb cap _ v xs w h.q hv (by omega) (by simpa using h2)).mono fun e w' ⟨he, hg⟩ => ⟨P, he, by simp, h.grown hg, ⟨hg.os, hg.tape, hg.output, hg.size, fun k hk _ => hg.block k hk (by simp)⟩⟩
    · rw [if_neg h2]
      exact (put_ok b cb cap _ v xs w h.q hv (by omega) (by simpa using h2)).mono fun e w' ⟨v', he, hq, hb, hg⟩ => ⟨P ++ [(v', xs)], he, by simp, h.put hq hb (by omega) (by omega) hg, hg⟩
theorem rput_spec {w0 : World} (B7 b cb cap : Nat) (P R : List Pr) (rl v : Value) (xs : List Int) (w : World) (h : QK w0 w B7 b cb cap P R rl) (hv : Bt w v xs) (P0 : List Pr) (h0 : P0.length = R.length) (hR : R.length ≤ cap) :
    Calls Try.prog 15 #[.agg #[.int .i64 (cap : Int), rl], v] w fun e w' => ∃ R' a c, e = .returned (.tuple #[.agg #[.int .i64 (cap : Int), .slice a R'.length c], .int .i64 (putN cap P0 xs)]) ∧ R'.map Prod.snd = R.map Prod.snd ++ (if putN cap P0 xs = 0 then [xs] else []) ∧ w'.ownsRow 0 29 1 (.slice a R'.length c) R'.length (R'.map Prod.fst) ∧ RO 0 w' R' ∧ w.grownBy w' none := by
  unfold putN
  rw [h0]
  obtain ⟨ra, rc, hrl⟩ := h.form
  have htop := h.top
  by_cases h1 : 2048 < xs.length
  · rw [if_pos h1]
    refine (rput_long cap rl v xs w hv h1 ⟨ra, _, rc, hrl⟩).mono fun e w' ⟨he, hg⟩ => ⟨R, ra, rc, ?_, by simp, ?_, h.r.kept hg (by simp), hg⟩
    · rw [← hrl]; exact he
    · rw [← hrl]; exact own_kept h.row hg (by simp)
  · rw [if_neg h1]
    by_cases h2 : cap ≤ R.length
    · rw [if_pos h2]
      refine (rput_full cap R.length rl v xs w hv (by omega) ⟨ra, rc, hrl⟩ h2 (by omega)).mono fun e w' ⟨he, hg⟩ => ⟨R, ra, rc, ?_, by simp, ?_, h.r.kept hg (by simp), hg⟩
      · rw [← hrl]; exact he
      · rw [← hrl]; exact own_kept h.row hg (by simp)
    · rw [if_neg h2]
      refine (rput_ok cap rl v R xs w h.row h.r hv (by omega) (by omega) htop).mono fun e w' ⟨rl', v', he, ho, hb, hg⟩ => ?_
      obtain ⟨a, c, hl⟩ := own_len ho
      subst hl
      refine ⟨R ++ [(v', xs)], a, c, ?_, by simp, ?_, (h.r.kept hg (by simp)).app (.one (hb.le (Nat.zero_le _)) (by omega)), hg⟩
      · rw [List.length_append]; exact he
      · rw [List.length_append, List.map_append]; exact Joins.ownsRow_le ho (Nat.zero_le _)

/-- What Take and the reference's Take leave and tell. -/
theorem take_spec {w0 : World} (B7 b cb cap : Nat) (P R : List Pr) (rl : Value) (w : World) (h : QK w0 w B7 b cb cap P R rl) :
    Calls Try.prog 8 #[.pointer (some ⟨b, 0, none⟩)] w fun e w' => ∃ (P' : List Pr) (a : Option Addr) (n c : Nat), e = .returned (.tuple #[.slice a n c, .bool (decide (0 < P.length))]) ∧ P'.map Prod.snd = (P.map Prod.snd).tail ∧ QK w0 w' B7 b cb cap P' R rl ∧ BO 0 w' (.slice a n c) (((P.map Prod.snd).head?).getD []) ∧ w.grownBy w' (some cb) := by
  cases P with
  | nil => exact (take_none b cb cap w h.q).mono fun e w' ⟨h1, h2⟩ => ⟨[], none, 0, 0, h1, rfl, by subst h2; exact h, World.ownsRow_nil _ _ _ _, by subst h2; exact World.grownBy.refl _ _⟩
  | cons p P =>
    refine (take_some b cb cap p.1 (P.map Prod.fst) w h.q).mono fun e w' ⟨h1, h2, h3⟩ => ?_
    obtain ⟨k1, k2⟩ := h.take h2 h3
    obtain ⟨a, c, hv⟩ := k2.len
    exact ⟨P, a, p.2.length, c, by rw [h1, hv]; simp, rfl, k1, by rw [← hv]; exact k2, h3⟩
theorem rtake_spec {w0 : World} (B7 b cb cap : Nat) (P R : List Pr) (rl : Value) (w : World) (h : QK w0 w B7 b cb cap P R rl) (hR : R.length ≤ cap) (P0 : List Pr) (h0 : P0.map Prod.snd = R.map Prod.snd) :
    Calls Try.prog 16 #[.agg #[.int .i64 (cap : Int), rl]] w fun e w' => ∃ (R' : List Pr) (ra : Option Addr) (rc : Nat) (a : Option Addr) (n c : Nat), e = .returned (.tuple #[.agg #[.int .i64 (cap : Int), .slice ra R'.length rc], .slice a n c, .bool (decide (0 < P0.length))]) ∧ R'.map Prod.snd = (P0.map Prod.snd).tail ∧ w'.ownsRow 0 29 1 (.slice ra R'.length rc) R'.length (R'.map Prod.fst) ∧ RO 0 w' R' ∧ BO 0 w' (.slice a n c) (((P0.map Prod.snd).head?).getD []) ∧ w.grownBy w' none := by
  have hlen : P0.length = R.length := by simpa using congrArg List.length h0
  have htop := h.top
  rw [h0, hlen]
  cases R with
  | nil =>
    obtain ⟨ra, rc, hrl⟩ := h.form
    refine (rtake_none cap rl w ⟨ra, rc, hrl⟩).mono fun e w' ⟨he, hg⟩ => ⟨[], ra, rc, none, 0, 0, ?_, rfl, ?_, fun p hp => by simp at hp, World.ownsRow_nil _ _ _ _, hg⟩
    · rw [he, hrl]; rfl
    · have := own_kept h.row hg (by simp)
      rw [hrl] at this
      exact this
  | cons p R =>
    refine (rtake_some cap rl p R w h.row h.r (by simp at hR; omega)).mono fun e w' ⟨rl', he, ho, hg⟩ => ?_
    obtain ⟨ra, rc, hl⟩ := own_len ho
    subst hl
    have hr := h.r.kept hg (by simp)
    obtain ⟨a, c, hv⟩ := (hr p List.mem_cons_self).1.len
    exact ⟨R, ra, rc, a, p.2.length, c, by rw [he, hv]; simp, rfl, Joins.ownsRow_le ho (Nat.zero_le _), fun q hq => hr q (List.mem_cons_of_mem _ hq), by rw [← hv]; exact (hr p List.mem_cons_self).1, hg⟩
theorem clear_spec {w0 : World} (B7 b cb cap m : Nat) (P R : List Pr) (rl : Value) (w : World) (h : QK w0 w B7 b cb cap P R rl) (hm : P.length = m) :
    Calls Try.prog 17 #[.pointer (some ⟨b, 0, none⟩)] w fun e w' => e = .returned (.int .i64 (m : Int)) ∧ QK w0 w' B7 b cb cap [] R rl :=
  (clear_of b cb cap _ w h.q (by have := h.len; have := h.top; simp; omega)).mono fun e w' ⟨he, hq, hg⟩ => ⟨by rw [he, List.length_map, hm], h.on hq (fun p hp => by simp at hp) (by simp) hg⟩
theorem QK.drew {w0 w : World} {B7 b cb cap : Nat} {P R : List Pr} {rl : Value} (h : QK w0 w B7 b cb cap P R rl) : QK w0 w.drew B7 b cb cap P R rl := h.grown (grown_drew _ _)
/-- Behind Fork: the new queue beside the reference's, the old one of no account. -/
theorem QK.fork {w0 w w1 : World} {B7 b cb cap b2 cb2 : Nat} {P R P' X : List Pr} {rl v : Value} (h : QK w0 w B7 b cb cap P R rl) (hs : P'.map Prod.snd = P.map Prod.snd) (hf : FI w w1 b cb b2 cb2 cap P P' X v P.length) : QK w0 w1 B7 b2 cb2 cap X R rl ∧ X.map Prod.snd = P.map Prod.snd :=
  have hx : X.map Prod.snd = P.map Prod.snd := by have := hf.same; rwa [List.take_length] at this
  have hl : X.length = P.length := by simpa using congrArg List.length hx
  ⟨⟨hf.q2, hf.x.le (Nat.zero_le _), h.r.chan h.q.chan hf.grown, own_chan h.row h.q.chan hf.grown, blk_kept h.box hf.grown (by simpa using h.ne.1), h.below.grown hf.grown h.below.size (by rintro _ ⟨⟩; exact h.lc), Nat.le_trans h.below.size hf.l2, h.l7, by have := h.len; omega, h.top⟩, hx⟩

/-- How both stand ahead of a round's look. -/
def KS (w0 : World) (B7 b cb cap : Nat) (R : List Pr) (rl : Value) (w : World) : Prop := ∃ P, QK w0 w B7 b cb cap P R rl ∧ P.map Prod.snd = R.map Prod.snd
/-- What All told. -/
def AS (R : List Pr) (v : Value) (w : World) : Prop := ∃ P, Row w v P ∧ RB w P ∧ P.map Prod.snd = R.map Prod.snd ∧ P.length ≤ 32
theorem KS.grown {w0 w w' : World} {B7 b cb cap : Nat} {R : List Pr} {rl : Value} (h : KS w0 B7 b cb cap R rl w) (hg : w.grownBy w' none) : KS w0 B7 b cb cap R rl w' := by
  obtain ⟨P, h1, h2⟩ := h
  exact ⟨P, h1.grown hg, h2⟩
theorem KS.s {w0 w : World} {B7 b cb cap : Nat} {R : List Pr} {rl : Value} (h : KS w0 B7 b cb cap R rl w) : w.cell? ⟨B7, 0, none⟩ = some (.int .i64 (cap : Int)) ∧ w.cell? ⟨B7, 1, none⟩ = some rl ∧ KS w0 B7 b cb cap R rl w := by
  have h' := h
  obtain ⟨P, h1, h2⟩ := h
  exact ⟨h1.cells.1, h1.cells.2.1, h'⟩
theorem KS.len {w0 w : World} {B7 b cb cap : Nat} {R : List Pr} {rl : Value} (h : KS w0 B7 b cb cap R rl w) : R.length ≤ cap ∧ cap ≤ 32 := by
  obtain ⟨P, h1, h2⟩ := h
  have h3 : P.length = R.length := by simpa using congrArg List.length h2
  have := h1.len
  exact ⟨by omega, h1.top⟩
theorem len_S {w0 : World} (B7 b cb cap : Nat) (R : List Pr) (rl : Value) (w : World) (h : KS w0 B7 b cb cap R rl w) : Calls Try.prog 10 #[.pointer (some ⟨b, 0, none⟩)] w fun e w' => e = .returned (.int .i64 (R.length : Int)) ∧ KS w0 B7 b cb cap R rl w' := by
  have h' := h
  obtain ⟨P, h1, h2⟩ := h
  have h3 : P.length = R.length := by simpa using congrArg List.length h2
  exact (len_of b cb cap _ w h1.q).mono fun e w' ⟨he, hw⟩ => ⟨by rw [he, List.length_map, h3], hw ▸ h'⟩
theorem room_S {w0 : World} (B7 b cb cap : Nat) (R : List Pr) (rl : Value) (w : World) (h : KS w0 B7 b cb cap R rl w) : Calls Try.prog 11 #[.pointer (some ⟨b, 0, none⟩)] w fun e w' => e = .returned (.int .i64 ((cap : Int) - (R.length : Int))) ∧ KS w0 B7 b cb cap R rl w' := by
  have h' := h
  obtain ⟨P, h1, h2⟩ := h
  have h3 : P.length = R.length := by simpa using congrArg List.length h2
  exact (room_of b cb cap _ w h1.q (by have := h1.len; simpa using this) h1.top).mono fun e w' ⟨he, hg⟩ => ⟨by rw [he, List.length_map, h3], h'.grown hg⟩
theorem all_S {w0 : World} (B7 b cb cap : Nat) (R : List Pr) (rl : Value) (w : World) (h : KS w0 B7 b cb cap R rl w) : Calls Try.prog 12 #[.pointer (some ⟨b, 0, none⟩)] w fun e w' => ∃ (a : Option Addr) (c : Nat), e = .returned (.slice a R.length c) ∧ KS w0 B7 b cb cap R rl w' ∧ AS R (.slice a R.length c) w' := by
  obtain ⟨P, h1, h2⟩ := h
  have h3 : P.length = R.length := by simpa using congrArg List.length h2
  refine (all_of b cb cap P w h1.q h1.p h1.len h1.top).mono fun e w' ⟨v, P', he, hs, ho, hq, hr', hr, hg⟩ => ?_
  have hl : P'.length = P.length := by simpa using congrArg List.length hs
  rw [h3] at ho
  obtain ⟨a, c, hv⟩ := own_len ho
  subst hv
  exact ⟨a, c, he, ⟨P', h1.on hq (hr'.le (Nat.zero_le _)) (by have := h1.len; omega) hg, by rw [hs, h2]⟩, P, own_rows ho h3.symm, hr.rb, h2, by have := h1.len; have := h1.top; omega⟩
theorem same_S {w0 : World} (B7 b cb cap : Nat) (R : List Pr) (rl v : Value) (w : World) (h : KS w0 B7 b cb cap R rl w) (ha : AS R v w) : Calls Try.prog 13 #[v, rl] w fun e w' => e = .returned (.bool true) ∧ KS w0 B7 b cb cap R rl w' := by
  have h' := h
  obtain ⟨P, h1, h2⟩ := h
  obtain ⟨P', a1, a2, a3, a4⟩ := ha
  exact (same_of v rl P' R w a1 (own_rows h1.row rfl) a2 h1.r.rb a3 (by omega)).mono fun e w' ⟨he, q, hw⟩ => ⟨he, h'.grown (by rw [hw]; exact grown_drewN _ _ _)⟩
end Go.Proofs.Ytocicajjbkdbnaa.W
