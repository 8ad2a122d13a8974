/-
  What All, Clear and Fork of the package queue do, over any memory.
-/
import Derived.Test.YtocicajjbkdbnaaW2
import Derived.Lib.SmallJoins
set_option linter.unusedVariables false
set_option linter.unusedSimpArgs false
namespace Go.Proofs.Ytocicajjbkdbnaa.W
open Go.RowKit Go.Deep Go.Conc

/-- Slices and what they read as, each in memory of its own from block B on. -/
abbrev Pr := Value × List Int
def RO (B : Nat) (w : World) (P : List Pr) : Prop := ∀ p ∈ P, BO B w p.1 p.2 ∧ p.2.length ≤ 2048
theorem RO.kept {B : Nat} {w w' : World} {P : List Pr} {row : Option Nat} (h : RO B w P) (hg : w.grownBy w' row) (hne : ∀ r, row = some r → ∀ p ∈ P, p.1.ownBlock ≠ some r) : RO B w' P :=
  fun p hp => ⟨(h p hp).1.kept hg fun r hr => hne r hr p hp, (h p hp).2⟩
theorem RO.le {B B' : Nat} {w : World} {P : List Pr} (h : RO B w P) (hb : B' ≤ B) : RO B' w P := fun p hp => ⟨(h p hp).1.le hb, (h p hp).2⟩
theorem RO.far {B : Nat} {w : World} {P : List Pr} (h : RO B w P) {r : Nat} {o : Obj} (ho : w.heap[r]? = some o) (hne : ∀ cur fr, o ≠ .cells cur 5 fr) : ∀ p ∈ P, p.1.ownBlock ≠ some r :=
  fun p hp => (h p hp).1.ne ho hne
theorem RO.chan {B : Nat} {w w' : World} {P : List Pr} {cb cap : Nat} {vs : List Value} (h : RO B w P) (hq : QC w cb cap vs) (hg : w.grownBy w' (some cb)) : RO B w' P := by
  obtain ⟨s, r, hc⟩ := hq
  refine h.kept hg ?_
  rintro _ ⟨⟩
  exact h.far hc (by simp)
theorem RO.app {B : Nat} {w : World} {P Q : List Pr} (h : RO B w P) (k : RO B w Q) : RO B w (P ++ Q) := fun p hp => by
  rcases List.mem_append.1 hp with hp | hp
  · exact h p hp
  · exact k p hp
theorem RO.one {B : Nat} {w : World} {v : Value} {xs : List Int} (h : BO B w v xs) (hl : xs.length ≤ 2048) : RO B w [(v, xs)] := fun p hp => by
  rw [List.mem_singleton] at hp
  subst hp
  exact ⟨h, hl⟩
theorem own_row {w : World} {B n size : Nat} {e : TypeId} {v : Value} {xs : List Value} {k : Nat} (h : w.ownsRow B e size v n xs) (hk : v.ownBlock = some k) : ∃ cur, w.heap[k]? = some (.cells cur e (0, 0)) := by
  rcases h.2 with ⟨rfl, _⟩ | ⟨g, cap, cur, rfl, _, hg, _⟩
  · simp [Value.ownBlock] at hk
  · simp only [Value.ownBlock, Option.some.injEq] at hk
    subst hk
    exact ⟨cur, hg⟩
/-- A write to a row of another type. -/
theorem RO.row {B B' n size : Nat} {w w' : World} {P : List Pr} {e : TypeId} {v : Value} {xs : List Value} (h : RO B w P) (hr : w.ownsRow B' e size v n xs) (he : e ≠ 5) (hg : w.grownBy w' v.ownBlock) : RO B w' P := by
  refine h.kept hg fun r hr' => ?_
  obtain ⟨cur, hc⟩ := own_row hr hr'
  exact h.far hc (by simp; exact he)
theorem QC.row {w w' : World} {B' n size cb cap : Nat} {e : TypeId} {v : Value} {xs vs : List Value} (h : QC w cb cap vs) (hr : w.ownsRow B' e size v n xs) (hg : w.grownBy w' v.ownBlock) : QC w' cb cap vs := by
  obtain ⟨s, r, hc⟩ := h
  refine ⟨s, r, blk_kept hc hg fun e => ?_⟩
  obtain ⟨cur, hk⟩ := own_row hr e.symm
  rw [hc] at hk
  simp at hk

/-- How the queue stands in the midst of All: E wait still, X wait anew, D are told. -/
structure AI (w0 w : World) (b cb cap : Nat) (D E X : List Pr) (ov : Value) : Prop where
  q : QH w b cb cap ((E ++ X).map Prod.fst)
  e : RO 0 w E
  x : RO w0.heap.size w X
  same : X.map Prod.snd = D.map Prod.snd
  out : w.ownsRow w0.heap.size 29 1 ov D.length (D.map Prod.fst)
  grown : w0.grownBy w (some cb)
  lb : b < w0.heap.size
  lc : cb < w0.heap.size

theorem own_kept {w w' : World} {B n size : Nat} {e : TypeId} {v : Value} {xs : List Value} {row : Option Nat} (h : w.ownsRow B e size v n xs) (hg : w.grownBy w' row) (hne : ∀ r, row = some r → v.ownBlock ≠ some r) : w'.ownsRow B e size v n xs :=
  World.ownsRow.kept h hg (by
    cases ho : v.ownBlock with
    | none => exact .inl rfl
    | some k =>
      refine .inr fun e => ?_
      exact hne k e.symm ho)
theorem own_far {w : World} {B n size : Nat} {e : TypeId} {v : Value} {xs : List Value} {r : Nat} {o : Obj} (h : w.ownsRow B e size v n xs) (ho : w.heap[r]? = some o) (hne : ∀ cur fr, o ≠ .cells cur e fr) : v.ownBlock ≠ some r := fun hk => by
  obtain ⟨cur, hc⟩ := own_row h hk
  rw [ho] at hc
  exact hne cur (0, 0) (by simpa using hc)
theorem own_chan {w w' : World} {B n size cb cap : Nat} {e : TypeId} {v : Value} {xs vs : List Value} (h : w.ownsRow B e size v n xs) (hq : QC w cb cap vs) (hg : w.grownBy w' (some cb)) : w'.ownsRow B e size v n xs := by
  obtain ⟨s, r, hc⟩ := hq
  refine own_kept h hg ?_
  rintro _ ⟨⟩
  exact own_far h hc (by simp)
theorem QH.row {w w' : World} {b cb B' n size cap : Nat} {e : TypeId} {v : Value} {xs vs : List Value} (h : QH w b cb cap vs) (hr : w.ownsRow B' e size v n xs) (he : e ≠ 50) (hg : w.grownBy w' v.ownBlock) : QH w' b cb cap vs :=
  ⟨blk_kept h.box hg fun e' => by
    obtain ⟨cur, hk⟩ := own_row hr e'.symm
    rw [h.box] at hk
    simp at hk
    exact he hk.2.symm, h.chan.row hr hg⟩

/-- Take and append of a round. -/
theorem AI.step1 {w0 w w1 w2 : World} {b cb cap : Nat} {D E X : List Pr} {p : Pr} {ov ov' : Value} (h : AI w0 w b cb cap D (p :: E) X ov) (hq : QH w1 b cb cap ((E ++ X).map Prod.fst)) (hg : w.grownBy w1 (some cb))
    (ho : w2.ownsRow w0.heap.size 29 1 ov' (D.length + 1) (D.map Prod.fst ++ [p.1])) (hg2 : (w1.alloc (.cells #[p.1] 29)).grownBy w2 ov.ownBlock) :
    QH w2 b cb cap ((E ++ X).map Prod.fst) ∧ RO 0 w2 (p :: E) ∧ RO w0.heap.size w2 X ∧ w2.ownsRow w0.heap.size 29 1 ov' (D ++ [p]).length ((D ++ [p]).map Prod.fst) ∧ w0.grownBy w2 (some cb) := by
  have ga := World.grownBy_alloc w1 (.cells #[p.1] 29) none
  have hout := own_kept (own_chan h.out h.q.chan hg) ga (by simp)
  have hq1 := hq.kept ga (by simp) (by simp)
  have g1 := gtrans h.grown hg (.inl rfl)
  refine ⟨hq1.row hout (by decide) hg2, ((h.e.chan h.q.chan hg).kept ga (by simp)).row hout (by decide) hg2, ((h.x.chan h.q.chan hg).kept ga (by simp)).row hout (by decide) hg2, ?_, gtrans (gn g1 ga) hg2 ?_⟩
  · rw [List.length_append, List.map_append]
    exact ho
  · cases hk : ov.ownBlock with
    | none => exact .inr (.inl rfl)
    | some k => exact .inr (.inr ⟨k, rfl, (h.out.lt k hk).1⟩)
/-- .. and Put. -/
theorem AI.step2 {w0 w2 w3 : World} {b cb cap : Nat} {D E X : List Pr} {p : Pr} {ov' v' : Value} (hq2 : QH w2 b cb cap ((E ++ X).map Prod.fst)) (h2 : RO 0 w2 (p :: E) ∧ RO w0.heap.size w2 X ∧ w2.ownsRow w0.heap.size 29 1 ov' (D ++ [p]).length ((D ++ [p]).map Prod.fst) ∧ w0.grownBy w2 (some cb))
    (hs : X.map Prod.snd = D.map Prod.snd) (hq : QH w3 b cb cap ((E ++ X).map Prod.fst ++ [v'])) (hb : BO w2.heap.size w3 v' p.2) (hg : w2.grownBy w3 (some cb)) (lb : b < w0.heap.size) (lc : cb < w0.heap.size) :
    AI w0 w3 b cb cap (D ++ [p]) E (X ++ [(v', p.2)]) ov' := by
  obtain ⟨he, hx, ho, g2⟩ := h2
  have hl := (he p List.mem_cons_self).2
  refine ⟨by rw [← List.append_assoc, List.map_append]; exact hq, (RO.chan (fun q hq => he q (List.mem_cons_of_mem _ hq)) hq2.chan hg), (hx.chan hq2.chan hg).app (.one (hb.le g2.size) hl), by simp [hs], own_chan ho hq2.chan hg, gtrans g2 hg (.inl rfl), lb, lc⟩

set_option maxHeartbeats 1000000 in
theorem all_of (b cb cap : Nat) (P : List Pr) (w : World) (h : QH w b cb cap (P.map Prod.fst)) (hr : RO 0 w P) (hl : P.length ≤ cap) (hc : cap ≤ 32) :
    Calls Try.prog 12 #[.pointer (some ⟨b, 0, none⟩)] w fun e w' => ∃ v P', e = .returned v ∧ P'.map Prod.snd = P.map Prod.snd ∧ w'.ownsRow w.heap.size 29 1 v P.length (P.map Prod.fst) ∧ QH w' b cb cap (P'.map Prod.fst) ∧ RO w.heap.size w' P' ∧ RO 0 w' P ∧ w.grownBy w' (some cb) := by
  obtain ⟨i0, hi, hz0, hz1, hz2⟩ := info_parts info29
  have HP : Hid (RO 0 w P ∧ QC w cb cap (P.map Prod.fst)) := Lib.hid ⟨hr, h.chan⟩
  have hI : Hid (AI w w b cb cap [] P [] (.slice none 0 0)) := Lib.hid ⟨by simpa using h, hr, fun p hp => by simp at hp, rfl, World.ownsRow_nil _ _ _ _, World.grownBy.refl _ _, h.ltb, h.ltc⟩
  have hlen := len_of b cb cap _ w h
  rw [List.length_map] at hlen
  have HLEN := Lib.hid hlen
  clear h hr hlen
  go_enter Try.func12, Try.ntmps12
  go_wp2_with (first | (go_at_call 10; refine HLEN.out.mono ?_; rintro e w' ⟨rfl, rfl⟩))
  go_loopw [3, 8] (fun ou iv wr => ∃ (k : Nat) (ov : Value) (D E X : List Pr), ov = ou ∧ iv = .int .i64 k ∧ k ≤ P.length ∧ Hid (P = D ++ E ∧ D.length = k ∧ AI w wr b cb cap D E X ov)) (fun _ iv _ => P.length - (intOf iv).toNat)
  case atStart => exact ⟨0, _, [], P, [], rfl, rfl, by omega, Lib.hid ⟨rfl, rfl, hI.out⟩⟩
  case round =>
    clear hI
    obtain ⟨k, ov, D, E, X, rfl, rfl, hk, HI⟩ := hrel
    by_cases hlt : k < P.length
    · cases E with
      | nil =>
        exfalso
        obtain ⟨h1, h2, _⟩ := HI.out
        rw [h1, List.append_nil] at hlt
        omega
      | cons p E =>
        obtain ⟨a, c, hpv⟩ := (HI.out.2.2.e p List.mem_cons_self).1.len
        have hp2 := (HI.out.2.2.e p List.mem_cons_self).2
        obtain ⟨v, xs⟩ := p
        simp only at hpv hp2
        subst hpv
        have hcnt : (E ++ X).length + 1 = P.length ∧ D.length = k := by
          obtain ⟨h1, h2, h3⟩ := HI.out
          have h4 := congrArg List.length h3.same
          rw [List.length_map, List.length_map] at h4
          rw [h1]
          simp only [List.length_append, List.length_cons]
          omega
        have HCNT := Lib.hid hcnt
        have HTK := Lib.hid (take_some b cb cap (.slice a xs.length c) ((E ++ X).map Prod.fst) wr (by have := HI.out.2.2.q; simpa using this))
        clear hcnt
        go_upto_region 6 with (first | (go_at_call 8; refine HTK.out.mono ?_; rintro e w1 ⟨rfl, hq1, hg1⟩; have HQ1 := Lib.hid hq1; have HG1 := Lib.hid hg1; clear hq1 hg1))
        have HOUT : Hid ((w1.alloc (.cells #[.slice a xs.length c] 29)).ownsRow w.heap.size 29 1 ov D.length (D.map Prod.fst)) := Lib.hid (own_kept (own_chan HI.out.2.2.out HI.out.2.2.q.chan HG1.out) (World.grownBy_alloc w1 _ none) (by simp))
        have HB0 : Hid (w.heap.size ≤ (w1.alloc (.cells #[.slice a xs.length c] 29)).heap.size ∧ D.length + 1 ≤ 32) := Lib.hid ⟨Nat.le_trans (gtrans HI.out.2.2.grown HG1.out (.inl rfl)).size (World.grownBy_alloc w1 (.cells #[.slice a xs.length c] 29) none).size, by have := HCNT.out; omega⟩
        go_upto_region 7 with (first | (at_builtin; refine wpList_append_own _ rfl _ _ 28 rfl w.heap.size 29 i0 (.slice none 0 0) 1 24 Try.underlying28 hi hz0 hz1 hz2 rfl (by decide) ov D.length _ rfl HOUT.out ⟨w1.heap.size, 0, none⟩ 1 1 [.slice a xs.length c] rfl rfl (cell_one_new _ _ _) (by simp [Value.oneCell']) (by have := HB0.out; unfold maxLen; omega) (by have := HB0.out; omega) HB0.out.1 ?_; intro ov' w2 ho hg2 _; have HO := Lib.hid ho; have HG2 := Lib.hid hg2; clear ho hg2))
        have HS1 := Lib.hid (HI.out.2.2.step1 HQ1.out HG1.out HO.out HG2.out)
        clear HO HG2 HOUT HTK
        go_wp2_with (first | (go_at_call 9; refine (put_ok b cb cap ((E ++ X).map Prod.fst) (.slice a xs.length c) xs w2 HS1.out.1 (HS1.out.2.1 _ List.mem_cons_self).1.bt hp2 (by have := HCNT.out; rw [List.length_map]; omega)).mono ?_; rintro e w3 ⟨v', rfl, hq3, hb3, hg3⟩; have HQ3 := Lib.hid hq3; have HB3 := Lib.hid hb3; have HG3 := Lib.hid hg3; clear hq3 hb3 hg3))
        go_roundw
        case rel => exact ⟨k + 1, _, D ++ [(.slice a xs.length c, xs)], E, X ++ [(v', xs)], rfl, by go_num, by omega, Lib.hid ⟨by rw [HI.out.1, List.append_assoc]; rfl, by rw [List.length_append, HCNT.out.2]; rfl, AI.step2 HS1.out.1 HS1.out.2 HI.out.2.2.same HQ3.out HB3.out HG3.out HI.out.2.2.lb HI.out.2.2.lc⟩⟩
        case measure => simp [intOf]; omega
    · have HE : Hid (E = [] ∧ D = P) := by
        obtain ⟨h1, h2, _⟩ := HI.out
        have h3 := congrArg List.length h1
        rw [List.length_append] at h3
        have h4 : E = [] := List.length_eq_zero_iff.1 (by omega)
        exact Lib.hid ⟨h4, by rw [h1, h4, List.append_nil]⟩
      go_wp2
      go_ret
      obtain ⟨_, _, h3⟩ := HI.out
      obtain ⟨rfl, rfl⟩ := HE.out
      exact ⟨ov, X, rfl, h3.same, h3.out, by simpa using h3.q, h3.x, HP.out.1.chan HP.out.2 h3.grown, h3.grown⟩

theorem clear_of (b cb cap : Nat) (vs : List Value) (w : World) (h : QH w b cb cap vs) (hl : vs.length ≤ 32) : Calls Try.prog 17 #[.pointer (some ⟨b, 0, none⟩)] w fun e w' => e = .returned (.int .i64 (vs.length : Int)) ∧ QH w' b cb cap [] ∧ w.grownBy w' (some cb) := by
  have HI : Hid (QH w b cb cap vs ∧ w.grownBy w (some cb)) := Lib.hid ⟨h, World.grownBy.refl _ _⟩
  clear h
  go_enter Try.func17, Try.ntmps17
  go_wp2
  go_loopw [3] (fun nv wr => ∃ (k : Nat) (us : List Value), nv = .int .i64 k ∧ k + us.length = vs.length ∧ Hid (QH wr b cb cap us ∧ w.grownBy wr (some cb))) (fun nv _ => vs.length - (intOf nv).toNat)
  case atStart => exact ⟨0, vs, rfl, by omega, HI⟩
  case round =>
    clear HI
    obtain ⟨k, us, rfl, hk, HI⟩ := hrel
    cases us with
    | nil =>
      obtain rfl : k = vs.length := by simpa using hk
      go_wp2_with (first | (go_at_call 8; refine (take_none b cb cap wr HI.out.1).mono ?_; rintro e w' ⟨rfl, rfl⟩))
      go_ret
      exact ⟨rfl, HI.out⟩
    | cons v us =>
      rw [List.length_cons] at hk
      go_wp2_with (first | (go_at_call 8; refine (take_some b cb cap v us wr HI.out.1).mono ?_; rintro e w1 ⟨rfl, hq, hg⟩; have HQ := Lib.hid hq; have HG := Lib.hid hg; clear hq hg))
      go_roundw
      case rel => exact ⟨k + 1, us, by go_num, by omega, Lib.hid ⟨HQ.out, gtrans HI.out.2 HG.out (.inl rfl)⟩⟩
      case measure => simp [intOf]; omega
end Go.Proofs.Ytocicajjbkdbnaa.W
