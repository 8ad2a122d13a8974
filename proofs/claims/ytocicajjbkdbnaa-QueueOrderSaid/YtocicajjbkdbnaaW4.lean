/-
  What Fork of the package queue does, over any memory.
-/
import Derived.Test.YtocicajjbkdbnaaW3
set_option linter.unusedVariables false
set_option linter.unusedSimpArgs false
namespace Go.Proofs.Ytocicajjbkdbnaa.W
open Go.RowKit Go.Deep Go.Conc

/-- In the midst of Fork: X wait in the new queue already. -/
structure FI (w0 w : World) (b cb b2 cb2 cap : Nat) (P P' X : List Pr) (v : Value) (k : Nat) : Prop where
  q : QH w b cb cap (P'.map Prod.fst)
  q2 : QH w b2 cb2 cap (X.map Prod.fst)
  ne : cb ≠ cb2
  bb : b ≠ cb2
  r : RO 0 w P
  r' : RO w0.heap.size w P'
  x : RO w0.heap.size w X
  same : X.map Prod.snd = (P.take k).map Prod.snd
  out : w.ownsRow w0.heap.size 29 1 v P.length (P.map Prod.fst)
  grown : w0.grownBy w (some cb)
  l2 : w0.heap.size ≤ cb2
  lb2 : w0.heap.size ≤ b2
  lc : cb < w0.heap.size
  lb : b < w0.heap.size
theorem FI.step {w0 w w1 : World} {b cb b2 cb2 cap : Nat} {P P' X : List Pr} {v v' : Value} {k : Nat} (h : FI w0 w b cb b2 cb2 cap P P' X v k) (hk : k < P.length) {xs : List Int} (hx : (P.getD k default).2 = xs) (hl : xs.length ≤ 2048)
    (hq : QH w1 b2 cb2 cap (X.map Prod.fst ++ [v'])) (hb : BO w.heap.size w1 v' xs) (hg : w.grownBy w1 (some cb2)) : FI w0 w1 b cb b2 cb2 cap P P' (X ++ [(v', xs)]) v (k + 1) := by
  have hc := h.q2.chan
  refine ⟨h.q.kept hg (by simpa using h.bb) (by simpa using h.ne), by simpa using hq, h.ne, h.bb, h.r.chan hc hg, h.r'.chan hc hg, (h.x.chan hc hg).app (.one (hb.le h.grown.size) hl), ?_, own_chan h.out hc hg, gtrans h.grown hg (.inr (.inr ⟨_, rfl, h.l2⟩)), h.l2, h.lb2, h.lc, h.lb⟩
  rw [List.take_succ_eq_append_getElem hk, List.map_append, List.map_append, h.same]
  rw [List.getD_eq_getElem?_getD, List.getElem?_eq_getElem hk] at hx
  simp only [Option.getD_some] at hx
  simp [hx]

theorem own_read {w : World} {B n : Nat} {e : TypeId} {v : Value} {xs : List Value} (h : w.ownsRow B e 1 v n xs) (h0 : 0 < n) : ∃ g c, v = .slice (some ⟨g, 0, none⟩) n c ∧ ∀ k, k < n → w.cell? ⟨g, k, none⟩ = xs[k]? := by
  obtain ⟨g, c, rfl⟩ := Joins.ownsRow_form h h0
  exact ⟨g, c, rfl, fun k hk => h.cellAt k (by omega)⟩
theorem own_len {w : World} {B n size : Nat} {e : TypeId} {v : Value} {xs : List Value} (h : w.ownsRow B e size v n xs) : ∃ a c, v = .slice a n c := by
  rcases h.2 with ⟨rfl, rfl⟩ | ⟨g, c, _, rfl, _⟩
  · exact ⟨_, _, rfl⟩
  · exact ⟨_, _, rfl⟩

set_option maxHeartbeats 1000000 in
theorem fork_of (b cb cap : Nat) (P : List Pr) (w : World) (h : QH w b cb cap (P.map Prod.fst)) (hr : RO 0 w P) (hl : P.length ≤ cap) (hc : cap ≤ 32) :
    Calls Try.prog 18 #[.pointer (some ⟨b, 0, none⟩)] w fun e w' => ∃ b2 cb2 P' X v, e = .returned (.pointer (some ⟨b2, 0, none⟩)) ∧ P'.map Prod.snd = P.map Prod.snd ∧ FI w w' b cb b2 cb2 cap P P' X v P.length := by
  have hcell := h.cell
  obtain ⟨s, r, hq⟩ := h.chan
  have hk := fun ty => run_cap_chan (P := Try.prog) 48 ty Try.underlying48 hq
  have hmk := mkchan cap hc w
  have HH := Lib.hid h
  have HR := Lib.hid hr
  clear h hr hq
  have hg0 := gtrans (World.grownBy_alloc w (.chan cap #[] false 0 0 false) none) (World.grownBy_alloc (w.alloc (.chan cap #[] false 0 0 false)) (.cells #[.chan (some w.heap.size)] 50) none) (.inl rfl)
  have hq2 : QH ((w.alloc (.chan cap #[] false 0 0 false)).alloc (.cells #[.chan (some w.heap.size)] 50)) (w.heap.size + 1) w.heap.size cap [] := ⟨heap2_new' w _ _, 0, 0, heap2_old' w _ _⟩
  have HG0 := Lib.hid hg0
  have HQ2 := Lib.hid hq2
  clear hg0 hq2
  go_enter Try.func18, Try.ntmps18
  go_upto_region 4 with (first | (go_at_call 19; refine (none_made _ _ _ hcell).mono ?_; rintro e w' ⟨rfl, rfl⟩))
  clear hk hmk hcell
  obtain ⟨wA, hwA⟩ : ∃ x : World, x = (w.alloc (.chan cap #[] false 0 0 false)).alloc (.cells #[.chan (some w.heap.size)] 50) := ⟨_, rfl⟩
  rw [← hwA] at HG0 HQ2 ⊢
  clear hwA
  obtain ⟨b2, hb2⟩ : ∃ x, x = w.heap.size + 1 := ⟨_, rfl⟩
  obtain ⟨cb2, hcb2⟩ : ∃ x, x = w.heap.size := ⟨_, rfl⟩
  have hz : w.heap.size ≤ cb2 ∧ w.heap.size ≤ b2 ∧ cb ≠ cb2 ∧ b ≠ cb2 ∧ b2 ≠ cb := by
    have h1 := HH.out.ltc
    have h2 := HH.out.ltb
    omega
  have HZ := Lib.hid hz
  rw [← hb2, ← hcb2] at HQ2
  rw [← hb2] at ⊢
  clear hb2 hcb2 hz
  have HALL := Lib.hid (all_of b cb cap P wA (HH.out.kept HG0.out (by simp) (by simp)) (HR.out.kept HG0.out (by simp)) hl hc)
  have HLC : Hid (b < w.heap.size ∧ cb < w.heap.size) := Lib.hid ⟨HH.out.ltb, HH.out.ltc⟩
  clear HH HR
  go_wp2_with (first | (go_at_call 12; refine HALL.out.mono ?_; rintro e w1 ⟨v, P', rfl, hs, ho, hq, hr', hr, hg⟩; have HS := Lib.hid hs; have HF : Hid (FI w w1 b cb b2 cb2 cap P P' [] v 0) := Lib.hid ⟨hq, HQ2.out.kept hg (by have := HZ.out; simp; omega) (by have := HZ.out; simp; omega), HZ.out.2.2.1, HZ.out.2.2.2.1, hr, hr'.le HG0.out.size, (fun p hp => by simp at hp), rfl, Joins.ownsRow_le ho HG0.out.size, gn2 HG0.out hg, HZ.out.1, HZ.out.2.1, HLC.out.2, HLC.out.1⟩; obtain ⟨va, vc, rfl⟩ := own_len ho; clear hs ho hq hr' hr hg))
  have hP32 : P.length ≤ 32 := by omega
  have HCAP := Lib.hid hl
  clear hl HALL HQ2 HG0
  go_loopw [19] (fun iv wr => ∃ (k : Nat) (X : List Pr), iv = .int .i64 k ∧ k ≤ P.length ∧ Hid (FI w wr b cb b2 cb2 cap P P' X (.slice va P.length vc) k)) (fun iv _ => P.length - (intOf iv).toNat)
  case atStart => exact ⟨0, [], rfl, by omega, HF⟩
  case round =>
    clear HF
    obtain ⟨k, X, rfl, hk, HI⟩ := hrel
    by_cases hlt : k < P.length
    · obtain ⟨g, c, hv, hcell⟩ := own_read HI.out.out (by omega)
      have hck := hcell k hlt
      obtain ⟨p, hp⟩ : ∃ p, p = P.getD k default := ⟨_, rfl⟩
      have hmem : p ∈ P := by rw [hp, List.getD_eq_getElem?_getD, List.getElem?_eq_getElem hlt]; exact List.getElem_mem hlt
      have hpk : (P.map Prod.fst)[k]? = some p.1 := by rw [hp, List.getElem?_map, List.getD_eq_getElem?_getD, List.getElem?_eq_getElem hlt]; rfl
      rw [hpk] at hck
      obtain ⟨a, c', hpv⟩ := (HI.out.r p hmem).1.len
      have hp2 := (HI.out.r p hmem).2
      have HBT := Lib.hid (HI.out.r p hmem).1.bt
      have HP2 := Lib.hid (congrArg Prod.snd hp).symm
      obtain ⟨xv, xs⟩ := p
      simp only at hpv hp2 hck HBT HP2
      subst hpv
      clear hcell hp hmem hpk
      injection hv with hv1 hv2 hv3
      subst hv1 hv3
      have HXL : Hid (X.length = k) := Lib.hid (by
        have h4 := congrArg List.length HI.out.same
        rw [List.length_map, List.length_map, List.length_take] at h4
        omega)
      go_wp2_with (first | (go_at_call 9; refine (put_ok b2 cb2 cap (X.map Prod.fst) (.slice a xs.length c') xs wr HI.out.q2 HBT.out hp2 (by have := HXL.out; have := HCAP.out; rw [List.length_map]; omega)).mono ?_; rintro e w3 ⟨v', rfl, hq3, hb3, hg3⟩; have HQ3 := Lib.hid hq3; have HB3 := Lib.hid hb3; have HG3 := Lib.hid hg3; clear hq3 hb3 hg3))
      go_roundw
      case rel => exact ⟨k + 1, X ++ [(v', xs)], by go_num, by omega, Lib.hid (HI.out.step hlt HP2.out hp2 HQ3.out HB3.out HG3.out)⟩
      case measure => simp [intOf]; omega
    · obtain rfl : k = P.length := by omega
      go_wp2
      go_ret
      exact ⟨b2, cb2, P', X, _, rfl, HS.out, HI.out⟩
end Go.Proofs.Ytocicajjbkdbnaa.W
