/-
  How the link and what was said stand in the midst of WireApart, and what each step makes of both.
-/
import Derived.Test.YtaidfcehicffbaaD2
set_option linter.unusedVariables false
set_option linter.unusedSimpArgs false
namespace Go.Proofs.Ytaidfcehicffbaa.W
open Go.RowKit Go.Deep

def Zof (rv : Nat → Value) : Nat → Prop := fun r => ∃ d, d < 2 ∧ (rv d).ownBlock = some r
def updV {α : Type} (f : Nat → α) (d : Nat) (v : α) : Nat → α := fun j => if j = d then v else f j
structure KA (w0 w : World) (b b4 : Nat) (O : List (Nat × Array Value)) (G : Rows4) (rv : Nat → Value) (F : Nat → List Pr) : Prop where
  wr : WrX (Zof rv) w b false G
  box : w.heap[b4]? = some (.cells #[rv 0, rv 1] 27 (0, 0))
  own : ∀ d, d < 2 → OA w0.heap.size w (rv d) ((F d).map Prod.fst)
  ro : ∀ d, d < 2 → RO 0 w (F d)
  sep : ∀ i j, i < 2 → j < 2 → i ≠ j → ∀ r, (rv i).ownBlock = some r → (rv j).ownBlock ≠ some r
  below : Below w0.heap.size w0 w
  lb : w0.heap.size ≤ b
  l4 : w0.heap.size ≤ b4
  ob : ∀ p ∈ O, w.heap[p.1]? = some (.cells p.2 30 (0, 0))
section
variable {w0 w w' : World} {b b4 : Nat} {O : List (Nat × Array Value)} {G G' : Rows4} {rv : Nat → Value} {F : Nat → List Pr}
theorem KA.hZ (h : KA w0 w b b4 O G rv F) : ∀ r, Zof rv r → r < w.heap.size := fun r ⟨d, hd, hr⟩ => ((h.own d hd).block hr).2.1
theorem KA.grown (h : KA w0 w b b4 O G rv F) (hg : w.grownBy w' none) : KA w0 w' b b4 O G rv F :=
  ⟨h.wr.kept hg, blk_kept h.box hg (by simp), fun d hd => (h.own d hd).kept hg (by simp), fun d hd => (h.ro d hd).kept hg (by simp), h.sep, h.below.grown hg h.below.size (by simp), h.lb, h.l4, fun p hp => blk_kept (h.ob p hp) hg (by simp)⟩
theorem KA.link (h : KA w0 w b b4 O G rv F) (hw : WrX (Zof rv) w' b false G') (hg : w.grownBy w' (some b)) : KA w0 w' b b4 O G' rv F := by
  obtain ⟨bc, hbc⟩ := h.wr.wr.block
  exact ⟨hw, blk_kept h.box hg (by simpa using blk_ne h.box hbc (by decide)), fun d hd => (h.own d hd).far hbc (by decide) hg, fun d hd => (h.ro d hd).kept hg (by rintro r ⟨⟩; exact (h.ro d hd).far hbc (by simp)), h.sep, h.below.grown hg h.below.size (by rintro _ ⟨⟩; exact h.lb), h.lb, h.l4, fun p hp => blk_kept (h.ob p hp) hg (by simpa using blk_ne (h.ob p hp) hbc (by decide))⟩
theorem KA.cell (h : KA w0 w b b4 O G rv F) {d : Nat} (hd : d < 2) : w.cell? ⟨b4, d, none⟩ = some (rv d) ∧ w.frozen? ⟨b4, d, none⟩ = false := by
  refine ⟨(cell_of_row w b4 d _ 27 (0, 0) h.box).trans ?_, blk_frozen h.box d⟩
  match d, hd with
  | 0, _ => rfl
  | 1, _ => rfl
theorem KA.op (h : KA w0 w b b4 [] G rv F) (oc : Array Value) : KA w0 (w.alloc (.cells oc 30)) b b4 [(w.heap.size, oc)] G rv F :=
  have h1 := h.grown (World.grownBy_alloc w (.cells oc 30) none)
  ⟨h1.wr, h1.box, h1.own, h1.ro, h1.sep, h1.below, h1.lb, h1.l4, fun p hp => by rw [List.mem_singleton] at hp; subst hp; exact heap_alloc_new w _⟩
theorem KA.noop (h : KA w0 w b b4 O G rv F) : KA w0 w b b4 [] G rv F := ⟨h.wr, h.box, h.own, h.ro, h.sep, h.below, h.lb, h.l4, fun p hp => by simp at hp⟩
theorem KA.o {b6 : Nat} {kd dr nn : Int} {bv : Value} {up : Bool} (h : KA w0 w b b4 [(b6, #[.int .i64 kd, .int .i64 dr, .int .i64 nn, bv, .bool up])] G rv F) :
    w.cell? ⟨b6, 0, none⟩ = some (.int .i64 kd) ∧ w.cell? ⟨b6, 1, none⟩ = some (.int .i64 dr) ∧ w.cell? ⟨b6, 2, none⟩ = some (.int .i64 nn) ∧ w.cell? ⟨b6, 3, none⟩ = some bv ∧ w.cell? ⟨b6, 4, none⟩ = some (.bool up) := by
  have hb := h.ob _ (List.mem_singleton.2 rfl)
  exact ⟨(cell_of_row w b6 0 _ 30 (0, 0) hb).trans rfl, (cell_of_row w b6 1 _ 30 (0, 0) hb).trans rfl, (cell_of_row w b6 2 _ 30 (0, 0) hb).trans rfl, (cell_of_row w b6 3 _ 30 (0, 0) hb).trans rfl, (cell_of_row w b6 4 _ 30 (0, 0) hb).trans rfl⟩
theorem box_upd {rv : Nat → Value} {d : Nat} (hd : d < 2) (v : Value) : (#[rv 0, rv 1] : Array Value).setIfInBounds d v = #[updV rv d v 0, updV rv d v 1] := by
  match d, hd with
  | 0, _ => rfl
  | 1, _ => rfl
/-- A row's slice is laid anew: the world ahead of it, the world in which the new row stands. -/
theorem KA.lay {w3 : World} {v' : Value} {P : List Pr} {d : Nat} (h : KA w0 w b b4 O G rv F) (hd : d < 2) (hP : RO 0 w P) (ho : OA w0.heap.size w3 v' (P.map Prod.fst)) (hg : w.grownBy w3 (rv d).ownBlock) (hnew : ∀ r, v'.ownBlock = some r → (rv d).ownBlock = some r ∨ w.heap.size ≤ r) :
    KA w0 (w3.setCell ⟨b4, d, none⟩ v') b b4 O G (updV rv d v') (updV F d P) ∧ w.grownBy w3 (rv d).ownBlock ∧ w3.grownBy (w3.setCell ⟨b4, d, none⟩ v') (some b4) ∧ w3.heap[b4]? = some (.cells #[rv 0, rv 1] 27 (0, 0)) := by
  have hgs := grownSet w3 b4 d v'
  have hrow : ∀ r, (rv d).ownBlock = some r → w0.heap.size ≤ r ∧ r < w.heap.size ∧ ∃ cur, w.heap[r]? = some (.cells cur 28 (0, 0)) := fun r hr => (h.own d hd).block hr
  have kept27 : ∀ {k : Nat} {cs : Array Value} {t : TypeId}, w.heap[k]? = some (.cells cs t (0, 0)) → t ≠ 28 → w3.heap[k]? = some (.cells cs t (0, 0)) := fun {k cs t} hk ht => blk_kept hk hg (fun e => by
    obtain ⟨_, _, cur, hc⟩ := hrow k e.symm
    exact blk_ne hk hc ht rfl)
  have hbox3 := kept27 h.box (by decide)
  have hw1 : WrX (fun r => Zof rv r ∨ Zof (updV rv d v') r) w b false G := h.wr.less fun r hr hz => by
    rcases hz with hz | ⟨j, hj, hz⟩
    · exact hz
    · unfold updV at hz
      split at hz
      · rcases hnew r hz with h1 | h1
        · exact ⟨d, hd, h1⟩
        · omega
      · exact ⟨j, hj, hz⟩
  have hw3 : WrX (fun r => Zof rv r ∨ Zof (updV rv d v') r) w3 b false G := by
    cases hb : (rv d).ownBlock with
    | none => rw [hb] at hg; exact hw1.kept hg
    | some r =>
      obtain ⟨_, _, cur, hc⟩ := hrow r hb
      rw [hb] at hg
      exact hw1.out hc (.inl ⟨d, hd, hb⟩) hg
  have far28 : ∀ {Q : List Pr}, RO 0 w Q → RO 0 w3 Q := fun {Q} hQ => hQ.kept hg (fun r hr => by
    obtain ⟨_, _, cur, hc⟩ := hrow r hr
    exact hQ.far hc (by simp))
  refine ⟨⟨(hw3.far hbox3 (by decide) (by decide) (by decide) hgs).less fun r _ hz => .inr hz, ?_, fun j hj => ?_, fun j hj => ?_, fun i j hi hj hij r hr => ?_, ?_, h.lb, h.l4, fun p hp => blk_kept (kept27 (h.ob p hp) (by decide)) hgs (by simpa using blk_ne (kept27 (h.ob p hp) (by decide)) hbox3 (by decide))⟩, hg, hgs, hbox3⟩
  · rw [heap_setCell_same w3 b4 d _ 27 v' hbox3, box_upd hd]
  · unfold updV
    by_cases hjd : j = d
    · simp only [if_pos hjd]
      exact ho.far hbox3 (by decide) hgs
    · simp only [if_neg hjd]
      exact ((h.own j hj).kept hg (fun r hr => h.sep d j hd hj (fun e => hjd e.symm) r hr)).far hbox3 (by decide) hgs
  · unfold updV
    have : RO 0 w3 (if j = d then P else F j) := by
      by_cases hjd : j = d
      · simp only [if_pos hjd]; exact far28 hP
      · simp only [if_neg hjd]; exact far28 (h.ro j hj)
    exact this.kept hgs (by rintro r ⟨⟩; exact this.far hbox3 (by simp))
  · unfold updV at hr ⊢
    by_cases hid : i = d
    · have hjd : j ≠ d := fun e => hij (hid.trans e.symm)
      rw [if_pos hid] at hr
      rw [if_neg hjd]
      rcases hnew r hr with h1 | h1
      · exact h.sep d j hd hj (fun e => hjd e.symm) r h1
      · intro h2
        have := ((h.own j hj).block h2).2.1
        omega
    · rw [if_neg hid] at hr
      by_cases hjd : j = d
      · rw [if_pos hjd]
        intro h2
        rcases hnew r h2 with h1 | h1
        · exact h.sep i d hi hd hid r hr h1
        · have := ((h.own i hi).block hr).2.1
          omega
      · rw [if_neg hjd]
        exact h.sep i j hi hj hij r hr
  · have h3 : Below w0.heap.size w0 w3 := h.below.grown hg h.below.size (fun r hr => (hrow r hr).1)
    exact h3.grown hgs h3.size (by rintro _ ⟨⟩; exact h.l4)
theorem Rs.out {B : Nat} {w w' : World} {v : Value} {L : List (List Int)} {row : Option Nat} (h : Rs B w v L) (hg : w.grownBy w' row) (hr : ∀ r, row = some r → r < B) : Rs B w' v L := by
  obtain ⟨X, h1, h2, h3⟩ := h
  exact ⟨X, h1, own_kept h2 hg (fun r hr' e => by have := (h2.lt r e).1; have := hr r hr'; omega), h3.kept hg (fun r hr' p hp e => by have := ((h3 p hp).1.lt e).1; have := hr r hr'; omega)⟩
end
/-- The state with the two rows that were told ahead of the call. -/
structure KB (B : Nat) (w0 w : World) (b b4 : Nat) (O : List (Nat × Array Value)) (G : Rows4) (rv : Nat → Value) (F : Nat → List Pr) (v8 v9 : Value) (L8 L9 : List (List Int)) : Prop where
  k : KA w0 w b b4 O G rv F
  r8 : Rs B w v8 L8
  r9 : Rs B w v9 L9
  lt : ∀ j, j < 2 → ∀ r, (rv j).ownBlock = some r → r < B
section
variable {B : Nat} {w0 w w' : World} {b b4 : Nat} {O : List (Nat × Array Value)} {G G' : Rows4} {rv : Nat → Value} {F : Nat → List Pr} {v8 v9 : Value} {L8 L9 : List (List Int)}
theorem KB.grown (h : KB B w0 w b b4 O G rv F v8 v9 L8 L9) (hg : w.grownBy w' none) : KB B w0 w' b b4 O G rv F v8 v9 L8 L9 := ⟨h.k.grown hg, h.r8.kept hg, h.r9.kept hg, h.lt⟩
theorem KB.link (h : KB B w0 w b b4 O G rv F v8 v9 L8 L9) (hw : WrX (Zof rv) w' b false G') (hg : w.grownBy w' (some b)) : KB B w0 w' b b4 O G' rv F v8 v9 L8 L9 := by
  obtain ⟨bc, hbc⟩ := h.k.wr.wr.block
  exact ⟨h.k.link hw hg, h.r8.far hbc (by decide) (by decide) hg, h.r9.far hbc (by decide) (by decide) hg, h.lt⟩
/-- The same, of no account which blocks. -/
structure KC (w0 w : World) (b b4 : Nat) (G : Rows4) (rv : Nat → Value) (F : Nat → List Pr) (v8 v9 : Value) (L8 L9 : List (List Int)) : Prop where
  k : KA w0 w b b4 [] G rv F
  r8 : Rs 0 w v8 L8
  r9 : Rs 0 w v9 L9
theorem KB.c (h : KB B w0 w b b4 O G rv F v8 v9 L8 L9) : KC w0 w b b4 G rv F v8 v9 L8 L9 := ⟨h.k.noop, h.r8.le (Nat.zero_le _), h.r9.le (Nat.zero_le _)⟩
theorem KC.grown (h : KC w0 w b b4 G rv F v8 v9 L8 L9) (hg : w.grownBy w' none) : KC w0 w' b b4 G rv F v8 v9 L8 L9 := ⟨h.k.grown hg, h.r8.kept hg, h.r9.kept hg⟩
theorem KB.lay {w3 : World} {v' : Value} {P : List Pr} {d : Nat} (h : KB B w0 w b b4 O G rv F v8 v9 L8 L9) (hd : d < 2) (hP : RO 0 w P) (ho : OA w0.heap.size w3 v' (P.map Prod.fst)) (hg : w.grownBy w3 (rv d).ownBlock) (hnew : ∀ r, v'.ownBlock = some r → (rv d).ownBlock = some r ∨ w.heap.size ≤ r) :
    KC w0 (w3.setCell ⟨b4, d, none⟩ v') b b4 G (updV rv d v') (updV F d P) v8 v9 L8 L9 := by
  obtain ⟨h1, _, h3, h4⟩ := h.k.lay hd hP ho hg hnew
  exact ⟨h1.noop, ((h.r8.out hg (fun r hr => h.lt d hd r hr)).far h4 (by decide) (by decide) h3).le (Nat.zero_le _), ((h.r9.out hg (fun r hr => h.lt d hd r hr)).far h4 (by decide) (by decide) h3).le (Nat.zero_le _)⟩
theorem dL_nat {d : Nat} (hd : d < 2) : dL G (d : Int) = G d := by unfold dL; rw [if_pos (dOK_nat hd), Int.toNat_natCast]
theorem mL_nat {d : Nat} (hd : d < 2) : mL G (d : Int) = G (2 + d) := by unfold mL; rw [if_pos (dOK_nat hd), Int.toNat_natCast]
theorem dataG_ne {d : Nat} {xs : List Int} {j : Nat} (hj : j ≠ d) : dataG false G d xs j = G j := by
  unfold dataG
  split
  · simp [W.upd, hj]
  · rfl
theorem twinG_ne {d : Nat} {n : Int} {j : Nat} (hj : j ≠ d) : twinG G d n j = G j := by
  unfold twinG
  split
  · simp [W.upd, hj]
  · rfl
theorem takeG_ne {d : Nat} {n : Int} {j : Nat} (hj : j ≠ d) : takeG G d n j = G j := by
  unfold takeG
  split
  · simp [W.upd, hj]
  · rfl
theorem mayN_ok {d : Nat} (hd : d < 2) : mayN false (d : Int) = 0 := by unfold mayN; rw [dOK_nat hd]; rfl
theorem sayG_ok {d : Nat} (hd : d < 2) (xs : List Int) : sayG false G d xs = upd G (2 + d) (G (2 + d) ++ [xs]) := by unfold sayG; rw [if_pos (mayN_ok hd), Int.toNat_natCast]
theorem hear_nil {d : Nat} (hd : d < 2) (h0 : G (2 + d) = []) : hearB G d = false ∧ hearG G d = G := by
  have h1 : hearB G d = false := by unfold hearB; rw [Int.toNat_natCast, h0]; simp [inR]
  exact ⟨h1, hear_G_same h1⟩
theorem hear_cons {d : Nat} (hd : d < 2) {x : List Int} {L : List (List Int)} (h0 : G (2 + d) = x :: L) : hearB G d = true ∧ hearX G d = x ∧ hearG G d = upd G (2 + d) L := by
  have hin : inR (x :: L) 0 = true := by simp [inR]
  refine ⟨?_, ?_, ?_⟩
  · unfold hearB; rw [dOK_nat hd, Int.toNat_natCast, h0, hin]; rfl
  · unfold hearX tookL; rw [if_pos (dOK_nat hd), Int.toNat_natCast, h0, if_pos hin]; rfl
  · unfold hearG takeL; rw [if_pos (dOK_nat hd), Int.toNat_natCast, h0, if_pos hin]; rfl
/-- The calls of the link. -/
theorem data_A (d : Nat) (v : Value) (xs : List Int) (h : KB B w0 w b b4 O G rv F v8 v9 L8 L9) (hv : Bt w v xs) (hl : xs.length ≤ 4096) (hn : ∀ k, k < 4 → (G k).length ≤ 1000) :
    Calls Try.prog 11 #[.pointer (some ⟨b, 0, none⟩), .int .i64 (d : Int), v] w fun e w' => e = .returned (.int .i64 (dataN false G d xs)) ∧ KB B w0 w' b b4 O (dataG false G d xs) rv F v8 v9 L8 L9 :=
  (data_specX (Zof rv) b d false G v xs w h.k.wr h.k.hZ hv hl hn).mono fun e w' ⟨h1, h2, h3⟩ => ⟨h1, h.link h2 h3⟩
theorem say_A (d : Nat) (v : Value) (xs : List Int) (h : KB B w0 w b b4 O G rv F v8 v9 L8 L9) (hv : Bt w v xs) (hl : xs.length ≤ 4096) (hn : ∀ k, k < 4 → (G k).length ≤ 1000) :
    Calls Try.prog 14 #[.pointer (some ⟨b, 0, none⟩), .int .i64 (d : Int), v] w fun e w' => e = .returned (.int .i64 (mayN false d)) ∧ KB B w0 w' b b4 O (sayG false G d xs) rv F v8 v9 L8 L9 :=
  (say_specX (Zof rv) b d false G v xs w h.k.wr h.k.hZ hv hl hn).mono fun e w' ⟨h1, h2, h3⟩ => ⟨h1, h.link h2 h3⟩
theorem twin_A (d : Nat) (n : Int) (h : KB B w0 w b b4 O G rv F v8 v9 L8 L9) (hn : ∀ k, k < 4 → (G k).length ≤ 1000) :
    Calls Try.prog 13 #[.pointer (some ⟨b, 0, none⟩), .int .i64 (d : Int), .int .i64 n] w fun e w' => e = .returned (.int .i64 (twinN G d n)) ∧ KB B w0 w' b b4 O (twinG G d n) rv F v8 v9 L8 L9 :=
  (twin_specX (Zof rv) b d n false G w h.k.wr h.k.hZ hn).mono fun e w' ⟨h1, h2, h3⟩ => ⟨h1, h.link h2 h3⟩
theorem take_A (d : Nat) (n : Int) (h : KB B w0 w b b4 O G rv F v8 v9 L8 L9) (hn : ∀ k, k < 4 → (G k).length ≤ 1000) :
    Calls Try.prog 12 #[.pointer (some ⟨b, 0, none⟩), .int .i64 (d : Int), .int .i64 n] w fun e w' => ∃ a l c, e = .returned (.tuple #[.slice a l c, .bool (takeB G d n)]) ∧ KB B w0 w' b b4 O (takeG G d n) rv F v8 v9 L8 L9 :=
  (take_specX (Zof rv) b d n false G w h.k.wr h.k.hZ hn).mono fun e w' ⟨a, l, c, h1, h2, h3, h4⟩ => ⟨a, l, c, h1, h.link h2 h4⟩
theorem hear_A (d : Nat) (h : KB B w0 w b b4 O G rv F v8 v9 L8 L9) (hn : ∀ k, k < 4 → (G k).length ≤ 1000) :
    Calls Try.prog 15 #[.pointer (some ⟨b, 0, none⟩), .int .i64 (d : Int)] w fun e w' => ∃ a l c, e = .returned (.tuple #[.slice a l c, .bool (hearB G d)]) ∧ KB B w0 w' b b4 O (hearG G d) rv F v8 v9 L8 L9 ∧ Bt w' (.slice a l c) (hearX G d) :=
  (hear_specX (Zof rv) b d false G w h.k.wr h.k.hZ hn).mono fun e w' ⟨a, l, c, h1, h2, h3, h4⟩ => ⟨a, l, c, h1, h.link h2 h4, h3.bt⟩
end
end Go.Proofs.Ytaidfcehicffbaa.W
