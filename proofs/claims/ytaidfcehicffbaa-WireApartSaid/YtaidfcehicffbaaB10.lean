/-
  How the link and the reference stand in the midst of WireRuns, and what each call makes of both.
-/
import Derived.Test.YtaidfcehicffbaaB9
import Derived.Test.YtaidfcehicffbaaA8
import Derived.Deep.CutBlock
set_option linter.unusedVariables false
set_option linter.unusedSimpArgs false
namespace Go.Proofs.Ytaidfcehicffbaa.W
open Go.RowKit Go.Deep Go.WideShapes

/-- A call of an argument. -/
structure OpV where
  kd : Int
  dr : Int
  nn : Int
  bv : Value
  bx : List Int
  up : Bool
instance : Inhabited OpV := ⟨⟨0, 0, 0, .slice none 0 0, [], false⟩⟩
structure RQ (W : World) (a : Option Addr) (len : Nat) (f : Nat → OpV) : Prop where
  hlen : len ≤ 9223372036854775807
  hcells : 0 < len → ∃ b o, a = some ⟨b, o, none⟩ ∧ b < W.heap.size ∧ ∀ j, j < len → W.cell? ⟨b, o + j * 5, none⟩ = some (.int .i64 (f j).kd) ∧ W.cell? ⟨b, o + j * 5 + 1, none⟩ = some (.int .i64 (f j).dr) ∧ W.cell? ⟨b, o + j * 5 + 2, none⟩ = some (.int .i64 (f j).nn) ∧ W.cell? ⟨b, o + j * 5 + 3, none⟩ = some (f j).bv ∧ W.cell? ⟨b, o + j * 5 + 4, none⟩ = some (.bool (f j).up)
  hb : ∀ j, j < len → Bt W (f j).bv (f j).bx ∧ (f j).bx.length ≤ 9223372036854775807 ∧ ∀ a n c, (f j).bv = .slice a n c → c ≤ 9223372036854775807
theorem rq_of {H : Type} {enc : TypeId × Value → H} {W : World} {a : Option Addr} {len cap : Nat} {d : DataW H} {p : List MemPlace} (h : DataW.Trod enc Try.prog W 0 (fun _ => true) true 22 (.slice a len cap) d p) :
    ∃ f, RQ W a len f := by
  obtain ⟨h1, h2, h3⟩ := open_cells (m := 5) (fun cs => ∃ (kd dr nn : Int) (bv : Value) (bx : List Int) (up : Bool), OpIs W cs kd dr nn bv bx up) Try.underlying22 (by kernel_rfl) (by decide) h
    (fun n cs x hx => open_op hx)
  by_cases h0 : 0 < len
  · obtain ⟨b, o, rfl, hb, hc⟩ := h3 h0
    obtain ⟨f, hf⟩ := choose_lt (α := OpV) (n := len) (p := fun i x => (Bt W x.bv x.bx ∧ x.bx.length ≤ 9223372036854775807 ∧ ∀ a l c, x.bv = .slice a l c → c ≤ 9223372036854775807) ∧ W.cell? ⟨b, o + i * 5, none⟩ = some (.int .i64 x.kd) ∧ W.cell? ⟨b, o + i * 5 + 1, none⟩ = some (.int .i64 x.dr) ∧ W.cell? ⟨b, o + i * 5 + 2, none⟩ = some (.int .i64 x.nn) ∧ W.cell? ⟨b, o + i * 5 + 3, none⟩ = some x.bv ∧ W.cell? ⟨b, o + i * 5 + 4, none⟩ = some (.bool x.up)) (fun i hi => by
      obtain ⟨cs, ⟨kd, dr, nn, bv, bx, up, rfl, hw⟩, hcs⟩ := hc i hi
      exact ⟨⟨kd, dr, nn, bv, bx, up⟩, hw, hcs 0 _ rfl (by decide), hcs 1 _ rfl (by decide), hcs 2 _ rfl (by decide), hcs 3 _ rfl (by decide), hcs 4 _ rfl (by decide)⟩)
    exact ⟨f, by omega, fun _ => ⟨b, o, rfl, hb, fun j hj => (hf j hj).2⟩, fun j hj => (hf j hj).1⟩
  · exact ⟨fun _ => ⟨0, 0, 0, .slice none 0 0, [], false⟩, by omega, fun h => by omega, fun j hj => by omega⟩

theorem RF.agg {w : World} {val : Value} {on : Bool} {G : Rows4} (h : RF w val on G) : ∃ cs : Array Value, val = .agg cs ∧ cs.size = 5 ∧ (cs.all (·.oneCell')) = true := by
  obtain ⟨a, c, rfl, _⟩ := h
  exact ⟨_, rfl, rfl, fine_agg _ _ _ _ _ _ _ _ _ _ _ _ _⟩
theorem RF.sz {w : World} {cs : Array Value} {on : Bool} {G : Rows4} (h : RF w (.agg cs) on G) : cs.size = 5 ∧ (cs.all (·.oneCell')) = true := by
  obtain ⟨cs', h1, h2, h3⟩ := h.agg
  injection h1 with h1
  subst h1
  exact ⟨h2, h3⟩
theorem RF.far {w w' : World} {val : Value} {on : Bool} {G : Rows4} {r : Nat} {cs : Array Value} {t : TypeId} (h : RF w val on G) (hb : w.heap[r]? = some (.cells cs t (0, 0))) (h5 : t ≠ 5) (h28 : t ≠ 28) (hg : w.grownBy w' (some r)) : RF w' val on G := by
  obtain ⟨a, c, h1, h2⟩ := h
  exact ⟨a, c, h1, fun k hk => (h2 k hk).far hb h5 h28 hg⟩
theorem Wr.far {w w' : World} {b r : Nat} {dn : Bool} {G : Rows4} {cs : Array Value} {t : TypeId} (h : Wr w b dn G) (hb : w.heap[r]? = some (.cells cs t (0, 0))) (h5 : t ≠ 5) (h28 : t ≠ 28) (h60 : t ≠ 60) (hg : w.grownBy w' (some r)) : Wr w' b dn G := by
  obtain ⟨rv, F, hbb, hF⟩ := h.ex
  have hne : b ≠ r := by
    rintro rfl
    rw [hbb] at hb
    injection hb with hb
    injection hb with _ hb _
    exact h60 hb.symm
  exact ⟨rv, F, blk_kept hbb hg (by simpa using hne), fun k hk => ⟨⟨own_kept (hF k hk).1.1 hg (by rintro r ⟨⟩; exact own_far (hF k hk).1.1 hb (by simp; exact fun e => absurd e h28)), (hF k hk).1.2.kept hg (by rintro r ⟨⟩; exact (hF k hk).1.2.far hb (by simp; exact fun e => absurd e h5))⟩, (hF k hk).2⟩⟩
theorem Wr.block {w : World} {b : Nat} {dn : Bool} {G : Rows4} (h : Wr w b dn G) : ∃ cs, w.heap[b]? = some (.cells cs 60 (0, 0)) := by
  obtain ⟨rv, F, hbb, hF⟩ := h.ex
  exact ⟨_, hbb⟩

structure KW (w0 w : World) (b b4 : Nat) (O : List (Nat × Array Value)) (dn : Bool) (GL : Rows4) (on : Bool) (GR : Rows4) (bx cs : Array Value) : Prop where
  wr : Wr w b dn GL
  rf : RF w (.agg cs) on GR
  box : w.heap[b4]? = some (.cells bx 45 (0, 0))
  below : Below w0.heap.size w0 w
  lb : w0.heap.size ≤ b
  l4 : w0.heap.size ≤ b4
  ob : ∀ p ∈ O, w.heap[p.1]? = some (.cells p.2 30 (0, 0))
  sb : bx.size = 5
section
variable {w0 w w' : World} {b b4 : Nat} {O : List (Nat × Array Value)} {dn dn' on on' : Bool} {GL GR G' : Rows4} {bx cs cs' : Array Value}
theorem blk_ne {w : World} {a b : Nat} {A B : Array Value} {s t : TypeId} {f g : Nat × Nat} (h : w.heap[a]? = some (.cells A s f)) (k : w.heap[b]? = some (.cells B t g)) (hne : s ≠ t) : a ≠ b := by
  rintro rfl
  rw [h] at k
  injection k with k
  injection k with _ k _
  exact hne k
theorem KW.grown (h : KW w0 w b b4 O dn GL on GR bx cs) (hg : w.grownBy w' none) : KW w0 w' b b4 O dn GL on GR bx cs :=
  ⟨h.wr.kept hg, h.rf.kept hg, blk_kept h.box hg (by simp), h.below.grown hg h.below.size (by simp), h.lb, h.l4, fun p hp => blk_kept (h.ob p hp) hg (by simp), h.sb⟩
theorem KW.link (h : KW w0 w b b4 O dn GL on GR bx cs) (hg : w.grownBy w' (some b)) (hw : Wr w' b dn' G') : KW w0 w' b b4 O dn' G' on GR bx cs := by
  obtain ⟨bc, hbc⟩ := h.wr.block
  exact ⟨hw, h.rf.far hbc (by decide) (by decide) hg, blk_kept h.box hg (by simpa using blk_ne h.box hbc (by decide)), h.below.grown hg h.below.size (by rintro _ ⟨⟩; exact h.lb), h.lb, h.l4, fun p hp => blk_kept (h.ob p hp) hg (by simpa using blk_ne (h.ob p hp) hbc (by decide)), h.sb⟩
theorem KW.ref (h : KW w0 w b b4 O dn GL on GR bx cs) (hg : w.grownBy w' none) (hr : RF w' (.agg cs') on' G') : KW w0 w' b b4 O dn GL on' G' bx cs' :=
  ⟨h.wr.kept hg, hr, blk_kept h.box hg (by simp), h.below.grown hg h.below.size (by simp), h.lb, h.l4, fun p hp => blk_kept (h.ob p hp) hg (by simp), h.sb⟩
theorem KW.store (h : KW w0 w b b4 O dn GL on GR bx cs) : KW w0 (w.setRow b4 cs) b b4 O dn GL on GR cs cs :=
  ⟨h.wr.far h.box (by decide) (by decide) (by decide) (grownSetRow _ _ _), h.rf.far h.box (by decide) (by decide) (grownSetRow _ _ _), setRow_heap w b4 _ cs 45 (0, 0) h.box, h.below.grown (grownSetRow _ _ _) h.below.size (by rintro _ ⟨⟩; exact h.l4), h.lb, h.l4, fun p hp => blk_kept (h.ob p hp) (grownSetRow _ _ _) (by simpa using blk_ne (h.ob p hp) h.box (by decide)), h.rf.sz.1⟩
theorem KW.bt (h : KW w0 w b b4 O dn GL on GR bx cs) {v : Value} {xs : List Int} (hv : BO 0 w v xs) : BO 0 (w.setRow b4 cs') v xs :=
  hv.kept (grownSetRow _ _ _) (by rintro _ ⟨⟩; exact hv.ne h.box (by simp))
theorem KW.op (h : KW w0 w b b4 [] dn GL on GR bx cs) (oc : Array Value) : KW w0 (w.alloc (.cells oc 30)) b b4 [(w.heap.size, oc)] dn GL on GR bx cs :=
  have h1 := h.grown (World.grownBy_alloc w (.cells oc 30) none)
  ⟨h1.wr, h1.rf, h1.box, h1.below, h1.lb, h1.l4, fun p hp => by rw [List.mem_singleton] at hp; subst hp; exact heap_alloc_new w _, h.sb⟩
theorem KW.noop (h : KW w0 w b b4 O dn GL on GR bx cs) : KW w0 w b b4 [] dn GL on GR bx cs := ⟨h.wr, h.rf, h.box, h.below, h.lb, h.l4, fun p hp => by simp at hp, h.sb⟩
theorem KW.o {b6 : Nat} {kd dr nn : Int} {bv : Value} {up : Bool} (h : KW w0 w b b4 [(b6, #[.int .i64 kd, .int .i64 dr, .int .i64 nn, bv, .bool up])] dn GL on GR bx cs) :
    w.cell? ⟨b6, 0, none⟩ = some (.int .i64 kd) ∧ w.cell? ⟨b6, 1, none⟩ = some (.int .i64 dr) ∧ w.cell? ⟨b6, 2, none⟩ = some (.int .i64 nn) ∧ w.cell? ⟨b6, 3, none⟩ = some bv ∧ w.cell? ⟨b6, 4, none⟩ = some (.bool up) := by
  have hb := h.ob _ (List.mem_singleton.2 rfl)
  exact ⟨(cell_of_row w b6 0 _ 30 (0, 0) hb).trans rfl, (cell_of_row w b6 1 _ 30 (0, 0) hb).trans rfl, (cell_of_row w b6 2 _ 30 (0, 0) hb).trans rfl, (cell_of_row w b6 3 _ 30 (0, 0) hb).trans rfl, (cell_of_row w b6 4 _ 30 (0, 0) hb).trans rfl⟩
theorem KW.sz0 (h : KW w0 w b b4 O dn GL on GR cs cs) : (Try.prog.info? 45).map (·.size) = some cs.size := by rw [h.rf.sz.1]; exact size45
theorem KW.sz2 (h : KW w0 w b b4 O dn GL on GR bx cs) : (Try.prog.info? 45).map (·.size) = some cs.size := by rw [h.rf.sz.1]; exact size45
theorem KW.sz3 (h : KW w0 w b b4 O dn GL on GR bx cs) : bx.size = cs.size := h.sb.trans h.rf.sz.1.symm
theorem KW.sz (h : KW w0 w b b4 O dn GL on GR cs cs) : (Try.prog.info? 45).map (·.size) = some cs.size := by rw [h.rf.sz.1]; exact size45

/-- What each call makes of both. -/
theorem set_K (up : Bool) (h : KW w0 w b b4 O dn GL on GR bx cs) (hn : ∀ k, k < 4 → (GL k).length ≤ 1000) :
    Calls Try.prog 18 #[.pointer (some ⟨b, 0, none⟩), .bool up] w fun e w' => e = .returned (.int .i64 (setN up GL)) ∧ KW w0 w' b b4 O (!up) (setG up GL) on GR bx cs :=
  (set_spec b dn up GL w h.wr hn).mono fun e w' ⟨h1, h2, h3⟩ => ⟨h1, h.link h3 h2⟩
theorem data_K (d : Int) (v : Value) (xs : List Int) (h : KW w0 w b b4 O dn GL on GR bx cs) (hv : Bt w v xs) (hl : xs.length ≤ 4096) (hn : ∀ k, k < 4 → (GL k).length ≤ 1000) :
    Calls Try.prog 11 #[.pointer (some ⟨b, 0, none⟩), .int .i64 d, v] w fun e w' => e = .returned (.int .i64 (dataN dn GL d xs)) ∧ KW w0 w' b b4 O dn (dataG dn GL d xs) on GR bx cs :=
  (data_spec b d dn GL v xs w h.wr hv hl hn).mono fun e w' ⟨h1, h2, h3⟩ => ⟨h1, h.link h3 h2⟩
theorem say_K (d : Int) (v : Value) (xs : List Int) (h : KW w0 w b b4 O dn GL on GR bx cs) (hv : Bt w v xs) (hl : xs.length ≤ 4096) (hn : ∀ k, k < 4 → (GL k).length ≤ 1000) :
    Calls Try.prog 14 #[.pointer (some ⟨b, 0, none⟩), .int .i64 d, v] w fun e w' => e = .returned (.int .i64 (mayN dn d)) ∧ KW w0 w' b b4 O dn (sayG dn GL d xs) on GR bx cs :=
  (say_spec b d dn GL v xs w h.wr hv hl hn).mono fun e w' ⟨h1, h2, h3⟩ => ⟨h1, h.link h3 h2⟩
theorem twin_K (d n : Int) (h : KW w0 w b b4 O dn GL on GR bx cs) (hn : ∀ k, k < 4 → (GL k).length ≤ 1000) :
    Calls Try.prog 13 #[.pointer (some ⟨b, 0, none⟩), .int .i64 d, .int .i64 n] w fun e w' => e = .returned (.int .i64 (twinN GL d n)) ∧ KW w0 w' b b4 O dn (twinG GL d n) on GR bx cs :=
  (twin_spec b d n dn GL w h.wr hn).mono fun e w' ⟨h1, h2, h3⟩ => ⟨h1, h.link h3 h2⟩
theorem take_K (d n : Int) (h : KW w0 w b b4 O dn GL on GR bx cs) (hn : ∀ k, k < 4 → (GL k).length ≤ 1000) :
    Calls Try.prog 12 #[.pointer (some ⟨b, 0, none⟩), .int .i64 d, .int .i64 n] w fun e w' => ∃ a l c, e = .returned (.tuple #[.slice a l c, .bool (takeB GL d n)]) ∧ KW w0 w' b b4 O dn (takeG GL d n) on GR bx cs ∧ BO 0 w' (.slice a l c) (takeX GL d n) :=
  (take_spec b d n dn GL w h.wr hn).mono fun e w' ⟨a, l, c, h1, h2, h3, h4⟩ => ⟨a, l, c, h1, h.link h4 h2, h3⟩
theorem hear_K (d : Int) (h : KW w0 w b b4 O dn GL on GR bx cs) (hn : ∀ k, k < 4 → (GL k).length ≤ 1000) :
    Calls Try.prog 15 #[.pointer (some ⟨b, 0, none⟩), .int .i64 d] w fun e w' => ∃ a l c, e = .returned (.tuple #[.slice a l c, .bool (hearB GL d)]) ∧ KW w0 w' b b4 O dn (hearG GL d) on GR bx cs ∧ BO 0 w' (.slice a l c) (hearX GL d) :=
  (hear_spec b d dn GL w h.wr hn).mono fun e w' ⟨a, l, c, h1, h2, h3, h4⟩ => ⟨a, l, c, h1, h.link h4 h2, h3⟩
theorem rset_K (up : Bool) (h : KW w0 w b b4 O dn GL on GR bx cs) (hn : ∀ k, k < 4 → (GR k).length ≤ 1000) :
    Calls Try.prog 19 #[.agg cs, .bool up] w fun e w' => ∃ cs', e = .returned (.tuple #[.agg cs', .int .i64 (setN up GR)]) ∧ KW w0 w' b b4 O dn GL up (setG up GR) bx cs' :=
  (rset_spec on up GR _ w h.rf hn).mono fun e w' ⟨val, h1, h2, h3⟩ => by
    obtain ⟨cs', rfl, _⟩ := h2.agg
    exact ⟨cs', h1, h.ref h3 h2⟩
theorem rdata_K (d : Int) (v : Value) (xs : List Int) (h : KW w0 w b b4 O dn GL on GR bx cs) (hv : Bt w v xs) (hl : xs.length ≤ 4096) (hn : ∀ k, k < 4 → (GR k).length ≤ 1000) :
    Calls Try.prog 20 #[.agg cs, .int .i64 d, v] w fun e w' => ∃ cs', e = .returned (.tuple #[.agg cs', .int .i64 (dataN (!on) GR d xs)]) ∧ KW w0 w' b b4 O dn GL on (dataG (!on) GR d xs) bx cs' :=
  (rdata_spec d on GR _ v xs w h.rf hv hl hn).mono fun e w' ⟨val, h1, h2, h3⟩ => by
    obtain ⟨cs', rfl, _⟩ := h2.agg
    exact ⟨cs', h1, h.ref h3 h2⟩
theorem rsay_K (d : Int) (v : Value) (xs : List Int) (h : KW w0 w b b4 O dn GL on GR bx cs) (hv : Bt w v xs) (hl : xs.length ≤ 4096) (hn : ∀ k, k < 4 → (GR k).length ≤ 1000) :
    Calls Try.prog 23 #[.agg cs, .int .i64 d, v] w fun e w' => ∃ cs', e = .returned (.tuple #[.agg cs', .int .i64 (mayN (!on) d)]) ∧ KW w0 w' b b4 O dn GL on (sayG (!on) GR d xs) bx cs' :=
  (rsay_spec d on GR _ v xs w h.rf hv hl hn).mono fun e w' ⟨val, h1, h2, h3⟩ => by
    obtain ⟨cs', rfl, _⟩ := h2.agg
    exact ⟨cs', h1, h.ref h3 h2⟩
theorem rtwin_K (d n : Int) (h : KW w0 w b b4 O dn GL on GR bx cs) (hn : ∀ k, k < 4 → (GR k).length ≤ 1000) :
    Calls Try.prog 22 #[.agg cs, .int .i64 d, .int .i64 n] w fun e w' => ∃ cs', e = .returned (.tuple #[.agg cs', .int .i64 (twinN GR d n)]) ∧ KW w0 w' b b4 O dn GL on (twinG GR d n) bx cs' :=
  (rtwin_spec d n on GR _ w h.rf hn).mono fun e w' ⟨val, h1, h2, h3⟩ => by
    obtain ⟨cs', rfl, _⟩ := h2.agg
    exact ⟨cs', h1, h.ref h3 h2⟩
theorem rtake_K (d n : Int) (h : KW w0 w b b4 O dn GL on GR bx cs) (hn : ∀ k, k < 4 → (GR k).length ≤ 1000) :
    Calls Try.prog 21 #[.agg cs, .int .i64 d, .int .i64 n] w fun e w' => ∃ cs' a l c, e = .returned (.tuple #[.agg cs', .slice a l c, .bool (takeB GR d n)]) ∧ KW w0 w' b b4 O dn GL on (takeG GR d n) bx cs' ∧ BO 0 w' (.slice a l c) (takeX GR d n) ∧ w.grownBy w' none :=
  (rtake_spec d n on GR _ w h.rf hn).mono fun e w' ⟨val, a, l, c, h1, h2, h3, h4⟩ => by
    obtain ⟨cs', rfl, _⟩ := h2.agg
    exact ⟨cs', a, l, c, h1, h.ref h4 h2, h3, h4⟩
theorem rhear_K (d : Int) (h : KW w0 w b b4 O dn GL on GR bx cs) (hn : ∀ k, k < 4 → (GR k).length ≤ 1000) :
    Calls Try.prog 24 #[.agg cs, .int .i64 d] w fun e w' => ∃ cs' a l c, e = .returned (.tuple #[.agg cs', .slice a l c, .bool (hearB GR d)]) ∧ KW w0 w' b b4 O dn GL on (hearG GR d) bx cs' ∧ BO 0 w' (.slice a l c) (hearX GR d) ∧ w.grownBy w' none :=
  (rhear_spec d on GR _ w h.rf hn).mono fun e w' ⟨val, a, l, c, h1, h2, h3, h4⟩ => by
    obtain ⟨cs', rfl, _⟩ := h2.agg
    exact ⟨cs', a, l, c, h1, h.ref h4 h2, h3, h4⟩
end
/-- How long the rows may be. -/
def Few (G : Rows4) (n : Nat) : Prop := ∀ k, k < 4 → (G k).length ≤ n
theorem Few.upd {G : Rows4} {n k : Nat} {L : List (List Int)} (h : Few G n) (hl : L.length ≤ n + 1) : Few (upd G k L) (n + 1) := fun j hj => by
  unfold W.upd
  split
  · exact hl
  · have := h j hj
    omega
theorem Few.more {G : Rows4} {n : Nat} (h : Few G n) : Few G (n + 1) := fun j hj => by have := h j hj; omega
theorem takeL_len (L : List (List Int)) (n : Int) : (takeL L n).length ≤ L.length := by
  unfold takeL
  split
  · exact List.length_eraseIdx_le _ _
  · omega
theorem dOK_lt {d : Int} (h : dOK d = true) : d.toNat < 2 := by
  rcases d_cases h with rfl | rfl <;> decide
theorem Few.data {G : Rows4} {n : Nat} (h : Few G n) (dn : Bool) (d : Int) (xs : List Int) : Few (dataG dn G d xs) (n + 1) := by
  unfold dataG
  by_cases h0 : dataN dn G d xs = 0
  · rw [if_pos h0]
    have hm : mayN dn d = 0 := by
      unfold dataN at h0
      by_cases hm : mayN dn d = 0
      · exact hm
      · rw [if_pos hm] at h0; exact h0
    have := dOK_lt (may_zero hm).1
    have := h d.toNat (by omega)
    exact h.upd (by simp; omega)
  · rw [if_neg h0]; exact h.more
theorem Few.say {G : Rows4} {n : Nat} (h : Few G n) (dn : Bool) (d : Int) (xs : List Int) : Few (sayG dn G d xs) (n + 1) := by
  unfold sayG
  by_cases h0 : mayN dn d = 0
  · rw [if_pos h0]
    have := dOK_lt (may_zero h0).1
    have := h (2 + d.toNat) (by omega)
    exact h.upd (by simp; omega)
  · rw [if_neg h0]; exact h.more
theorem Few.twin {G : Rows4} {n : Nat} (h : Few G n) (d m : Int) : Few (twinG G d m) (n + 1) := by
  unfold twinG
  by_cases h0 : twinN G d m = 0
  · rw [if_pos h0]
    have hd : dOK d = true := by
      unfold twinN at h0
      cases hd : dOK d
      · rw [hd] at h0; simp at h0
      · rfl
    have := dOK_lt hd
    have := h d.toNat (by omega)
    exact h.upd (by simp; omega)
  · rw [if_neg h0]; exact h.more
theorem Few.take {G : Rows4} {n : Nat} (h : Few G n) (d m : Int) : Few (takeG G d m) (n + 1) := by
  unfold takeG
  by_cases h0 : dOK d = true
  · rw [if_pos h0]
    have := dOK_lt h0
    have h1 := h d.toNat (by omega)
    have h2 := takeL_len (G d.toNat) m
    exact h.upd (by omega)
  · rw [if_neg h0]; exact h.more
theorem Few.hear {G : Rows4} {n : Nat} (h : Few G n) (d : Int) : Few (hearG G d) (n + 1) := by
  unfold hearG
  by_cases h0 : dOK d = true
  · rw [if_pos h0]
    have := dOK_lt h0
    have h1 := h (2 + d.toNat) (by omega)
    have h2 := takeL_len (G (2 + d.toNat)) 0
    exact h.upd (by omega)
  · rw [if_neg h0]; exact h.more
theorem Few.set {G : Rows4} {n : Nat} (h : Few G n) (up : Bool) : Few (setG up G) (n + 1) := by
  unfold setG
  cases up
  · exact fun k hk => by simp [clr]
  · exact h.more
theorem Few.big {G : Rows4} {n : Nat} (h : Few G n) (hn : n ≤ 1000) : ∀ k, k < 4 → (G k).length ≤ 1000 := fun k hk => by have := h k hk; omega
end Go.Proofs.Ytaidfcehicffbaa.W
