/-
  What New, Put and Take of the reference of the package queue do, over any memory; append of any source.
-/
import Derived.Test.YtocicajjbkdbnaaW4
import Derived.Great.BuildSlice
set_option linter.unusedVariables false
set_option linter.unusedSimpArgs false
namespace Go.Proofs.Ytocicajjbkdbnaa.W
open Go.RowKit Go.Deep Go.Conc

theorem own_src {w : World} {B n : Nat} {e : TypeId} {v : Value} {xs : List Value} (h : w.ownsRow B e 1 v n xs) : Src w v n xs := by
  have hl := h.1
  rcases h.2 with ⟨rfl, rfl⟩ | ⟨g, cap, cur, rfl, _⟩
  · exact .inl ⟨rfl, rfl, List.eq_nil_of_length_eq_zero (by simpa using hl)⟩
  · refine .inr ⟨_, cap, rfl, fun j u hj => ?_⟩
    have hjl : j < xs.length := by
      rcases Nat.lt_or_ge j xs.length with h | h
      · exact h
      · rw [List.getElem?_eq_none h] at hj
        simp at hj
    rw [addN, Nat.zero_add, h.cellAt j (by omega)]
    exact hj

theorem wpList_append_any {P : Program} (w : World) {ops : Array Oper} {rest : List Oper} {o : Oper} {a : Act} {Q : Exit → Act → World → Prop} (hgd : o.guard = none) (s x : Operand) (t : TypeId)
    (ho : o.op = .call { callee := .builtin .append, args := #[s, x], argTypes := #[t, t] })
    (base : Nat) (e : TypeId) (i : TypeInfo) (z : Value) (size bytes : Nat) (ht : P.underlying t = some (.slice e)) (hi : P.info? e = some i) (hz : i.zero = some z)
    (hsize : i.size = size) (hby : i.bytes = bytes) (hzs : z.cells.size = size) (hsz : 0 < size)
    (v : Value) (n : Nat) (xs : List Value) (hs : a.eval s = v) (hown : w.ownsRow base e size v n xs)
    (sv : Value) (m : Nat) (news : List Value) (hx : a.eval x = sv) (hsrc : Src w sv m news) (hl : news.length = m * size) (h1 : ∀ u ∈ news, u.oneCell' = true)
    (h63 : n + m ≤ maxLen) (hbytes : (n + m) * bytes ≤ 140737488355328) (hbase : base ≤ w.heap.size)
    (h : ∀ v' w', w'.ownsRow base e size v' (n + m) (xs ++ news) → w.grownBy w' v.ownBlock → wpList P ops Q rest (a.put o.dst v') w') : wpList P ops Q (o :: rest) a w := by
  rcases hsrc with ⟨rfl, rfl, rfl⟩ | ⟨ad, c, rfl, hc⟩
  · refine wpList_append_own_none hgd s x t ho base e i size ht hi v n xs hs hown hx (h v w ?_ (World.grownBy.refl _ _))
    rw [Nat.add_zero, List.append_nil]
    exact hown
  · exact wpList_append_own w hgd s x t ho base e i z size bytes ht hi hz hsize hby hzs hsz v n xs hs hown ad m c news hx hl hc h1 h63 hbytes hbase fun v' w' ho hg _ => h v' w' ho hg

theorem ro_one {B : Nat} {w : World} {P : List Pr} (h : RO B w P) : ∀ u ∈ P.map Prod.fst, u.oneCell' = true := by
  intro u hu
  obtain ⟨p, hp, rfl⟩ := List.mem_map.1 hu
  obtain ⟨a, c, hv⟩ := (h p hp).1.len
  rw [hv]
  rfl

theorem grownNew {w v x : World} {k : Nat} (h1 : w.grownBy v none) (h2 : v.grownBy x (some k)) (hk : w.heap.size ≤ k) : w.grownBy x none :=
  gtrans h1 h2 (.inr (.inr ⟨k, rfl, hk⟩))
theorem grownOwn {w v x : World} {B n size : Nat} {e : TypeId} {o : Value} {xs : List Value} (h1 : w.grownBy v none) (ho : v.ownsRow B e size o n xs) (hB : w.heap.size ≤ B) (h2 : v.grownBy x o.ownBlock) : w.grownBy x none := by
  cases hk : o.ownBlock with
  | none => exact gtrans h1 (hk ▸ h2) (.inl rfl)
  | some k => exact grownNew h1 (hk ▸ h2) (Nat.le_trans hB (ho.lt k hk).1)
theorem grownSetRow (w : World) (b : Nat) (cs : Array Value) : w.grownBy (w.setRow b cs) (some b) :=
  ⟨rfl, rfl, rfl, Nat.le_of_eq (by simp), fun i hi hne => setRow_other w b i cs (fun e => hne (by rw [e]))⟩

/-- 's[1:]' of a slice of slices: the address stays where nothing lies behind it. -/
theorem slice_tail1 (g o n c : Nat) (hc : n + 1 ≤ c) : ∃ o', (∀ W : World, (Instr.slice 28 (.slice (some ⟨g, o, none⟩) (n + 1) c) (some (.int .i64 1)) none none).run Try.prog W = .ok (.slice (some ⟨g, o', none⟩) n (c - 1)) W) ∧ (o' = o + 1 ∨ o' = o ∧ n = 0) := by
  have he : Try.prog.elem 28 = 29 := by kernel_rfl
  have ht : Try.prog.underlying 28 = some (.slice (Try.prog.elem 28)) := by rw [he]; exact Try.underlying28
  have hz : ∀ W, (sizeOf (Try.prog.elem 28)).run Try.prog W = .ok 1 W := fun W => by rw [he]; kernel_rfl
  have h1 : ∀ W : World, (Instr.slice 28 (.slice (some ⟨g, o, none⟩) (n + 1) c) (some (.int .i64 1)) none none).run Try.prog W = .ok (sliced (some ⟨g, o, none⟩) 1 (n + 1) c 1) W := fun W => by
    rw [run_slice_l (P := Try.prog) W 28 (some ⟨g, o, none⟩) (n + 1) c ht .i64 1 (by omega) (by omega), hz W]
    rfl
  by_cases h : c = 1
  · refine ⟨o, fun W => ?_, .inr ⟨rfl, by omega⟩⟩
    rw [h1 W]
    simp [sliced, h]
  · refine ⟨o + 1, fun W => ?_, .inl rfl⟩
    rw [h1 W]
    simp [sliced, h, Addr.add]

def refQ (cap : Nat) (rl : Value) : Array Value := #[.int .i64 (cap : Int), rl]
theorem rnew_ok (n : Nat) (w : World) (h1 : 1 ≤ n) (h2 : n ≤ 32) : Calls Try.prog 14 #[.int .i64 (n : Int)] w fun e w' => e = .returned (.tuple #[.agg #[.int .i64 (n : Int), .slice none 0 0], .int .i64 0]) ∧ w.grownBy w' none := by
  go_enter Try.func14, Try.ntmps14
  go_wp2
  exact bodyPost_ret (v := .tuple #[.agg #[.int .i64 (n : Int), .slice none 0 0], .int .i64 0]) (by simp [results, Try.results14, go_sem]) rfl ⟨rfl, World.grownBy_alloc _ _ _⟩
theorem rnew_bad (n : Int) (w : World) (h : n < 1 ∨ 32 < n) : Calls Try.prog 14 #[.int .i64 n] w fun e w' => e = .returned (.tuple #[.agg #[.int .i64 0, .slice none 0 0], .int .i64 210]) ∧ w.grownBy w' none := by
  by_cases h1 : n < 1
  · clear h
    go_enter Try.func14, Try.ntmps14
    go_wp2
    exact bodyPost_ret (v := .tuple #[.agg #[.int .i64 0, .slice none 0 0], .int .i64 210]) (by simp [results, Try.results14, go_sem]) rfl ⟨rfl, World.grownBy_alloc _ _ _⟩
  · have h2 : 32 < n := by omega
    clear h
    go_enter Try.func14, Try.ntmps14
    go_wp2
    exact bodyPost_ret (v := .tuple #[.agg #[.int .i64 0, .slice none 0 0], .int .i64 210]) (by simp [results, Try.results14, go_sem]) rfl ⟨rfl, World.grownBy_alloc _ _ _⟩

theorem rput_long (cap : Nat) (rl v : Value) (xs : List Int) (w : World) (hv : Bt w v xs) (hl : 2048 < xs.length) (hr : ∃ a n c, rl = .slice a n c) : Calls Try.prog 15 #[.agg #[.int .i64 (cap : Int), rl], v] w fun e w' => e = .returned (.tuple #[.agg #[.int .i64 (cap : Int), rl], .int .i64 2]) ∧ w.grownBy w' none := by
  obtain ⟨a, c, rfl, hcap⟩ := hv.len
  obtain ⟨ra, rn, rc, rfl⟩ := hr
  clear hv
  go_enter Try.func15, Try.ntmps15
  go_wp2
  exact bodyPost_ret (v := .tuple #[.agg #[.int .i64 (cap : Int), .slice ra rn rc], .int .i64 2]) (by simp [results, Try.results15, go_sem]) rfl ⟨rfl, gtrans (World.grownBy_alloc _ _ none) (World.grownBy_alloc _ _ none) (.inl rfl)⟩
theorem rput_full (cap n : Nat) (rl v : Value) (xs : List Int) (w : World) (hv : Bt w v xs) (hl : xs.length ≤ 2048) (hr : ∃ a c, rl = .slice a n c) (hn : cap ≤ n) (hn2 : n ≤ 32) : Calls Try.prog 15 #[.agg #[.int .i64 (cap : Int), rl], v] w fun e w' => e = .returned (.tuple #[.agg #[.int .i64 (cap : Int), rl], .int .i64 71]) ∧ w.grownBy w' none := by
  obtain ⟨a, c, rfl, hcap⟩ := hv.len
  obtain ⟨ra, rc, rfl⟩ := hr
  clear hv
  go_enter Try.func15, Try.ntmps15
  go_wp2
  exact bodyPost_ret (v := .tuple #[.agg #[.int .i64 (cap : Int), .slice ra n rc], .int .i64 71]) (by simp [results, Try.results15, go_sem]) rfl ⟨rfl, gtrans (World.grownBy_alloc _ _ none) (World.grownBy_alloc _ _ none) (.inl rfl)⟩

/-- The two boxes of a reference's call: its argument and its result. -/
structure XB (w0 w : World) (A Z : Array Value) : Prop where
  g : w0.grownBy w none
  b : w.heap[w0.heap.size]? = some (.cells A 40 (0, 0))
  n : w.heap[w0.heap.size + 1]? = some (.cells Z 40 (0, 0))
theorem XB.first (w : World) (A Z : Array Value) : XB w ((w.alloc (.cells A 40)).alloc (.cells Z 40)) A Z := ⟨gtrans (World.grownBy_alloc _ _ none) (World.grownBy_alloc _ _ none) (.inl rfl), heap2_old' w _ _, heap2_new' w _ _⟩
theorem XB.alloc {w0 w : World} {A Z : Array Value} (h : XB w0 w A Z) (o : Obj) : XB w0 (w.alloc o) A Z := ⟨gn h.g (World.grownBy_alloc _ _ none), blk_kept h.b (World.grownBy_alloc w o none) (by simp), blk_kept h.n (World.grownBy_alloc w o none) (by simp)⟩
theorem XB.own {w0 w x : World} {A Z : Array Value} {n size : Nat} {e : TypeId} {v : Value} {xs : List Value} (h : XB w0 w A Z) (ho : w.ownsRow w0.heap.size e size v n xs) (he : e ≠ 40) (hg : w.grownBy x v.ownBlock) : XB w0 x A Z := by
  have h1 := own_far ho h.b (by simp; exact fun h => he h.symm)
  have h2 := own_far ho h.n (by simp; exact fun h => he h.symm)
  exact ⟨grownOwn h.g ho (Nat.le_refl _) hg, blk_kept h.b hg (fun e => h1 e.symm), blk_kept h.n hg (fun e => h2 e.symm)⟩
theorem XB.set1 {w0 w : World} {a b : Value} {Z : Array Value} (h : XB w0 w #[a, b] Z) (v : Value) (h1 : v.oneCell' = true) : XB w0 (w.setCell ⟨w0.heap.size, 1, none⟩ v) #[a, v] Z :=
  ⟨grownNew h.g (grownSet _ _ _ _) (Nat.le_refl _), heap_setCell_same w w0.heap.size 1 _ 40 v h.b, blk_far h.n _ _ _ (by simp)⟩
theorem XB.lt {w0 w : World} {A Z : Array Value} (h : XB w0 w A Z) : w0.heap.size + 1 < w.heap.size := blk_lt h.n
theorem own_cross {w w' : World} {B B' n n' size size' : Nat} {e e' : TypeId} {v v' : Value} {xs xs' : List Value} (h : w.ownsRow B e size v n xs) (hr : w.ownsRow B' e' size' v' n' xs') (he : e ≠ e') (hg : w.grownBy w' v'.ownBlock) : w'.ownsRow B e size v n xs :=
  own_kept h hg fun r hk => by
    obtain ⟨cur, hc⟩ := own_row hr hk
    exact own_far h hc (by simp; exact fun h => he h.symm)
theorem own_new (w : World) (B : Nat) (e : TypeId) (hB : B ≤ w.heap.size) : (w.alloc (.cells #[] e)).ownsRow B e 1 (.slice (some ⟨w.heap.size, 0, none⟩) 0 0) 0 [] :=
  World.ownsRow_made (e := e) (size := 1) (base := B) w #[] 0 hB (by unfold maxLen; omega) rfl

set_option maxHeartbeats 1000000 in
theorem rput_ok (cap : Nat) (rl v : Value) (R : List Pr) (xs : List Int) (w : World) (hrow : w.ownsRow 0 29 1 rl R.length (R.map Prod.fst)) (hr : RO 0 w R) (hv : Bt w v xs) (hl : xs.length ≤ 2048) (hn : R.length < cap) (hn2 : cap ≤ 32) :
    Calls Try.prog 15 #[.agg #[.int .i64 (cap : Int), rl], v] w fun e w' => ∃ rl' v', e = .returned (.tuple #[.agg #[.int .i64 (cap : Int), rl'], .int .i64 0]) ∧ w'.ownsRow w.heap.size 29 1 rl' (R.length + 1) (R.map Prod.fst ++ [v']) ∧ BO w.heap.size w' v' xs ∧ w.grownBy w' none := by
  obtain ⟨i0, hi, hz0, hz1, hz2⟩ := info_parts info29
  obtain ⟨j0, ji, jz0, jz1, jz2⟩ := info_parts info5
  obtain ⟨ra, rc, rfl⟩ := own_len hrow
  obtain ⟨va, vc, rfl, hcap⟩ := hv.len
  have HROW := Lib.hid hrow
  have HV := Lib.hid hv
  have HOne := Lib.hid (ro_one hr)
  have HM : Hid ((R.map Prod.fst).length = R.length * 1) := Lib.hid (by simp)
  have HX : Hid ((xs.map (Value.int .u8)).length = xs.length * 1) := Lib.hid (by simp)
  clear hrow hr hv
  go_enter Try.func15, Try.ntmps15
  go_upto_region 5 with fail
  have hX1 := XB.first w #[.int .i64 (cap : Int), .slice ra R.length rc] #[.int .i64 0, .slice none 0 0]
  obtain ⟨w1, hw1⟩ : ∃ x : World, x = (w.alloc (.cells #[.int .i64 (cap : Int), .slice ra R.length rc] 40)).alloc (.cells #[.int .i64 0, .slice none 0 0] 40) := ⟨_, rfl⟩
  rw [← hw1] at hX1 ⊢
  have e1 := (cell_of_row w1 w.heap.size 1 _ 40 (0, 0) hX1.b).trans (show _ = some (.slice ra R.length rc) from rfl)
  have hlt1 : w.heap.size < w1.heap.size := blk_lt hX1.b
  have hz1' : w.heap.size ≤ w1.heap.size := hX1.g.size
  have HS1 := Lib.hid (((own_src HROW.out).kept hX1.g (by simp)).kept (World.grownBy_alloc w1 (.cells #[] 29) none) (by simp))
  have HO1 := Lib.hid (own_new w1 w.heap.size 29 hz1')
  have HX1 := Lib.hid (hX1.alloc (.cells #[] 29))
  clear hw1 hX1
  go_upto_region 6 with (first
    | (at_builtin; refine wpList_append_any _ rfl _ _ 28 rfl w.heap.size 29 i0 (.slice none 0 0) 1 24 Try.underlying28 hi hz0 hz1 hz2 rfl (by decide) _ 0 _ rfl HO1.out (.slice ra R.length rc) R.length _ rfl HS1.out HM.out HOne.out (by unfold maxLen; omega) (by omega) HX1.out.g.size ?_; intro l1 w2 ho hg; rw [Nat.zero_add, List.nil_append] at ho; have HO2 := Lib.hid ho; have HX2 := Lib.hid (HX1.out.own HO1.out (by decide) hg); have HO3 := Lib.hid (own_new w2 w.heap.size 5 HX2.out.g.size); have HX3 := Lib.hid (HX2.out.alloc (.cells #[] 5)); have HS3 := Lib.hid (HV.out.kept HX3.out.g (by simp)).src; clear ho hg e1)
    | (at_builtin; refine wpList_append_any _ rfl _ _ 29 rfl w.heap.size 5 j0 (.int .u8 0) 1 1 Try.underlying29 ji jz0 jz1 jz2 rfl (by decide) _ 0 _ rfl HO3.out (.slice va xs.length vc) xs.length _ rfl HS3.out HX.out (bytes_one xs) (by unfold maxLen; omega) (by omega) HX3.out.g.size ?_; intro l3 w4 ho hg; rw [Nat.zero_add, List.nil_append] at ho; have HBO := Lib.hid (show BO w.heap.size w4 l3 xs from ho); have HX4 := Lib.hid (HX3.out.own HO3.out (by decide) hg); have HO4 := Lib.hid (own_cross (own_kept HO2.out (World.grownBy_alloc w2 (.cells #[] 5) none) (by simp)) HO3.out (by decide) hg); obtain ⟨l3a, l3c, hl3⟩ := HBO.out.len; subst hl3; have HX5 := Lib.hid (HX4.out.alloc (.cells #[.slice l3a xs.length l3c] 29)); have HO5 := Lib.hid (own_kept HO4.out (World.grownBy_alloc w4 (.cells #[.slice l3a xs.length l3c] 29) none) (by simp)); clear ho hg)
    | (at_builtin; refine wpList_append_own _ rfl _ _ 28 rfl w.heap.size 29 i0 (.slice none 0 0) 1 24 Try.underlying28 hi hz0 hz1 hz2 rfl (by decide) l1 R.length _ rfl HO5.out ⟨w4.heap.size, 0, none⟩ 1 1 [.slice l3a xs.length l3c] rfl rfl (cell_one_new _ _ _) (by simp [Value.oneCell']) (by unfold maxLen; omega) (by omega) HX5.out.g.size ?_; intro l5 w6 ho hg _; have HO6 := Lib.hid ho; have HX6 := Lib.hid (HX5.out.own HO5.out (by decide) hg); have HB6 := Lib.hid (show BO w.heap.size w6 (.slice l3a xs.length l3c) xs from own_cross (HBO.out.kept (World.grownBy_alloc w4 (.cells #[.slice l3a xs.length l3c] 29) none) (by simp)) HO5.out (by decide) hg); obtain ⟨l5a, l5c, hl5⟩ := own_len ho; subst hl5; have e1 := (cell_of_row w6 w.heap.size 1 _ 40 (0, 0) HX6.out.b).trans (show _ = some (.slice ra R.length rc) from rfl); have z1 := blk_frozen HX6.out.b 1; clear ho hg))
  clear hlt1 hz1' HS1 HO1 HX1 HO2 HX2 HO3 HX3 HS3 HX4 HO4 HBO HX5 HO5 e1 z1
  have hX := HX6.out.set1 (.slice l5a (R.length + 1) l5c) rfl
  have hO := own_kept HO6.out (grownSet w6 w.heap.size 1 (.slice l5a (R.length + 1) l5c)) (by rintro r ⟨⟩; exact own_far HO6.out HX6.out.b (by simp))
  have hB := HB6.out.kept (grownSet w6 w.heap.size 1 (.slice l5a (R.length + 1) l5c)) (by rintro r ⟨⟩; exact HB6.out.ne HX6.out.b (by simp))
  obtain ⟨x, hx⟩ : ∃ q : World, q = w6.setCell ⟨w.heap.size, 1, none⟩ (.slice l5a (R.length + 1) l5c) := ⟨_, rfl⟩
  rw [← hx] at hX hO hB ⊢
  have HXx := Lib.hid hX
  have HOx := Lib.hid hO
  have HBx := Lib.hid hB
  clear hx hX hO hB HX6 HO6 HB6
  have hsz : (Try.prog.info? 40).map (·.size) = some 2 := by kernel_rfl
  have hone : ((#[.int .i64 (cap : Int), .slice l5a (R.length + 1) l5c] : Array Value).all (·.oneCell')) = true := by kernel_rfl
  go_wp2_with (first | (refine wpList_load_row rfl 40 _ rfl w.heap.size rfl 40 _ (0, 0) _ HXx.out.b Try.underlying40 rfl (by kernel_rfl) ?_) | (refine wpList_store_rowTo rfl 40 _ _ rfl rfl (w.heap.size + 1) #[.int .i64 (cap : Int), .slice l5a (R.length + 1) l5c] rfl rfl 40 _ HXx.out.n hsz rfl hone ?_))
  have h5 := setRow_heap x (w.heap.size + 1) _ #[.int .i64 (cap : Int), .slice l5a (R.length + 1) l5c] 40 (0, 0) HXx.out.n
  have hO5 := own_kept HOx.out (grownSetRow x (w.heap.size + 1) #[.int .i64 (cap : Int), .slice l5a (R.length + 1) l5c]) (by rintro r ⟨⟩; exact own_far HOx.out HXx.out.n (by simp))
  have hB5 := HBx.out.kept (grownSetRow x (w.heap.size + 1) #[.int .i64 (cap : Int), .slice l5a (R.length + 1) l5c]) (by rintro r ⟨⟩; exact HBx.out.ne HXx.out.n (by simp))
  have hG5 := grownNew HXx.out.g (grownSetRow x (w.heap.size + 1) #[.int .i64 (cap : Int), .slice l5a (R.length + 1) l5c]) (by omega)
  obtain ⟨x5, hx5⟩ : ∃ q : World, q = x.setRow (w.heap.size + 1) #[.int .i64 (cap : Int), .slice l5a (R.length + 1) l5c] := ⟨_, rfl⟩
  rw [← hx5] at h5 hO5 hB5 hG5 ⊢
  have r0 := cell_of_row x5 (w.heap.size + 1) 0 _ 40 (0, 0) h5
  have r1 := cell_of_row x5 (w.heap.size + 1) 1 _ 40 (0, 0) h5
  exact bodyPost_ret (v := .tuple #[.agg #[.int .i64 (cap : Int), .slice l5a (R.length + 1) l5c], .int .i64 0]) (by simp [results, Try.results15, go_sem, r0, r1]) rfl ⟨_, _, rfl, hO5, hB5, hG5⟩

theorem rtake_none (cap : Nat) (rl : Value) (w : World) (hr : ∃ a c, rl = .slice a 0 c) : Calls Try.prog 16 #[.agg #[.int .i64 (cap : Int), rl]] w fun e w' => e = .returned (.tuple #[.agg #[.int .i64 (cap : Int), rl], .slice none 0 0, .bool false]) ∧ w.grownBy w' none := by
  obtain ⟨ra, rc, rfl⟩ := hr
  go_enter Try.func16, Try.ntmps16
  go_wp2
  exact bodyPost_ret (v := .tuple #[.agg #[.int .i64 (cap : Int), .slice ra 0 rc], .slice none 0 0, .bool false]) (by simp [results, Try.results16, go_sem]) rfl ⟨rfl, gtrans (World.grownBy_alloc _ _ none) (World.grownBy_alloc _ _ none) (.inl rfl)⟩

set_option maxHeartbeats 1000000 in
theorem rtake_some (cap : Nat) (rl : Value) (p : Pr) (R : List Pr) (w : World) (hrow : w.ownsRow 0 29 1 rl (R.length + 1) ((p :: R).map Prod.fst)) (hr : RO 0 w (p :: R)) (hn2 : R.length + 1 ≤ 32) :
    Calls Try.prog 16 #[.agg #[.int .i64 (cap : Int), rl]] w fun e w' => ∃ rl', e = .returned (.tuple #[.agg #[.int .i64 (cap : Int), rl'], p.1, .bool true]) ∧ w'.ownsRow w.heap.size 29 1 rl' R.length (R.map Prod.fst) ∧ w.grownBy w' none := by
  obtain ⟨i0, hi, hz0, hz1, hz2⟩ := info_parts info29
  obtain ⟨g, rc, hrl, hcell⟩ := own_read hrow (by omega)
  subst hrl
  obtain ⟨pa, pc, hp⟩ := (hr p List.mem_cons_self).1.len
  obtain ⟨pv, px⟩ := p
  simp only at hp
  subst hp
  have hc0 : w.cell? ⟨g, 0, none⟩ = some (.slice pa px.length pc) := hcell 0 (by omega)
  have hone := ro_one (fun q hq => hr q (List.mem_cons_of_mem _ hq) : RO 0 w R)
  have hsrc : Src w (.slice (some ⟨g, 1, none⟩) R.length (rc - 1)) R.length (R.map Prod.fst) := .inr ⟨_, _, rfl, fun j u hj => by
    have hjl : j < R.length := by
      rcases Nat.lt_or_ge j R.length with h | h
      · exact h
      · rw [List.getElem?_eq_none (by simpa using h)] at hj
        simp at hj
    rw [addN, hcell (1 + j) (by omega), Nat.add_comm 1 j]
    simpa using hj⟩
  have HROW := Lib.hid hrow
  have HOne := Lib.hid hone
  have HSRC := Lib.hid hsrc
  have HM : Hid ((R.map Prod.fst).length = R.length * 1) := Lib.hid (by simp)
  have hcap : R.length + 1 ≤ rc := by
    rcases hrow.2 with ⟨h, _⟩ | ⟨_, _, _, h, _, _, h2, _⟩
    · simp at h
    · injection h with _ _ h3
      omega
  have hgl : g < w.heap.size := World.block_lt_of_cell? _ _ hc0
  clear hrow hr hone hsrc hcell
  obtain ⟨o', hsl, ho'⟩ := slice_tail1 g 0 R.length rc hcap
  have hsrc2 : Src w (.slice (some ⟨g, o', none⟩) R.length (rc - 1)) R.length (R.map Prod.fst) := by
    rcases ho' with rfl | ⟨rfl, h0⟩
    · exact HSRC.out
    · exact .inr ⟨_, _, rfl, fun j u hj => by
        rw [List.eq_nil_of_length_eq_zero h0] at hj
        simp at hj⟩
  have HS2 := Lib.hid hsrc2
  clear hsrc2 HSRC ho' hcap
  go_enter Try.func16, Try.ntmps16
  go_upto_region 4 with fail
  have hX1 := XB.first w #[.int .i64 (cap : Int), .slice (some ⟨g, 0, none⟩) (R.length + 1) rc] #[.int .i64 0, .slice none 0 0]
  obtain ⟨w1, hw1⟩ : ∃ x : World, x = (w.alloc (.cells #[.int .i64 (cap : Int), .slice (some ⟨g, 0, none⟩) (R.length + 1) rc] 40)).alloc (.cells #[.int .i64 0, .slice none 0 0] 40) := ⟨_, rfl⟩
  rw [← hw1] at hX1 ⊢
  have e1 := (cell_of_row w1 w.heap.size 1 _ 40 (0, 0) hX1.b).trans (show _ = some (.slice (some ⟨g, 0, none⟩) (R.length + 1) rc) from rfl)
  have hlt1 : w.heap.size < w1.heap.size := blk_lt hX1.b
  have HO1 := Lib.hid (own_new w1 w.heap.size 29 hX1.g.size)
  have HX1 := Lib.hid (hX1.alloc (.cells #[] 29))
  have HS1 := Lib.hid (HS2.out.kept HX1.out.g (by simp))
  clear hw1 hX1 HS2
  go_upto_region 5 with (first
    | (at_builtin; refine wpList_append_any _ rfl _ _ 28 rfl w.heap.size 29 i0 (.slice none 0 0) 1 24 Try.underlying28 hi hz0 hz1 hz2 rfl (by decide) _ 0 _ rfl HO1.out (.slice (some ⟨g, o', none⟩) R.length (rc - 1)) R.length _ rfl HS1.out HM.out HOne.out (by unfold maxLen; omega) (by omega) HX1.out.g.size ?_; intro l1 w2 ho hg; rw [Nat.zero_add, List.nil_append] at ho; have HO2 := Lib.hid ho; have HX2 := Lib.hid (HX1.out.own HO1.out (by decide) hg); obtain ⟨l1a, l1c, hl1⟩ := own_len ho; subst hl1; have e2 := (cell_of_row w2 w.heap.size 1 _ 40 (0, 0) HX2.out.b).trans (show _ = some (.slice (some ⟨g, 0, none⟩) (R.length + 1) rc) from rfl); have z1 := blk_frozen HX2.out.b 1; clear ho hg e1 hsl hlt1))
  clear e2 z1 HX1 HO1 HS1
  have hX := HX2.out.set1 (.slice l1a R.length l1c) rfl
  have hO := own_kept HO2.out (grownSet w2 w.heap.size 1 (.slice l1a R.length l1c)) (by rintro r ⟨⟩; exact own_far HO2.out HX2.out.b (by simp))
  obtain ⟨x, hx⟩ : ∃ q : World, q = w2.setCell ⟨w.heap.size, 1, none⟩ (.slice l1a R.length l1c) := ⟨_, rfl⟩
  rw [← hx] at hX hO ⊢
  have HXx := Lib.hid hX
  have HOx := Lib.hid hO
  clear hx hX hO HX2 HO2
  have hsz : (Try.prog.info? 40).map (·.size) = some 2 := by kernel_rfl
  have hone : ((#[.int .i64 (cap : Int), .slice l1a R.length l1c] : Array Value).all (·.oneCell')) = true := by kernel_rfl
  go_wp2_with (first | (refine wpList_load_row rfl 40 _ rfl w.heap.size rfl 40 _ (0, 0) _ HXx.out.b Try.underlying40 rfl (by kernel_rfl) ?_) | (refine wpList_store_rowTo rfl 40 _ _ rfl rfl (w.heap.size + 1) #[.int .i64 (cap : Int), .slice l1a R.length l1c] rfl rfl 40 _ HXx.out.n hsz rfl hone ?_))
  have h5 := setRow_heap x (w.heap.size + 1) _ #[.int .i64 (cap : Int), .slice l1a R.length l1c] 40 (0, 0) HXx.out.n
  have hO5 := own_kept HOx.out (grownSetRow x (w.heap.size + 1) #[.int .i64 (cap : Int), .slice l1a R.length l1c]) (by rintro r ⟨⟩; exact own_far HOx.out HXx.out.n (by simp))
  have hG5 := grownNew HXx.out.g (grownSetRow x (w.heap.size + 1) #[.int .i64 (cap : Int), .slice l1a R.length l1c]) (by omega)
  obtain ⟨x5, hx5⟩ : ∃ q : World, q = x.setRow (w.heap.size + 1) #[.int .i64 (cap : Int), .slice l1a R.length l1c] := ⟨_, rfl⟩
  rw [← hx5] at h5 hO5 hG5 ⊢
  have r0 := cell_of_row x5 (w.heap.size + 1) 0 _ 40 (0, 0) h5
  have r1 := cell_of_row x5 (w.heap.size + 1) 1 _ 40 (0, 0) h5
  exact bodyPost_ret (v := .tuple #[.agg #[.int .i64 (cap : Int), .slice l1a R.length l1c], .slice pa px.length pc, .bool true]) (by simp [results, Try.results16, go_sem, r0, r1]) rfl ⟨_, rfl, hO5, hG5⟩
end Go.Proofs.Ytocicajjbkdbnaa.W
