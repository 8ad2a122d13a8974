/-
  Slices of bytes and slices of such, in memory: how they read, and what slices.Clone makes of them.
-/
import Derived.Test.YtaidfcehicffbaaChecked
import Derived.Laws.AppendOwnNone
import Derived.Laws.BytesArg
import Derived.Laws.BytesString
import Derived.Lib.SlBytesConst
import Derived.Lib.SmallJoins
import Derived.ArgAppend
import Derived.Great.BuildSlice
import Derived.Test.YtaidfcehicffbaaBase
set_option linter.unusedVariables false
set_option linter.unusedSimpArgs false
namespace Go.Proofs.Ytaidfcehicffbaa.W
open Go.RowKit Go.Deep

theorem heap2_new' (w : World) (o q : Obj) : ((w.alloc o).alloc q).heap[w.heap.size + 1]? = some q := by
  show ((w.heap.push o).push q)[w.heap.size + 1]? = _
  rw [Array.getElem?_push, if_pos (by simp)]
theorem heap2_old' (w : World) (o q : Obj) : ((w.alloc o).alloc q).heap[w.heap.size]? = some o := by
  show ((w.heap.push o).push q)[w.heap.size]? = _
  rw [Array.getElem?_push, if_neg (by simp), Array.getElem?_push, if_pos rfl]
/-- A slice of bytes that reads as xs. -/
def Bt (w : World) (v : Value) (xs : List Int) : Prop :=
  (v = .slice none 0 0 ∧ xs = []) ∨ (∃ g o cap, v = .slice (some ⟨g, o, none⟩) xs.length cap ∧ xs.length ≤ cap ∧ (0 < xs.length → g < w.heap.size) ∧ ∀ i, i < xs.length → w.cell? ⟨g, o + i, none⟩ = some (.int .u8 (xs.getD i 0))) ∨ ∃ ad cap, v = .slice (some ad) 0 cap ∧ xs = []
theorem Bt.kept {w w' : World} {v : Value} {xs : List Int} {row : Option Nat} (h : Bt w v xs) (hg : w.grownBy w' row) (hne : ∀ r, row = some r → v.ownBlock ≠ some r) : Bt w' v xs := by
  rcases h with h | ⟨g, o, cap, rfl, h1, h2, h3⟩ | h
  · exact .inl h
  · refine .inr (.inl ⟨g, o, cap, rfl, h1, fun h => Nat.lt_of_lt_of_le (h2 h) hg.size, fun i hi => hg.cell (h3 i hi) ?_⟩)
    intro e
    exact hne g e.symm rfl
  · exact .inr (.inr h)
theorem Bt.below {w w' : World} {v : Value} {xs : List Int} {B : Nat} (h : Bt w v xs) (hb : Below B w w') (hl : ∀ k, v.ownBlock = some k → 0 < xs.length → k < B) : Bt w' v xs := by
  rcases h with h | ⟨g, o, cap, rfl, h1, h2, h3⟩ | h
  · exact .inl h
  · exact .inr (.inl ⟨g, o, cap, rfl, h1, fun h => Nat.lt_of_lt_of_le (h2 h) hb.size, fun i hi => (hb.cell (p := ⟨g, o + i, none⟩) (hl g rfl (by omega))).trans (h3 i hi)⟩)
  · exact .inr (.inr h)
theorem Bt.len {w : World} {v : Value} {xs : List Int} (h : Bt w v xs) : ∃ a cap, v = .slice a xs.length cap ∧ xs.length ≤ cap := by
  rcases h with ⟨rfl, rfl⟩ | ⟨g, o, cap, rfl, h1, _⟩ | ⟨ad, cap, rfl, rfl⟩
  · exact ⟨none, 0, rfl, Nat.le_refl _⟩
  · exact ⟨_, cap, rfl, h1⟩
  · exact ⟨_, cap, rfl, Nat.zero_le _⟩
theorem Bt.own {w : World} {v : Value} {xs : List Int} {base : Nat} (h : w.ownsRow base 5 1 v xs.length (xs.map (Value.int .u8))) : Bt w v xs := by
  rcases h.2 with ⟨rfl, h0⟩ | ⟨g, cap, cur, rfl, hb, hg, hn, hc, hs, ht⟩
  · exact .inl ⟨rfl, List.length_eq_zero_iff.1 h0⟩
  · refine .inr (.inl ⟨g, 0, cap, rfl, hn, fun _ => blk_lt hg, fun i hi => ?_⟩)
    rw [Nat.zero_add, h.cellAt i (by omega), List.getElem?_map, List.getElem?_eq_getElem hi, List.getD_eq_getElem?_getD, List.getElem?_eq_getElem hi]
    rfl
theorem addN (g o j : Nat) : (⟨g, o, none⟩ : Addr).add j = ⟨g, o + j, none⟩ := by
  unfold Addr.add
  split
  · rename_i h
    subst h
    rfl
  · rfl
theorem bytes_cells {w : World} {g o : Nat} {xs : List Int} (h : ∀ i, i < xs.length → w.cell? ⟨g, o + i, none⟩ = some (.int .u8 (xs.getD i 0))) : ∀ j u, (xs.map (Value.int .u8))[j]? = some u → w.cell? ((⟨g, o, none⟩ : Addr).add j) = some u := by
  intro j u hj
  have hjl : j < xs.length := by
    rcases Nat.lt_or_ge j xs.length with h | h
    · exact h
    · rw [List.getElem?_eq_none (by simpa using h)] at hj
      simp at hj
  rw [addN, h j hjl]
  rw [List.getElem?_map, List.getElem?_eq_getElem hjl] at hj
  rw [List.getD_eq_getElem?_getD, List.getElem?_eq_getElem hjl]
  exact hj
theorem bytes_one (xs : List Int) : ∀ u ∈ xs.map (Value.int .u8), u.oneCell' = true := by
  intro u hu
  obtain ⟨x, _, rfl⟩ := List.mem_map.1 hu
  rfl
theorem info5 : (Try.prog.info? 5).map (fun i => (i.zero, i.size, i.bytes)) = some (some (.int .u8 0), 1, 1) := by kernel_rfl
theorem info28 : (Try.prog.info? 28).map (fun i => (i.zero, i.size, i.bytes)) = some (some (.slice none 0 0), 1, 24) := by kernel_rfl
/-- A slice that is read: nil, or m elements at an address. -/
def Src (w : World) (v : Value) (m : Nat) (news : List Value) : Prop := (v = .slice none 0 0 ∧ m = 0 ∧ news = []) ∨ ∃ ad c, v = .slice (some ad) m c ∧ ∀ j u, news[j]? = some u → w.cell? (ad.add j) = some u
theorem Src.kept {w w' : World} {v : Value} {m : Nat} {news : List Value} {row : Option Nat} (h : Src w v m news) (hg : w.grownBy w' row) (hne : ∀ r, row = some r → v.ownBlock ≠ some r) : Src w' v m news := by
  rcases h with h | ⟨ad, c, rfl, hc⟩
  · exact .inl h
  · refine .inr ⟨ad, c, rfl, fun j u hj => hg.cell (hc j u hj) fun e => ?_⟩
    refine hne ad.block ?_ rfl
    rw [← e]
    congr 1
    unfold Addr.add
    split <;> rfl
theorem Bt.src {w : World} {v : Value} {xs : List Int} (h : Bt w v xs) : Src w v xs.length (xs.map (Value.int .u8)) := by
  rcases h with ⟨rfl, rfl⟩ | ⟨g, o, cap, rfl, _, _, h3⟩ | ⟨ad, cap, rfl, rfl⟩
  · exact .inl ⟨rfl, rfl, rfl⟩
  · exact .inr ⟨_, cap, rfl, bytes_cells h3⟩
  · exact .inr ⟨ad, cap, rfl, fun j u hj => by simp at hj⟩
/-- A slice of bytes in memory of its own, from block B on. -/
def BO (B : Nat) (w : World) (v : Value) (xs : List Int) : Prop := w.ownsRow B 5 1 v xs.length (xs.map (Value.int .u8))
theorem BO.bt {B : Nat} {w : World} {v : Value} {xs : List Int} (h : BO B w v xs) : Bt w v xs := Bt.own h
theorem BO.kept {B : Nat} {w w' : World} {v : Value} {xs : List Int} {row : Option Nat} (h : BO B w v xs) (hg : w.grownBy w' row) (hne : ∀ r, row = some r → v.ownBlock ≠ some r) : BO B w' v xs :=
  World.ownsRow.kept h hg (by
    cases ho : v.ownBlock with
    | none => exact .inl rfl
    | some k =>
      refine .inr fun e => ?_
      exact hne k e.symm ho)
theorem BO.le {B B' : Nat} {w : World} {v : Value} {xs : List Int} (h : BO B w v xs) (hb : B' ≤ B) : BO B' w v xs :=
  ⟨h.1, h.2.imp id fun ⟨g, cap, cur, hv, hg, r⟩ => ⟨g, cap, cur, hv, Nat.le_trans hb hg, r⟩⟩
theorem BO.lt {B : Nat} {w : World} {v : Value} {xs : List Int} (h : BO B w v xs) {k : Nat} (hk : v.ownBlock = some k) : B ≤ k ∧ k < w.heap.size := World.ownsRow.lt h k hk
theorem BO.ne {B : Nat} {w : World} {v : Value} {xs : List Int} (h : BO B w v xs) {r : Nat} {o : Obj} (ho : w.heap[r]? = some o) (hne : ∀ cur fr, o ≠ .cells cur 5 fr) : v.ownBlock ≠ some r := by
  rcases h.2 with ⟨rfl, _⟩ | ⟨g, cap, cur, rfl, _, hg, _⟩
  · simp [Value.ownBlock]
  · intro e
    simp only [Value.ownBlock, Option.some.injEq] at e
    subst e
    rw [ho] at hg
    exact hne cur (0, 0) (by simpa using hg)
theorem BO.len {B : Nat} {w : World} {v : Value} {xs : List Int} (h : BO B w v xs) : ∃ a cap, v = .slice a xs.length cap := by
  obtain ⟨a, cap, hv, _⟩ := h.bt.len
  exact ⟨a, cap, hv⟩
/-- slices.Clone: the same bytes, in memory of its own. -/
theorem clone_of (v : Value) (xs : List Int) (w : World) (h : Bt w v xs) (hl : xs.length ≤ 2147483648) :
    Calls Try.prog 40 #[v] w fun e w' => ∃ v', e = .returned v' ∧ BO w.heap.size w' v' xs ∧ w.grownBy w' none := by
  rcases h.src with ⟨rfl, h0, _⟩ | ⟨ad, cap, rfl, h3⟩
  · have hq := fun W => Lib.run_eql_slice_nil (P := Try.prog) W 28 5 none 0 0 0 0 Try.underlying28
    have H0 := Lib.hid h0
    clear h
    go_enter Try.func40, Try.ntmps40
    go_wp2
    go_ret
    replace h0 := H0.out
    obtain rfl := List.eq_nil_of_length_eq_zero h0
    exact ⟨_, rfl, World.ownsRow_nil _ _ _ _, World.grownBy.refl _ _⟩
  · obtain ⟨i0, hi, hz0, hz1, hz2⟩ := info_parts info5
    have HC : Hid (∀ j u, (xs.map (Value.int .u8))[j]? = some u → (w.alloc (.cells #[] 5)).cell? (ad.add j) = some u) := Lib.hid (fun j u hj => (World.grownBy_alloc w _ none).cell (h3 j u hj) (by simp))
    clear h3 h
    have hown := World.ownsRow_made (e := 5) (size := 1) (base := w.heap.size) w #[] 0 (Nat.le_refl _) (by unfold maxLen; omega) rfl
    have HO := Lib.hid hown
    clear hown
    have hq := fun W => Lib.run_eql_slice_nil (P := Try.prog) W 28 5 (some ad) xs.length cap 0 0 Try.underlying28
    have HL : Hid ((xs.map (Value.int .u8)).length = xs.length * 1) := Lib.hid (by simp)
    go_enter Try.func40, Try.ntmps40
    go_wp2_with (at_builtin; refine wpList_append_own _ rfl _ _ 28 rfl w.heap.size 5 i0 (.int .u8 0) 1 1 Try.underlying28 hi hz0 hz1 hz2 rfl (by decide) _ 0 _ rfl HO.out ad xs.length cap (xs.map (Value.int .u8)) rfl HL.out HC.out (bytes_one xs) (by unfold maxLen; omega) (by omega) (by simp) ?_; intro v' w1 hown' hgrow _; have HO' := Lib.hid hown'; have HG := Lib.hid hgrow; clear hown' hgrow)
    go_ret
    have ho := HO'.out
    rw [Nat.zero_add, List.nil_append] at ho
    refine ⟨v', rfl, ho, gtrans (World.grownBy_alloc w _ none) HG.out (.inr (.inr ⟨_, rfl, Nat.le_refl _⟩))⟩
/-- Slices and what they read as, each in memory of its own from block B on. -/
abbrev Pr := Value × List Int
def RO (B : Nat) (w : World) (P : List Pr) : Prop := ∀ p ∈ P, BO B w p.1 p.2 ∧ p.2.length ≤ 4096
theorem RO.kept {B : Nat} {w w' : World} {P : List Pr} {row : Option Nat} (h : RO B w P) (hg : w.grownBy w' row) (hne : ∀ r, row = some r → ∀ p ∈ P, p.1.ownBlock ≠ some r) : RO B w' P :=
  fun p hp => ⟨(h p hp).1.kept hg fun r hr => hne r hr p hp, (h p hp).2⟩
theorem RO.le {B B' : Nat} {w : World} {P : List Pr} (h : RO B w P) (hb : B' ≤ B) : RO B' w P := fun p hp => ⟨(h p hp).1.le hb, (h p hp).2⟩
theorem RO.far {B : Nat} {w : World} {P : List Pr} (h : RO B w P) {r : Nat} {o : Obj} (ho : w.heap[r]? = some o) (hne : ∀ cur fr, o ≠ .cells cur 5 fr) : ∀ p ∈ P, p.1.ownBlock ≠ some r :=
  fun p hp => (h p hp).1.ne ho hne
theorem RO.app {B : Nat} {w : World} {P Q : List Pr} (h : RO B w P) (k : RO B w Q) : RO B w (P ++ Q) := fun p hp => by
  rcases List.mem_append.1 hp with hp | hp
  · exact h p hp
  · exact k p hp
theorem RO.one {B : Nat} {w : World} {v : Value} {xs : List Int} (h : BO B w v xs) (hl : xs.length ≤ 4096) : RO B w [(v, xs)] := fun p hp => by
  rw [List.mem_singleton] at hp
  subst hp
  exact ⟨h, hl⟩
theorem own_row {w : World} {B n size : Nat} {e : TypeId} {v : Value} {xs : List Value} {k : Nat} (h : w.ownsRow B e size v n xs) (hk : v.ownBlock = some k) : ∃ cur, w.heap[k]? = some (.cells cur e (0, 0)) := by
  rcases h.2 with ⟨rfl, _⟩ | ⟨g, cap, cur, rfl, _, hg, _⟩
  · simp [Value.ownBlock] at hk
  · simp only [Value.ownBlock, Option.some.injEq] at hk
    subst hk
    exact ⟨cur, hg⟩
/-- A write to a row of another type. -/
theorem RO.row {B B' n size : Nat} {w w' : World} {P : List Pr} {e : TypeId} {v : Value} {xs : List Value} (h : RO B w P) (hr : w.ownsRow B' e size v n xs) (he : e ≠ 5) (hg : w.grownBy w' v.ownBlock) : RO B w' P := by
  refine h.kept hg fun r hr' => ?_
  obtain ⟨cur, hc⟩ := own_row hr hr'
  exact h.far hc (by simp; exact he)
theorem own_kept {w w' : World} {B n size : Nat} {e : TypeId} {v : Value} {xs : List Value} {row : Option Nat} (h : w.ownsRow B e size v n xs) (hg : w.grownBy w' row) (hne : ∀ r, row = some r → v.ownBlock ≠ some r) : w'.ownsRow B e size v n xs :=
  World.ownsRow.kept h hg (by
    cases ho : v.ownBlock with
    | none => exact .inl rfl
    | some k =>
      refine .inr fun e => ?_
      exact hne k e.symm ho)
theorem own_far {w : World} {B n size : Nat} {e : TypeId} {v : Value} {xs : List Value} {r : Nat} {o : Obj} (h : w.ownsRow B e size v n xs) (ho : w.heap[r]? = some o) (hne : ∀ cur fr, o ≠ .cells cur e fr) : v.ownBlock ≠ some r := fun hk => by
  obtain ⟨cur, hc⟩ := own_row h hk
  rw [ho] at hc
  exact hne cur (0, 0) (by simpa using hc)
theorem own_read {w : World} {B n : Nat} {e : TypeId} {v : Value} {xs : List Value} (h : w.ownsRow B e 1 v n xs) (h0 : 0 < n) : ∃ g c, v = .slice (some ⟨g, 0, none⟩) n c ∧ ∀ k, k < n → w.cell? ⟨g, k, none⟩ = xs[k]? := by
  obtain ⟨g, c, rfl⟩ := Joins.ownsRow_form h h0
  exact ⟨g, c, rfl, fun k hk => h.cellAt k (by omega)⟩
theorem own_len {w : World} {B n size : Nat} {e : TypeId} {v : Value} {xs : List Value} (h : w.ownsRow B e size v n xs) : ∃ a c, v = .slice a n c := by
  rcases h.2 with ⟨rfl, rfl⟩ | ⟨g, c, _, rfl, _⟩
  · exact ⟨_, _, rfl⟩
  · exact ⟨_, _, rfl⟩
theorem own_src {w : World} {B n : Nat} {e : TypeId} {v : Value} {xs : List Value} (h : w.ownsRow B e 1 v n xs) : Src w v n xs := by
  have hl := h.1
  rcases h.2 with ⟨rfl, rfl⟩ | ⟨g, cap, cur, rfl, _⟩
  · exact .inl ⟨rfl, rfl, List.eq_nil_of_length_eq_zero (by simpa using hl)⟩
  · refine .inr ⟨_, cap, rfl, fun j u hj => ?_⟩
    have hjl : j < xs.length := by
      rcases Nat.lt_or_ge j xs.length with h | h
      · exact h
      · rw [List.getElem?_eq_none h] at hj
        simp at hj
    rw [addN, Nat.zero_add, h.cellAt j (by omega)]
    exact hj
theorem wpList_append_any {P : Program} (w : World) {ops : Array Oper} {rest : List Oper} {o : Oper} {a : Act} {Q : Exit → Act → World → Prop} (hgd : o.guard = none) (s x : Operand) (t : TypeId)
    (ho : o.op = .call { callee := .builtin .append, args := #[s, x], argTypes := #[t, t] })
    (base : Nat) (e : TypeId) (i : TypeInfo) (z : Value) (size bytes : Nat) (ht : P.underlying t = some (.slice e)) (hi : P.info? e = some i) (hz : i.zero = some z)
    (hsize : i.size = size) (hby : i.bytes = bytes) (hzs : z.cells.size = size) (hsz : 0 < size)
    (v : Value) (n : Nat) (xs : List Value) (hs : a.eval s = v) (hown : w.ownsRow base e size v n xs)
    (sv : Value) (m : Nat) (news : List Value) (hx : a.eval x = sv) (hsrc : Src w sv m news) (hl : news.length = m * size) (h1 : ∀ u ∈ news, u.oneCell' = true)
    (h63 : n + m ≤ maxLen) (hbytes : (n + m) * bytes ≤ 140737488355328) (hbase : base ≤ w.heap.size)
    (h : ∀ v' w', w'.ownsRow base e size v' (n + m) (xs ++ news) → w.grownBy w' v.ownBlock → wpList P ops Q rest (a.put o.dst v') w') : wpList P ops Q (o :: rest) a w := by
  rcases hsrc with ⟨rfl, rfl, rfl⟩ | ⟨ad, c, rfl, hc⟩
  · refine wpList_append_own_none hgd s x t ho base e i size ht hi v n xs hs hown hx (h v w ?_ (World.grownBy.refl _ _))
    rw [Nat.add_zero, List.append_nil]
    exact hown
  · exact wpList_append_own w hgd s x t ho base e i z size bytes ht hi hz hsize hby hzs hsz v n xs hs hown ad m c news hx hl hc h1 h63 hbytes hbase fun v' w' ho hg _ => h v' w' ho hg
theorem ro_one {B : Nat} {w : World} {P : List Pr} (h : RO B w P) : ∀ u ∈ P.map Prod.fst, u.oneCell' = true := by
  intro u hu
  obtain ⟨p, hp, rfl⟩ := List.mem_map.1 hu
  obtain ⟨a, c, hv⟩ := (h p hp).1.len
  rw [hv]
  rfl
theorem grownNew {w v x : World} {k : Nat} (h1 : w.grownBy v none) (h2 : v.grownBy x (some k)) (hk : w.heap.size ≤ k) : w.grownBy x none :=
  gtrans h1 h2 (.inr (.inr ⟨k, rfl, hk⟩))
theorem grownOwn {w v x : World} {B n size : Nat} {e : TypeId} {o : Value} {xs : List Value} (h1 : w.grownBy v none) (ho : v.ownsRow B e size o n xs) (hB : w.heap.size ≤ B) (h2 : v.grownBy x o.ownBlock) : w.grownBy x none := by
  cases hk : o.ownBlock with
  | none => exact gtrans h1 (hk ▸ h2) (.inl rfl)
  | some k => exact grownNew h1 (hk ▸ h2) (Nat.le_trans hB (ho.lt k hk).1)
theorem grownSetRow (w : World) (b : Nat) (cs : Array Value) : w.grownBy (w.setRow b cs) (some b) :=
  ⟨rfl, rfl, rfl, Nat.le_of_eq (by simp), fun i hi hne => setRow_other w b i cs (fun e => hne (by rw [e]))⟩
theorem own_cross {w w' : World} {B B' n n' size size' : Nat} {e e' : TypeId} {v v' : Value} {xs xs' : List Value} (h : w.ownsRow B e size v n xs) (hr : w.ownsRow B' e' size' v' n' xs') (he : e ≠ e') (hg : w.grownBy w' v'.ownBlock) : w'.ownsRow B e size v n xs :=
  own_kept h hg fun r hk => by
    obtain ⟨cur, hc⟩ := own_row hr hk
    exact own_far h hc (by simp; exact fun h => he h.symm)
theorem own_new (w : World) (B : Nat) (e : TypeId) (hB : B ≤ w.heap.size) : (w.alloc (.cells #[] e)).ownsRow B e 1 (.slice (some ⟨w.heap.size, 0, none⟩) 0 0) 0 [] :=
  World.ownsRow_made (e := e) (size := 1) (base := B) w #[] 0 hB (by unfold maxLen; omega) rfl
/-- A slice of slices that reads as P. -/
def Row (w : World) (v : Value) (P : List Pr) : Prop := (∃ a c, v = .slice a P.length c) ∧ (0 < P.length → ∃ g o c, v = .slice (some ⟨g, o, none⟩) P.length c ∧ ∀ k, k < P.length → w.cell? ⟨g, o + k, none⟩ = some (P.getD k default).1)
def RB (w : World) (P : List Pr) : Prop := ∀ p ∈ P, Bt w p.1 p.2 ∧ p.2.length ≤ 4096
theorem own_rows {w : World} {B n : Nat} {e : TypeId} {v : Value} {P : List Pr} (h : w.ownsRow B e 1 v n (P.map Prod.fst)) (hn : n = P.length) : Row w v P := by
  subst hn
  refine ⟨own_len h, fun h0 => ?_⟩
  obtain ⟨g, c, rfl, hc⟩ := own_read h h0
  refine ⟨g, 0, c, rfl, fun k hk => ?_⟩
  rw [Nat.zero_add, hc k hk, List.getElem?_map, List.getD_eq_getElem?_getD, List.getElem?_eq_getElem hk]
  rfl
theorem RO.rb {B : Nat} {w : World} {P : List Pr} (h : RO B w P) : RB w P := fun p hp => ⟨(h p hp).1.bt, (h p hp).2⟩
theorem conv_of {w : World} {v : Value} {xs : List Int} (h : Bt w v xs) : (convert 28 9 v).run Try.prog w = .ok (.string (strOfNums xs)) w := by
  rcases h with ⟨rfl, rfl⟩ | ⟨g, o, cap, rfl, _, _, h3⟩ | ⟨ad, cap, rfl, rfl⟩
  · exact run_convert_bytes_nil (P := Try.prog) w 28 5 Try.underlying28 Try.underlying5 0 0 9 Try.underlying9
  · exact run_convert_bytes_arg (P := Try.prog) w 28 5 Try.underlying28 Try.underlying5 g o xs.length cap xs rfl h3 9 Try.underlying9
  · rw [run_convert_bytes_string w 28 9 5 _ 0 cap Try.underlying28 Try.underlying5 Try.underlying9, run_bytesToString w ad 0 cap [] (run_loadCells_list (P := Try.prog) w ad [] (fun j v hj => by simp at hj))]
    rfl
set_option maxHeartbeats 1000000 in
theorem same_of (u v : Value) (P R : List Pr) (w : World) (hu : Row w u P) (hv : Row w v R) (hp : RB w P) (hr : RB w R) (hs : P.map Prod.snd = R.map Prod.snd) (hl : P.length ≤ 2147483647) :
    Calls Try.prog 16 #[u, v] w fun e w' => e = .returned (.bool true) ∧ ∃ n, w' = w.drewN n := by
  have hlen : P.length = R.length := by simpa using congrArg List.length hs
  have HU := Lib.hid hu
  have HV := Lib.hid hv
  have HP := Lib.hid hp
  have HR := Lib.hid hr
  have HS := Lib.hid hs
  have HLEN := Lib.hid hlen
  obtain ⟨ua, uc, rfl⟩ := hu.1
  obtain ⟨va, vc, rfl⟩ := hv.1
  rw [← hlen] at HV ⊢
  generalize hn : P.length = n at *
  have HN := Lib.hid hn
  clear hu hv hp hr hs hlen hn
  go_enter Try.func16, Try.ntmps16
  go_wp2
  go_loopw [5] (fun iv wr => ∃ k m : Nat, iv = .int .i64 k ∧ k ≤ n ∧ wr = w.drewN m) (fun iv _ => n - (intOf iv).toNat)
  case atStart => exact ⟨0, 0, rfl, by omega, rfl⟩
  case round =>
    obtain ⟨k, m, rfl, hk, rfl⟩ := hrel
    by_cases hlt : k < n
    · obtain ⟨pg, po, pc, hpu, hpc⟩ := HU.out.2 (by have := HN.out; omega)
      obtain ⟨rg, ro, rc, hrv, hrc⟩ := HV.out.2 (by have := HN.out; have := HLEN.out; omega)
      have hpk : P.getD k default ∈ P := by rw [List.getD_eq_getElem?_getD, List.getElem?_eq_getElem (by have := HN.out; omega)]; exact List.getElem_mem _
      have hrk : R.getD k default ∈ R := by rw [List.getD_eq_getElem?_getD, List.getElem?_eq_getElem (by have := HN.out; have := HLEN.out; omega)]; exact List.getElem_mem _
      have hsk : (P.getD k default).2 = (R.getD k default).2 := by
        have h1 := congrArg (fun l => l.getD k default) HS.out
        simpa [List.getD_eq_getElem?_getD, List.getElem?_map, List.getElem?_eq_getElem (show k < P.length by have := HN.out; omega), List.getElem?_eq_getElem (show k < R.length by have := HN.out; have := HLEN.out; omega)] using h1
      have c1 := hpc k (by have := HN.out; omega)
      have c2 := hrc k (by have := HN.out; have := HLEN.out; omega)
      have b1 := (HP.out _ hpk).1
      have b2 := (HR.out _ hrk).1
      generalize P.getD k default = p at c1 b1 hsk hpk
      generalize R.getD k default = r at c2 b2 hsk hrk
      obtain ⟨pv, px⟩ := p
      obtain ⟨rv, rx⟩ := r
      simp only at c1 c2 b1 b2 hsk
      subst hsk
      injection hpu with e1 e2 e3
      injection hrv with e4 e5 e6
      subst e1 e3 e4 e6
      obtain ⟨pa, pcap, hpv, _⟩ := b1.len
      obtain ⟨ra, rcap, hrv, _⟩ := b2.len
      subst hpv hrv
      have d1 : (w.drewN m).cell? ⟨pg, po + k, none⟩ = _ := c1
      have d2 : (w.drewN m).cell? ⟨rg, ro + k, none⟩ = _ := c2
      have v1 := fun q : Nat => conv_of (b1.kept (grown_drewN w q none) (by simp))
      have v2 := fun q : Nat => conv_of (b2.kept (grown_drewN w q none) (by simp))
      clear hpc hrc hpk hrk d1 d2 b1 b2 e2 e5
      go_wp2
      go_quiet (fail)
      go_wp2
      go_roundw
      case rel => exact ⟨k + 1, m + nq, by go_num, by omega, by simp [World.drewN, Nat.add_assoc]⟩
      case measure => simp [intOf]; omega
    · go_wp2
      go_ret
      exact ⟨rfl, m, rfl⟩
theorem bt_lit (w : World) (cs : Array Value) (xs : List Int) (fr : Nat × Nat) (hc : cs = (xs.map (Value.int .u8)).toArray) : Bt (w.alloc (.cells cs 5 fr)) (.slice (some ⟨w.heap.size, 0, none⟩) xs.length xs.length) xs := by
  refine .inr (.inl ⟨_, 0, _, rfl, Nat.le_refl _, fun _ => by simp, fun i hi => ?_⟩)
  rw [Nat.zero_add, cell_of_row _ w.heap.size i cs 5 fr (heap_alloc_new w _), hc]
  simp [hi, List.getD_eq_getElem?_getD]
theorem Bt.later {w w' : World} {v : Value} {xs : List Int} (h : Bt w v xs) (hb : Below w.heap.size w w') : Bt w' v xs :=
  h.below hb (fun q hq h0 => by
    rcases h with ⟨_, h⟩ | ⟨g, o, c, h, _, h2, _⟩ | ⟨_, _, _, h⟩
    · rw [h] at h0; simp at h0
    · rw [h] at hq; simp only [Value.ownBlock, Option.some.injEq] at hq; subst hq; exact h2 h0
    · rw [h] at h0; simp at h0)
theorem addr_add0 (a : Addr) : a.add 0 = a := by unfold Addr.add; simp
theorem slice_to (a : Option Addr) (n c h : Nat) (hc : h ≤ c) (W : World) : (Instr.slice 28 (.slice a n c) none (some (.int .i64 (h : Int))) none).run Try.prog W = .ok (.slice a h c) W := by
  have he : Try.prog.elem 28 = 5 := by kernel_rfl
  have ht : Try.prog.underlying 28 = some (.slice (Try.prog.elem 28)) := by rw [he]; exact Try.underlying28
  have hz : ∀ W, (sizeOf (Try.prog.elem 28)).run Try.prog W = .ok 1 W := fun W => by rw [he]; kernel_rfl
  rw [run_slice_h (P := Try.prog) W 28 a n c ht .i64 (h : Int) (by omega) (by omega), hz W]
  have e : a.map (·.add 0) = a := by cases a <;> simp [addr_add0]
  simp [sliced, Result.andThen, addr_add0]
theorem Bt.take {W : World} {a : Option Addr} {c : Nat} {xs : List Int} (h : Bt W (.slice a xs.length c) xs) (k : Nat) (hk : k ≤ xs.length) : Bt W (.slice a k c) (xs.take k) := by
  have hl : (xs.take k).length = k := by simp [hk]
  rcases h with ⟨h1, rfl⟩ | ⟨g, o, cap, h1, h2, h3, h4⟩ | ⟨ad, cap, h1, rfl⟩
  · injection h1 with e1 e2 e3
    subst e1 e3
    obtain rfl : k = 0 := by simpa using hk
    exact .inl ⟨rfl, rfl⟩
  · injection h1 with e1 e2 e3
    subst e1 e3
    refine .inr (.inl ⟨g, o, c, by rw [hl], by rw [hl]; omega, fun h => h3 (by omega), fun i hi => ?_⟩)
    rw [hl] at hi
    rw [h4 i (by omega)]
    simp [List.getD_eq_getElem?_getD, List.getElem?_take, hi]
  · injection h1 with e1 e2 e3
    subst e1 e3
    obtain rfl : k = 0 := by simpa using hk
    exact .inr (.inr ⟨ad, c, rfl, rfl⟩)
theorem wp_append_none {P : Program} {w : World} {o : Oper} {a : Act} {K : Act → World → Prop} {Q : Exit → Act → World → Prop} (s x : Operand) (t : TypeId)
    (ho : o.op = .call { callee := .builtin .append, args := #[s, x], argTypes := #[t, t] })
    (base : Nat) (e : TypeId) (i : TypeInfo) (size : Nat) (ht : P.underlying t = some (.slice e)) (hi : P.info? e = some i)
    (v : Value) (n : Nat) (xs : List Value) (hs : a.eval s = v) (hown : w.ownsRow base e size v n xs) (hx : a.eval x = .slice none 0 0)
    (h : K (a.put o.dst v) w) : o.wp P a w K Q := by
  have hrun := run_append_owned_none (P := P) (w := w) base t o.type e i size ht hi v n xs hown
  unfold Oper.wp
  simp [execOp, ho, resolve, invoke, builtin, hs, hx, hrun, Result.andThen]
  exact h
/-- append, for a region that draws its order. -/
theorem step_append_any {P : Program} (w : World) {ops : Array Oper} {o : Oper} {a : Act} {K : Act → World → Prop} {Q : Exit → Act → World → Prop} {E : Prop} (hgd : o.guard = none) (s x : Operand) (t : TypeId)
    (ho : o.op = .call { callee := .builtin .append, args := #[s, x], argTypes := #[t, t] })
    (base : Nat) (e : TypeId) (i : TypeInfo) (z : Value) (size bytes : Nat) (ht : P.underlying t = some (.slice e)) (hi : P.info? e = some i) (hz : i.zero = some z)
    (hsize : i.size = size) (hby : i.bytes = bytes) (hzs : z.cells.size = size) (hsz : 0 < size)
    (v : Value) (n : Nat) (xs : List Value) (hs : a.eval s = v) (hown : w.ownsRow base e size v n xs)
    (sv : Value) (m : Nat) (news : List Value) (hx : a.eval x = sv) (hsrc : Src w sv m news) (hl : news.length = m * size) (h1 : ∀ u ∈ news, u.oneCell' = true)
    (h63 : n + m ≤ maxLen) (hbytes : (n + m) * bytes ≤ 140737488355328) (hbase : base ≤ w.heap.size)
    (h : ∀ v' w', w'.ownsRow base e size v' (n + m) (xs ++ news) → w.grownBy w' v.ownBlock → K (a.put o.dst v') w') : if Region.wanted o (yielded ops a.tmps) = true then Oper.wp P o a w K Q else E := by
  have hw : Region.wanted o (yielded ops a.tmps) = true := by simp [Region.wanted, hgd]
  rw [if_pos hw]
  rcases hsrc with ⟨rfl, rfl, rfl⟩ | ⟨ad, c, rfl, hc⟩
  · refine wp_append_none s x t ho base e i size ht hi v n xs hs hown hx (h v w ?_ (World.grownBy.refl _ _))
    rw [Nat.add_zero, List.append_nil]
    exact hown
  · exact wp_append_own w s x t ho base e i z size bytes ht hi hz hsize hby hzs hsz v n xs hs hown ad m c news hx hl hc h1 h63 hbytes hbase fun v' w' ho hg _ => h v' w' ho hg
/-- A slice of so many bytes, in memory of its own. -/
def BL (B : Nat) (w : World) (v : Value) (n : Nat) : Prop := ∃ xs : List Int, xs.length = n ∧ BO B w v xs
theorem BL.kept {B n : Nat} {w w' : World} {v : Value} {row : Option Nat} (h : BL B w v n) (hg : w.grownBy w' row) (hne : ∀ r, row = some r → ∀ cur, w.heap[r]? ≠ some (.cells cur 5 (0, 0))) : BL B w' v n := by
  obtain ⟨xs, hl, h⟩ := h
  refine ⟨xs, hl, h.kept hg fun r hr ho => ?_⟩
  obtain ⟨cur, hc⟩ := own_row h ho
  exact hne r hr cur hc
theorem BL.read {B n : Nat} {w : World} {v : Value} (h : BL B w v n) (h0 : 0 < n) : ∃ g c, v = .slice (some ⟨g, 0, none⟩) n c ∧ B ≤ g ∧ (∃ cur, w.heap[g]? = some (.cells cur 5 (0, 0))) ∧ ∀ k, k < n → (∃ y, w.cell? ⟨g, k, none⟩ = some (.int .u8 y)) ∧ w.frozen? ⟨g, k, none⟩ = false := by
  obtain ⟨xs, rfl, h⟩ := h
  obtain ⟨g, c, rfl, hc⟩ := own_read h h0
  obtain ⟨cur, hg⟩ := own_row h rfl
  refine ⟨g, c, rfl, (World.ownsRow.lt h g rfl).1, ⟨cur, hg⟩, fun k hk => ⟨⟨xs[k], ?_⟩, blk_frozen hg k⟩⟩
  rw [hc k hk, List.getElem?_map, List.getElem?_eq_getElem hk]
  rfl
theorem BL.set {B n g j : Nat} {w : World} {v : Value} (h : BL B w v n) (y : Int) : BL B (w.setCell ⟨g, j, none⟩ (.int .u8 y)) v n := by
  obtain ⟨xs, hl, h⟩ := h
  by_cases he : v.ownBlock = some g
  · rcases h.2 with ⟨rfl, _⟩ | ⟨g', cap, cur, rfl, hb, hg, hn, hc, hs, ht⟩
    · simp [Value.ownBlock] at he
    · simp only [Value.ownBlock, Option.some.injEq] at he
      subst he
      refine ⟨xs.set j y, by simpa using hl, ⟨by simp, .inr ⟨g', cap, cur.setIfInBounds j (.int .u8 y), by simp, hb, heap_setCell_same w g' j cur 5 _ hg, by simpa using hn, hc, by simpa using hs, ?_⟩⟩⟩
      rw [Array.toList_setIfInBounds, List.length_set, List.take_set, ht, List.map_set]
  · refine ⟨xs, hl, h.kept (grownSet w g j _) ?_⟩
    rintro r ⟨⟩
    exact he
theorem BO.bl {B : Nat} {w : World} {v : Value} {xs : List Int} (h : BO B w v xs) : BL B w v xs.length := ⟨xs, rfl, h⟩
end Go.Proofs.Ytaidfcehicffbaa.W
