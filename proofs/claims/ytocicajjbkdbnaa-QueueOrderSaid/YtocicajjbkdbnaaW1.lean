/-
  What New, none, Len, Room and slices.Clone of the package queue do, over any memory.
-/
import Derived.Test.YtocicajjbkdbnaaChecked
import Derived.Test.YtocicajjbkdbnaaC1
import Derived.Laws.AppendOwnNone
import Derived.Laws.BytesArg
import Derived.ArgAppend
set_option linter.unusedVariables false
set_option linter.unusedSimpArgs false
namespace Go.Proofs.Ytocicajjbkdbnaa.W
open Go.RowKit Go.Deep Go.Conc

/-- The queue at block b: its channel at cb, with room for cap, in which vs wait. -/
def QC (w : World) (cb cap : Nat) (vs : List Value) : Prop := ∃ s r, w.heap[cb]? = some (.chan cap vs.toArray false s r false)
structure QH (w : World) (b cb cap : Nat) (vs : List Value) : Prop where
  box : w.heap[b]? = some (.cells #[.chan (some cb)] 50 (0, 0))
  chan : QC w cb cap vs
theorem QH.cell {w : World} {b cb cap : Nat} {vs : List Value} (h : QH w b cb cap vs) : w.cell? ⟨b, 0, none⟩ = some (.chan (some cb)) := (blk_cell0 h.box).1
theorem QH.ne {w : World} {b cb cap : Nat} {vs : List Value} (h : QH w b cb cap vs) : b ≠ cb := by
  rintro rfl
  obtain ⟨s, r, hc⟩ := h.chan
  rw [h.box] at hc
  simp at hc
theorem QH.ltb {w : World} {b cb cap : Nat} {vs : List Value} (h : QH w b cb cap vs) : b < w.heap.size := blk_lt h.box
theorem QH.ltc {w : World} {b cb cap : Nat} {vs : List Value} (h : QH w b cb cap vs) : cb < w.heap.size := by obtain ⟨s, r, hc⟩ := h.chan; exact blk_lt hc
theorem QH.kept {w w' : World} {b cb cap : Nat} {vs : List Value} {row : Option Nat} (h : QH w b cb cap vs) (hg : w.grownBy w' row) (h1 : some b ≠ row) (h2 : some cb ≠ row) : QH w' b cb cap vs := by
  obtain ⟨s, r, hc⟩ := h.chan
  exact ⟨blk_kept h.box hg h1, s, r, blk_kept hc hg h2⟩

theorem qnil (w : World) (r : Option Nat) : (binOp .eql 48 (.chan r) (.chan none)).run Try.prog w = .ok (.bool r.isNone) w := run_eql_chan_nil w _ _ _ r Try.underlying48
theorem none_made (b : Nat) (cb : Nat) (w : World) (h : w.cell? ⟨b, 0, none⟩ = some (.chan (some cb))) : Calls Try.prog 19 #[.pointer (some ⟨b, 0, none⟩)] w fun e w' => e = .returned (.bool false) ∧ w = w' := by
  have hq := fun W => qnil W (some cb)
  go_enter Try.func19, Try.ntmps19
  go_wp2
  go_ret
  exact ⟨rfl, rfl⟩
/-- A queue that nobody made. -/
def Nob (w : World) (p : Value) : Prop := p = .pointer none ∨ ∃ b, p = .pointer (some ⟨b, 0, none⟩) ∧ b < w.heap.size ∧ w.cell? ⟨b, 0, none⟩ = some (.chan none)
theorem none_nob (p : Value) (w : World) (h : Nob w p) : Calls Try.prog 19 #[p] w fun e w' => e = .returned (.bool true) ∧ w = w' := by
  rcases h with rfl | ⟨b, rfl, _, h⟩
  · go_enter Try.func19, Try.ntmps19
    go_wp2
    go_ret
    exact ⟨rfl, rfl⟩
  · have hq := fun W => qnil W none
    go_enter Try.func19, Try.ntmps19
    go_wp2
    go_ret
    exact ⟨rfl, rfl⟩

theorem heap2_new' (w : World) (o q : Obj) : ((w.alloc o).alloc q).heap[w.heap.size + 1]? = some q := by
  show ((w.heap.push o).push q)[w.heap.size + 1]? = _
  rw [Array.getElem?_push, if_pos (by simp)]
theorem heap2_old' (w : World) (o q : Obj) : ((w.alloc o).alloc q).heap[w.heap.size]? = some o := by
  show ((w.heap.push o).push q)[w.heap.size]? = _
  rw [Array.getElem?_push, if_neg (by simp), Array.getElem?_push, if_pos rfl]
theorem bytes29 : ∃ i, Try.prog.info? 29 = some i ∧ i.bytes = 24 := by
  have h : (Try.prog.info? 29).map (·.bytes) = some 24 := by kernel_rfl
  obtain ⟨i, hi, hb⟩ := Option.map_eq_some_iff.1 h
  exact ⟨i, hi, hb⟩
theorem mkchan (n : Nat) (hn : n ≤ 32) (w : World) : (Instr.makeChan 48 (.int .i64 (n : Int))).run Try.prog w = .ok (.chan (some w.heap.size)) (w.alloc (.chan n #[] false 0 0 false)) := by
  obtain ⟨i, hi, hb⟩ := bytes29
  simpa using run_makeChan (P := Try.prog) (w := w) Try.underlying48 hi .i64 n (by omega) (by rw [hb]; omega)

theorem new_bad (n : Int) (w : World) (h : n < 1 ∨ 32 < n) : Calls Try.prog 6 #[.int .i64 n] w fun e w' => e = .returned (.tuple #[.pointer none, .int .i64 210]) ∧ w = w' := by
  by_cases h1 : n < 1
  · clear h
    go_enter Try.func6, Try.ntmps6
    go_wp2
    go_ret2
    exact ⟨rfl, rfl⟩
  · have h2 : 32 < n := by omega
    clear h
    go_enter Try.func6, Try.ntmps6
    go_wp2
    go_ret2
    exact ⟨rfl, rfl⟩
theorem new_ok (n : Nat) (w : World) (h1 : 1 ≤ n) (h2 : n ≤ 32) : Calls Try.prog 6 #[.int .i64 (n : Int)] w fun e w' => ∃ b cb, e = .returned (.tuple #[.pointer (some ⟨b, 0, none⟩), .int .i64 0]) ∧ QH w' b cb n [] ∧ w.grownBy w' none ∧ w.heap.size ≤ b ∧ w.heap.size ≤ cb := by
  have hm := mkchan n h2
  go_enter Try.func6, Try.ntmps6
  go_wp2
  go_ret2
  refine ⟨w.heap.size + 1, w.heap.size, rfl, ⟨?_, 0, 0, ?_⟩, gtrans (World.grownBy_alloc _ _ none) (World.grownBy_alloc _ _ none) (.inl rfl), by omega, Nat.le_refl _⟩
  · exact heap2_new' w _ _
  · exact heap2_old' w _ _

theorem len_of (b cb cap : Nat) (vs : List Value) (w : World) (h : QH w b cb cap vs) : Calls Try.prog 10 #[.pointer (some ⟨b, 0, none⟩)] w fun e w' => e = .returned (.int .i64 (vs.length : Int)) ∧ w = w' := by
  have hc := h.cell
  obtain ⟨s, r, hq⟩ := h.chan
  have hl := fun ty => run_len_chan (P := Try.prog) 48 ty Try.underlying48 hq
  clear h hq
  go_enter Try.func10, Try.ntmps10
  go_wp2_with (first | (go_at_call 19; refine (none_made _ _ _ hc).mono ?_; rintro e w' ⟨rfl, rfl⟩))
  go_ret
  exact ⟨rfl, rfl⟩
theorem room_of (b cb cap : Nat) (vs : List Value) (w : World) (h : QH w b cb cap vs) (h1 : vs.length ≤ cap) (h2 : cap ≤ 32) : Calls Try.prog 11 #[.pointer (some ⟨b, 0, none⟩)] w fun e w' => e = .returned (.int .i64 ((cap : Int) - (vs.length : Int))) ∧ w.grownBy w' none := by
  have hc := h.cell
  obtain ⟨s, r, hq⟩ := h.chan
  have hl := fun (q : Nat) ty => run_len_chan (P := Try.prog) 48 ty Try.underlying48 (show (w.drewN q).heap[cb]? = _ from hq)
  have hk := fun (q : Nat) ty => run_cap_chan (P := Try.prog) 48 ty Try.underlying48 (show (w.drewN q).heap[cb]? = _ from hq)
  clear h hq
  go_enter Try.func11, Try.ntmps11
  go_wp2_with (first | (go_at_call 19; refine (none_made _ _ _ hc).mono ?_; rintro e w' ⟨rfl, rfl⟩))
  go_quiet (fail)
  go_wp2
  go_ret
  exact ⟨rfl, grown_drewN _ _ _⟩

/-- A slice of bytes that reads as xs. -/
def Bt (w : World) (v : Value) (xs : List Int) : Prop :=
  (v = .slice none 0 0 ∧ xs = []) ∨ (∃ g o cap, v = .slice (some ⟨g, o, none⟩) xs.length cap ∧ xs.length ≤ cap ∧ (0 < xs.length → g < w.heap.size) ∧ ∀ i, i < xs.length → w.cell? ⟨g, o + i, none⟩ = some (.int .u8 (xs.getD i 0))) ∨ ∃ ad cap, v = .slice (some ad) 0 cap ∧ xs = []
theorem Bt.kept {w w' : World} {v : Value} {xs : List Int} {row : Option Nat} (h : Bt w v xs) (hg : w.grownBy w' row) (hne : ∀ r, row = some r → v.ownBlock ≠ some r) : Bt w' v xs := by
  rcases h with h | ⟨g, o, cap, rfl, h1, h2, h3⟩ | h
  · exact .inl h
  · refine .inr (.inl ⟨g, o, cap, rfl, h1, fun h => Nat.lt_of_lt_of_le (h2 h) hg.size, fun i hi => hg.cell (h3 i hi) ?_⟩)
    intro e
    exact hne g e.symm rfl
  · exact .inr (.inr h)
theorem Bt.below {w w' : World} {v : Value} {xs : List Int} {B : Nat} (h : Bt w v xs) (hb : Below B w w') (hl : ∀ k, v.ownBlock = some k → 0 < xs.length → k < B) : Bt w' v xs := by
  rcases h with h | ⟨g, o, cap, rfl, h1, h2, h3⟩ | h
  · exact .inl h
  · exact .inr (.inl ⟨g, o, cap, rfl, h1, fun h => Nat.lt_of_lt_of_le (h2 h) hb.size, fun i hi => (hb.cell (p := ⟨g, o + i, none⟩) (hl g rfl (by omega))).trans (h3 i hi)⟩)
  · exact .inr (.inr h)
theorem Bt.len {w : World} {v : Value} {xs : List Int} (h : Bt w v xs) : ∃ a cap, v = .slice a xs.length cap ∧ xs.length ≤ cap := by
  rcases h with ⟨rfl, rfl⟩ | ⟨g, o, cap, rfl, h1, _⟩ | ⟨ad, cap, rfl, rfl⟩
  · exact ⟨none, 0, rfl, Nat.le_refl _⟩
  · exact ⟨_, cap, rfl, h1⟩
  · exact ⟨_, cap, rfl, Nat.zero_le _⟩
theorem Bt.own {w : World} {v : Value} {xs : List Int} {base : Nat} (h : w.ownsRow base 5 1 v xs.length (xs.map (Value.int .u8))) : Bt w v xs := by
  rcases h.2 with ⟨rfl, h0⟩ | ⟨g, cap, cur, rfl, hb, hg, hn, hc, hs, ht⟩
  · exact .inl ⟨rfl, List.length_eq_zero_iff.1 h0⟩
  · refine .inr (.inl ⟨g, 0, cap, rfl, hn, fun _ => blk_lt hg, fun i hi => ?_⟩)
    rw [Nat.zero_add, h.cellAt i (by omega), List.getElem?_map, List.getElem?_eq_getElem hi, List.getD_eq_getElem?_getD, List.getElem?_eq_getElem hi]
    rfl
theorem addN (g o j : Nat) : (⟨g, o, none⟩ : Addr).add j = ⟨g, o + j, none⟩ := by
  unfold Addr.add
  split
  · rename_i h
    subst h
    rfl
  · rfl
theorem bytes_cells {w : World} {g o : Nat} {xs : List Int} (h : ∀ i, i < xs.length → w.cell? ⟨g, o + i, none⟩ = some (.int .u8 (xs.getD i 0))) : ∀ j u, (xs.map (Value.int .u8))[j]? = some u → w.cell? ((⟨g, o, none⟩ : Addr).add j) = some u := by
  intro j u hj
  have hjl : j < xs.length := by
    rcases Nat.lt_or_ge j xs.length with h | h
    · exact h
    · rw [List.getElem?_eq_none (by simpa using h)] at hj
      simp at hj
  rw [addN, h j hjl]
  rw [List.getElem?_map, List.getElem?_eq_getElem hjl] at hj
  rw [List.getD_eq_getElem?_getD, List.getElem?_eq_getElem hjl]
  exact hj
theorem bytes_one (xs : List Int) : ∀ u ∈ xs.map (Value.int .u8), u.oneCell' = true := by
  intro u hu
  obtain ⟨x, _, rfl⟩ := List.mem_map.1 hu
  rfl

theorem info5 : (Try.prog.info? 5).map (fun i => (i.zero, i.size, i.bytes)) = some (some (.int .u8 0), 1, 1) := by kernel_rfl
theorem info29 : (Try.prog.info? 29).map (fun i => (i.zero, i.size, i.bytes)) = some (some (.slice none 0 0), 1, 24) := by kernel_rfl

/-- A slice of bytes in memory of its own, from block B on. -/
def BO (B : Nat) (w : World) (v : Value) (xs : List Int) : Prop := w.ownsRow B 5 1 v xs.length (xs.map (Value.int .u8))
theorem BO.bt {B : Nat} {w : World} {v : Value} {xs : List Int} (h : BO B w v xs) : Bt w v xs := Bt.own h
theorem BO.kept {B : Nat} {w w' : World} {v : Value} {xs : List Int} {row : Option Nat} (h : BO B w v xs) (hg : w.grownBy w' row) (hne : ∀ r, row = some r → v.ownBlock ≠ some r) : BO B w' v xs :=
  World.ownsRow.kept h hg (by
    cases ho : v.ownBlock with
    | none => exact .inl rfl
    | some k =>
      refine .inr fun e => ?_
      exact hne k e.symm ho)
theorem BO.le {B B' : Nat} {w : World} {v : Value} {xs : List Int} (h : BO B w v xs) (hb : B' ≤ B) : BO B' w v xs :=
  ⟨h.1, h.2.imp id fun ⟨g, cap, cur, hv, hg, r⟩ => ⟨g, cap, cur, hv, Nat.le_trans hb hg, r⟩⟩
theorem BO.lt {B : Nat} {w : World} {v : Value} {xs : List Int} (h : BO B w v xs) {k : Nat} (hk : v.ownBlock = some k) : B ≤ k ∧ k < w.heap.size := World.ownsRow.lt h k hk
theorem BO.ne {B : Nat} {w : World} {v : Value} {xs : List Int} (h : BO B w v xs) {r : Nat} {o : Obj} (ho : w.heap[r]? = some o) (hne : ∀ cur fr, o ≠ .cells cur 5 fr) : v.ownBlock ≠ some r := by
  rcases h.2 with ⟨rfl, _⟩ | ⟨g, cap, cur, rfl, _, hg, _⟩
  · simp [Value.ownBlock]
  · intro e
    simp only [Value.ownBlock, Option.some.injEq] at e
    subst e
    rw [ho] at hg
    exact hne cur (0, 0) (by simpa using hg)
theorem BO.len {B : Nat} {w : World} {v : Value} {xs : List Int} (h : BO B w v xs) : ∃ a cap, v = .slice a xs.length cap := by
  obtain ⟨a, cap, hv, _⟩ := h.bt.len
  exact ⟨a, cap, hv⟩
/-- A slice that is read: nil, or m elements at an address. -/
def Src (w : World) (v : Value) (m : Nat) (news : List Value) : Prop := (v = .slice none 0 0 ∧ m = 0 ∧ news = []) ∨ ∃ ad c, v = .slice (some ad) m c ∧ ∀ j u, news[j]? = some u → w.cell? (ad.add j) = some u
theorem Src.kept {w w' : World} {v : Value} {m : Nat} {news : List Value} {row : Option Nat} (h : Src w v m news) (hg : w.grownBy w' row) (hne : ∀ r, row = some r → v.ownBlock ≠ some r) : Src w' v m news := by
  rcases h with h | ⟨ad, c, rfl, hc⟩
  · exact .inl h
  · refine .inr ⟨ad, c, rfl, fun j u hj => hg.cell (hc j u hj) fun e => ?_⟩
    refine hne ad.block ?_ rfl
    rw [← e]
    congr 1
    unfold Addr.add
    split <;> rfl
theorem Bt.src {w : World} {v : Value} {xs : List Int} (h : Bt w v xs) : Src w v xs.length (xs.map (Value.int .u8)) := by
  rcases h with ⟨rfl, rfl⟩ | ⟨g, o, cap, rfl, _, _, h3⟩ | ⟨ad, cap, rfl, rfl⟩
  · exact .inl ⟨rfl, rfl, rfl⟩
  · exact .inr ⟨_, cap, rfl, bytes_cells h3⟩
  · exact .inr ⟨ad, cap, rfl, fun j u hj => by simp at hj⟩
/-- slices.Clone: the same bytes, in memory of its own. -/
theorem clone_of (v : Value) (xs : List Int) (w : World) (h : Bt w v xs) (hl : xs.length ≤ 2147483648) :
    Calls Try.prog 20 #[v] w fun e w' => ∃ v', e = .returned v' ∧ BO w.heap.size w' v' xs ∧ w.grownBy w' none := by
  rcases h.src with ⟨rfl, h0, _⟩ | ⟨ad, cap, rfl, h3⟩
  · have hq := fun W => Lib.run_eql_slice_nil (P := Try.prog) W 29 5 none 0 0 0 0 Try.underlying29
    have H0 := Lib.hid h0
    clear h
    go_enter Try.func20, Try.ntmps20
    go_wp2
    go_ret
    replace h0 := H0.out
    obtain rfl := List.eq_nil_of_length_eq_zero h0
    exact ⟨_, rfl, World.ownsRow_nil _ _ _ _, World.grownBy.refl _ _⟩
  · obtain ⟨i0, hi, hz0, hz1, hz2⟩ := info_parts info5
    have HC : Hid (∀ j u, (xs.map (Value.int .u8))[j]? = some u → (w.alloc (.cells #[] 5)).cell? (ad.add j) = some u) := Lib.hid (fun j u hj => (World.grownBy_alloc w _ none).cell (h3 j u hj) (by simp))
    clear h3 h
    have hown := World.ownsRow_made (e := 5) (size := 1) (base := w.heap.size) w #[] 0 (Nat.le_refl _) (by unfold maxLen; omega) rfl
    have HO := Lib.hid hown
    clear hown
    have hq := fun W => Lib.run_eql_slice_nil (P := Try.prog) W 29 5 (some ad) xs.length cap 0 0 Try.underlying29
    have HL : Hid ((xs.map (Value.int .u8)).length = xs.length * 1) := Lib.hid (by simp)
    go_enter Try.func20, Try.ntmps20
    go_wp2_with (at_builtin; refine wpList_append_own _ rfl _ _ 29 rfl w.heap.size 5 i0 (.int .u8 0) 1 1 Try.underlying29 hi hz0 hz1 hz2 rfl (by decide) _ 0 _ rfl HO.out ad xs.length cap (xs.map (Value.int .u8)) rfl HL.out HC.out (bytes_one xs) (by unfold maxLen; omega) (by omega) (by simp) ?_; intro v' w1 hown' hgrow _; have HO' := Lib.hid hown'; have HG := Lib.hid hgrow; clear hown' hgrow)
    go_ret
    have ho := HO'.out
    rw [Nat.zero_add, List.nil_append] at ho
    refine ⟨v', rfl, ho, gtrans (World.grownBy_alloc w _ none) HG.out (.inr (.inr ⟨_, rfl, Nat.le_refl _⟩))⟩
end Go.Proofs.Ytocicajjbkdbnaa.W
