/-
  WireOwn's walk.
-/
import Derived.Test.YtaidfcehicffbaaC0
set_option linter.unusedVariables false
set_option linter.unusedSimpArgs false
namespace Go.Proofs.Ytaidfcehicffbaa.W
open Go.RowKit Go.Deep

def g1 (L M : List (List Int)) : Rows4 := upd (upd clr 1 L) 3 M
theorem data_own (B b : Nat) (v : Value) (xs : List Int) (w : World) (h : WrB B w b false clr) (hB : B ≤ w.heap.size) (hv : Bt w v xs) (hl : xs.length ≤ 100) :
    Calls Try.prog 11 #[.pointer (some ⟨b, 0, none⟩), .int .i64 1, v] w fun e w' => e = .returned (.int .i64 0) ∧ WrB B w' b false (upd clr 1 [xs]) ∧ w.grownBy w' (some b) :=
  (datad_okB B b 1 clr v xs w h hB (by omega) hv (by omega) (by omega) (by decide) (by decide)).mono fun e w' ⟨h1, h2, h3⟩ => ⟨h1, h2, h3⟩
theorem say_own (B b : Nat) (v : Value) (xs : List Int) (w : World) (h : WrB B w b false (upd clr 1 [xs])) (hB : B ≤ w.heap.size) (hv : Bt w v xs) (hl : xs.length ≤ 100) :
    Calls Try.prog 14 #[.pointer (some ⟨b, 0, none⟩), .int .i64 1, v] w fun e w' => e = .returned (.int .i64 0) ∧ WrB B w' b false (g1 [xs] [xs]) ∧ w.grownBy w' (some b) :=
  (sayd_okB B b 1 _ v xs w h hB (by omega) hv (by omega) (by simp [upd, clr])).mono fun e w' ⟨h1, h2, h3⟩ => ⟨h1, h2, h3⟩
theorem Rs.one {B : Nat} {w : World} {v : Value} {xs : List Int} (h : Rs B w v [xs]) : ∃ g c a ac, v = .slice (some ⟨g, 0, none⟩) 1 c ∧ w.cell? ⟨g, 0, none⟩ = some (.slice a xs.length ac) ∧ BO B w (.slice a xs.length ac) xs ∧ B ≤ g ∧ (∃ cur, w.heap[g]? = some (.cells cur 28 (0, 0))) := by
  obtain ⟨X, hX, ho, hr⟩ := h
  match X, hX with
  | [(e, ys)], hX =>
    simp at hX
    subst hX
    obtain ⟨g, c, hv, hc⟩ := own_read ho (by simp)
    obtain ⟨hb, hl⟩ := hr _ (List.mem_singleton.2 rfl)
    obtain ⟨a, ac, he⟩ := hb.len
    simp only at he hb
    subst he
    refine ⟨g, c, a, ac, hv, (hc 0 (by simp)).trans rfl, hb, ?_, own_row ho (by rw [hv]; rfl)⟩
    exact (ho.lt g (by rw [hv]; rfl)).1
  | [], hX => simp at hX
  | _ :: _ :: _, hX => simp at hX
theorem all_own (b : Nat) (xs : List Int) (w : World) (h : Wr w b false (g1 [xs] [xs])) : Calls Try.prog 9 #[.pointer (some ⟨b, 0, none⟩), .int .i64 1] w fun e w' => ∃ a c, e = .returned (.slice a 1 c) ∧ Rs w.heap.size w' (.slice a 1 c) [xs] ∧ w.grownBy w' none :=
  (alld_of b 1 false _ w h (by omega) (by simp [g1, upd])).mono fun e w' h => h
theorem words_own (b : Nat) (xs : List Int) (w : World) (h : Wr w b false (g1 [xs] [xs])) : Calls Try.prog 10 #[.pointer (some ⟨b, 0, none⟩), .int .i64 1] w fun e w' => ∃ a c, e = .returned (.slice a 1 c) ∧ Rs w.heap.size w' (.slice a 1 c) [xs] ∧ w.grownBy w' none :=
  (wordsd_of b 1 false _ w h (by omega) (by simp [g1, upd])).mono fun e w' h => h
theorem take_own (b : Nat) (xs : List Int) (w : World) (h : Wr w b false (g1 [xs] [xs])) : Calls Try.prog 12 #[.pointer (some ⟨b, 0, none⟩), .int .i64 1, .int .i64 0] w fun e w' => ∃ a c, e = .returned (.tuple #[.slice a xs.length c, .bool true]) ∧ Wr w' b false (g1 [] [xs]) ∧ BO 0 w' (.slice a xs.length c) xs ∧ w.grownBy w' (some b) := by
  refine (taked_of b 1 false _ 0 w h (by omega) (by simp [g1, upd])).mono fun e w' ⟨a, l, c, h1, h2, h3, _, h4⟩ => ?_
  have h3' : BO 0 w' (.slice a l c) xs := h3
  obtain ⟨a', c', hv⟩ := h3'.len
  injection hv with e1 e2 e3
  subst e2
  refine ⟨a, c, h1, ?_, h3', h4⟩
  have hu : upd (g1 [xs] [xs]) 1 (takeL ((g1 [xs] [xs]) 1) 0) = g1 [] [xs] := by
    funext j
    show (if j = 1 then [] else (g1 [xs] [xs]) j) = _
    unfold g1 upd
    by_cases h1 : j = 1 <;> by_cases h3 : j = 3 <;> simp [h1, h3]
  rw [hu] at h2
  exact h2
theorem hear_own (b : Nat) (xs : List Int) (w : World) (h : Wr w b false (g1 [] [xs])) : Calls Try.prog 15 #[.pointer (some ⟨b, 0, none⟩), .int .i64 1] w fun e w' => ∃ a c, e = .returned (.tuple #[.slice a xs.length c, .bool true]) ∧ BO 0 w' (.slice a xs.length c) xs ∧ w.grownBy w' (some b) := by
  refine (heard_of b 1 false _ w h (by omega) (by simp [g1, upd])).mono fun e w' ⟨a, l, c, h1, h2, h3, _, h4⟩ => ?_
  have h3' : BO 0 w' (.slice a l c) xs := h3
  obtain ⟨a', c', hv⟩ := h3'.len
  injection hv with e1 e2 e3
  subst e2
  exact ⟨a, c, h1, h3', h4⟩

structure OW (w w1 wr : World) (v : Value) (b : Nat) (xs : List Int) : Prop where
  bl : BL w.heap.size wr v xs.length
  wb : WrB w1.heap.size wr b false (g1 [xs] [xs])
  g : w.grownBy wr none
theorem OW.step {w w1 wr : World} {v : Value} {b g j : Nat} {xs : List Int} (h : OW w w1 wr v b xs) (y : Int) (h1 : w.heap.size ≤ g) (h2 : g < w1.heap.size) (h3 : w1.heap.size ≤ b) : OW w w1 (wr.setCell ⟨g, j, none⟩ (.int .u8 y)) v b xs :=
  ⟨h.bl.set y, h.wb.far (grownSet _ _ _ _) (by rintro r ⟨⟩; omega), grownNew h.g (grownSet _ _ _ _) h1⟩
/-- The second loop: what was told is turned over. -/
structure OX (wa wr : World) (e f : Value) (g6 g7 n : Nat) : Prop where
  ee : BL wa.heap.size wr e n
  ff : BL wa.heap.size wr f n
  ce : wr.cell? ⟨g6, 0, none⟩ = some e
  cf : wr.cell? ⟨g7, 0, none⟩ = some f
  te : ∃ cur, wr.heap[g6]? = some (.cells cur 28 (0, 0))
  tf : ∃ cur, wr.heap[g7]? = some (.cells cur 28 (0, 0))
  g : wa.grownBy wr none
theorem blk28_set {w : World} {g b j t : Nat} {cs cs' : Array Value} {v : Value} (h : w.heap[g]? = some (.cells cs 28 (0, 0))) (h' : w.heap[b]? = some (.cells cs' t (0, 0))) (ht : t ≠ 28) : (w.setCell ⟨b, j, none⟩ v).heap[g]? = some (.cells cs 28 (0, 0)) := by
  refine blk_far h b j v ?_
  rintro rfl
  rw [h] at h'
  simp at h'
  exact ht h'.2.symm
theorem OX.step {wa wr : World} {e f : Value} {g6 g7 n b j : Nat} (h : OX wa wr e f g6 g7 n) (y : Int) (hb : wa.heap.size ≤ b) (ht : ∃ cur, wr.heap[b]? = some (.cells cur 5 (0, 0))) : OX wa (wr.setCell ⟨b, j, none⟩ (.int .u8 y)) e f g6 g7 n := by
  obtain ⟨c5, ht⟩ := ht
  obtain ⟨c6, t6⟩ := h.te
  obtain ⟨c7, t7⟩ := h.tf
  have k6 := blk28_set (j := j) (v := .int .u8 y) t6 ht (by decide)
  have k7 := blk28_set (j := j) (v := .int .u8 y) t7 ht (by decide)
  exact ⟨h.ee.set y, h.ff.set y, by rw [cell_of_row _ g6 0 _ _ _ k6, ← cell_of_row _ g6 0 _ _ _ t6]; exact h.ce, by rw [cell_of_row _ g7 0 _ _ _ k7, ← cell_of_row _ g7 0 _ _ _ t7]; exact h.cf, ⟨_, k6⟩, ⟨_, k7⟩, grownNew h.g (grownSet _ _ _ _) hb⟩

set_option maxRecDepth 20000 in
set_option maxHeartbeats 4000000 in
theorem walkOwn (a : Option Addr) (len cap : Nat) (xs0 : List Int) (w : World) (hb : Bt w (.slice a len cap) xs0) (hl : xs0.length ≤ 9223372036854775807) :
    Calls Try.prog 4 #[.slice a len cap] w fun e w' => e = .returned (.bool true) ∧ Below w.heap.size w w' := by
  obtain ⟨i0, hi, hz0, hz1, hz2⟩ := info_parts info5
  obtain ⟨a', cap', hv, hcap⟩ := hb.len
  injection hv with e1 e2 e3
  subst e1 e2 e3
  have hbt := hb.take (min (xs0.length : Int) 100).toNat (by omega)
  have hlt : (xs0.take (min (xs0.length : Int) 100).toNat).length = (min (xs0.length : Int) 100).toNat := by simp; omega
  have hsrc := (hbt.kept (World.grownBy_alloc w (.cells #[] 5) none) (by simp)).src
  rw [hlt] at hsrc
  have hone := bytes_one (xs0.take (min (xs0.length : Int) 100).toNat)
  have hn : (min (xs0.length : Int) 100).toNat ≤ 100 := by omega
  obtain ⟨xs, hxs⟩ : ∃ ys, ys = xs0.take (min (xs0.length : Int) 100).toNat := ⟨_, rfl⟩
  rw [← hxs] at hsrc hlt hone
  have HO := Lib.hid (own_new w w.heap.size 5 (Nat.le_refl _))
  have HS := Lib.hid hsrc
  have HL : Hid ((xs.map (Value.int .u8)).length = (min (xs0.length : Int) 100).toNat * 1) := Lib.hid (by simp [hlt])
  have HONE := Lib.hid hone
  have HLT := Lib.hid hlt
  have HNN := Lib.hid hn
  clear hb hbt hsrc hlt hone hxs hn
  generalize xs0.length = l at *
  go_enter Try.func4, Try.ntmps4
  go_upto_region 2 with (first
    | (at_builtin; refine wpList_append_any _ rfl _ _ 28 rfl w.heap.size 5 i0 (.int .u8 0) 1 1 Try.underlying28 hi hz0 hz1 hz2 rfl (by decide) _ 0 _ rfl HO.out (.slice a (min (l : Int) 100).toNat cap) (min (l : Int) 100).toNat (xs.map (Value.int .u8)) rfl HS.out HL.out HONE.out (by have := HNN.out; unfold maxLen; omega) (by have := HNN.out; omega) (by simp) ?_; intro v1 w1 ho hg; have HO1 := Lib.hid ho; have HG1 := Lib.hid hg; clear ho hg))
  have hbo : BO w.heap.size w1 v1 xs := by
    have h := HO1.out
    rw [Nat.zero_add, List.nil_append] at h
    show w1.ownsRow _ _ _ _ xs.length _
    rw [HLT.out]
    exact h
  have hg1 := grownOwn (World.grownBy_alloc w (.cells #[] 5) none) HO.out (Nat.le_refl _) HG1.out
  have hn : xs.length ≤ 100 := by rw [HLT.out]; exact HNN.out
  obtain ⟨va, vc, hv1⟩ := hbo.len
  subst hv1
  have hcv := conv_of hbo.bt
  have HBO := Lib.hid hbo
  have HGA := Lib.hid hg1
  clear HO HO1 HG1 HS HL HONE HLT HNN hbo hg1
  go_upto_region 7 with (first
    | (go_at_call 7; refine (new_ofB _).mono ?_; rintro e w2 ⟨b, rfl, hc, hA, hg⟩; have H2 := Lib.hid hA; have G2 := Lib.hid hg; have HC := Lib.hid hc; have B2 := Lib.hid (HBO.out.kept hg (by simp)); clear hA hg hc)
    | (go_at_call 11; refine (data_own w1.heap.size b _ xs w2 H2.out G2.out.size B2.out.bt hn).mono ?_; rintro e w3 ⟨rfl, hA, hg⟩; have H3 := Lib.hid hA; have G3 := Lib.hid hg; have B3 := Lib.hid (B2.out.kept hg (by rintro r ⟨⟩; obtain ⟨rv, F, hb, _⟩ := H2.out.ex; exact B2.out.ne hb (by simp))); clear hA hg)
    | (go_at_call 14; refine (say_own w1.heap.size b _ xs w3 H3.out (Nat.le_trans G2.out.size G3.out.size) B3.out.bt hn).mono ?_; rintro e w4 ⟨rfl, hA, hg⟩; have H4 := Lib.hid hA; have G4 := Lib.hid hg; have B4 := Lib.hid (B3.out.kept hg (by rintro r ⟨⟩; obtain ⟨rv, F, hb, _⟩ := H3.out.ex; exact B3.out.ne hb (by simp))); clear hA hg))
  have HOW : Hid (OW w w1 w4 (.slice va xs.length vc) b xs) := Lib.hid ⟨B4.out.bl, H4.out, grownNew HGA.out (gtrans (gn2 G2.out G3.out) G4.out (.inl rfl)) (Nat.le_trans HGA.out.size HC.out)⟩
  clear H2 G2 B2 H3 G3 B3 H4 G4 B4 hcv
  go_loopw [5] (fun iv wr => ∃ k : Nat, iv = .int .i64 k ∧ k ≤ xs.length ∧ Hid (OW w w1 wr (.slice va xs.length vc) b xs)) (fun iv _ => xs.length - (intOf iv).toNat)
  case atStart => exact ⟨0, rfl, by omega, HOW⟩
  case round =>
    clear HOW
    obtain ⟨k, rfl, hk, HW⟩ := hrel
    by_cases hlt : k < xs.length
    · obtain ⟨g, c, hv, hgB, ht5, hcell⟩ := HW.out.bl.read (by omega)
      injection hv with e1 _ e3
      subst e1 e3
      obtain ⟨⟨y, hy⟩, hz⟩ := hcell k hlt
      have hgl := (HBO.out.lt (show _ = some g from rfl)).2
      have HST := Lib.hid (fun y => HW.out.step (j := k) y hgB hgl HC.out)
      clear hcell ht5
      go_wp2
      refine ⟨⟨k + 1, by go_num, by omega, Lib.hid (HST.out _)⟩, ?_⟩
      simp [intOf]
      omega
    · have HW4 : Hid (Wr wr b false (g1 [xs] [xs]) ∧ w.grownBy wr none) := Lib.hid ⟨HW.out.wb.wr, HW.out.g⟩
      clear HW
      go_upto_region 11 with (first
        | (go_at_call 9; refine (all_own b xs _ HW4.out.1).mono ?_; rintro e w5 ⟨a6, c6, rfl, hr, hg⟩; have R5 := Lib.hid hr; have G5 := Lib.hid hg; have W5 := Lib.hid (HW4.out.1.kept hg); clear hr hg)
        | (go_at_call 10; refine (words_own b xs _ W5.out).mono ?_; rintro e w6 ⟨a7, c7, rfl, hr, hg⟩; have R6 := Lib.hid hr; have G6 := Lib.hid hg; clear hr hg))
      obtain ⟨g6, d6, ea, ec, hv6, hce, hbe, hg6, hte⟩ := R5.out.one
      injection hv6 with e1 _ e3
      subst e1 e3
      obtain ⟨g7, d7, fa, fc, hv7, hcf, hbf, hg7, htf⟩ := R6.out.one
      injection hv7 with e1 _ e3
      subst e1 e3
      have HOX : Hid (OX wr w6 (.slice ea xs.length ec) (.slice fa xs.length fc) g6 g7 xs.length) := Lib.hid ⟨(hbe.kept G6.out (by simp)).bl, (hbf.le G5.out.size).bl, G6.out.cell hce (by simp), hcf, by obtain ⟨cur, h⟩ := hte; exact ⟨cur, blk_kept h G6.out (by simp)⟩, htf, gn G5.out G6.out⟩
      clear hce hbe hte hcf hbf htf R5 R6 G5 G6 W5 hg6 hg7
      obtain ⟨wA, hwA⟩ : ∃ y, y = wr := ⟨_, rfl⟩
      subst hwA
      go_wp2
      go_loopw [8] (fun iv wx => ∃ k : Nat, iv = .int .i64 k ∧ k ≤ xs.length ∧ Hid (OX wA wx (.slice ea xs.length ec) (.slice fa xs.length fc) g6 g7 xs.length)) (fun iv _ => xs.length - (intOf iv).toNat)
      case atStart => exact ⟨0, rfl, by omega, HOX⟩
      case round =>
        clear HOX
        obtain ⟨k, rfl, hk, HX⟩ := hrel
        by_cases hlt : k < xs.length
        · obtain ⟨ge, c1, hv, hgB, ht5, hcell⟩ := HX.out.ee.read (by omega)
          injection hv with e1 _ e3
          subst e1 e3
          obtain ⟨⟨y, hy⟩, hz⟩ := hcell k hlt
          have hce := HX.out.ce
          have HST := Lib.hid (fun y => HX.out.step (j := k) y hgB ht5)
          clear hcell ht5
          go_upto_region 15 with fail
          obtain ⟨y', hy'⟩ : ∃ z : Int, z = bits BinOp.xor IntKind.u8 y 255 := ⟨_, rfl⟩
          rw [← hy']
          have HX2 := Lib.hid (HST.out y')
          clear hce hy hz hy' HST
          generalize wr.setCell ⟨ge, k, none⟩ (.int .u8 y') = wy at HX2 ⊢
          obtain ⟨gf, c2, hv, hgB, ht5, hcell⟩ := HX2.out.ff.read (by omega)
          injection hv with e1 _ e3
          subst e1 e3
          obtain ⟨⟨z, hy⟩, hz⟩ := hcell k hlt
          have hcf := HX2.out.cf
          have HST := Lib.hid (fun y => HX2.out.step (j := k) y hgB ht5)
          clear hcell ht5
          go_wp2
          refine ⟨⟨k + 1, by go_num, by omega, Lib.hid (HST.out _)⟩, ?_⟩
          simp [intOf]
          omega
        · have HX4 : Hid (Wr wr b false (g1 [xs] [xs]) ∧ w.grownBy wr none) := Lib.hid ⟨HW4.out.1.kept HX.out.g, gn HW4.out.2 HX.out.g⟩
          clear HX
          go_upto_region 18 with (first
            | (go_at_call 12; refine (take_own b xs _ HX4.out.1).mono ?_; rintro e w7 ⟨a8, c8, rfl, hA, hB, hg⟩; have H7 := Lib.hid hA; have B7 := Lib.hid hB; have G7 := Lib.hid hg; clear hA hB hg)
            | (go_at_call 15; refine (hear_own b xs _ H7.out).mono ?_; rintro e w8 ⟨a9, c9, rfl, hB, hg⟩; have B8 := Lib.hid hB; have G8 := Lib.hid hg; have B7' := Lib.hid (B7.out.kept hg (by rintro r ⟨⟩; obtain ⟨rv, F, hb, _⟩ := H7.out.ex; exact B7.out.ne hb (by simp))); clear hB hg))
          have k1 := conv_of B7'.out.bt
          have k2 := conv_of B8.out.bt
          go_wp2_with (first | (go_at_call 8; refine (awake_any _).mono ?_; rintro e w9 ⟨rfl, hg⟩; have G9 := Lib.hid hg; clear hg))
          go_ret
          exact ⟨rfl, gbelow (gn (grownNew HX4.out.2 (gtrans G7.out G8.out (.inl rfl)) (Nat.le_trans HGA.out.size HC.out)) G9.out) (by simp)⟩
theorem bt_arg {H : Type} {enc : TypeId × Value → H} {W : World} {a : Option Addr} {len cap : Nat} {d : DataW H} {p : List MemPlace} (h : DataW.Trod enc Try.prog W 0 (fun _ => true) true 28 (.slice a len cap) d p) :
    ∃ xs, Bt W (.slice a len cap) xs ∧ xs.length ≤ 9223372036854775807 ∧ ∀ a' l c, (Value.slice a len cap) = .slice a' l c → c ≤ 9223372036854775807 := by
  obtain ⟨n, hf⟩ := h
  exact bt_of (n := n) hf
end Go.Proofs.Ytaidfcehicffbaa.W
