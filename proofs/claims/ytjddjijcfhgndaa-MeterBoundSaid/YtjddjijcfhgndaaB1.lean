/-
  The plain law of MeterBound: between any two frames no more is green than the burst and the rate allow, nor with yellow more than both; what is red takes nothing.
-/
import Derived.Test.YtjddjijcfhgndaaW5
set_option linter.unusedVariables false
set_option linter.unusedSimpArgs false
namespace Go.Proofs.Ytjddjijcfhgndaa.W
open Go.RowKit

/-- A frame that was marked. -/
structure Mk where
  a : Int
  n : Int
  c : Int
instance : Inhabited Mk := ⟨⟨0, 0, 0⟩⟩

def gw (x : Mk) : Int := if x.c = 1 then x.n else 0
def yw (x : Mk) : Int := if x.c = 3 then 0 else x.n
def sg : List Mk → Int
  | [] => 0
  | x :: l => gw x + sg l
def sa : List Mk → Int
  | [] => 0
  | x :: l => yw x + sa l
theorem sg_snoc (l : List Mk) (x : Mk) : sg (l ++ [x]) = sg l + gw x := by
  induction l with
  | nil => simp [sg]
  | cons y l ih => simp only [List.cons_append, sg, ih]; omega
theorem sa_snoc (l : List Mk) (x : Mk) : sa (l ++ [x]) = sa l + yw x := by
  induction l with
  | nil => simp [sa]
  | cons y l ih => simp only [List.cons_append, sa, ih]; omega

theorem comes_le (r t : Int) (hr : 0 ≤ r) (ht : 0 ≤ t) : comes r t ≤ r * t := by
  unfold comes
  split
  · rename_i h
    have h1 : 8589934592 / r + 1 ≤ t := by omega
    have h2 := Int.mul_le_mul_of_nonneg_left h1 hr
    have h3 := Int.lt_mul_ediv_self_add (x := 8589934592) (k := r) h.1
    rw [Int.mul_add, Int.mul_one] at h2
    omega
  · exact Int.le_refl _

theorem fill_le (s : MS) (t : Int) (h : Good s) (h1 : s.l ≤ t) :
    (fillS s t).g ≤ s.g + s.cir * (t - s.l) ∧ (fillS s t).g + (fillS s t).m ≤ s.g + s.m + (s.cir + s.eir) * (t - s.l) := by
  have k1 := comes_le s.cir (t - s.l) h.a0 (by omega)
  have k2 := comes_le s.eir (t - s.l) h.c0 (by omega)
  rw [Int.add_mul]
  simp only [fillS]
  generalize s.cir * (t - s.l) = p1 at *
  generalize s.eir * (t - s.l) = p2 at *
  generalize comes s.cir (t - s.l) = y1 at *
  generalize comes s.eir (t - s.l) = y2 at *
  constructor
  · split <;> omega
  · cases s.cp <;> simp <;> (repeat' split) <;> omega

theorem comes_zero (r : Int) (hr : 0 ≤ r) : comes r 0 = 0 := by
  unfold comes
  rw [if_neg, Int.mul_zero]
  intro hh
  have := Int.ediv_nonneg (a := 8589934592) (b := r) (by omega) hr
  omega
theorem fill_idem (s : MS) (h : Good s) : fillS s s.l = s := by
  obtain ⟨cir, cbs, eir, ebs, cp, aw, g, m, l⟩ := s
  have e1 := comes_zero cir h.a0
  have e2 := comes_zero eir h.c0
  have b1 := h.g1
  have b2 := h.m1
  simp only at b1 b2
  simp only [fillS, Int.sub_self, e1, e2, Int.add_zero, if_neg (Int.not_lt.2 b1)]
  cases cp <;> simp [Int.not_lt.2 b2] <;> omega

theorem mark_sum (s : MS) (t n c : Int) : gw ⟨t, n, (markS s t n c).2⟩ + (markS s t n c).1.g = (fillS s t).g ∧ yw ⟨t, n, (markS s t n c).2⟩ + (markS s t n c).1.g + (markS s t n c).1.m = (fillS s t).g + (fillS s t).m := by
  simp only [markS]
  generalize fillS s t = f
  generalize (if s.aw = true then c else 1) = c'
  by_cases h1 : c' = 1 ∧ n ≤ f.g
  · simp [h1, gw, yw]; omega
  · by_cases h2 : c' ≤ 2 ∧ n ≤ f.m
    · simp [h1, h2, gw, yw]; omega
    · simp [h1, h2, gw, yw]
theorem mark_sets (s : MS) (t n c : Int) : (markS s t n c).1.cir = s.cir ∧ (markS s t n c).1.cbs = s.cbs ∧ (markS s t n c).1.eir = s.eir ∧ (markS s t n c).1.ebs = s.ebs ∧ (markS s t n c).1.l = t ∧ (markS s t n c).1.cp = s.cp ∧ (markS s t n c).1.aw = s.aw := by
  simp only [markS]
  generalize (if s.aw = true then c else 1) = c'
  split
  · exact ⟨rfl, rfl, rfl, rfl, rfl, rfl, rfl⟩
  · split <;> exact ⟨rfl, rfl, rfl, rfl, rfl, rfl, rfl⟩
theorem mark_col (s : MS) (t n c : Int) : (markS s t n c).2 = 1 ∨ (markS s t n c).2 = 2 ∨ (markS s t n c).2 = 3 ∧ (markS s t n c).1 = fillS s t := by
  simp only [markS]
  generalize (if s.aw = true then c else 1) = c'
  split
  · exact .inl rfl
  · split
    · exact .inr (.inl rfl)
    · exact .inr (.inr ⟨rfl, rfl⟩)

/-- When the i-th frame came. -/
def atm (D : List Mk) (i : Nat) : Int := (D.getD i default).a
theorem atm_old (D : List Mk) (x : Mk) (i : Nat) (h : i < D.length) : atm (D ++ [x]) i = atm D i := by
  simp [atm, List.getElem?_append_left h]
theorem atm_new (D : List Mk) (x : Mk) : atm (D ++ [x]) D.length = x.a := by simp [atm]

structure BI (s : MS) (D : List Mk) : Prop where
  good : Good s
  each : ∀ x ∈ D, 1 ≤ x.n ∧ x.n ≤ 2048 ∧ 0 ≤ x.a ∧ x.a ≤ s.l ∧ 1 ≤ x.c ∧ x.c ≤ 3
  last : ∀ i, i < D.length → sg (D.drop i) + s.g ≤ s.cbs + s.cir * (s.l - atm D i) ∧ sa (D.drop i) + s.g + s.m ≤ s.cbs + s.ebs + (s.cir + s.eir) * (s.l - atm D i)
  all : ∀ i k, i ≤ k → k < D.length → sg ((D.drop i).take (k + 1 - i)) ≤ s.cbs + s.cir * (atm D k - atm D i) ∧ sa ((D.drop i).take (k + 1 - i)) ≤ s.cbs + s.ebs + (s.cir + s.eir) * (atm D k - atm D i)

theorem BI.first (s : MS) (h : Good s) : BI s [] := ⟨h, by simp, by simp, by simp⟩
theorem BI.mark {s : MS} {D : List Mk} (h : BI s D) (t n c : Int) (h1 : s.l ≤ t) (h2 : t ≤ 1099511627776) (h3 : okf n c) : BI (markS s t n c).1 (D ++ [⟨t, n, (markS s t n c).2⟩]) := by
  have hg := mark_good s t n c h.good h1 h2 h3
  obtain ⟨e1, e2, e3, e4, e5, _, _⟩ := mark_sets s t n c
  obtain ⟨u1, u2⟩ := mark_sum s t n c
  obtain ⟨f1, f2⟩ := fill_le s t h.good h1
  have hc := mark_col s t n c
  have hfg := fill_good s t h.good h1 h2
  have q1 : (fillS s t).g ≤ s.cbs := hfg.g1
  have q2 : (fillS s t).m ≤ s.ebs := hfg.m1
  have r1 := hg.g0
  have r2 := hg.m0
  generalize (markS s t n c).1 = s' at *
  obtain ⟨x, hx⟩ : ∃ x : Mk, x = ⟨t, n, (markS s t n c).2⟩ := ⟨_, rfl⟩
  have hxa : x.a = t := by rw [hx]
  have hxn : x.n = n := by rw [hx]
  have hxc : 1 ≤ x.c ∧ x.c ≤ 3 := by rw [hx]; show 1 ≤ (markS s t n c).2 ∧ (markS s t n c).2 ≤ 3; omega
  rw [← hx] at u1 u2 ⊢
  clear hx hc
  have HL : ∀ i, i < (D ++ [x]).length → sg ((D ++ [x]).drop i) + s'.g ≤ s'.cbs + s'.cir * (s'.l - atm (D ++ [x]) i) ∧ sa ((D ++ [x]).drop i) + s'.g + s'.m ≤ s'.cbs + s'.ebs + (s'.cir + s'.eir) * (s'.l - atm (D ++ [x]) i) := by
    intro i hi
    rw [e1, e2, e3, e4, e5]
    rw [List.length_append, List.length_singleton] at hi
    by_cases hlt : i < D.length
    · rw [List.drop_append_of_le_length (by omega), sg_snoc, sa_snoc, atm_old D x i hlt]
      obtain ⟨l1, l2⟩ := h.last i hlt
      have m1 : s.cir * (t - atm D i) = s.cir * (s.l - atm D i) + s.cir * (t - s.l) := by rw [← Int.mul_add]; congr 1; omega
      have m2 : (s.cir + s.eir) * (t - atm D i) = (s.cir + s.eir) * (s.l - atm D i) + (s.cir + s.eir) * (t - s.l) := by rw [← Int.mul_add]; congr 1; omega
      rw [m1, m2]
      omega
    · obtain rfl : i = D.length := by omega
      rw [List.drop_left, atm_new, hxa, Int.sub_self, Int.mul_zero, Int.mul_zero]
      simp only [sg, sa]
      omega
  refine ⟨hg, ?_, HL, ?_⟩
  · intro y hy
    rw [List.mem_append, List.mem_singleton] at hy
    rcases hy with hy | rfl
    · have := h.each y hy
      omega
    · rw [hxa, hxn, e5]
      have := h.good.l0
      obtain ⟨o1, o2, _, _⟩ := h3
      omega
  · intro i k hik hk
    rw [List.length_append, List.length_singleton] at hk
    by_cases hlt : k < D.length
    · rw [atm_old D x k hlt, atm_old D x i (by omega), List.drop_append_of_le_length (by omega), List.take_append_of_le_length (by rw [List.length_drop]; omega), e1, e2, e3, e4]
      exact h.all i k hik hlt
    · obtain rfl : k = D.length := by omega
      obtain ⟨l1, l2⟩ := HL i (by rw [List.length_append, List.length_singleton]; omega)
      rw [List.take_of_length_le (by rw [List.length_drop, List.length_append, List.length_singleton]; omega), atm_new, hxa]
      rw [e5] at l1 l2
      omega

theorem sg_bd (D : List Mk) (h : ∀ x ∈ D, 1 ≤ x.n ∧ x.n ≤ 2048) : 0 ≤ sg D ∧ sg D ≤ 2048 * D.length ∧ 0 ≤ sa D ∧ sa D ≤ 2048 * D.length := by
  induction D with
  | nil => simp [sg, sa]
  | cons x D ih =>
    have h1 := ih fun y hy => h y (List.mem_cons_of_mem _ hy)
    have h2 := h x List.mem_cons_self
    simp only [sg, sa, gw, yw, List.length_cons]
    split <;> split <;> omega
/-- One more of a stretch. -/
theorem stretch (D : List Mk) (i k : Nat) (hik : i ≤ k) (hk : k < D.length) : (D.drop i).take (k + 1 - i) = (D.drop i).take (k - i) ++ [D.getD k default] := by
  have e : k + 1 - i = k - i + 1 := by omega
  rw [e, List.take_succ_eq_append_getElem (by rw [List.length_drop]; omega)]
  congr 1
  simp [List.getElem_drop, List.getD_eq_getElem?_getD, hk, show i + (k - i) = k by omega]
end Go.Proofs.Ytjddjijcfhgndaa.W
