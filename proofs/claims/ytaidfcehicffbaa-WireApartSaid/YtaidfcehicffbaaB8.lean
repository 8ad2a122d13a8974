/-
  What take, hear and set make of the reference, in the link's words.
-/
import Derived.Test.YtaidfcehicffbaaB7
set_option linter.unusedVariables false
set_option linter.unusedSimpArgs false
namespace Go.Proofs.Ytaidfcehicffbaa.W
open Go.RowKit Go.Deep

theorem take_G_same {G : Rows4} {d n : Int} (h : takeB G d n = false) : takeG G d n = G := by
  unfold takeB at h
  unfold takeG takeL
  by_cases hd : dOK d = true
  · rw [hd] at h
    rw [if_pos hd, if_neg (by simpa using h)]
    exact upd_self _ _
  · rw [if_neg hd]
theorem take_X_none {G : Rows4} {d n : Int} (h : takeB G d n = false) : takeX G d n = [] := by
  unfold takeB at h
  unfold takeX tookL
  by_cases hd : dOK d = true
  · rw [hd] at h
    rw [if_pos hd, if_neg (by simpa using h)]
  · rw [if_neg hd]
theorem hear_G_same {G : Rows4} {d : Int} (h : hearB G d = false) : hearG G d = G := by
  unfold hearB at h
  unfold hearG takeL
  by_cases hd : dOK d = true
  · rw [hd] at h
    rw [if_pos hd, if_neg (by simpa using h)]
    exact upd_self _ _
  · rw [if_neg hd]
theorem hear_X_none {G : Rows4} {d : Int} (h : hearB G d = false) : hearX G d = [] := by
  unfold hearB at h
  unfold hearX tookL
  by_cases hd : dOK d = true
  · rw [hd] at h
    rw [if_pos hd, if_neg (by simpa using h)]
  · rw [if_neg hd]
theorem rtake_spec (d n : Int) (on : Bool) (G : Rows4) (val : Value) (w : World) (h : RF w val on G) (hn : ∀ k, k < 4 → (G k).length ≤ 1000) :
    Calls Try.prog 21 #[val, .int .i64 d, .int .i64 n] w fun e w' => ∃ val' ea el ec, e = .returned (.tuple #[val', .slice ea el ec, .bool (takeB G d n)]) ∧ RF w' val' on (takeG G d n) ∧ BO 0 w' (.slice ea el ec) (takeX G d n) ∧ w.grownBy w' none := by
  have h0 := h
  obtain ⟨a, c, rfl, hr⟩ := h
  have fin : takeB G d n = false → Calls Try.prog 21 #[rvl on a c G, .int .i64 d, .int .i64 n] w (fun e w' => e = .returned (.tuple #[rvl on a c G, .slice none 0 0, .bool false]) ∧ w.grownBy w' none) → Calls Try.prog 21 #[rvl on a c G, .int .i64 d, .int .i64 n] w fun e w' => ∃ val' ea el ec, e = .returned (.tuple #[val', .slice ea el ec, .bool (takeB G d n)]) ∧ RF w' val' on (takeG G d n) ∧ BO 0 w' (.slice ea el ec) (takeX G d n) ∧ w.grownBy w' none := fun h1 h3 =>
    h3.mono fun e w' ⟨he, hg⟩ => ⟨rvl on a c G, none, 0, 0, by rw [he, h1], by rw [take_G_same h1]; exact h0.kept hg, by rw [take_X_none h1]; exact World.ownsRow_nil _ _ _ _, hg⟩
  by_cases hd : dOK d = true
  · by_cases hin : inR (G d.toNat) n = true
    · have hB : (dOK d && inR (G d.toNat) n) = true := by rw [hd, hin]; rfl
      have hin' := hin
      unfold inR at hin'
      simp only [decide_eq_true_eq] at hin'
      rcases d_cases hd with rfl | rfl
      · obtain ⟨i, rfl⟩ : ∃ i : Nat, n = i := ⟨n.toNat, by omega⟩
        have hinz : inR (G 0) i = true := hin
        have hi : i < (G 0).length := by have := hin'.2; exact Int.ofNat_lt.1 this
        obtain ⟨m, hm⟩ : ∃ m, (G 0).length = i + m + 1 := ⟨(G 0).length - i - 1, by omega⟩
        have hL : ((G 0).eraseIdx i).length = i + m := by rw [List.length_eraseIdx_of_lt hi]; omega
        have h5 : takeB G 0 i = true := by unfold takeB; exact hB
        have h6 : takeG G 0 i = upd G 0 ((G 0).eraseIdx i) := by unfold takeG takeL; rw [if_pos (by decide)]; show upd G 0 (if inR (G 0) i then _ else _) = _; rw [if_pos hinz]; rfl
        have h7 : takeX G 0 i = (G 0).getD i [] := by unfold takeX tookL; rw [if_pos (by decide)]; show (if inR (G 0) i then _ else _) = _; rw [if_pos hinz]; rfl
        rw [h5, h6, h7]
        have hr0 := hr 0 (by omega)
        have hn0 := hn 0 (by omega)
        rw [hm] at hr0 hn0
        have hval : rvl on a c G = (.agg #[.bool on, .slice (a 0) (i + m + 1) (c 0), .slice (a 2) (G 2).length (c 2), .slice (a 1) (G 1).length (c 1), .slice (a 3) (G 3).length (c 3)]) := by unfold rvl; rw [hm]
        rw [hval]
        refine (rtake_ok0 i m on (a 0) (a 1) (a 2) (a 3) 0 (G 1).length (G 2).length (G 3).length (c 0) (c 1) (c 2) (c 3) (G 0) w hr0 hm hn0).mono fun e w' ⟨ma, mc, ea, ec, he, hs, hb, hg⟩ => ⟨rvl on (fun j => if j = 0 then ma else a j) (fun j => if j = 0 then mc else c j) (upd G 0 ((G 0).eraseIdx i)), ea, _, ec, ?_, RF.upd hr hg 0 ((G 0).eraseIdx i) ma mc (by rw [hL]; exact hs), hb, hg⟩
        rw [he]
        simp only [rvl, W.upd]
        simp [hL]
      · obtain ⟨i, rfl⟩ : ∃ i : Nat, n = i := ⟨n.toNat, by omega⟩
        have hinz : inR (G 1) i = true := hin
        have hi : i < (G 1).length := by have := hin'.2; exact Int.ofNat_lt.1 this
        obtain ⟨m, hm⟩ : ∃ m, (G 1).length = i + m + 1 := ⟨(G 1).length - i - 1, by omega⟩
        have hL : ((G 1).eraseIdx i).length = i + m := by rw [List.length_eraseIdx_of_lt hi]; omega
        have h5 : takeB G 1 i = true := by unfold takeB; exact hB
        have h6 : takeG G 1 i = upd G 1 ((G 1).eraseIdx i) := by unfold takeG takeL; rw [if_pos (by decide)]; show upd G 1 (if inR (G 1) i then _ else _) = _; rw [if_pos hinz]; rfl
        have h7 : takeX G 1 i = (G 1).getD i [] := by unfold takeX tookL; rw [if_pos (by decide)]; show (if inR (G 1) i then _ else _) = _; rw [if_pos hinz]; rfl
        rw [h5, h6, h7]
        have hr0 := hr 1 (by omega)
        have hn0 := hn 1 (by omega)
        rw [hm] at hr0 hn0
        have hval : rvl on a c G = (.agg #[.bool on, .slice (a 0) (G 0).length (c 0), .slice (a 2) (G 2).length (c 2), .slice (a 1) (i + m + 1) (c 1), .slice (a 3) (G 3).length (c 3)]) := by unfold rvl; rw [hm]
        rw [hval]
        refine (rtake_ok1 i m on (a 0) (a 1) (a 2) (a 3) (G 0).length 0 (G 2).length (G 3).length (c 0) (c 1) (c 2) (c 3) (G 1) w hr0 hm hn0).mono fun e w' ⟨ma, mc, ea, ec, he, hs, hb, hg⟩ => ⟨rvl on (fun j => if j = 1 then ma else a j) (fun j => if j = 1 then mc else c j) (upd G 1 ((G 1).eraseIdx i)), ea, _, ec, ?_, RF.upd hr hg 1 ((G 1).eraseIdx i) ma mc (by rw [hL]; exact hs), hb, hg⟩
        rw [he]
        simp only [rvl, W.upd]
        simp [hL]
    · have hin' : inR (G d.toNat) n = false := by simpa using hin
      have h2 : takeB G d n = false := by unfold takeB; rw [hin']; simp
      unfold inR at hin'
      simp only [decide_eq_false_iff_not] at hin'
      rcases d_cases hd with rfl | rfl
      · by_cases h3 : n < 0
        · exact fin h2 (rtake_out00 n on _ _ _ _ _ _ _ _ _ _ _ _ w h3)
        · exact fin h2 (rtake_out01 n on _ _ _ _ _ _ _ _ _ _ _ _ w (by omega) (by show ((G 0).length : Int) ≤ n; have h5 : ¬(0 ≤ n ∧ n < ((G 0).length : Int)) := hin'; omega))
      · by_cases h3 : n < 0
        · exact fin h2 (rtake_out10 n on _ _ _ _ _ _ _ _ _ _ _ _ w h3)
        · exact fin h2 (rtake_out11 n on _ _ _ _ _ _ _ _ _ _ _ _ w (by omega) (by show ((G 1).length : Int) ≤ n; have h5 : ¬(0 ≤ n ∧ n < ((G 1).length : Int)) := hin'; omega))
  · have hd' : dOK d = false := by simpa using hd
    have h2 : takeB G d n = false := by unfold takeB; rw [hd']; simp
    by_cases h3 : n < 0
    · exact fin h2 (rtake_bad0 d n on _ _ _ _ _ _ _ _ _ _ _ _ w hd' h3)
    · exact fin h2 (rtake_bad1 d n on _ _ _ _ _ _ _ _ _ _ _ _ w hd' (by omega))
theorem rhear_spec (d : Int) (on : Bool) (G : Rows4) (val : Value) (w : World) (h : RF w val on G) (hn : ∀ k, k < 4 → (G k).length ≤ 1000) :
    Calls Try.prog 24 #[val, .int .i64 d] w fun e w' => ∃ val' ea el ec, e = .returned (.tuple #[val', .slice ea el ec, .bool (hearB G d)]) ∧ RF w' val' on (hearG G d) ∧ BO 0 w' (.slice ea el ec) (hearX G d) ∧ w.grownBy w' none := by
  have h0 := h
  obtain ⟨a, c, rfl, hr⟩ := h
  have fin : hearB G d = false → Calls Try.prog 24 #[rvl on a c G, .int .i64 d] w (fun e w' => e = .returned (.tuple #[rvl on a c G, .slice none 0 0, .bool false]) ∧ w.grownBy w' none) → Calls Try.prog 24 #[rvl on a c G, .int .i64 d] w fun e w' => ∃ val' ea el ec, e = .returned (.tuple #[val', .slice ea el ec, .bool (hearB G d)]) ∧ RF w' val' on (hearG G d) ∧ BO 0 w' (.slice ea el ec) (hearX G d) ∧ w.grownBy w' none := fun h1 h3 =>
    h3.mono fun e w' ⟨he, hg⟩ => ⟨rvl on a c G, none, 0, 0, by rw [he, h1], by rw [hear_G_same h1]; exact h0.kept hg, by rw [hear_X_none h1]; exact World.ownsRow_nil _ _ _ _, hg⟩
  by_cases hd : dOK d = true
  · by_cases hin : inR (G (2 + d.toNat)) 0 = true
    · have hB : (dOK d && inR (G (2 + d.toNat)) 0) = true := by rw [hd, hin]; rfl
      have hin' := hin
      unfold inR at hin'
      simp only [decide_eq_true_eq] at hin'
      rcases d_cases hd with rfl | rfl
      · have hinz : inR (G 2) 0 = true := hin
        have hi : 0 < (G 2).length := by have := hin'.2; exact Int.ofNat_lt.1 this
        obtain ⟨m, hm⟩ : ∃ m, (G 2).length = m + 1 := ⟨(G 2).length - 1, by omega⟩
        have hL : (G 2).tail.length = m := by rw [List.length_tail]; omega
        have h5 : hearB G 0 = true := by unfold hearB; exact hB
        have h6 : hearG G 0 = upd G 2 (G 2).tail := by unfold hearG takeL; rw [if_pos (by decide)]; show upd G 2 (if inR (G 2) 0 then (G 2).eraseIdx 0 else _) = _; rw [if_pos hinz, List.eraseIdx_zero]
        have h7 : hearX G 0 = (G 2).getD 0 [] := by unfold hearX tookL; rw [if_pos (by decide)]; show (if inR (G 2) 0 then _ else _) = _; rw [if_pos hinz]; rfl
        rw [h5, h6, h7]
        have hr0 := hr 2 (by omega)
        have hn0 := hn 2 (by omega)
        rw [hm] at hr0 hn0
        have hval : rvl on a c G = (.agg #[.bool on, .slice (a 0) (G 0).length (c 0), .slice (a 2) (m + 1) (c 2), .slice (a 1) (G 1).length (c 1), .slice (a 3) (G 3).length (c 3)]) := by unfold rvl; rw [hm]
        rw [hval]
        refine (rhear_ok0 m on (a 0) (a 1) (a 2) (a 3) (G 0).length (G 1).length 0 (G 3).length (c 0) (c 1) (c 2) (c 3) (G 2) w hr0 hm hn0).mono fun e w' ⟨ma, mc, ea, ec, he, hs, hb, hg⟩ => ⟨rvl on (fun j => if j = 2 then ma else a j) (fun j => if j = 2 then mc else c j) (upd G 2 (G 2).tail), ea, _, ec, ?_, RF.upd hr hg 2 (G 2).tail ma mc (by rw [hL]; exact hs), hb, hg⟩
        rw [he]
        simp only [rvl, W.upd]
        simp [hL]
      · have hinz : inR (G 3) 0 = true := hin
        have hi : 0 < (G 3).length := by have := hin'.2; exact Int.ofNat_lt.1 this
        obtain ⟨m, hm⟩ : ∃ m, (G 3).length = m + 1 := ⟨(G 3).length - 1, by omega⟩
        have hL : (G 3).tail.length = m := by rw [List.length_tail]; omega
        have h5 : hearB G 1 = true := by unfold hearB; exact hB
        have h6 : hearG G 1 = upd G 3 (G 3).tail := by unfold hearG takeL; rw [if_pos (by decide)]; show upd G 3 (if inR (G 3) 0 then (G 3).eraseIdx 0 else _) = _; rw [if_pos hinz, List.eraseIdx_zero]
        have h7 : hearX G 1 = (G 3).getD 0 [] := by unfold hearX tookL; rw [if_pos (by decide)]; show (if inR (G 3) 0 then _ else _) = _; rw [if_pos hinz]; rfl
        rw [h5, h6, h7]
        have hr0 := hr 3 (by omega)
        have hn0 := hn 3 (by omega)
        rw [hm] at hr0 hn0
        have hval : rvl on a c G = (.agg #[.bool on, .slice (a 0) (G 0).length (c 0), .slice (a 2) (G 2).length (c 2), .slice (a 1) (G 1).length (c 1), .slice (a 3) (m + 1) (c 3)]) := by unfold rvl; rw [hm]
        rw [hval]
        refine (rhear_ok1 m on (a 0) (a 1) (a 2) (a 3) (G 0).length (G 1).length (G 2).length 0 (c 0) (c 1) (c 2) (c 3) (G 3) w hr0 hm hn0).mono fun e w' ⟨ma, mc, ea, ec, he, hs, hb, hg⟩ => ⟨rvl on (fun j => if j = 3 then ma else a j) (fun j => if j = 3 then mc else c j) (upd G 3 (G 3).tail), ea, _, ec, ?_, RF.upd hr hg 3 (G 3).tail ma mc (by rw [hL]; exact hs), hb, hg⟩
        rw [he]
        simp only [rvl, W.upd]
        simp [hL]
    · have hin' : inR (G (2 + d.toNat)) 0 = false := by simpa using hin
      have h2 : hearB G d = false := by unfold hearB; rw [hin']; simp
      unfold inR at hin'
      simp only [decide_eq_false_iff_not] at hin'
      rcases d_cases hd with rfl | rfl
      · have h3 : (G 2).length = 0 := by have h5 : ¬((0 : Int) ≤ 0 ∧ 0 < ((G 2).length : Int)) := hin'; omega
        refine fin h2 ?_
        have hval : rvl on a c G = (.agg #[.bool on, .slice (a 0) (G 0).length (c 0), .slice (a 2) 0 (c 2), .slice (a 1) (G 1).length (c 1), .slice (a 3) (G 3).length (c 3)]) := by unfold rvl; rw [h3]
        rw [hval]
        exact rhear_none0 on _ _ _ _ (G 0).length (G 1).length 0 (G 3).length _ _ _ _ w
      · have h3 : (G 3).length = 0 := by have h5 : ¬((0 : Int) ≤ 0 ∧ 0 < ((G 3).length : Int)) := hin'; omega
        refine fin h2 ?_
        have hval : rvl on a c G = (.agg #[.bool on, .slice (a 0) (G 0).length (c 0), .slice (a 2) (G 2).length (c 2), .slice (a 1) (G 1).length (c 1), .slice (a 3) 0 (c 3)]) := by unfold rvl; rw [h3]
        rw [hval]
        exact rhear_none1 on _ _ _ _ (G 0).length (G 1).length (G 2).length 0 _ _ _ _ w
  · have hd' : dOK d = false := by simpa using hd
    have h2 : hearB G d = false := by unfold hearB; rw [hd']; simp
    exact fin h2 (rhear_bad d on _ _ _ _ _ _ _ _ _ _ _ _ w hd')
def setG (up : Bool) (G : Rows4) : Rows4 := if up then G else clr
def setN (up : Bool) (G : Rows4) : Int := if up then 0 else (sumL G : Int)
theorem set_spec (b : Nat) (dn up : Bool) (G : Rows4) (w : World) (h : Wr w b dn G) (hn : ∀ k, k < 4 → (G k).length ≤ 1000) :
    Calls Try.prog 18 #[.pointer (some ⟨b, 0, none⟩), .bool up] w fun e w' => e = .returned (.int .i64 (setN up G)) ∧ Wr w' b (!up) (setG up G) ∧ w.grownBy w' (some b) := by
  cases up with
  | true => exact set_up b dn G w h hn
  | false => exact set_down b dn G w h hn
theorem rset_spec (on up : Bool) (G : Rows4) (val : Value) (w : World) (h : RF w val on G) (hn : ∀ k, k < 4 → (G k).length ≤ 1000) :
    Calls Try.prog 19 #[val, .bool up] w fun e w' => ∃ val', e = .returned (.tuple #[val', .int .i64 (setN up G)]) ∧ RF w' val' up (setG up G) ∧ w.grownBy w' none := by
  obtain ⟨a, c, rfl, hr⟩ := h
  cases up with
  | true => exact (rset_up on _ _ _ _ _ _ _ _ _ _ _ _ w).mono fun e w' ⟨he, hg⟩ => ⟨_, he, ⟨a, c, rfl, fun k hk => (hr k hk).kept hg⟩, hg⟩
  | false =>
    refine (rset_down on _ _ _ _ _ _ _ _ _ _ _ _ w ⟨hn 0 (by omega), hn 1 (by omega), hn 2 (by omega), hn 3 (by omega)⟩).mono fun e w' ⟨he, hg⟩ => ⟨rvl false (fun _ => none) (fun _ => 0) clr, ?_, ⟨_, _, rfl, fun k hk => Rs.nil⟩, hg⟩
    have hs : ((G 0).length : Int) + (G 2).length + (G 1).length + (G 3).length = (sumL G : Int) := by
      unfold sumL
      omega
    rw [he, hs]
    rfl
end Go.Proofs.Ytaidfcehicffbaa.W
