/-
  The call of WireApart returns true, at any calls, in every memory, and turns nothing that was there.
-/
import Derived.Test.YtaidfcehicffbaaD3
set_option linter.unusedVariables false
set_option linter.unusedSimpArgs false
namespace Go.Proofs.Ytaidfcehicffbaa.W
open Go.RowKit Go.Deep

theorem dir_two (dr : Int) : ∃ d e : Nat, wrap64 ((IntKind.u64.wrap dr).tmod 2) = (d : Int) ∧ d < 2 ∧ e < 2 ∧ e ≠ d ∧ IntKind.i64.wrap (1 - (d : Int)) = (e : Int) := by
  have h0 : 0 ≤ IntKind.u64.wrap dr := by
    simp [IntKind.wrap, IntKind.signed, IntKind.bits]
    omega
  rw [Int.tmod_eq_emod_of_nonneg h0]
  rcases Int.emod_two_eq (IntKind.u64.wrap dr) with h | h
  · rw [h]; exact ⟨0, 1, by simp [wrap64], by omega, by omega, by omega, by decide⟩
  · rw [h]; exact ⟨1, 0, by simp [wrap64], by omega, by omega, by omega, by decide⟩
theorem box_cell {w : World} {b4 d : Nat} {rv : Nat → Value} (h : w.heap[b4]? = some (.cells #[rv 0, rv 1] 27 (0, 0))) (hd : d < 2) : w.cell? ⟨b4, d, none⟩ = some (rv d) ∧ w.frozen? ⟨b4, d, none⟩ = false := by
  refine ⟨(cell_of_row w b4 d _ 27 (0, 0) h).trans ?_, blk_frozen h d⟩
  match d, hd with
  | 0, _ => rfl
  | 1, _ => rfl
theorem OA.tail2 {B : Nat} {w : World} {x : Value} {xs : List Value} {g o c : Nat} (h : OA B w (.slice (some ⟨g, o, none⟩) (xs.length + 1) c) (x :: xs)) :
    1 ≤ c ∧ (c = 1 → OA B w (.slice (some ⟨g, o, none⟩) xs.length 0) xs) ∧ (c ≠ 1 → OA B w (.slice (some ⟨g, o + 1, none⟩) xs.length (c - 1)) xs) := by
  rcases h with ⟨h, _⟩ | ⟨g', o', cap, cur, hv, hb, hg, hn, hc, hs, ht⟩
  · simp at h
  · injection hv with h1 _ h3
    injection h1 with h1
    injection h1 with h1 h2 _
    subst h1 h2 h3
    rw [List.length_cons] at hn
    refine ⟨by omega, fun h1 => .inr ⟨g, o, 0, cur, rfl, hb, hg, by omega, by omega, by omega, fun j u hj => ?_⟩, fun h1 => .inr ⟨g, o + 1, c - 1, cur, rfl, hb, hg, by omega, by omega, by omega, fun j u hj => ?_⟩⟩
    · have hx : xs = [] := List.eq_nil_of_length_eq_zero (by omega)
      subst hx
      simp at hj
    · have := ht (j + 1) u (by simpa using hj)
      rw [show o + 1 + j = o + (j + 1) by omega]
      exact this
structure KR (w0 : World) (b b4 d e : Nat) (G : Rows4) (rv : Nat → Value) (F : Nat → List Pr) (v8 v9 rd : Value) (L8 L9 LW : List (List Int)) (w : World) : Prop where
  c : KC w0 w b b4 G rv F v8 v9 L8 L9
  hd : d < 2
  he : e < 2
  e8 : G e = L8
  e9 : G (2 + e) = L9
  eW : G (2 + d) = LW
  eF : (F d).map Prod.snd = LW
  er : rv d = rd
  hn : ∀ k, k < 4 → (G k).length ≤ 1000
section
variable {w0 w w' : World} {b b4 d e : Nat} {G : Rows4} {rv : Nat → Value} {F : Nat → List Pr} {v8 v9 rd : Value} {L8 L9 LW : List (List Int)}
theorem KR.grown (h : KR w0 b b4 d e G rv F v8 v9 rd L8 L9 LW w) (hg : w.grownBy w' none) : KR w0 b b4 d e G rv F v8 v9 rd L8 L9 LW w' := ⟨h.c.grown hg, h.hd, h.he, h.e8, h.e9, h.eW, h.eF, h.er, h.hn⟩
theorem KR.s (h : KR w0 b b4 d e G rv F v8 v9 rd L8 L9 LW w) : w.cell? ⟨b4, d, none⟩ = some rd ∧ KR w0 b b4 d e G rv F v8 v9 rd L8 L9 LW w := ⟨by rw [← h.er]; exact (h.c.k.cell h.hd).1, h⟩
theorem words_R (h : KR w0 b b4 d e G rv F v8 v9 rd L8 L9 LW w) : Calls Try.prog 10 #[.pointer (some ⟨b, 0, none⟩), .int .i64 (d : Int)] w fun r w' => ∃ a c, r = .returned (.slice a LW.length c) ∧ KR w0 b b4 d e G rv F v8 v9 rd L8 L9 LW w' ∧ AS LW (.slice a LW.length c) w' :=
  (words_S b false G d w h.c.k.wr.wr h.hn).mono fun r w' ⟨a, c, h1, h2, h3⟩ => by
    rw [mL_nat h.hd, h.eW] at h1 h2
    exact ⟨a, c, h1, h.grown h3, h2⟩
theorem words_Re (h : KR w0 b b4 d e G rv F v8 v9 rd L8 L9 LW w) : Calls Try.prog 10 #[.pointer (some ⟨b, 0, none⟩), .int .i64 (e : Int)] w fun r w' => ∃ a c, r = .returned (.slice a L9.length c) ∧ KR w0 b b4 d e G rv F v8 v9 rd L8 L9 LW w' ∧ AS L9 (.slice a L9.length c) w' :=
  (words_S b false G e w h.c.k.wr.wr h.hn).mono fun r w' ⟨a, c, h1, h2, h3⟩ => by
    rw [mL_nat h.he, h.e9] at h1 h2
    exact ⟨a, c, h1, h.grown h3, h2⟩
theorem all_Re (h : KR w0 b b4 d e G rv F v8 v9 rd L8 L9 LW w) : Calls Try.prog 9 #[.pointer (some ⟨b, 0, none⟩), .int .i64 (e : Int)] w fun r w' => ∃ a c, r = .returned (.slice a L8.length c) ∧ KR w0 b b4 d e G rv F v8 v9 rd L8 L9 LW w' ∧ AS L8 (.slice a L8.length c) w' :=
  (all_S b false G e w h.c.k.wr.wr h.hn).mono fun r w' ⟨a, c, h1, h2, h3⟩ => by
    rw [dL_nat h.he, h.e8] at h1 h2
    exact ⟨a, c, h1, h.grown h3, h2⟩
theorem same_R (x : Value) (h : KR w0 b b4 d e G rv F v8 v9 rd L8 L9 LW w) (ha : AS LW x w) : Calls Try.prog 16 #[x, rd] w fun r w' => r = .returned (.bool true) ∧ KR w0 b b4 d e G rv F v8 v9 rd L8 L9 LW w' := by
  obtain ⟨X, x1, x2, x3⟩ := Rs.rows ha
  have hrow := (h.c.k.own d h.hd).row
  rw [h.er] at hrow
  have hX : X.length ≤ 1000 := by have := congrArg List.length x1; rw [List.length_map, ← h.eW] at this; have := h.hn (2 + d) (by have := h.hd; omega); omega
  exact (same_of x rd X (F d) w x2 hrow x3 (h.c.k.ro d h.hd).rb (by rw [x1, h.eF]) (by omega)).mono fun r w' ⟨h1, n, h2⟩ => ⟨h1, h.grown (by rw [h2]; exact grown_drewN _ _ _)⟩
theorem same_R8 (x : Value) (h : KR w0 b b4 d e G rv F v8 v9 rd L8 L9 LW w) (ha : AS L8 x w) : Calls Try.prog 16 #[x, v8] w fun r w' => r = .returned (.bool true) ∧ KR w0 b b4 d e G rv F v8 v9 rd L8 L9 LW w' :=
  (rows_same x v8 _ w ha h.c.r8 (by rw [← h.e8]; exact h.hn e (by have := h.he; omega))).mono fun r w' ⟨h1, h2⟩ => ⟨h1, h.grown h2⟩
theorem same_R9 (x : Value) (h : KR w0 b b4 d e G rv F v8 v9 rd L8 L9 LW w) (ha : AS L9 x w) : Calls Try.prog 16 #[x, v9] w fun r w' => r = .returned (.bool true) ∧ KR w0 b b4 d e G rv F v8 v9 rd L8 L9 LW w' :=
  (rows_same x v9 _ w ha h.c.r9 (by rw [← h.e9]; exact h.hn (2 + e) (by have := h.he; omega))).mono fun r w' ⟨h1, h2⟩ => ⟨h1, h.grown h2⟩
end
theorem new_ofX (w : World) : Calls Try.prog 7 #[] w fun e w' => ∃ b, e = .returned (.pointer (some ⟨b, 0, none⟩)) ∧ w.heap.size ≤ b ∧ WrX (Zof (fun _ => .slice none 0 0)) w' b false clr ∧ w.grownBy w' none :=
  (new_of w).mono fun e w' ⟨b, h1, h2, h3, h4⟩ => ⟨b, h1, h2, by
    obtain ⟨rv, F, hb, hF⟩ := h3.ex
    exact ⟨rv, F, hb, fun k hk => ⟨(hF k hk).1, (hF k hk).2, fun r _ ⟨d, _, hz⟩ => by simp [Value.ownBlock] at hz⟩⟩, h4⟩
theorem alld_A {w0 w : World} {b b4 : Nat} {O : List (Nat × Array Value)} {G : Rows4} {rv : Nat → Value} {F : Nat → List Pr} (e : Nat) (he : e < 2) (h : KA w0 w b b4 O G rv F) (hn : ∀ k, k < 4 → (G k).length ≤ 1000) :
    Calls Try.prog 9 #[.pointer (some ⟨b, 0, none⟩), .int .i64 (e : Int)] w fun r w' => ∃ a c, r = .returned (.slice a (G e).length c) ∧ Rs w.heap.size w' (.slice a (G e).length c) (G e) ∧ w.grownBy w' none :=
  alld_of b e false G w h.wr.wr he (hn e (by omega))
theorem wordsd_A {w0 w : World} {b b4 : Nat} {O : List (Nat × Array Value)} {G : Rows4} {rv : Nat → Value} {F : Nat → List Pr} (e : Nat) (he : e < 2) (h : KA w0 w b b4 O G rv F) (hn : ∀ k, k < 4 → (G k).length ≤ 1000) :
    Calls Try.prog 10 #[.pointer (some ⟨b, 0, none⟩), .int .i64 (e : Int)] w fun r w' => ∃ a c, r = .returned (.slice a (G (2 + e)).length c) ∧ Rs w.heap.size w' (.slice a (G (2 + e)).length c) (G (2 + e)) ∧ w.grownBy w' none :=
  wordsd_of b e false G w h.wr.wr he (hn (2 + e) (by omega))
set_option maxHeartbeats 4000000 in
set_option maxRecDepth 100000 in
theorem walkApart (a : Option Addr) (len cap : Nat) (f : Nat → OpV) (w : World) (hq : RQ w a len f) :
    Calls Try.prog 3 #[.slice a len cap] w fun e w' => e = .returned (.bool true) ∧ Below w.heap.size w w' := by
  have HQ := Lib.hid hq
  have hlen := hq.hlen
  clear hq
  go_enter Try.func3, Try.ntmps3
  go_wp2_with (first
    | (go_at_call 7; refine (new_ofX _).mono ?_; rintro e w1 ⟨b, rfl, hb, hw, hg⟩; have HW1 := Lib.hid hw; have HG1 := Lib.hid hg; have HB1 := Lib.hid hb; clear hb hw hg)
    | (go_at_call 8; refine (awake_any _).mono ?_; rintro e w3 ⟨rfl, hg⟩; have HG3 := Lib.hid hg; clear hg))
  have hi0 : Hid (KA w (w3.alloc (.cells #[.slice none 0 0, .slice none 0 0] 27)) b w3.heap.size [] clr (fun _ => .slice none 0 0) (fun _ => [])) := Lib.hid
    ⟨(HW1.out.kept HG3.out).kept (World.grownBy_alloc w3 _ none), heap_alloc_new w3 _, fun d hd => .inl ⟨rfl, rfl⟩, fun d hd p hp => by simp at hp, fun i j hi hj hij r hr => by simp [Value.ownBlock] at hr, gbelow (gn (gtrans HG1.out HG3.out (.inl rfl)) (World.grownBy_alloc w3 _ none)) (by simp), HB1.out, (gtrans HG1.out HG3.out (.inl rfl)).size, fun p hp => by simp at hp⟩
  obtain ⟨b4, hb4⟩ : ∃ q, q = w3.heap.size := ⟨_, rfl⟩
  rw [← hb4] at hi0 ⊢
  clear hb4 HW1 HG1 HG3 HB1
  go_loopw [5] (fun iv wr => ∃ (k : Nat) (G : Rows4) (rv : Nat → Value) (F : Nat → List Pr), iv = .int .i64 k ∧ k ≤ len ∧ k ≤ 80 ∧ Hid (KA w wr b b4 [] G rv F ∧ (∀ j, j < 2 → (F j).map Prod.snd = G (2 + j)) ∧ Few G k)) (fun iv _ => 80 - (intOf iv).toNat)
  case atStart => exact ⟨0, clr, _, _, rfl, by omega, by omega, Lib.hid ⟨hi0.out, fun j hj => rfl, fun k hk => by simp [clr]⟩⟩
  case round =>
    clear hi0
    obtain ⟨k, G, rv, F, rfl, hk1, hk2, HI⟩ := hrel
    by_cases hl : k < len
    · by_cases h80 : k < 80
      · obtain ⟨ab, ao, rfl, hab, hcell⟩ := HQ.out.hcells (by omega)
        obtain ⟨f0, f1, f2, f3, f4⟩ := hcell k hl
        replace f0 := below_cell HI.out.1.below hab f0
        replace f1 := below_cell HI.out.1.below hab f1
        replace f2 := below_cell HI.out.1.below hab f2
        replace f3 := below_cell HI.out.1.below hab f3
        replace f4 := below_cell HI.out.1.below hab f4
        obtain ⟨hb1, hb2, hb3⟩ := HQ.out.hb k hl
        clear hcell hab
        generalize (f k).kd = kv at f0
        generalize (f k).dr = dr at f1
        generalize (f k).nn = nn at f2
        generalize (f k).bv = v at f3 hb1 hb3
        generalize (f k).bx = xs at hb1 hb2
        generalize (f k).up = up at f4
        obtain ⟨va, vc, rfl, hvc⟩ := hb1.len
        replace hb3 := hb3 va xs.length vc rfl
        have HBT := Lib.hid hb1
        clear hb1
        go_upto_region 9 with fail
        have hx : Hid (KA w (wr.alloc (.cells #[.int .i64 kv, .int .i64 dr, .int .i64 nn, .slice va xs.length vc, .bool up] 30)) b b4 [(wr.heap.size, #[.int .i64 kv, .int .i64 dr, .int .i64 nn, .slice va xs.length vc, .bool up])] G rv F ∧ (∀ j, j < 2 → (F j).map Prod.snd = G (2 + j)) ∧ Few G k) := Lib.hid ⟨HI.out.1.op _, HI.out.2⟩
        obtain ⟨b6, hb6⟩ : ∃ q, q = wr.heap.size := ⟨_, rfl⟩
        rw [← hb6] at hx ⊢
        obtain ⟨x, hxx⟩ : ∃ y : World, y = wr.alloc (.cells #[.int .i64 kv, .int .i64 dr, .int .i64 nn, .slice va xs.length vc, .bool up] 30) := ⟨_, rfl⟩
        rw [← hxx] at hx ⊢
        clear hxx hb6 f0 f1 f2 f3 f4 HI
        obtain ⟨e0, e1, e2, e3, e4⟩ := hx.out.1.o
        go_cut [7] (fun v wx => ∃ d e : Nat, v = .int .i64 (d : Int) ∧ d < 2 ∧ e < 2 ∧ e ≠ d ∧ IntKind.i64.wrap (1 - (d : Int)) = (e : Int) ∧ wx = x)
        case first =>
          go_wp2_with fail
          go_meet
          obtain ⟨d, e, h1, h2⟩ := dir_two dr
          exact ⟨d, e, by rw [h1], h2.1, h2.2.1, h2.2.2.1, h2.2.2.2, rfl⟩
        case rest =>
          obtain ⟨d, e, rfl, hd, he, hne, hwe, rfl⟩ := hcut
          have HFB : Hid (∀ j, j < 4 → (G j).length ≤ 1000) := Lib.hid (hx.out.2.2.big (by omega))
          have HAL := Lib.hid (fun (X : World) (hX : KA w X b b4 [(b6, #[.int .i64 kv, .int .i64 dr, .int .i64 nn, .slice va xs.length vc, .bool up])] G rv F) => alld_A e he hX HFB.out)
          have HWD := Lib.hid (fun (X : World) (hX : KA w X b b4 [(b6, #[.int .i64 kv, .int .i64 dr, .int .i64 nn, .slice va xs.length vc, .bool up])] G rv F) => wordsd_A e he hX HFB.out)
          go_upto_block 2 with (first
            | (go_at_call 9; refine (HAL.out _ hx.out.1).mono ?_; rintro r x1 ⟨oa, oc, rfl, ho, hg⟩; have HO1 := Lib.hid ho; have HG1 := Lib.hid hg; have HK1 := Lib.hid (hx.out.1.grown hg); clear ho hg)
            | (go_at_call 10; refine (HWD.out _ HK1.out).mono ?_; rintro r x2 ⟨ma, mc, rfl, ho, hg⟩; have HO2 := Lib.hid ho; have HG2 := Lib.hid hg; have HK2 := Lib.hid (HK1.out.grown hg); obtain ⟨p0, p1, p2, p3, p4⟩ := (HK1.out.grown hg).o; clear ho hg))
          obtain ⟨L8, hL8⟩ : ∃ q, q = G e := ⟨_, rfl⟩
          obtain ⟨L9, hL9⟩ : ∃ q, q = G (2 + e) := ⟨_, rfl⟩
          rw [← hL8] at HO1 ⊢
          rw [← hL9] at HO2 ⊢
          obtain ⟨B8, hB8⟩ : ∃ q, q = wc.heap.size := ⟨_, rfl⟩
          rw [← hB8] at HO1
          have HK : Hid (KB B8 w x2 b b4 [(b6, #[.int .i64 kv, .int .i64 dr, .int .i64 nn, .slice va xs.length vc, .bool up])] G rv F (.slice oa L8.length oc) (.slice ma L9.length mc) L8 L9) := Lib.hid ⟨HK2.out, HO1.out.kept HG2.out, HO2.out.le (by rw [hB8]; exact HG1.out.size), fun j hj r hr => by rw [hB8]; exact ((hx.out.1.own j hj).block hr).2.1⟩
          have HE := Lib.hid hx.out.2.1
          have HFW := Lib.hid hx.out.2.2
          have H8 := Lib.hid hL8.symm
          have H9 := Lib.hid hL9.symm
          have HFL : Hid (((F d).map Prod.fst).length ≤ 1000) := Lib.hid (by have h1 := congrArg List.length (HE.out d hd); have h2 := HFB.out (2 + d) (by omega); rw [List.length_map] at h1 ⊢; omega)
          obtain ⟨ys, hys⟩ : ∃ ys, ys = xs.take (min (xs.length : Int) 100).toNat := ⟨_, rfl⟩
          have HBW : Hid (Bt w (.slice va (min (xs.length : Int) 100).toNat vc) ys) := Lib.hid (by rw [hys]; exact HBT.out.take _ (by omega))
          have hyl : (min (xs.length : Int) 100).toNat = ys.length := by rw [hys, List.length_take]; omega
          have HBW2 : Hid (Bt w (.slice va ys.length vc) ys) := Lib.hid (by rw [← hyl]; exact HBW.out)
          have HYL : Hid (ys.length ≤ 4096) := Lib.hid (by rw [← hyl]; omega)
          clear hL8 hL9 hB8 HAL HWD HO1 HO2 HK1 HK2 HG1 HG2 hx e0 e1 e2 e3 e4 HBT hys
          go_cut [10, 11, 12] from 49 to 135 (fun s10 s11 s12 wx => ∃ (G' : Rows4) (rv' : Nat → Value) (F' : Nat → List Pr), Hid (KC w wx b b4 G' rv' F' (.slice oa L8.length oc) (.slice ma L9.length mc) L8 L9 ∧ (∀ j, j < 2 → (F' j).map Prod.snd = G' (2 + j)) ∧ G' e = L8 ∧ G' (2 + e) = L9 ∧ Few G' (k + 1)))
          case first =>
            by_cases k23 : kv = 2 ∨ kv = 3
            · have hS := fun (X : World) (hX : KB B8 w X b b4 [(b6, #[.int .i64 kv, .int .i64 dr, .int .i64 nn, .slice va xs.length vc, .bool up])] G rv F (.slice oa L8.length oc) (.slice ma L9.length mc) L8 L9) => data_A d (.slice va ys.length vc) ys hX (HBW2.out.later hX.k.below) HYL.out HFB.out
              have hF : (∀ j, j < 2 → (F j).map Prod.snd = (dataG false G d ys) (2 + j)) ∧ (dataG false G d ys) e = L8 ∧ (dataG false G d ys) (2 + e) = L9 ∧ Few (dataG false G d ys) (k + 1) := ⟨fun j hj => by rw [HE.out j hj, dataG_ne (show 2 + j ≠ d by omega)], by rw [dataG_ne hne]; exact H8.out, by rw [dataG_ne (show 2 + e ≠ d by omega)]; exact H9.out, HFW.out.data false d ys⟩
              generalize dataG false G d ys = G2 at hS hF
              have HS := Lib.hid hS
              have HF := Lib.hid hF
              clear hS hF
              rcases k23 with rfl | rfl
              all_goals
                go_wp2_with (go_at_call 11; refine (HS.out _ HK.out).mono ?_; rintro r x3 ⟨rfl, hk⟩; have HK3 := Lib.hid hk; clear hk)
                go_meet
                exact ⟨G2, rv, F, Lib.hid ⟨HK3.out.c, HF.out⟩⟩
            · by_cases k4 : kv = 4
              · have hS := fun (X : World) (hX : KB B8 w X b b4 [(b6, #[.int .i64 kv, .int .i64 dr, .int .i64 nn, .slice va xs.length vc, .bool up])] G rv F (.slice oa L8.length oc) (.slice ma L9.length mc) L8 L9) => take_A d nn hX HFB.out
                have hF : (∀ j, j < 2 → (F j).map Prod.snd = (takeG G d nn) (2 + j)) ∧ (takeG G d nn) e = L8 ∧ (takeG G d nn) (2 + e) = L9 ∧ Few (takeG G d nn) (k + 1) := ⟨fun j hj => by rw [HE.out j hj, takeG_ne (show 2 + j ≠ d by omega)], by rw [takeG_ne hne]; exact H8.out, by rw [takeG_ne (show 2 + e ≠ d by omega)]; exact H9.out, HFW.out.take d nn⟩
                generalize takeG G d nn = G2 at hS hF
                have HS := Lib.hid hS
                have HF := Lib.hid hF
                clear hS hF
                subst k4
                go_wp2_with (go_at_call 12; refine (HS.out _ HK.out).mono ?_; rintro r x3 ⟨ta, tl, tc, rfl, hk⟩; have HK3 := Lib.hid hk; clear hk)
                go_meet
                exact ⟨G2, rv, F, Lib.hid ⟨HK3.out.c, HF.out⟩⟩
              · by_cases k5 : kv = 5
                · have hS := fun (X : World) (hX : KB B8 w X b b4 [(b6, #[.int .i64 kv, .int .i64 dr, .int .i64 nn, .slice va xs.length vc, .bool up])] G rv F (.slice oa L8.length oc) (.slice ma L9.length mc) L8 L9) => twin_A d nn hX HFB.out
                  have hF : (∀ j, j < 2 → (F j).map Prod.snd = (twinG G d nn) (2 + j)) ∧ (twinG G d nn) e = L8 ∧ (twinG G d nn) (2 + e) = L9 ∧ Few (twinG G d nn) (k + 1) := ⟨fun j hj => by rw [HE.out j hj, twinG_ne (show 2 + j ≠ d by omega)], by rw [twinG_ne hne]; exact H8.out, by rw [twinG_ne (show 2 + e ≠ d by omega)]; exact H9.out, HFW.out.twin d nn⟩
                  generalize twinG G d nn = G2 at hS hF
                  have HS := Lib.hid hS
                  have HF := Lib.hid hF
                  clear hS hF
                  subst k5
                  go_wp2_with (go_at_call 13; refine (HS.out _ HK.out).mono ?_; rintro r x3 ⟨rfl, hk⟩; have HK3 := Lib.hid hk; clear hk)
                  go_meet
                  exact ⟨G2, rv, F, Lib.hid ⟨HK3.out.c, HF.out⟩⟩
                · by_cases k6 : kv = 6
                  · have hS := fun (X : World) (hX : KB B8 w X b b4 [(b6, #[.int .i64 kv, .int .i64 dr, .int .i64 nn, .slice va xs.length vc, .bool up])] G rv F (.slice oa L8.length oc) (.slice ma L9.length mc) L8 L9) => say_A d (.slice va ys.length vc) ys hX (HBW2.out.later hX.k.below) HYL.out HFB.out
                    rw [mayN_ok hd, sayG_ok hd] at hS
                    have hF : (∀ v : Value, ∀ j, j < 2 → ((updV F d (F d ++ [(v, ys)])) j).map Prod.snd = (upd G (2 + d) (G (2 + d) ++ [ys])) (2 + j)) ∧ (upd G (2 + d) (G (2 + d) ++ [ys])) e = L8 ∧ (upd G (2 + d) (G (2 + d) ++ [ys])) (2 + e) = L9 ∧ Few (upd G (2 + d) (G (2 + d) ++ [ys])) (k + 1) := by
                      refine ⟨fun v j hj => ?_, ?_, ?_, HFW.out.upd (by have := HFW.out (2 + d) (by omega); simp; omega)⟩
                      · unfold updV W.upd
                        by_cases hjd : j = d
                        · subst hjd
                          rw [if_pos rfl, if_pos rfl, List.map_append, HE.out j hj]
                          rfl
                        · rw [if_neg hjd, if_neg (by omega)]
                          exact HE.out j hj
                      · unfold W.upd
                        rw [if_neg (by omega)]
                        exact H8.out
                      · unfold W.upd
                        rw [if_neg (by omega)]
                        exact H9.out
                    generalize upd G (2 + d) (G (2 + d) ++ [ys]) = G2 at hS hF
                    have HS := Lib.hid hS
                    have HF := Lib.hid hF
                    clear hS hF
                    subst k6
                    go_upto_region 23 with (go_at_call 14; refine (HS.out _ HK.out).mono ?_; rintro r y ⟨rfl, hk⟩; have HK3 := Lib.hid hk; clear hk)
                    obtain ⟨i0, hi, hz0, hz1, hz2⟩ := info_parts info5
                    have ga := gn (World.grownBy_alloc y (.cells #[] 5) none) (grown_drew (y.alloc (.cells #[] 5)) none)
                    have kD : y.drew.cell? ⟨b4, d, none⟩ = some (rv d) := ((HK3.out.grown (grown_drew y none)).k.cell hd).1
                    have kA : (y.alloc (.cells #[] 5)).drew.cell? ⟨b4, d, none⟩ = some (rv d) := ((HK3.out.grown ga).k.cell hd).1
                    have kE : (y.alloc (.cells #[] 5)).cell? ⟨b4, d, none⟩ = some (rv d) := ((HK3.out.grown (World.grownBy_alloc y (.cells #[] 5) none)).k.cell hd).1
                    have HO1 := Lib.hid (own_new y y.heap.size 5 (Nat.le_refl _)).drew
                    have HZ1 : Hid (y.heap.size ≤ (y.alloc (.cells #[] 5)).drew.heap.size) := Lib.hid ga.size
                    have HSR := Lib.hid ((HBW2.out.later HK3.out.k.below).kept ga (by simp)).src
                    have HGA := Lib.hid ga
                    have HNL : Hid ((ys.map (Value.int .u8)).length = ys.length * 1) := Lib.hid (by simp)
                    have hy4 := HYL.out
                    have hfl := HFL.out
                    have q1 : (0 : Int) ≤ (d : Int) := by omega
                    have q2 : (d : Int) < 2 := by omega
                    clear ga
                    go_region_law (first
                      | (refine step_append_any _ (by rfl) _ _ 28 (by rfl) y.heap.size 5 i0 (.int .u8 0) 1 1 Try.underlying28 hi hz0 hz1 hz2 rfl (by decide) (.slice (some ⟨y.heap.size, 0, none⟩) 0 0) 0 [] (by rfl) HO1.out (.slice va ys.length vc) ys.length (ys.map (Value.int .u8)) (by rfl) HSR.out HNL.out (bytes_one ys) (by unfold maxLen; omega) (by omega) HZ1.out ?_; intro l1 w5 ho hg; rw [Nat.zero_add, List.nil_append] at ho; obtain ⟨ba, bc, hl1⟩ := own_len ho; subst hl1; have G5 := grownOwn HGA.out HO1.out (Nat.le_refl _) hg; have HK5 := Lib.hid (HK3.out.grown G5); have hb5 : BO 0 w5 (.slice ba ys.length bc) ys := Joins.ownsRow_le ho (Nat.zero_le _); have c5 := (HK5.out.k.cell hd).1; have HK6 := Lib.hid (HK5.out.grown (World.grownBy_alloc w5 (.cells #[.slice ba ys.length bc] 28) none)); have c6 := (HK6.out.k.cell hd).1; have HB6 := Lib.hid (hb5.kept (World.grownBy_alloc w5 (.cells #[.slice ba ys.length bc] 28) none) (by simp)); clear ho hg G5 hb5)
                      | (refine step_append_oa (by rfl) _ _ (by rfl) (by rfl) (HK6.out.k.own d hd) HK6.out.k.below.size hfl ⟨w5.heap.size, 0, none⟩ 1 (.slice ba ys.length bc) (by rfl) ((cell_of_row _ _ 0 _ 28 (0, 0) (heap_alloc_new w5 _)).trans rfl) rfl ?_; intro v' w7 ho hg hn; have hP : RO 0 (w5.alloc (.cells #[.slice ba ys.length bc] 28)) (F d ++ [(Value.slice ba ys.length bc, ys)]) := (HK6.out.k.ro d hd).app (.one HB6.out hy4); have ho' : OA w.heap.size w7 v' ((F d ++ [(Value.slice ba ys.length bc, ys)]).map Prod.fst) := (by rw [List.map_append]; exact ho); have hlay := HK6.out.k.lay hd hP ho' hg hn; obtain ⟨c7, z7⟩ := box_cell hlay.2.2.2 hd; have HC7 := Lib.hid (HK6.out.lay hd hP ho' hg hn); obtain ⟨sa, sn, sc, hv'⟩ : ∃ a n c, v' = Value.slice a n c := (by obtain ⟨a, c, h⟩ := ho.form; exact ⟨a, _, c, h⟩); subst hv'; clear ho hg hn hP ho' hlay))
                    all_goals
                      go_wp2_with fail
                      go_meet
                      exact ⟨G2, _, _, Lib.hid ⟨HC7.out, HF.out.1 _, HF.out.2⟩⟩
                  · by_cases k7 : kv = 7
                    · have hS := fun (X : World) (hX : KB B8 w X b b4 [(b6, #[.int .i64 kv, .int .i64 dr, .int .i64 nn, .slice va xs.length vc, .bool up])] G rv F (.slice oa L8.length oc) (.slice ma L9.length mc) L8 L9) => hear_A d hX HFB.out
                      cases hF : F d with
                      | nil =>
                        have h0 : G (2 + d) = [] := by rw [← HE.out d hd, hF]; rfl
                        rw [(hear_nil hd h0).1, (hear_nil hd h0).2] at hS
                        have HS := Lib.hid hS
                        obtain ⟨ra, rc, hr⟩ := (HK.out.k.own d hd).form
                        rw [hF] at hr
                        have HR := Lib.hid (show rv d = .slice ra 0 rc from hr)
                        clear hS h0 hr hF
                        subst k7
                        go_upto_region 26 with (go_at_call 15; refine (HS.out _ HK.out).mono ?_; rintro r x3 ⟨ta, tl, tc, rfl, hk, hb⟩; have HK3 := Lib.hid hk; have c3 := (hk.k.cell hd).1; rw [HR.out] at c3; clear hk hb)
                        go_quiet (fail)
                        go_wp2_with fail
                        go_meet
                        exact ⟨G, rv, F, Lib.hid ⟨(HK3.out.grown (grown_drewN _ _ _)).c, HE.out, H8.out, H9.out, HFW.out.more⟩⟩
                      | cons p P =>
                        have h0 : G (2 + d) = p.2 :: P.map Prod.snd := by rw [← HE.out d hd, hF]; rfl
                        rw [(hear_cons hd h0).1, (hear_cons hd h0).2.1, (hear_cons hd h0).2.2] at hS
                        have hFF : (∀ j, j < 2 → ((updV F d P) j).map Prod.snd = (upd G (2 + d) (P.map Prod.snd)) (2 + j)) ∧ (upd G (2 + d) (P.map Prod.snd)) e = L8 ∧ (upd G (2 + d) (P.map Prod.snd)) (2 + e) = L9 ∧ Few (upd G (2 + d) (P.map Prod.snd)) (k + 1) := by
                          refine ⟨fun j hj => ?_, ?_, ?_, HFW.out.upd (by have h2 := HFW.out (2 + d) (by omega); rw [h0] at h2; simp at h2; simp; omega)⟩
                          · unfold updV W.upd
                            by_cases hjd : j = d
                            · subst hjd
                              rw [if_pos rfl, if_pos rfl]
                            · rw [if_neg hjd, if_neg (by omega)]
                              exact HE.out j hj
                          · unfold W.upd
                            rw [if_neg (by omega)]
                            exact H8.out
                          · unfold W.upd
                            rw [if_neg (by omega)]
                            exact H9.out
                        generalize upd G (2 + d) (P.map Prod.snd) = G2 at hS hFF
                        have HS := Lib.hid hS
                        have HFF := Lib.hid hFF
                        have HFC := Lib.hid hF
                        clear hS hFF h0 hF
                        subst k7
                        go_upto_region 26 with (go_at_call 15; refine (HS.out _ HK.out).mono ?_; rintro r x3 ⟨ta, tl, tc, rfl, hk, hb⟩; have HK3 := Lib.hid hk; have HB3 := Lib.hid hb; clear hk hb)
                        have hown := HK3.out.k.own d hd
                        rw [HFC.out] at hown
                        obtain ⟨g, o, c, hv, hc⟩ := OA.get hown (by simp)
                        have hro := HK3.out.k.ro d hd
                        rw [HFC.out] at hro
                        obtain ⟨pv, ps⟩ := p
                        have hb0 := (hro _ List.mem_cons_self).1
                        obtain ⟨pa, pc, hpv⟩ := hb0.len
                        simp only at hpv hb0
                        subst hpv
                        have hc0 := hc 0 (by simp)
                        simp only [List.map_cons, List.length_cons, List.length_map] at hv
                        have hown2 := hown
                        rw [hv] at hown2
                        obtain ⟨hc1, ht1, ht2⟩ := OA.tail2 (xs := P.map Prod.fst) (by rw [List.length_map]; exact hown2)
                        rw [List.length_map] at ht1 ht2
                        have hgc : x3.cell? ⟨g, o, none⟩ = some (.slice pa ps.length pc) := hc0.trans rfl
                        have c3 := (HK3.out.k.cell hd).1
                        rw [hv] at c3
                        have v1 := fun z : Nat => conv_of (HB3.out.kept (grown_drewN x3 z none) (by simp))
                        have v2 := fun z : Nat => conv_of (hb0.bt.kept (grown_drewN x3 z none) (by simp))
                        have HT1 := Lib.hid ht1
                        have HT2 := Lib.hid ht2
                        have HRP : Hid (RO 0 x3 P) := Lib.hid (fun q hq => hro q (List.mem_cons_of_mem _ hq))
                        have HV2 := Lib.hid hv
                        have hnl : P.length + 1 ≤ c := by
                          rcases hown2 with ⟨h, _⟩ | ⟨_, _, _, _, h, _, _, h2, _⟩
                          · simp at h
                          · injection h with _ _ h3
                            simp at h2
                            omega
                        clear hown hown2 hc hro hb0 hc0 ht1 ht2 hv
                        go_quiet (fail)
                        go_upto_region 29 with fail
                        have z3 := (HK3.out.k.cell hd).2
                        have q1 : (0 : Int) ≤ (d : Int) := by omega
                        have q2 : (d : Int) < 2 := by omega
                        have gq := grown_drewN x3 nq none
                        by_cases hc1' : c = 1
                        · subst hc1'
                          obtain rfl : P = [] := List.eq_nil_of_length_eq_zero (by omega)
                          have HC := Lib.hid ((HK3.out.grown gq).lay (v' := .slice (some ⟨g, o, none⟩) 0 0) hd (HRP.out.kept gq (by simp)) ((HT1.out rfl).kept gq (by simp)) (World.grownBy.refl _ _) (fun r hr => .inl (by rw [HV2.out]; exact hr)))
                          clear gq
                          go_wp2_with fail
                          go_meet
                          exact ⟨G2, _, _, Lib.hid ⟨HC.out, HFF.out⟩⟩
                        · have HC := Lib.hid ((HK3.out.grown gq).lay (v' := .slice (some ⟨g, o + 1, none⟩) P.length (c - 1)) hd (HRP.out.kept gq (by simp)) ((HT2.out hc1').kept gq (by simp)) (World.grownBy.refl _ _) (fun r hr => .inl (by rw [HV2.out]; exact hr)))
                          clear gq
                          go_wp2_with fail
                          go_meet
                          exact ⟨G2, _, _, Lib.hid ⟨HC.out, HFF.out⟩⟩
                    · have q2 : (kv == 2) = false := by simpa using fun h => k23 (.inl h)
                      have q3 : (kv == 3) = false := by simpa using fun h => k23 (.inr h)
                      have q4 : (kv == 4) = false := by simpa using k4
                      have q5 : (kv == 5) = false := by simpa using k5
                      have q6 : (kv == 6) = false := by simpa using k6
                      have q7 : (kv == 7) = false := by simpa using k7
                      clear k23 k4 k5 k6 k7
                      go_wp2
                      go_meet
                      exact ⟨G, rv, F, Lib.hid ⟨HK.out.c, HE.out, H8.out, H9.out, HFW.out.more⟩⟩
          case rest =>
            obtain ⟨G', rv', F', HZ⟩ := hcut
            obtain ⟨LW, hLW⟩ : ∃ q, q = G' (2 + d) := ⟨_, rfl⟩
            obtain ⟨rd, hrd⟩ : ∃ q, q = rv' d := ⟨_, rfl⟩
            have HR : Hid (KR w b b4 d e G' rv' F' (.slice oa L8.length oc) (.slice ma L9.length mc) rd L8 L9 LW wc) := Lib.hid ⟨HZ.out.1, hd, he, HZ.out.2.2.1, HZ.out.2.2.2.1, hLW.symm, by rw [HZ.out.2.1 d hd, hLW], hrd.symm, HZ.out.2.2.2.2.big (by omega)⟩
            have HZ2 := Lib.hid HZ.out.2
            have q1 : (0 : Int) ≤ (d : Int) := by omega
            have q2 : (d : Int) < 2 := by omega
            clear hLW hrd HZ HK HE HFW H8 H9 HFL HBW HBW2 HYL hyl p0 p1 p2 p3 p4 HFB
            go_upto_region 30 with fail
            go_cut [161] (fun v wx => v = .bool false ∧ Hid (KR w b b4 d e G' rv' F' (.slice oa L8.length oc) (.slice ma L9.length mc) rd L8 L9 LW wx))
            case first =>
              go_region_held3 (fun w' => w'.cell? ⟨b4, d, none⟩ = some rd ∧ KR w b b4 d e G' rv' F' (.slice oa L8.length oc) (.slice ma L9.length mc) rd L8 L9 LW w')
                (first | exact KR.s (HR.out.grown (grown_drewN _ _ _)) | exact KR.s (by assumption))
                (first
                  | (go_at_call 10; go_split_ands; refine (words_R (by assumption)).mono ?_; rintro r wN ⟨aa, ac, rfl, hN, hA⟩)
                  | (go_at_call 10; go_split_ands; refine (words_Re (by assumption)).mono ?_; rintro r wN ⟨aa, ac, rfl, hN, hA⟩)
                  | (go_at_call 9; go_split_ands; refine (all_Re (by assumption)).mono ?_; rintro r wN ⟨aa, ac, rfl, hN, hA⟩)
                  | (go_at_call 16; go_split_ands; refine (same_R _ (by assumption) (by assumption)).mono ?_; rintro r wN ⟨rfl, hN⟩)
                  | (go_at_call 16; go_split_ands; refine (same_R8 _ (by assumption) (by assumption)).mono ?_; rintro r wN ⟨rfl, hN⟩)
                  | (go_at_call 16; go_split_ands; refine (same_R9 _ (by assumption) (by assumption)).mono ?_; rintro r wN ⟨rfl, hN⟩))
              go_split_ands
              go_wp2_with fail
              go_meet
              exact ⟨rfl, Lib.hid (by assumption)⟩
            case rest =>
              obtain ⟨rfl, HY⟩ := hcut
              have HYK := Lib.hid HY.out.c.k
              clear HY HR
              go_wp2
              go_roundw
              case rel => exact ⟨k + 1, G', rv', F', by go_num, by omega, by omega, Lib.hid ⟨HYK.out, HZ2.out.1, HZ2.out.2.2.2⟩⟩
              case measure => simp [intOf]; omega
      · go_wp2
        go_ret
        exact ⟨rfl, HI.out.1.below⟩
    · go_wp2
      go_ret
      exact ⟨rfl, HI.out.1.below⟩
end Go.Proofs.Ytaidfcehicffbaa.W
