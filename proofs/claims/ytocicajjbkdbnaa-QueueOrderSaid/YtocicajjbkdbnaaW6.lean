/-
  What Same of the reference of the package queue tells of two rows that read alike, and what awake tells.
-/
import Derived.Test.YtocicajjbkdbnaaW5
set_option linter.unusedVariables false
set_option linter.unusedSimpArgs false
namespace Go.Proofs.Ytocicajjbkdbnaa.W
open Go.RowKit Go.Deep Go.Conc

/-- A slice of slices that reads as P. -/
def Row (w : World) (v : Value) (P : List Pr) : Prop := (∃ a c, v = .slice a P.length c) ∧ (0 < P.length → ∃ g o c, v = .slice (some ⟨g, o, none⟩) P.length c ∧ ∀ k, k < P.length → w.cell? ⟨g, o + k, none⟩ = some (P.getD k default).1)
def RB (w : World) (P : List Pr) : Prop := ∀ p ∈ P, Bt w p.1 p.2 ∧ p.2.length ≤ 2048
theorem own_rows {w : World} {B n : Nat} {e : TypeId} {v : Value} {P : List Pr} (h : w.ownsRow B e 1 v n (P.map Prod.fst)) (hn : n = P.length) : Row w v P := by
  subst hn
  refine ⟨own_len h, fun h0 => ?_⟩
  obtain ⟨g, c, rfl, hc⟩ := own_read h h0
  refine ⟨g, 0, c, rfl, fun k hk => ?_⟩
  rw [Nat.zero_add, hc k hk, List.getElem?_map, List.getD_eq_getElem?_getD, List.getElem?_eq_getElem hk]
  rfl
theorem RO.rb {B : Nat} {w : World} {P : List Pr} (h : RO B w P) : RB w P := fun p hp => ⟨(h p hp).1.bt, (h p hp).2⟩
theorem conv_of {w : World} {v : Value} {xs : List Int} (h : Bt w v xs) : (convert 29 9 v).run Try.prog w = .ok (.string (strOfNums xs)) w := by
  rcases h with ⟨rfl, rfl⟩ | ⟨g, o, cap, rfl, _, _, h3⟩ | ⟨ad, cap, rfl, rfl⟩
  · exact run_convert_bytes_nil (P := Try.prog) w 29 5 Try.underlying29 Try.underlying5 0 0 9 Try.underlying9
  · exact run_convert_bytes_arg (P := Try.prog) w 29 5 Try.underlying29 Try.underlying5 g o xs.length cap xs rfl h3 9 Try.underlying9
  · rw [run_convert_bytes_string w 29 9 5 _ 0 cap Try.underlying29 Try.underlying5 Try.underlying9, run_bytesToString w ad 0 cap [] (run_loadCells_list (P := Try.prog) w ad [] (fun j v hj => by simp at hj))]
    rfl

set_option maxHeartbeats 1000000 in
theorem same_of (u v : Value) (P R : List Pr) (w : World) (hu : Row w u P) (hv : Row w v R) (hp : RB w P) (hr : RB w R) (hs : P.map Prod.snd = R.map Prod.snd) (hl : P.length ≤ 2147483647) :
    Calls Try.prog 13 #[u, v] w fun e w' => e = .returned (.bool true) ∧ ∃ n, w' = w.drewN n := by
  have hlen : P.length = R.length := by simpa using congrArg List.length hs
  have HU := Lib.hid hu
  have HV := Lib.hid hv
  have HP := Lib.hid hp
  have HR := Lib.hid hr
  have HS := Lib.hid hs
  have HLEN := Lib.hid hlen
  obtain ⟨ua, uc, rfl⟩ := hu.1
  obtain ⟨va, vc, rfl⟩ := hv.1
  rw [← hlen] at HV ⊢
  generalize hn : P.length = n at *
  have HN := Lib.hid hn
  clear hu hv hp hr hs hlen hn
  go_enter Try.func13, Try.ntmps13
  go_wp2
  go_loopw [5] (fun iv wr => ∃ k m : Nat, iv = .int .i64 k ∧ k ≤ n ∧ wr = w.drewN m) (fun iv _ => n - (intOf iv).toNat)
  case atStart => exact ⟨0, 0, rfl, by omega, rfl⟩
  case round =>
    obtain ⟨k, m, rfl, hk, rfl⟩ := hrel
    by_cases hlt : k < n
    · obtain ⟨pg, po, pc, hpu, hpc⟩ := HU.out.2 (by have := HN.out; omega)
      obtain ⟨rg, ro, rc, hrv, hrc⟩ := HV.out.2 (by have := HN.out; have := HLEN.out; omega)
      have hpk : P.getD k default ∈ P := by rw [List.getD_eq_getElem?_getD, List.getElem?_eq_getElem (by have := HN.out; omega)]; exact List.getElem_mem _
      have hrk : R.getD k default ∈ R := by rw [List.getD_eq_getElem?_getD, List.getElem?_eq_getElem (by have := HN.out; have := HLEN.out; omega)]; exact List.getElem_mem _
      have hsk : (P.getD k default).2 = (R.getD k default).2 := by
        have h1 := congrArg (fun l => l.getD k default) HS.out
        simpa [List.getD_eq_getElem?_getD, List.getElem?_map, List.getElem?_eq_getElem (show k < P.length by have := HN.out; omega), List.getElem?_eq_getElem (show k < R.length by have := HN.out; have := HLEN.out; omega)] using h1
      have c1 := hpc k (by have := HN.out; omega)
      have c2 := hrc k (by have := HN.out; have := HLEN.out; omega)
      have b1 := (HP.out _ hpk).1
      have b2 := (HR.out _ hrk).1
      generalize P.getD k default = p at c1 b1 hsk hpk
      generalize R.getD k default = r at c2 b2 hsk hrk
      obtain ⟨pv, px⟩ := p
      obtain ⟨rv, rx⟩ := r
      simp only at c1 c2 b1 b2 hsk
      subst hsk
      injection hpu with e1 e2 e3
      injection hrv with e4 e5 e6
      subst e1 e3 e4 e6
      obtain ⟨pa, pcap, hpv, _⟩ := b1.len
      obtain ⟨ra, rcap, hrv, _⟩ := b2.len
      subst hpv hrv
      have d1 : (w.drewN m).cell? ⟨pg, po + k, none⟩ = _ := c1
      have d2 : (w.drewN m).cell? ⟨rg, ro + k, none⟩ = _ := c2
      have v1 := fun q : Nat => conv_of (b1.kept (grown_drewN w q none) (by simp))
      have v2 := fun q : Nat => conv_of (b2.kept (grown_drewN w q none) (by simp))
      clear hpc hrc hpk hrk d1 d2 b1 b2 e2 e5
      go_wp2
      go_quiet (fail)
      go_wp2
      go_roundw
      case rel => exact ⟨k + 1, m + nq, by go_num, by omega, by simp [World.drewN, Nat.add_assoc]⟩
      case measure => simp [intOf]; omega
    · go_wp2
      go_ret
      exact ⟨rfl, m, rfl⟩
end Go.Proofs.Ytocicajjbkdbnaa.W
