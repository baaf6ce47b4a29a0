/- The walk of FnIndexAddOthers. -/
import Derived.Test.YtnegoaaddaofiaaIdxAddW
import Derived.Deep.RegionHeld3
import Derived.BigQuiet
namespace Go.Proofs.Ytnegoaaddaofiaa
open Go.RowKit

set_option maxHeartbeats 4000000 in
theorem indexAddOthers_walk (A : Option Addr) (n c : Nat) (zs : List Int) (w : World) (h : Code w A n c zs) :
    Calls Try.prog 6 #[.slice A n c] w fun e w' => e = .returned (.bool true) ∧ w.grownBy w' none := by
  have hc := h.cap
  have hm := h.max
  unfold maxLen at hm
  by_cases h1 : n > 1048576
  · go_enter Try.func6, Try.ntmps6
    go_wp2
    go_ret
    exact ⟨rfl, gr_refl _ _⟩
  go_enter Try.func6, Try.ntmps6
  go_wp2_with fail
  refine (dia_any A n c zs _ h).mono ?_
  rintro e w1 ⟨B, N, C, l, key, p, rfl, hO, hl, hN, hok, hsp, hky, hp, hg1⟩
  have hCm := hO.max
  have hC := hO.cap
  unfold maxLen at hCm
  have ARG := hid (RArg.of_own hO hl hok)
  obtain ⟨ok, hb⟩ : ∃ b, iaOk key p (rsem l) = b := ⟨_, rfl⟩
  have hky2 : key.size ≤ maxLen := by unfold maxLen; omega
  have e1 := ia_any B N C l key p ok w1 ARG.out hky2 (by omega) (fun r hr => Nat.le_trans (rows_small hsp hok r hr) (by omega)) hb
  have e2 := fun w (hg : w1.grownBy w none) => sia_any B N C l key p ok w (ARG.out.grown0 hg) hky2 (by omega) (by omega) (fun r hr => Nat.le_trans (rows_small hsp hok r hr) (by omega)) hb
  have HB := hid hb
  have HS := hid (And.intro hl (And.intro hN hsp))
  have HKy := hid hky
  clear hl hO hok hsp hb hp hky hky2
  go_wp2_with fail
  refine e1.mono ?_
  rintro e w2 ⟨A2, n2, c2, o2, rfl, hO2, hl2, hok2, hr2, hg2⟩
  have G2 := gr_0 hg1 hg2
  have ARG2 := hid (RArg.of_own hO2 hl2 hok2)
  have HR2 := hid hr2
  have HK2 := hid (And.intro hl2 hok2)
  have hC2 := hO2.cap
  have hM2 := hO2.max
  unfold maxLen at hM2
  clear e1 hO2 hl2 hok2 hr2
  go_wp2_with fail
  refine (e2 _ hg2).mono ?_
  rintro e w3 ⟨A3, n3, c3, o3, rfl, hO3, hl3, hok3, hr3, hg3⟩
  have G3 := gr_0 G2 hg3
  have K3 := gr_0 hg2 hg3
  have e3 := hid (fun w (hg : w3.grownBy w none) => srs_same A2 A3 n2 c2 n3 c3 o2 o3 w (ARG2.out.grown0 (gr_0 hg3 hg)) ((RArg.of_own hO3 hl3 hok3).grown0 hg) (by rw [HR2.out, hr3]))
  have HG3 := hid hg3
  clear e2 hO3 hl3 hok3 hr3 hg3 hg2 G2
  cases ok with
  | false =>
    clear HB
    go_wp2_with fail
    refine (e3.out _ (gr_refl _ _)).mono ?_
    rintro e w4 ⟨rfl, hg4⟩
    go_wp2_with fail
    refine (e3.out _ hg4).mono ?_
    rintro e w5 ⟨rfl, hg5⟩
    go_wp2_with fail
    go_ret
    exact ⟨rfl, gr_0 (gr_0 G3 hg4) hg5⟩
  | true =>
  have HSM := hid (add_small (key := key) (p := p) (by rw [HR2.out]; rfl) HK2.out.1 HS.out.1 HS.out.2.1 HS.out.2.2 HK2.out.2)
  have e4 := hid (fun k w (hg : w2.grownBy w none) => if_any A2 n2 c2 o2 k w (ARG2.out.grown0 hg) (by have := HSM.out.1; omega) HSM.out.2.2)
  have e5 := hid (fun k (hk : k.size ≤ maxLen) w (hg : w2.grownBy w none) => ia_any A2 n2 c2 o2 k p false w (ARG2.out.grown0 hg) hk (by have := HSM.out.1; omega) HSM.out.2.2 (by rw [HR2.out]; exact ia_twice HB.out))
  go_wp2_with fail
  refine (e3.out _ (gr_refl _ _)).mono ?_
  rintro e w4 ⟨rfl, hg4⟩
  have G4 := gr_0 G3 hg4
  have K4 := hid (gr_0 K3 hg4)
  have L4 := hid (gr_0 HG3.out hg4)
  clear e3 hg4 K3 G3
  go_wp2_with fail
  go_loopw [10] (fun iv wr => ∃ k : Nat, iv = .int .i64 (k : Int) ∧ k ≤ N ∧ w4.grownBy wr none) (fun iv _ => N - (intOf iv).toNat)
  case atStart => exact ⟨0, rfl, by omega, gr_refl _ _⟩
  case round =>
    obtain ⟨k, rfl, hkn, hG⟩ := hrel
    have GW := gr_0 G4 hG
    by_cases hlt : k < N
    · have hkl : k < l.length := by rw [HS.out.1]; exact hlt
      have hks : k < (rsem l).length := by rw [rsem_len]; exact hkl
      have es := rsem_at l k hkl
      have HI := hid (idx_mem (idxB_iff.2 (iaOk_iff.1 HB.out).1) hks)
      have HRA := hid ((ARG.out.ats _ (List.getElem_mem hkl)).grown0 (gr_0 K4.out hG))
      obtain ⟨g, o, hAe, hgl, hcells⟩ := ARG.out.open_ (by omega)
      have cc := hcells k hkl
      clear hcells
      obtain ⟨r, hrr⟩ : ∃ r, l[k] = r := ⟨_, rfl⟩
      simp only [es, hrr] at HI cc HRA
      obtain ⟨rk, ra, rn, rc, rx⟩ := r
      simp only [RRow.sem] at HI cc HRA
      have ck := fun w' (hg : wr.grownBy w' none) => (cc w' (gr_0 (gr_0 K4.out hG) hg)).1
      have cp := fun w' (hg : wr.grownBy w' none) => (cc w' (gr_0 (gr_0 K4.out hG) hg)).2
      have b1 : (0 : Int) ≤ (k : Int) := by omega
      have b2 : (k : Int) < (N : Int) := by omega
      subst hAe
      clear cc es hrr hgl
      by_cases e : rk = key
      · have e0 : (rk.toList != key.toList) = false := by rw [e]; simp
        have e1 : (rk.toList == key.toList) = true := by rw [e]; simp
        have ck0 := ck wr (gr_refl _ _)
        clear e HI HRA e4 e5 ck cp
        go_wp2_with fail
        go_quiet (fail)
        go_wp2_with fail
        go_roundw
        case rel => exact ⟨k + 1, by go_num, by omega, gr_drewN hG _⟩
        case measure => simp [intOf]; omega
      · have e0 : rk.toList ≠ key.toList := fun x => e (toList_inj x)
        have e1 : (rk.toList == key.toList) = false := by simpa using e0
        have e2 : (rk.toList != key.toList) = true := by simpa using e0
        have HF := hid (show idxFind rk (rsem o2) = rx by have hr := HR2.out; simp only [if_true] at hr; rw [hr, ia_other HB.out e]; exact HI.out)
        have E4 := hid (fun w' (hg : wr.grownBy w' none) => e4.out rk w' (gr_0 (gr_0 L4.out hG) hg))
        clear e e0 HI e5
        go_wp2_with fail
        go_region_held3 (fun w' => wr.grownBy w' none) (((repeat (first | (with_reducible assumption) | (with_reducible exact gr_refl _ _) | (with_reducible refine gr_alloc ?_ _) | (with_reducible refine gr_drew ?_))); (first | done | fail "left")))
          (first
            | (go_at_call 11
               refine (E4.out _ (show wr.grownBy _ none by ((repeat (first | (with_reducible assumption) | (with_reducible exact gr_refl _ _) | (with_reducible refine gr_alloc ?_ _) | (with_reducible refine gr_drew ?_))); (first | done | fail "left")))).mono ?_
               rintro e w6 ⟨A6, n6, c6, rfl, hO6, hl6, hg6⟩
               have G6 : wr.grownBy w6 none := gr_0 (show wr.grownBy _ none by ((repeat (first | (with_reducible assumption) | (with_reducible exact gr_refl _ _) | (with_reducible refine gr_alloc ?_ _) | (with_reducible refine gr_drew ?_))); (first | done | fail "left"))) hg6
               have E6 := hid (fun w' (hg : w6.grownBy w' none) => si_is A6 ra n6 rn c6 rc rx rx true w' (by have := hO6.lies; rw [HF.out] at this; exact this.grown0 hg) ((HRA.out.grown0 (gr_0 G6 hg)).own.lies) (by rw [← hl6, HF.out]) HRA.out.len hO6.cap hO6.max HRA.out.cap HRA.out.max (by simp))
               clear hO6 hl6 hg6)
            | (go_at_call 13
               refine (E6.out _ (by ((repeat (first | (with_reducible assumption) | (with_reducible exact gr_refl _ _) | (with_reducible refine gr_alloc ?_ _) | (with_reducible refine gr_drew ?_))); (first | done | fail "left")))).mono ?_
               rintro e w7 ⟨rfl, hg7⟩
               have G7 : wr.grownBy w7 none := gr_0 (show wr.grownBy _ none by ((repeat (first | (with_reducible assumption) | (with_reducible exact gr_refl _ _) | (with_reducible refine gr_alloc ?_ _) | (with_reducible refine gr_drew ?_))); (first | done | fail "left"))) hg7
               clear hg7))
        all_goals
          go_wp2_with fail
          go_roundw
          case rel => exact ⟨k + 1, by go_num, by omega, gr_0 hG (show wr.grownBy _ none by ((repeat (first | (with_reducible assumption) | (with_reducible exact gr_refl _ _) | (with_reducible refine gr_alloc ?_ _) | (with_reducible refine gr_drew ?_))); (first | done | fail "left")))⟩
          case measure => simp [intOf]; omega
    · go_wp2_with fail
      refine (e5.out key (by have := HKy.out; unfold maxLen; omega) wr (gr_0 L4.out hG)).mono ?_
      rintro e w5 ⟨A5, n5, c5, o5, rfl, _, _, _, _, hg5⟩
      have G5 := gr_0 GW hg5
      have L5 := gr_0 (gr_0 L4.out hG) hg5
      go_wp2_with fail
      refine (e5.out _ (by decide) w5 L5).mono ?_
      rintro e w6 ⟨A6, n6, c6, o6, rfl, _, _, _, _, hg6⟩
      have G6 := gr_0 G5 hg6
      go_wp2_with fail
      go_ret
      exact ⟨rfl, G6⟩
end Go.Proofs.Ytnegoaaddaofiaa
