/- The walk of FnIndexFind. -/
import Derived.Test.YtnegoaaddaofiaaFindS
import Derived.Test.YtnegoaaddaofiaaSame
namespace Go.Proofs.Ytnegoaaddaofiaa
open Go.RowKit

theorem rows_small {w : World} {rs : List RRow} {N : Nat} (hs : (spots (rsem rs)).length ≤ N) (hok : ∀ r ∈ rs, r.ok w) : ∀ r ∈ rs, r.n ≤ N := by
  intro r hr
  obtain ⟨k, hk, rfl⟩ := List.mem_iff_getElem.1 hr
  have h1 := len_spots hk
  have h2 := (hok _ hr).len
  omega

set_option maxHeartbeats 4000000 in
theorem indexFind_walk (A : Option Addr) (n c : Nat) (zs : List Int) (w : World) (h : Code w A n c zs) :
    Calls Try.prog 4 #[.slice A n c] w fun e w' => e = .returned (.bool true) ∧ w.grownBy w' none := by
  have hc := h.cap
  have hm := h.max
  unfold maxLen at hm
  by_cases h1 : n > 1048576
  · go_enter Try.func4, Try.ntmps4
    go_wp2
    go_ret
    exact ⟨rfl, gr_refl _ _⟩
  go_enter Try.func4, Try.ntmps4
  go_wp2_with fail
  refine (dif_any A n c zs _ h).mono ?_
  rintro e w1 ⟨B, N, C, l, key, rfl, hO, hl, hN, hok, hsp, hg1⟩
  have hCm := hO.max
  have hC := hO.cap
  unfold maxLen at hCm
  have ARG := hid (RArg.of_own hO hl hok)
  have e1 := fun w (hg : w1.grownBy w none) => if_any B N C l key w (ARG.out.grown0 hg) (by omega) (fun r hr => Nat.le_trans (rows_small hsp hok r hr) (by omega))
  have e2 := fun w (hg : w1.grownBy w none) => sif_any B N C l key w (ARG.out.grown0 hg) (by omega) (by omega)
  have HLn := hid hl
  have HSm := hid (rows_small hsp hok)
  clear hl hO hok hsp
  go_wp2_with fail
  refine (e1 _ (gr_refl _ _)).mono ?_
  rintro e w2 ⟨A2, n2, c2, rfl, hO2, hl2, hg2⟩
  have G2 := gr_0 hg1 hg2
  clear e1
  go_wp2_with fail
  refine (e2 _ hg2).mono ?_
  rintro e w3 ⟨A3, n3, c3, rfl, hO3, hl3, hg3⟩
  have G3 := gr_0 G2 hg3
  have HG13 := hid (gr_0 hg2 hg3)
  have L2 := hid (hO2.lies.grown0 hg3)
  have L3 := hid hO3.lies
  have hc2 := hO2.cap
  have hc3 := hO3.cap
  have hm2 := hO2.max
  have hm3 := hO3.max
  have HL2 := hid hl2
  obtain ⟨fr, hfr⟩ : ∃ fr, idxFind key (rsem l) = fr := ⟨_, rfl⟩
  rw [hfr] at HL2 L2 L3 hl3
  have e3 := fun w (hg : w3.grownBy w none) => si_is A2 A3 n2 n3 c2 c3 fr fr true w (L2.out.grown0 hg) (L3.out.grown0 hg) HL2.out hl3 hc2 hm2 hc3 hm3 (by simp)
  have HE3 := hid e3
  have HN3 := hid (show n3 = n2 by rw [← hl3, HL2.out])
  have HFr := hid hfr
  clear e2 hg2 hg3 G2 hO2 hO3 hl2 hl3 hfr e3
  go_wp2_with fail
  refine (HE3.out _ (gr_refl _ _)).mono ?_
  rintro e w4 ⟨rfl, hg4⟩
  have G4 := gr_0 G3 hg4
  have HG4 := hid hg4
  clear G3
  by_cases h0 : n3 = 0
  · have q0 : ((n3 : Int) == 0) = true := by simp [h0]
    clear h0
    go_wp2_with fail
    refine (HE3.out _ HG4.out).mono ?_
    rintro e w5 ⟨rfl, hg5⟩
    go_wp2_with fail
    go_ret
    exact ⟨rfl, gr_0 G4 hg5⟩
  have q0 : ((n3 : Int) == 0) = false := by simp; omega
  have HB := hid (show idxFind key (rsem l) = findX key (rsem l) by
    unfold idxFind
    split
    · rfl
    · rename_i hb
      exfalso
      have h1 := HFr.out
      unfold idxFind at h1
      rw [if_neg hb] at h1
      have h2 := HL2.out
      rw [← h1] at h2
      have h3 := HN3.out
      simp at h2
      omega)
  have hne : fr ≠ [] := fun e => by
    have h2 := HL2.out
    rw [e] at h2
    have h3 := HN3.out
    simp at h2
    omega
  have HNe := hid hne
  have HG14 := hid (gr_0 HG13.out HG4.out)
  clear h0 hne HE3 hg4
  go_wp2_with fail
  go_loopw [7] (fun iv wr => ∃ k : Nat, iv = .int .i64 (k : Int) ∧ k ≤ N ∧ findR key ((rsem l).take k) = none ∧ w4.grownBy wr none) (fun iv _ => N - (intOf iv).toNat)
  case atStart => exact ⟨0, rfl, by omega, by simp [findR], gr_refl _ _⟩
  case round =>
    obtain ⟨k, rfl, hkn, hF, hG⟩ := hrel
    have HF := hid hF
    have GW := gr_0 G4 hG
    clear hF
    by_cases hlt : k < N
    · have hkl : k < l.length := by rw [HLn.out]; exact hlt
      have hks : k < (rsem l).length := by rw [rsem_len]; exact hkl
      have HNx := hid (findR_next hks HF.out)
      have es := rsem_at l k hkl
      have HRA := hid ((ARG.out.ats _ (List.getElem_mem hkl)).grown0 (gr_0 HG14.out hG))
      obtain ⟨g, o, hAe, hgl, hcells⟩ := ARG.out.open_ (by omega)
      have cc := hcells k hkl wr (gr_0 HG14.out hG)
      clear hcells
      obtain ⟨r, hrr⟩ : ∃ r, l[k] = r := ⟨_, rfl⟩
      simp only [es, hrr] at HNx cc HRA
      obtain ⟨rk, ra, rn, rc, rx⟩ := r
      simp only [RRow.sem] at HNx cc HRA
      have ck := cc.1
      have cp := cc.2
      have hrl := HRA.out.len
      have hrc := HRA.out.cap
      have hrm := HRA.out.max
      have b1 : (0 : Int) ≤ (k : Int) := by omega
      have b2 : (k : Int) < (N : Int) := by omega
      have e4 := hid (fun hx : rx = fr => si_is ra A2 rn n2 rc c2 rx fr true wr HRA.out.own.lies (L2.out.grown0 (gr_0 HG4.out hG)) hrl HL2.out hrc hrm hc2 hm2 (by simp [hx]))
      subst hAe
      clear cc es hrr hrl hgl
      by_cases e : rk = key
      · have e2 : (rk.toList == key.toList) = true := by rw [e]; simp
        have HX := e4.out (show rx = fr by rw [← HFr.out, HB.out, findX, HNx.out.2 e]; rfl)
        clear e HNx HF HB e4
        go_wp2_with fail
        refine HX.mono ?_
        rintro e w5 ⟨rfl, hg5⟩
        go_wp2_with fail
        go_ret
        exact ⟨rfl, gr_0 GW hg5⟩
      · have e0 : rk.toList ≠ key.toList := fun x => e (toList_inj x)
        have e2 : (rk.toList == key.toList) = false := by simpa using e0
        have HX := hid (HNx.out.1 e)
        clear e e0 HNx HF HB e4
        go_wp2_with fail
        go_roundw
        case rel => exact ⟨k + 1, by go_num, by omega, HX.out, hG⟩
        case measure => simp [intOf]; omega
    · exfalso
      have h1 := HF.out
      rw [List.take_of_length_le (by rw [rsem_len, HLn.out]; omega)] at h1
      refine HNe.out ?_
      rw [← HFr.out, HB.out, findX, h1]
      rfl
end Go.Proofs.Ytnegoaaddaofiaa
