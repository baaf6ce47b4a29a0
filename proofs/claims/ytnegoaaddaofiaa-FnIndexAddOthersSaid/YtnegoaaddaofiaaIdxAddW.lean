/- The walk of FnIndexAdd. -/
import Derived.Test.YtnegoaaddaofiaaIdxAdd
import Derived.Test.YtnegoaaddaofiaaIdxAddS
import Derived.Test.YtnegoaaddaofiaaIdxDraw
import Derived.Test.YtnegoaaddaofiaaRowsSame
import Derived.Test.YtnegoaaddaofiaaFindW
namespace Go.Proofs.Ytnegoaaddaofiaa
open Go.RowKit

/-- What was added is little more than what there was. -/
theorem add_small {w : World} {ors l : List RRow} {key : ByteArray} {p : Int} {n N : Nat} (hs : rsem ors = addR key p (rsem l)) (hl : ors.length = n) (hN : l.length = N) (h7 : N ≤ 7) (hsp : (spots (rsem l)).length ≤ 100) (hok : ∀ r ∈ ors, r.ok w) : n ≤ 8 ∧ (spots (rsem ors)).length ≤ 200 ∧ ∀ r ∈ ors, r.n ≤ 1000 := by
  have h1 := addR_len key p (rsem l)
  rw [← hs] at h1
  simp only [rsem_len] at h1
  obtain ⟨h1, h2⟩ := h1
  refine ⟨by omega, by omega, fun r hr => Nat.le_trans (rows_small (N := 200) (by omega) hok r hr) (by omega)⟩

set_option maxHeartbeats 4000000 in
theorem indexAdd_walk (A : Option Addr) (n c : Nat) (zs : List Int) (w : World) (h : Code w A n c zs) :
    Calls Try.prog 5 #[.slice A n c] w fun e w' => e = .returned (.bool true) ∧ w.grownBy w' none := by
  have hc := h.cap
  have hm := h.max
  unfold maxLen at hm
  by_cases h1 : n > 1048576
  · go_enter Try.func5, Try.ntmps5
    go_wp2
    go_ret
    exact ⟨rfl, gr_refl _ _⟩
  go_enter Try.func5, Try.ntmps5
  go_wp2_with fail
  refine (dia_any A n c zs _ h).mono ?_
  rintro e w1 ⟨B, N, C, l, key, p, rfl, hO, hl, hN, hok, hsp, hky, hp, hg1⟩
  have hCm := hO.max
  have hC := hO.cap
  unfold maxLen at hCm
  have ARG := hid (RArg.of_own hO hl hok)
  obtain ⟨ok, hb⟩ : ∃ b, iaOk key p (rsem l) = b := ⟨_, rfl⟩
  have hky2 : key.size ≤ maxLen := by unfold maxLen; omega
  have e1 := ia_any B N C l key p ok w1 ARG.out hky2 (by omega) (fun r hr => Nat.le_trans (rows_small hsp hok r hr) (by omega)) hb
  have e2 := fun w (hg : w1.grownBy w none) => sia_any B N C l key p ok w (ARG.out.grown0 hg) hky2 (by omega) (by omega) (fun r hr => Nat.le_trans (rows_small hsp hok r hr) (by omega)) hb
  have e5 := hid (fun w (hg : w1.grownBy w none) => if_any B N C l key w (ARG.out.grown0 hg) (by omega) (fun r hr => Nat.le_trans (rows_small hsp hok r hr) (by omega)))
  have HB := hid hb
  have HS := hid (And.intro hl (And.intro hN hsp))
  clear hl hO hok hsp hb hp hky hky2
  go_wp2_with fail
  refine e1.mono ?_
  rintro e w2 ⟨A2, n2, c2, o2, rfl, hO2, hl2, hok2, hr2, hg2⟩
  have G2 := gr_0 hg1 hg2
  have ARG2 := hid (RArg.of_own hO2 hl2 hok2)
  have HR2 := hid hr2
  have HK2 := hid (And.intro hl2 hok2)
  have hC2 := hO2.cap
  have hM2 := hO2.max
  unfold maxLen at hM2
  clear e1 hO2 hl2 hok2 hr2
  go_wp2_with fail
  refine (e2 _ hg2).mono ?_
  rintro e w3 ⟨A3, n3, c3, o3, rfl, hO3, hl3, hok3, hr3, hg3⟩
  have G3 := gr_0 G2 hg3
  have K3 := gr_0 hg2 hg3
  have e3 := hid (fun w (hg : w3.grownBy w none) => srs_same A2 A3 n2 c2 n3 c3 o2 o3 w (ARG2.out.grown0 (gr_0 hg3 hg)) ((RArg.of_own hO3 hl3 hok3).grown0 hg) (by rw [HR2.out, hr3]))
  have HG3 := hid hg3
  clear e2 hO3 hl3 hok3 hr3 hg3 hg2 G2
  cases ok with
  | false =>
    clear e5 HB
    go_wp2_with fail
    refine (e3.out _ (gr_refl _ _)).mono ?_
    rintro e w4 ⟨rfl, hg4⟩
    go_wp2_with fail
    refine (e3.out _ hg4).mono ?_
    rintro e w5 ⟨rfl, hg5⟩
    go_wp2_with fail
    go_ret
    exact ⟨rfl, gr_0 (gr_0 G3 hg4) hg5⟩
  | true =>
  have HSM := hid (add_small (key := key) (p := p) (by rw [HR2.out]; rfl) HK2.out.1 HS.out.1 HS.out.2.1 HS.out.2.2 HK2.out.2)
  have e4 := hid (fun w (hg : w2.grownBy w none) => if_any A2 n2 c2 o2 key w (ARG2.out.grown0 hg) (by have := HSM.out.1; omega) HSM.out.2.2)
  have e6 := hid (fun w (hg : w2.grownBy w none) => iv_is A2 n2 c2 o2 true w (ARG2.out.grown0 hg) (by rw [HR2.out]; exact ia_valid HB.out))
  go_wp2_with fail
  refine (e3.out _ (gr_refl _ _)).mono ?_
  rintro e w4 ⟨rfl, hg4⟩
  have G4 := gr_0 G3 hg4
  have K4 := gr_0 K3 hg4
  have L4 := gr_0 HG3.out hg4
  clear e3 hg4 K3 G3
  go_wp2_with fail
  refine (e4.out _ L4).mono ?_
  rintro e w5 ⟨A5, n5, c5, rfl, hO5, hl5, hg5⟩
  have G5 := gr_0 G4 hg5
  have K5 := gr_0 K4 hg5
  have L5 := gr_0 L4 hg5
  clear e4 K4 G4 L4
  go_wp2_with fail
  refine (e5.out _ K5).mono ?_
  rintro e w6 ⟨A6, n6, c6, rfl, hO6, hl6, hg6⟩
  have G6 := gr_0 G5 hg6
  have L6 := gr_0 L5 hg6
  have hC5 := hO5.cap
  have hM5 := hO5.max
  have hC6 := hO6.cap
  have hM6 := hO6.max
  unfold maxLen at hM5 hM6
  have hx : idxFind key (rsem o2) = idxFind key (rsem l) ++ [p] := by rw [HR2.out]; exact ia_same HB.out
  rw [hx] at hO5 hl5
  obtain ⟨ys, hys⟩ : ∃ ys, idxFind key (rsem l) = ys := ⟨_, rfl⟩
  rw [hys] at hO5 hl5 hO6 hl6
  have hn56 : n5 = n6 + 1 := by rw [← hl5, ← hl6]; simp
  subst hn56
  have hO5' := hO5.kept0 hg6
  have HT := hid (show (ints (ys ++ [p])).take (n6 * 1) = ints ys by rw [Nat.mul_one, ints_snoc, List.take_left' (by rw [ints_len, hl6])])
  have HO5 := hid hO5'
  have e7 := hid (fun w (hg : w6.grownBy w none) => si_is A5 A6 n6 n6 c5 c6 ys ys true w (by have := hO5'.lies.take (n6 * 1); rw [HT.out] at this; exact this.grown0 hg) (hO6.lies.grown0 hg) hl6 hl6 (by omega) (by unfold maxLen; omega) hC6 (by unfold maxLen; omega) (by simp))
  obtain ⟨ga, oa, hra1, hgal, hci⟩ := hO5'.lies.open_ (by rw [ints_len, List.length_append]; simp)
  subst hra1
  have hml : n6 < (ys ++ [p]).length := by simp [hl6]
  have cz := fun (w' : World) (hg : w6.grownBy w' none) => intAt (fun j u hu => hg.cell (hci j u hu) (by simp)) hml
  have hy : (ys ++ [p])[n6] = p := by
    rw [List.getElem_append_right (by omega)]
    simp [hl6]
  rw [hy] at cz
  clear hx hys hl5 hO5 hO6 hO5' hml hci hy K5 G5 e5 hg5 hg6 L5 hgal
  go_wp2_with fail
  refine (e6.out _ L6).mono ?_
  rintro e w7 ⟨rfl, hg7⟩
  have G7 := gr_0 G6 hg7
  have c7 := cz w7 hg7
  have b1 : (0 : Int) ≤ (n6 : Int) := by omega
  have b2 : (n6 : Int) < ((n6 + 1 : Nat) : Int) := by omega
  have b3 : (n6 : Int) < (n6 : Int) + 1 := by omega
  have b4 : (n6 : Int) ≤ (c5 : Int) := by omega
  have i4 : IntKind.i64.wrap (((n6 + 1 : Nat) : Int) - 1) = (n6 : Int) := by rw [IntWalk.i64_in _ (by omega)]; omega
  have i5 : IntKind.i64.wrap (((n6 : Int) + 1) - 1) = (n6 : Int) := by rw [IntWalk.i64_in _ (by omega)]; omega
  have i6 : IntKind.i64.wrap (n6 : Int) = (n6 : Int) := IntWalk.i64_in _ (by omega)
  have i7 : IntKind.i64.wrap ((n6 : Int) + 1) = (n6 : Int) + 1 := IntWalk.i64_in _ (by omega)
  clear e6 cz hl6
  go_wp2_with fail
  refine (e7.out _ hg7).mono ?_
  rintro e w8 ⟨rfl, hg8⟩
  go_wp2_with fail
  go_ret
  exact ⟨rfl, gr_0 G7 hg8⟩
end Go.Proofs.Ytnegoaaddaofiaa
