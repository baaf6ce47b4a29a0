/- The walk of FnShareEven. -/
import Derived.Test.YtmjficimnkbonaaShareW
namespace Go.Proofs.Ytmjficimnkbonaa
open Go.RowKit

set_option maxHeartbeats 4000000 in
theorem shareEven_walk (A : Option Addr) (n c : Nat) (zs : List Int) (w : World) (h : Code w A n c zs) :
    Calls Try.prog 9 #[.slice A n c] w fun e w' => e = .returned (.bool true) ∧ w.grownBy w' none := by
  have hc := h.cap
  have hm := h.max
  unfold maxLen at hm
  by_cases h1 : n > 1048576
  · go_enter Try.func9, Try.ntmps9
    go_wp2
    go_ret
    exact ⟨rfl, gr_refl _ _⟩
  go_enter Try.func9, Try.ntmps9
  go_wp2_with fail
  refine (dgs_any A n c zs _ h).mono ?_
  rintro e w1 ⟨s, P, N, C, ms, x, rfl, hP, hN, hsz, hs0, hs9, hx, hg1⟩
  have hC := hP.cap
  have hCm := hP.max
  unfold maxLen at hCm
  have X1 := Full.new w1 25 #[.int .i64 s, .slice P N C]
  have P1 := hP.alloc (.cells #[.int .i64 s, .slice P N C] 25)
  have G1 := gr_alloc hg1 (.cells #[.int .i64 s, .slice P N C] 25)
  obtain ⟨sh, hsh⟩ : ∃ v, shareOf s ms x = v := ⟨_, rfl⟩
  obtain ⟨b, hb⟩ : ∃ b, grpB s ms = b := ⟨_, rfl⟩
  have HSH := hid hsh
  have HB := hid hb
  have HL := hid hP.len
  have hshl := hid (show sh.length ≤ 9 from by
    rw [← hsh]
    by_cases q : grpB s ms = true
    · have := share_len (m := x) q; omega
    · rw [shareOf_no (by simpa using q)]; simp)
  have e1 := gsh_any s P N C ms x _ P1
  rw [hsh] at e1
  have c0 := X1.cellAt 0 (v := .int .i64 s) rfl
  have c1 := X1.cellAt 1 (v := .slice P N C) rfl
  clear hsh hb hP hg1 hsz
  go_wp2_with fail
  refine e1.mono ?_
  rintro e w2 ⟨U, nU, cU, rfl, hU, hUl, hg2⟩
  have X2 := X1.grown hg2 (by simp)
  have P2 := P1.grown0 hg2
  have G2 := gr_0 G1 hg2
  have e2 := sgsh_any s P N C ms x _ P2
  rw [HSH.out] at e2
  clear e1 X1 P1 G1 hg2 c0 c1
  have c0 := X2.cellAt 0 (v := .int .i64 s) rfl
  have c1 := X2.cellAt 1 (v := .slice P N C) rfl
  go_wp2_with fail
  refine e2.mono ?_
  rintro e w3 ⟨V, nV, cV, rfl, hV, hVl, hg3⟩
  have X3 := X2.grown hg3 (by simp)
  have P3 := P2.grown0 hg3
  have U3 := hU.kept0 hg3
  have G3 := gr_0 G2 hg3
  have hUn : nU ≤ 9 := by have := hshl.out; omega
  obtain rfl : nV = nU := hVl.symm.trans hUl
  have HUl := hid hUl
  have hcU := U3.cap
  have hmU := U3.max
  have hcV := hV.cap
  have hmV := hV.max
  have e3 := fun w (hU : Lies w U (ints sh)) (hV : Lies w V (ints sh)) => si_is U V nV nV cU cV sh sh true w hU hV hUl hUl hcU hmU hcV hmV (by simp)
  unfold maxLen at hmU hmV
  have e3a := e3 w3 U3.lies hV.lies
  clear e2 X2 P2 G2 hg3 hU c0 c1 hUl hVl
  go_wp2_with fail
  refine e3a.mono ?_
  rintro e w4 ⟨rfl, hg4⟩
  have X4 := X3.grown hg4 (by simp)
  have P4 := P3.grown0 hg4
  have U4 := U3.kept0 hg4
  have V4 := hV.kept0 hg4
  have G4 := gr_0 G3 hg4
  clear e3a X3 P3 U3 hV G3 hg4
  have c0 := X4.cellAt 0 (v := .int .i64 s) rfl
  have c1 := X4.cellAt 1 (v := .slice P N C) rfl
  have e4 := sgv_is s P N C ms b _ P4 HB.out
  go_wp2_with fail
  refine e4.mono ?_
  rintro e w5 ⟨rfl, hg5⟩
  have X5 := X4.grown hg5 (by simp)
  have P5 := P4.grown0 hg5
  have U5 := U4.kept0 hg5
  have V5 := V4.kept0 hg5
  have G5 := gr_0 G4 hg5
  clear e4 X4 P4 U4 V4 G4 hg5 c0 c1
  cases b with
  | false =>
    have e5 := e3 _ U5.lies V5.lies
    go_wp2_with fail
    refine e5.mono ?_
    rintro e w6 ⟨rfl, hg6⟩
    go_wp2_with fail
    go_ret
    exact ⟨rfl, gr_0 G5 hg6⟩
  | true =>
    have hbs := (grpB_iff.1 HB.out).1
    have hbn := (grpB_iff.1 HB.out).2.1
    have hNl := HL.out
    obtain ⟨hs1, hs8⟩ := hbs
    obtain ⟨hn1, hn6⟩ := hbn
    have hN1 : 1 ≤ N := by omega
    have hN6 : N ≤ 6 := by omega
    obtain ⟨S, hS⟩ := Int.eq_ofNat_of_zero_le (show 0 ≤ s by omega)
    subst hS
    have hS8 : S ≤ 8 := by omega
    clear hn1 hn6 hs0 hs9 e3 V5
    have HX5 := hid X5
    have HP5 := hid P5
    have HU5 := hid U5
    have c0 := X5.cellAt 0 (v := .int .i64 (S : Int)) rfl
    clear X5 P5 U5
    go_wp2_with fail
    clear c0
    go_loopw [7, 8, 9] (fun lo hi i wr => ∃ k : Nat, lo = .int .i64 (lows S N k : Nat) ∧ hi = .int .i64 (highs S N k : Nat) ∧ i = .int .i64 (k : Int) ∧ k ≤ N ∧ Full wr w1.heap.size 25 #[.int .i64 (S : Int), .slice P N C] ∧ SArg wr P N C ms ∧ w.grownBy wr none) (fun _ _ i _ => N - (intOf i).toNat)
    case atStart => exact ⟨0, rfl, rfl, rfl, by omega, HX5.out, HP5.out, G5⟩
    case round =>
      clear HX5 HP5 HU5 G5
      obtain ⟨k, rfl, rfl, rfl, hkN, hX, hP, hG⟩ := hrel
      have hll := lows_le S N k
      have hhl := highs_le S N k
      obtain ⟨lo, hlo⟩ : ∃ v, lows S N k = v := ⟨_, rfl⟩
      obtain ⟨hi, hhi⟩ : ∃ v, highs S N k = v := ⟨_, rfl⟩
      rw [hlo] at hll
      rw [hhi] at hhl
      simp only [hlo, hhi]
      have HLo := hid hlo
      have HHi := hid hhi
      clear hlo hhi
      have c1 := hX.cellAt 1 (v := .slice P N C) rfl
      by_cases hlt : k < N
      · have hkl : k < ms.length := by omega
        obtain ⟨gP, oP, rfl, hgP, hcell⟩ := hP.li.open_ (by rw [strs_len]; omega)
        have hCm' := memCells hcell hkl
        have HSA := hid (share_at (s := (S : Int)) HB.out hkl)
        obtain ⟨m, hm'⟩ : ∃ m, ms[k] = m := ⟨_, rfl⟩
        simp only [hm'] at hCm' HSA
        have c0 := hX.cellAt 0 (v := .int .i64 (S : Int)) rfl
        have hC0 : ∀ w' : World, wr.grownBy w' none → w'.cell? ⟨w1.heap.size, 0, none⟩ = some (.int .i64 (S : Int)) := fun w' h => h.cell c0 (by simp)
        have hC1 : ∀ w' : World, wr.grownBy w' none → w'.cell? ⟨w1.heap.size, 1, none⟩ = some (.slice (some ⟨gP, oP, none⟩) N C) := fun w' h => h.cell c1 (by simp)
        have b1 : (0 : Int) ≤ (k : Int) := by omega
        have b2 : (k : Int) < (N : Int) := by omega
        have HP := hid hP
        have HX := hid hX
        clear hm' hcell hP hX c0
        go_wp2_with fail
        clear c1
        go_region_held3 (fun w' => wr.grownBy w' none) (repeat (first | (with_reducible assumption) | (with_reducible exact gr_refl _ _) | (with_reducible refine gr_drew ?_) | (with_reducible refine gr_0 ?_ hg7)))
          ((go_at_call 29
            refine (gsh_any (S : Int) _ N C ms m _ (HP.out.grown0 (gr_drew (gr_refl wr none)))).mono ?_
            rintro e w7 ⟨Q, nQ, cQ, rfl, hQ, hQl, hg7⟩
            skip))
        have hQ7 := hid (show (mods S N k).length = nQ by rw [← hQl, HSA.out, HL.out, Int.toNat_natCast])
        have hnQ : nQ ≤ S := by rw [← hQ7.out]; exact picks_len S _
        have G7 := gr_0 (gr_drew (gr_refl wr none)) hg7
        have X7 := HX.out.grown G7 (by simp)
        have P7 := HP.out.grown0 G7
        have GG := gr_0 hG G7
        have mn : (if (nQ : Int) < (lo : Int) then (nQ : Int) else (lo : Int)) = ((min lo nQ : Nat) : Int) := by split <;> omega
        have mx : (if (hi : Int) < (nQ : Int) then (nQ : Int) else (hi : Int)) = ((max hi nQ : Nat) : Int) := by split <;> omega
        have HLoN := hid (show lows S N (k + 1) = min lo nQ by rw [lows, HLo.out, hQ7.out])
        have HHiN := hid (show highs S N (k + 1) = max hi nQ by rw [highs, HHi.out, hQ7.out])
        clear hC0 hC1 hCm' hQ hQl hg7 G7
        go_wp2_with fail
        go_roundw
        case rel => exact ⟨k + 1, by rw [HLoN.out]; first | rfl | (congr 1; omega) | (simp only [mn]) , by rw [HHiN.out]; first | rfl | (congr 1; omega) | (simp only [mx]), by go_num, by omega, X7, P7, GG⟩
        case measure => simp [intOf]; omega
      · obtain rfl : k = N := by omega
        have HEv := hid (share_even (m := x) HB.out)
        have hev := hid (show hi ≤ lo + 1 ∧ nV ≤ hi by
          have := HEv.out
          rw [HSH.out, HUl.out, HL.out, Int.toNat_natCast, HLo.out, HHi.out] at this
          exact this)
        have i1 : IntKind.i64.wrap ((hi : Int) - (lo : Int)) = hi - lo := IntWalk.i64_in _ (by omega)
        have d1 : decide ((hi : Int) - (lo : Int) ≤ 1) = true := by have := hev.out.1; simp; omega
        have d2 : decide ((nV : Int) ≤ (hi : Int)) = true := by have := hev.out.2; simp; omega
        have d3 : decide (nV ≤ hi) = true := by have := hev.out.2; simp; omega
        go_wp2_with fail
        go_ret
        exact ⟨ret_bool (by first | rfl | simp [d1, d2, d3]), hG⟩

end Go.Proofs.Ytmjficimnkbonaa
