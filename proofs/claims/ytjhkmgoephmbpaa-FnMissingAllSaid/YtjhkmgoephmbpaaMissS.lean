/- CheckMissing in spec; the drawn checkpoint. -/
import Derived.Test.YtjhkmgoephmbpaaMissing
namespace Go.Proofs.Ytjhkmgoephmbpaa
open Go.RowKit

structure SmAt (w : World) (d : Int) (xs : List Int) (y : Int) (m : Nat) (A : Option Addr) (c : Nat) (wr : World) : Prop where
  own : Own wr w.heap.size 3 1 A m c (ints ((rangeI d y).filter fun a => !decide (a ∈ xs)))
  len : ((rangeI d y).filter fun a => !decide (a ∈ xs)).length = m
  y0 : d ≤ y
  gr : w.grownBy wr none
theorem filt_len (d y : Int) (xs : List Int) : ((rangeI d y).filter fun a => !decide (a ∈ xs)).length ≤ (y - d).toNat := by
  rw [← rangeI_len]; exact List.length_filter_le _ _

set_option maxHeartbeats 2000000 in
theorem sms_any (d : Int) (A : Option Addr) (n c : Nat) (xs : List Int) (w : World) (h : Lies w A (ints xs)) (hn : xs.length = n) (hc : n ≤ c) (hm : c ≤ maxLen) (hd0 : -1000000 ≤ d) (hd1 : d ≤ 1000000) :
    Calls Try.prog 21 #[.agg #[.int .i64 d, .slice A n c]] w (MsTo w (msV d xs)) := by
  have hL := (h.alloc (.cells #[.int .i64 d, .slice A n c] 25)).alloc (.cells #[] 3)
  have F := (Full.new w 25 #[.int .i64 d, .slice A n c]).alloc (.cells #[] 3)
  have O := (Own.empty (base := w.heap.size + 1) (e := 3) (s := 1) (w.alloc (.cells #[.int .i64 d, .slice A n c] 25)) (by simp)).base_le (show w.heap.size ≤ w.heap.size + 1 by omega)
  simp only [World.size_alloc] at O
  have G0 := gr_alloc (gr_alloc (gr_refl w none) (.cells #[.int .i64 d, .slice A n c] 25)) (.cells #[] 3)
  obtain ⟨b1, hb1⟩ : ∃ b, ckB d xs = b := ⟨_, rfl⟩
  have e1 := fun w hL => sckv_is d A n c xs b1 w hL hn hc hm hd0 hd1 hb1
  have e2 := fun (y : Int) (b : Bool) w hL hb => lh_is d A n c xs y b w hL hn hc hm hb
  have HN := hid hn
  have HB1 := hid hb1
  clear hn hb1
  unfold maxLen at hm
  go_enter Try.func21, Try.ntmps21
  go_wp2_with fail
  refine (e1 _ hL).mono ?_
  rintro e w1 ⟨rfl, hg1⟩
  have F1 := F.grown hg1 (by simp)
  have hL1 := hL.grown0 hg1
  have c0 := F1.cellAt 0 rfl
  have c1 := F1.cellAt 1 rfl
  have G1 := gr_0 G0 hg1
  have O1 := O.kept0 hg1
  clear hg1
  cases b1 with
  | false =>
    have HV := hid (msV_no HB1.out)
    go_wp2_with fail
    go_ret
    exact ⟨_, _, _, rfl, by rw [HV.out]; exact O1, by rw [HV.out]; rfl, G1⟩
  | true =>
    have HV := hid (msV_yes HB1.out)
    obtain ⟨⟨d0, d1⟩, hl8, hasc⟩ := ckB_parts HB1.out
    rw [HN.out] at hl8
    have HAS := hid hasc
    clear hasc
    rcases (by omega : n = 0 ∨ 0 < n) with h0 | h0
    · have hz : ((n : Int) == 0) = true := by simp [h0]
      have HX := hid (show xs = [] from List.eq_nil_of_length_eq_zero (by rw [HN.out]; exact h0))
      clear h0
      go_wp2_with fail
      go_ret
      exact ⟨_, _, _, rfl, by rw [HV.out, HX.out]; exact O1, by rw [HV.out, HX.out]; rfl, G1⟩
    · have hz : ((n : Int) == 0) = false := by simp; omega
      have hne : xs ≠ [] := fun e => by have := HN.out; rw [e] at this; simp at this; omega
      have hkl : n - 1 < xs.length := by rw [HN.out]; omega
      have hlast : lastOf d xs = xs[n - 1] := by
        have := last_take d xs (n - 1) hkl
        rwa [List.take_of_length_le (by rw [HN.out]; omega)] at this
      have hmf := missA_filter (asc_low HAS.out (show d - 1 ≤ d by omega)) hne
      obtain ⟨x, hx⟩ : ∃ x, xs[n - 1] = x := ⟨_, rfl⟩
      rw [hlast, hx] at hmf
      have hx9 := (asc_mem HAS.out x (hx ▸ List.getElem_mem hkl))
      have HMF := hid hmf
      have HX := hid hx
      have HKL := hid hkl
      have SA : SmAt w d xs d 0 (some ⟨w.heap.size + 1, 0, none⟩) 0 w1 := ⟨by rw [rangeI_nil (Int.le_refl d)]; exact O1, by rw [rangeI_nil (Int.le_refl d)]; rfl, Int.le_refl _, G1⟩
      have HSA := hid SA
      obtain ⟨hx0, hx1⟩ := hx9
      obtain ⟨g, o, rfl, hgw, _⟩ := h.open_ (by rw [ints_len, HN.out]; exact h0)
      have HGW := hid hgw
      have bb0 : (0 : Int) ≤ (n : Int) - 1 := by omega
      have bb1 : (n : Int) - 1 < (n : Int) := by omega
      have bb2 : ((n : Int) - 1).toNat = n - 1 := by omega
      clear SA hmf hlast hne hx O1 O G0 hL F
      go_wp2_with fail
      go_loopw [3, 4] (fun v nx wr => ∃ (y : Int) (m : Nat) (A' : Option Addr) (c' : Nat), nx = .int .i64 y ∧ v = .slice A' m c' ∧ y ≤ x ∧ Full wr w.heap.size 25 #[.int .i64 d, .slice (some ⟨g, o, none⟩) n c] ∧ Lies wr (some ⟨g, o, none⟩) (ints xs) ∧ SmAt w d xs y m A' c' wr) (fun _ nx _ => (x - intOf nx).toNat)
      case atStart => exact ⟨d, 0, _, _, rfl, rfl, by omega, F1, hL1, HSA.out⟩
      case round =>
        obtain ⟨y, m, A', c', rfl, rfl, hyx, Fr, hLr, hat⟩ := hrel
        have y0 := hat.y0
        have k0 := Fr.cellAt 0 rfl
        have k1 := Fr.cellAt 1 rfl
        obtain ⟨g2, o2, hgo, hg, hcell⟩ := hLr.open_ (by rw [ints_len, HN.out]; exact h0)
        injection hgo with hgo
        injection hgo with hgo1 hgo2
        subst hgo1 hgo2
        have cx := intAt hcell HKL.out
        rw [HX.out] at cx
        have O1 := hat.own
        have G1 := hat.gr
        have hml : m ≤ 100 := by
          have := filt_len d y xs
          rw [hat.len] at this
          omega
        clear hcell
        by_cases hlt : y < x
        · obtain ⟨b, hb⟩ : ∃ b, hasB d xs y = b := ⟨_, rfl⟩
          have e3 := fun w hL => e2 y b w hL hb
          have hb' : decide (y ∈ xs) = b := by
            rw [← hb, hasB, decide_eq_false (show ¬ y < d by omega), Bool.or_false]
          have HF := hid (show (rangeI d (y + 1)).filter (fun a => !decide (a ∈ xs)) = (rangeI d y).filter (fun a => !decide (a ∈ xs)) ++ (if b then [] else [y]) by
            rw [rangeI_snoc y0, List.filter_append]
            congr 1
            rw [List.filter_cons, hb']
            cases b <;> rfl)
          clear hb hb'
          go_wp2_with fail
          refine (e3 _ hLr).mono ?_
          rintro e w3 ⟨rfl, hg3⟩
          have O3 := O1.kept0 hg3
          have G3 := gr_0 G1 hg3
          have F3 := Fr.grown hg3 (by simp)
          have L3 := hLr.grown0 hg3
          clear hg3 e3
          cases b with
          | true =>
            have ST : SmAt w d xs (y + 1) m A' c' w3 := ⟨by rw [HF.out]; simpa using O3, by rw [HF.out]; simpa using hat.len, by omega, G3⟩
            clear hat
            go_wp2_with fail
            go_roundw
            case rel => exact ⟨y + 1, m, A', c', rfl, rfl, by omega, F3, L3, ST⟩
            case measure => simp [intOf]; omega
          | false =>
            have hlen := hid hat.len
            clear hat
            go_wp2_with (at_builtin; refine wpList_push _ rfl _ _ 23 rfl w.heap.size 3 Try.underlying23 intInfo rfl (by omega) A' m c' (ints ((rangeI d y).filter fun a => !decide (a ∈ xs))) rfl (O3.alloc (.cells #[.int .i64 y] 3)) _ 1 #[.int .i64 y] rfl (Full.newAt (by simp)) rfl (by intro u hu; simp at hu; subst hu; rfl) (by omega) (by omega) (Nat.le_trans G3.size (World.grownBy_alloc _ _ none).size) ?_; intro A2 c2 wz hown hgz _)
            have ST : SmAt w d xs (y + 1) (m + 1) A2 c2 wz := by
              refine ⟨?_, ?_, by omega, gr_then (gr_alloc G3 _) hgz (fun b hb => .inr (O3.block hb).1)⟩
              · rw [HF.out, ints_app]
                exact hown
              · rw [HF.out, List.length_append, hlen.out]; rfl
            have F4 := (F3.alloc (.cells #[.int .i64 y] 3)).grown hgz (fun e => O3.ne_full F3 (by decide) _ e.symm rfl)
            have L4 := (L3.alloc (.cells #[.int .i64 y] 3)).grown hgz (fun b hb e => by
              have := (O3.block e.symm).1
              have hbg : g = b := by simpa [blockOf] using hb
              have := HGW.out
              omega)
            clear hown hgz
            go_wp2_with fail
            go_roundw
            case rel => exact ⟨y + 1, m + 1, A2, c2, rfl, by go_num, by omega, F4, L4, ST⟩
            case measure => simp [intOf]; omega
        · obtain rfl : y = x := by omega
          have HLn := hid hat.len
          clear hat
          go_wp2_with fail
          go_ret
          exact ⟨A', m, c', rfl, by rw [HV.out, ← HMF.out]; exact O1, by rw [HV.out, ← HMF.out]; exact HLn.out, G1⟩
end Go.Proofs.Ytjhkmgoephmbpaa
