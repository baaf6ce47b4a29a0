/- Two rows, and two slices of rows, that tell the same: laws.sameRow and laws.sameRows say so. -/
import Derived.Test.YtnegoaaddaofiaaRow
import Derived.Test.YtnegoaaddaofiaaSame
import Derived.Deep.RegionHeld3
namespace Go.Proofs.Ytnegoaaddaofiaa
open Go.RowKit

set_option maxHeartbeats 1000000 in
theorem srw_same (k : ByteArray) (A B : Option Addr) (n c m d : Nat) (xs : List Int) (w : World) (hA : Own w 0 3 1 A n c (ints xs)) (hB : Own w 0 3 1 B m d (ints xs)) (hn : xs.length = n) (hm : xs.length = m) :
    Calls Try.prog 34 #[.agg #[.string k, .slice A n c], .agg #[.string k, .slice B m d]] w fun e w' => e = .returned (.bool true) ∧ w.grownBy w' none := by
  have G0 := gr_alloc (gr_alloc (gr_refl w none) (.cells #[.string k, .slice A n c] 33)) (.cells #[.string k, .slice B m d] 33)
  have e1 := si_is A B n m c d xs xs true _ (hA.lies.grown0 G0) (hB.lies.grown0 G0) hn hm hA.cap hA.max hB.cap hB.max (by simp)
  clear hA hB hn hm
  go_enter Try.func34, Try.ntmps34
  go_wp2_with fail
  refine e1.mono ?_
  rintro e w1 ⟨rfl, hg⟩
  have G1 := gr_0 G0 hg
  clear e1
  go_wp2_with fail
  go_ret
  exact ⟨rfl, G1⟩

set_option maxHeartbeats 2000000 in
theorem srs_same (A B : Option Addr) (n c m d : Nat) (xs ys : List RRow) (w : World) (hA : RArg w A n c xs) (hB : RArg w B m d ys) (he : rsem xs = rsem ys) :
    Calls Try.prog 17 #[.slice A n c, .slice B m d] w fun e w' => e = .returned (.bool true) ∧ w.grownBy w' none := by
  have hMA := hA.max
  have hMB := hB.max
  have hcA := hA.cap
  have hcB := hB.cap
  unfold maxLen at hMA hMB
  obtain rfl : n = m := by rw [← hA.len, ← hB.len, ← rsem_len xs, ← rsem_len ys, he]
  have HA := hid hA
  have HB := hid hB
  have HE := hid he
  clear hA hB he
  go_enter Try.func17, Try.ntmps17
  go_wp2_with fail
  go_loopw [5] (fun i wr => ∃ k : Nat, i = .int .i64 k ∧ k ≤ n ∧ w.grownBy wr none) (fun i _ => n - (intOf i).toNat)
  case atStart => exact ⟨0, rfl, by omega, gr_refl _ _⟩
  case round =>
    obtain ⟨k, rfl, hkn, hgr⟩ := hrel
    by_cases hlt : k < n
    · have hk1 : k < xs.length := by rw [HA.out.len]; exact hlt
      have hk2 : k < ys.length := by rw [HB.out.len]; exact hlt
      have hq : xs[k].sem = ys[k].sem := by
        rw [← rsem_at xs k hk1, ← rsem_at ys k hk2]
        have := HE.out
        congr 1
      obtain ⟨g, o, hAe, hg, hc1⟩ := HA.out.open_ (by omega)
      obtain ⟨g', o', hBe, hg', hc2⟩ := HB.out.open_ (by omega)
      have ca := fun w2 (hg2 : wr.grownBy w2 none) => (hc1 k hk1 w2 (gr_0 hgr hg2)).1
      have cb := fun w2 (hg2 : wr.grownBy w2 none) => (hc1 k hk1 w2 (gr_0 hgr hg2)).2
      have da := fun w2 (hg2 : wr.grownBy w2 none) => (hc2 k hk2 w2 (gr_0 hgr hg2)).1
      have db := fun w2 (hg2 : wr.grownBy w2 none) => (hc2 k hk2 w2 (gr_0 hgr hg2)).2
      have hoA := (HA.out.ats _ (List.getElem_mem hk1)).grown0 hgr
      have hoB := (HB.out.ats _ (List.getElem_mem hk2)).grown0 hgr
      obtain ⟨z, hz⟩ : ∃ z, xs[k] = z := ⟨_, rfl⟩
      obtain ⟨y, hy⟩ : ∃ z, ys[k] = z := ⟨_, rfl⟩
      rw [hz] at ca cb hoA hq
      rw [hy] at da db hoB hq
      obtain ⟨zk, za, zn, zc, zx⟩ := z
      obtain ⟨yk, ya, yn, yc, yx⟩ := y
      simp only [RRow.sem] at ca cb da db hq
      obtain ⟨rfl, rfl⟩ := Prod.mk.inj hq
      have e1 := fun w2 (hg2 : wr.grownBy w2 none) => srw_same zk za ya zn zc yn yc zx w2 (hoA.own.kept0 hg2) (hoB.own.kept0 hg2) hoA.len hoB.len
      have HE1 := hid e1
      subst hAe hBe
      have b1 : (0 : Int) ≤ (k : Int) := by omega
      have b2 : (k : Int) < (n : Int) := by omega
      clear hz hy hc1 hc2 hoA hoB hq e1
      go_wp2_with fail
      go_region_held3 (fun w' => wr.grownBy w' none) (((repeat (first | (with_reducible assumption) | (with_reducible exact gr_refl _ _) | (with_reducible refine gr_alloc ?_ _) | (with_reducible refine gr_drew ?_))); (first | done | fail "left")))
        (first
          | (go_at_call 34
             refine (HE1.out _ (show wr.grownBy _ none by ((repeat (first | (with_reducible assumption) | (with_reducible exact gr_refl _ _) | (with_reducible refine gr_alloc ?_ _) | (with_reducible refine gr_drew ?_))); (first | done | fail "left")))).mono ?_
             rintro e w2 ⟨rfl, hg2⟩
             have G2 : wr.grownBy w2 none := gr_0 (show wr.grownBy _ none by ((repeat (first | (with_reducible assumption) | (with_reducible exact gr_refl _ _) | (with_reducible refine gr_alloc ?_ _) | (with_reducible refine gr_drew ?_))); (first | done | fail "left"))) hg2
             clear hg2))
      all_goals
        go_wp2_with fail
        go_roundw
        case rel => exact ⟨k + 1, by go_num, by omega, gr_0 hgr (show wr.grownBy _ none by ((repeat (first | (with_reducible assumption) | (with_reducible exact gr_refl _ _) | (with_reducible refine gr_alloc ?_ _) | (with_reducible refine gr_drew ?_))); (first | done | fail "left")))⟩
        case measure => simp [intOf]; omega
    · go_wp2_with fail
      go_ret
      exact ⟨rfl, hgr⟩
end Go.Proofs.Ytnegoaaddaofiaa
