/- CheckMark in spec, sameCheck. -/
import Derived.Test.YtjhkmgoephmbpaaMark
import Derived.Test.YtjhkmgoephmbpaaPut
import Derived.Test.YtjhkmgoephmbpaaCkS
import Derived.Deep.RegionHeld3
import Derived.Deep.DeepCutAuto
namespace Go.Proofs.Ytjhkmgoephmbpaa
open Go.RowKit

set_option maxHeartbeats 1000000 in
theorem sc_is (d1 d2 : Int) (A B : Option Addr) (n m cA cB : Nat) (xs ys : List Int) (b : Bool) (w : World) (hA : Lies w A (ints xs)) (hB : Lies w B (ints ys)) (hn : xs.length = n) (hm : ys.length = m) (hcA : n ≤ cA) (hMA : cA ≤ maxLen) (hcB : m ≤ cB) (hMB : cB ≤ maxLen) (hb : decide (d1 = d2 ∧ xs = ys) = b) :
    Calls Try.prog 26 #[.agg #[.int .i64 d1, .slice A n cA], .agg #[.int .i64 d2, .slice B m cB]] w fun e w' => e = .returned (.bool b) ∧ w.grownBy w' none := by
  have G0 := gr_alloc (gr_alloc (gr_refl w none) (.cells #[.int .i64 d1, .slice A n cA] 25)) (.cells #[.int .i64 d2, .slice B m cB] 25)
  rcases (by omega : d1 = d2 ∨ d1 ≠ d2) with h | h
  · subst h
    have e1 := fun w hA hB => si_is A B n m cA cB xs ys b w hA hB hn hm hcA hMA hcB hMB (by rw [← hb]; simp)
    have hA1 := (hA.alloc (.cells #[.int .i64 d1, .slice A n cA] 25)).alloc (.cells #[.int .i64 d1, .slice B m cB] 25)
    have hB1 := (hB.alloc (.cells #[.int .i64 d1, .slice A n cA] 25)).alloc (.cells #[.int .i64 d1, .slice B m cB] 25)
    clear hb hn hm
    go_enter Try.func26, Try.ntmps26
    go_wp2_with fail
    refine (e1 _ hA1 hB1).mono ?_
    rintro e w1 ⟨rfl, hg1⟩
    go_wp2_with fail
    go_ret
    exact ⟨rfl, gr_0 G0 hg1⟩
  · have hd : (d1 == d2) = false := by simpa using h
    have HF := hid (show b = false by rw [← hb]; simp [h])
    clear hb h hn hm
    go_enter Try.func26, Try.ntmps26
    go_wp2_with fail
    go_ret
    exact ⟨ret_bool HF.out.symm, G0⟩
end Go.Proofs.Ytjhkmgoephmbpaa
