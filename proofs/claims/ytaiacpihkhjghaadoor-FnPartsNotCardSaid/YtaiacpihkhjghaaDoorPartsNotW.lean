/- The walk of FnPartsNot. -/
import Derived.Test.YtaiacpihkhjghaaDoorParts
import Derived.Test.YtaiacpihkhjghaaDoorNameDraw
namespace Go.Proofs.YtaiacpihkhjghaaDoor
open Go.RowKit

set_option maxHeartbeats 2000000 in
theorem partsNot_walk (A : Option Addr) (n c : Nat) (zs : List Int) (a : Addr) (w : World) (h : Code w A n c zs) (hE : Sent w a) :
    Calls Tryd.prog 3 #[.slice A n c] w fun e w' => e = .returned (.bool true) ∧ w.grownBy w' none := by
  have hc := h.cap
  have hm := h.max
  unfold maxLen at hm
  have HE := hid hE
  clear hE
  by_cases h1 : n > 1048576
  · go_enter Tryd.func3, Tryd.ntmps3
    go_wp2
    go_ret
    exact ⟨rfl, gr_refl _ _⟩
  go_enter Tryd.func3, Tryd.ntmps3
  go_wp2_with fail
  refine (dnp_any A n c zs _ h).mono ?_
  rintro e w1 ⟨s, rfl, hs, hg1⟩
  have hs2 : s.size ≤ maxLen := by unfold maxLen; omega
  obtain ⟨o, ho⟩ : ∃ o, partsOf s = o := ⟨_, rfl⟩
  have e1 := np_is s o a w1 hs2 (HE.out.grown0 hg1) ho
  have e2 := fun w => snp_is s o w hs2 ho
  have HO := hid ho
  clear ho
  cases o with
  | none =>
    unfold ptup at e1 e2
    go_wp2_with fail
    refine e1.mono ?_
    rintro e w2 ⟨rfl, hg2⟩
    go_wp2_with fail
    refine (e2 _).mono ?_
    rintro e w3 ⟨rfl, hg3⟩
    go_wp2_with fail
    go_ret
    exact ⟨rfl, gr_0 (gr_0 hg1 hg2) hg3⟩
  | some q =>
    unfold ptup at e1 e2
    go_wp2_with fail
    refine e1.mono ?_
    rintro e w2 ⟨rfl, hg2⟩
    go_wp2_with fail
    refine (e2 _).mono ?_
    rintro e w3 ⟨rfl, hg3⟩
    have G3 := gr_0 (gr_0 hg1 hg2) hg3
    have e3 := fun w (hE : Sent w a) => np_is (s ++ ⟨#[97]⟩) none a w (by rw [app_size]; unfold maxLen; have : (⟨#[97]⟩ : ByteArray).size = 1 := rfl; omega) hE (parts_more HO.out)
    have e4 := fun w (hE : Sent w a) => np_is (⟨#[45]⟩ ++ s) none a w (by rw [app_size]; unfold maxLen; have : (⟨#[45]⟩ : ByteArray).size = 1 := rfl; omega) hE (parts_front s)
    have s1 : ¬ 9223372036854775807 < s.size + 1 := by omega
    have s2 : ¬ 9223372036854775807 < 1 + s.size := by omega
    unfold ptup at e3 e4
    clear hg1 hg2 hg3 e1 e2
    go_wp2_with fail
    refine (e3 _ (HE.out.grown0 G3)).mono ?_
    rintro e w4 ⟨rfl, hg4⟩
    have G4 := gr_0 G3 hg4
    clear G3 hg4 e3
    go_wp2_with fail
    refine (e4 _ (HE.out.grown0 G4)).mono ?_
    rintro e w5 ⟨rfl, hg5⟩
    go_wp2_with fail
    go_ret
    exact ⟨rfl, gr_0 G4 hg5⟩
end Go.Proofs.YtaiacpihkhjghaaDoor
