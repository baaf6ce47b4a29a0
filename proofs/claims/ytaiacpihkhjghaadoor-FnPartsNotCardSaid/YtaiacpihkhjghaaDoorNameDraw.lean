/- spec's l91Name, DrawNameParts: a name of at most ten letters. -/
import Derived.Test.YtaiacpihkhjghaaDoorNameOf
import Derived.Test.YtaiacpihkhjghaaDoorOf
namespace Go.Proofs.YtaiacpihkhjghaaDoor
open Go.RowKit

/-- What a drawn text leaves. -/
def DnEnds (w : World) (B g m : Nat) (e : Ending) (w' : World) : Prop :=
  ∃ s : ByteArray, e = .returned (.string s) ∧ s.size ≤ 10 ∧ Rd 41 w' B g m ∧ w.grownBy w' (some g)

set_option maxHeartbeats 1000000 in
theorem nm91_any (B g m : Nat) (w : World) (h : Rd 41 w B g (m + 4)) :
    Calls Tryd.prog 10 #[.pointer (some ⟨g, 0, none⟩)] w (DnEnds w B g m) := by
  go_enter Tryd.func10, Tryd.ntmps10
  go_wp2_with fail
  refine (pick_any B g (m + 3) 40 _ h (by omega) (by omega)).mono ?_
  rintro e w1 ⟨k, rfl, hk1, hk2, hr1, hg1⟩
  by_cases q : k = 0
  · subst q
    have hlt := hr1.lt
    go_wp2_with fail
    refine (of_any B g m _ 7 7 [⟨#[]⟩, ⟨#[97, 99, 99, 116]⟩, ⟨#[45, 49]⟩, ⟨#[97, 99, 99, 116, 45, 48, 49]⟩, ⟨#[97, 99, 99, 116, 45, 49, 48, 48, 48]⟩, ⟨#[65, 99, 99, 116, 45, 49]⟩, ⟨#[97, 99, 99, 116, 45, 49, 45, 50]⟩] _ ((hr1.alloc _).less (by omega)) (Full.new _ _ _) rfl (by omega) (by omega)).mono ?_
    rintro e w2 ⟨s, hs, rfl, hr2, hg2⟩
    go_wp2_with fail
    go_ret
    refine ⟨s, rfl, ?_, hr2, gr_trans (gr_alloc hg1 _) hg2⟩
    simp at hs
    rcases hs with rfl | rfl | rfl | rfl | rfl | rfl | rfl <;> decide
  · have q1 : ((k : Int) == 0) = false := by simp; omega
    have hlt := hr1.lt
    go_wp2_with fail
    refine (of_any B g (m + 2) _ 3 3 [⟨#[97, 99, 99, 116]⟩, ⟨#[99, 97, 114, 116]⟩, ⟨#[97]⟩] _ ((hr1.alloc _).less (by omega)) (Full.new _ _ _) rfl (by omega) (by omega)).mono ?_
    rintro e w2 ⟨s, hs, rfl, hr2, hg2⟩
    have hs6 : s.size ≤ 10 := by
      simp at hs
      rcases hs with rfl | rfl | rfl <;> decide
    have G2 := gr_trans (gr_alloc hg1 _) hg2
    clear hs hg2
    go_wp2_with fail
    refine (pick_any B g (m + 1) 3 _ (hr2.less (by omega)) (by omega) (by omega)).mono ?_
    rintro e w3 ⟨k3, rfl, hk31, hk32, hr3, hg3⟩
    have G3 := gr_trans G2 hg3
    have e4 := fun w => no_is s k3 (nameF s k3) w (by unfold maxLen; omega) rfl
    have hz := nameF_size s k3
    obtain ⟨r, hr⟩ : ∃ r, nameF s k3 = r := ⟨_, rfl⟩
    simp only [hr] at e4 hz
    clear hr hg3 G2
    go_wp2_with fail
    refine (e4 _).mono ?_
    rintro e w4 ⟨rfl, hg4⟩
    go_wp2_with fail
    go_ret
    exact ⟨r, rfl, hz, (hr3.grown hg4 (by simp)).less (by omega), gr_0 G3 hg4⟩

/-- What DrawNameParts leaves. -/
def DnpEnds (w : World) (e : Ending) (w' : World) : Prop :=
  ∃ s : ByteArray, e = .returned (.string s) ∧ s.size ≤ 10 ∧ w.grownBy w' none
set_option maxHeartbeats 1000000 in
theorem dnp_any (A : Option Addr) (n c : Nat) (zs : List Int) (w : World) (h : Code w A n c zs) :
    Calls Tryd.prog 4 #[.slice A n c] w (DnpEnds w) := by
  go_enter Tryd.func4, Tryd.ntmps4
  go_wp2_with fail
  refine (open_any A n c zs _ h).mono ?_
  rintro e w1 ⟨g, rfl, hr1, hg1⟩
  have hB := hr1.ge
  go_wp2_with fail
  refine (pick_any _ g 90000 4 _ (hr1.less (by omega)) (by omega) (by omega)).mono ?_
  rintro e w2 ⟨k, rfl, hk1, hk2, hr2, hg2⟩
  have G2 := gr_new hg1 hg2 hB
  clear hg1 hg2
  by_cases q : k = 0
  · subst q
    have hlt := hr2.lt
    go_wp2_with fail
    refine (of_any _ g 80000 _ 10 10 [⟨#[]⟩, ⟨#[97, 99, 99, 116]⟩, ⟨#[45, 49]⟩, ⟨#[97, 99, 99, 116, 45, 48, 49]⟩, ⟨#[97, 99, 99, 116, 45, 49, 48, 48, 48]⟩, ⟨#[65, 99, 99, 116, 45, 49]⟩, ⟨#[97, 99, 99, 116, 45, 49, 45, 50]⟩, ⟨#[97, 45, 48]⟩, ⟨#[97, 98, 99, 100, 101, 102, 45, 57, 57, 57]⟩, ⟨#[97, 98, 99, 100, 101, 102, 103, 45, 49]⟩] _ ((hr2.alloc _).less (by omega)) (Full.new _ _ _) rfl (by omega) (by omega)).mono ?_
    rintro e w3 ⟨s, hs, rfl, hr3, hg3⟩
    go_wp2_with fail
    go_ret
    refine ⟨s, rfl, ?_, gr_new (gr_alloc G2 _) hg3 hB⟩
    simp at hs
    rcases hs with rfl | rfl | rfl | rfl | rfl | rfl | rfl | rfl | rfl | rfl <;> decide
  · have q1 : ((k : Int) == 0) = false := by simp; omega
    go_wp2_with fail
    refine (nm91_any _ g 80000 _ (hr2.less (by omega))).mono ?_
    rintro e w3 ⟨s, rfl, hs, hr3, hg3⟩
    go_wp2_with fail
    go_ret
    exact ⟨s, rfl, hs, gr_new G2 hg3 hB⟩
end Go.Proofs.YtaiacpihkhjghaaDoor
