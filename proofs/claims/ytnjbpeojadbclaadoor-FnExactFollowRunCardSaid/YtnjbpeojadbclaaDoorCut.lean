/- strings.Cut at a hyphen. -/
import Derived.Test.YtnjbpeojadbclaaDoorSParts
import Derived.Lib.Walk
import Derived.Lib.Strings
import Derived.Lib.Bytealg
import Derived.BigQuiet
namespace Go.Proofs.YtnjbpeojadbclaaDoor
open Go.RowKit

theorem hyI_lib (s : ByteArray) : Go.Lib.indexByte s.data.toList 45 = hyI s.data.toList := hy_index _

set_option maxHeartbeats 1000000 in
theorem ib_is (s : ByteArray) (r : Int) (w : World) (hr : hyI s.data.toList = r) :
    Calls Tryd.prog 52 #[.string s, .int .u8 45] w fun e w' => e = .returned (.int .i64 r) ∧ w = w' := by
  have HR := hid hr
  clear hr
  go_enter Tryd.func52, Tryd.ntmps52
  go_wp2
  rw [run_callFunc_extern Tryd.func56 (by kernel_rfl) (by kernel_rfl) (by kernel_rfl) (e := Extern.BytealgIndexByte.indexByte) (by kernel_rfl), Go.Lib.run_indexByteString]
  simp only [Result.andThen]
  rw [Oper.upon_value]
  go_wp2
  go_ret
  refine ⟨?_, rfl⟩
  rw [← HR.out, ← hyI_lib]
  rfl

set_option maxHeartbeats 1000000 in
set_option maxRecDepth 100000 in
theorem ix_is (s : ByteArray) (r : Int) (w : World) (hs : s.size ≤ maxLen) (hr : hyI s.data.toList = r) :
    Calls Tryd.prog 51 #[.string s, .string ⟨#[45]⟩] w fun e w' => e = .returned (.int .i64 r) ∧ w = w' := by
  have e1 := fun w => ib_is s r w hr
  have HR := hid hr
  clear hr
  by_cases q : s = ⟨#[45]⟩
  · subst q
    have hr0 : r = 0 := HR.out.symm.trans (by simp [hyI, hyAt])
    subst hr0
    clear HR e1
    go_enter Tryd.func51, Tryd.ntmps51
    go_wp2_with fail
    go_ret
    exact ⟨rfl, rfl⟩
  have q1 : ([45] == s.toList) = false := by
    rw [Bool.eq_false_iff]
    intro e
    refine q (toList_inj ?_)
    rw [← eq_of_beq e, ByteArray.toList_eq]
  clear q
  go_enter Tryd.func51, Tryd.ntmps51
  go_wp2_with fail
  refine (e1 _).mono ?_
  rintro e w1 ⟨rfl, rfl⟩
  go_wp2_with fail
  go_ret
  exact ⟨rfl, rfl⟩

/-- What a cut at the first hyphen leaves. -/
def cutV (s : ByteArray) : Value :=
  match hyAt s.data.toList with
  | some k => .tuple #[.string (s.extract 0 k), .string (s.extract (k + 1) s.size), .bool true]
  | none => .tuple #[.string s, .string ⟨#[]⟩, .bool false]

set_option maxHeartbeats 1000000 in
theorem lcut_is (s : ByteArray) (w : World) (hs : s.size ≤ maxLen) :
    Calls Tryd.prog 50 #[.string s, .string ⟨#[45]⟩] w fun e w' => e = .returned (cutV s) ∧ w.grownBy w' none := by
  have hs' := hs
  unfold maxLen at hs'
  cases hk : hyAt s.data.toList with
  | none =>
    have e1 := fun w => ix_is s (-1) w hs (by rw [hyI, hk])
    have HV := hid (show cutV s = .tuple #[.string s, .string ⟨#[]⟩, .bool false] by rw [cutV, hk])
    clear hk
    go_enter Tryd.func50, Tryd.ntmps50
    go_wp2_with fail
    refine (e1 _).mono ?_
    rintro e w1 ⟨rfl, rfl⟩
    go_wp2_with fail
    go_ret3
    exact ⟨by rw [HV.out]; rfl, gr_refl _ _⟩
  | some k =>
    have hks : k < s.size := by
      obtain ⟨hkl, _, _⟩ := hy_some.1 hk
      simpa using hkl
    have e1 := fun w => ix_is s k w hs (by rw [hyI, hk])
    have HV := hid (show cutV s = .tuple #[.string (s.extract 0 k), .string (s.extract (k + 1) s.size), .bool true] by rw [cutV, hk])
    have b1 : (0 : Int) ≤ (k : Int) := by omega
    have b2 : (k : Int) < (s.size : Int) := by omega
    have b3 : (k : Int) + 1 ≤ (s.size : Int) := by omega
    have b4 : (0 : Int) ≤ (k : Int) + 1 := by omega
    have b5 : (k : Int) ≤ (s.size : Int) := by omega
    have i1 : IntKind.i64.wrap ((k : Int) + 1) = (k : Int) + 1 := IntWalk.i64_in _ (by omega)
    clear hk
    go_enter Tryd.func50, Tryd.ntmps50
    go_wp2_with fail
    refine (e1 _).mono ?_
    rintro e w1 ⟨rfl, rfl⟩
    go_wp2_with fail
    go_quiet (fail)
    go_wp2_with fail
    go_ret3
    exact ⟨by rw [HV.out]; rfl, gr_drewN (gr_refl _ _) _⟩

set_option maxHeartbeats 1000000 in
theorem cut_is (s : ByteArray) (w : World) (hs : s.size ≤ maxLen) :
    Calls Tryd.prog 46 #[.string s, .string ⟨#[45]⟩] w fun e w' => e = .returned (cutV s) ∧ w.grownBy w' none := by
  have e1 := fun w => lcut_is s w hs
  cases hk : hyAt s.data.toList with
  | none =>
    have HV := hid (show cutV s = .tuple #[.string s, .string ⟨#[]⟩, .bool false] by rw [cutV, hk])
    rw [HV.out] at e1
    clear hk
    go_enter Tryd.func46, Tryd.ntmps46
    go_wp2_with fail
    refine (e1 _).mono ?_
    rintro e w1 ⟨rfl, hg⟩
    go_wp2_with fail
    go_ret3
    exact ⟨by rw [HV.out]; rfl, hg⟩
  | some k =>
    have HV := hid (show cutV s = .tuple #[.string (s.extract 0 k), .string (s.extract (k + 1) s.size), .bool true] by rw [cutV, hk])
    rw [HV.out] at e1
    clear hk
    go_enter Tryd.func46, Tryd.ntmps46
    go_wp2_with fail
    refine (e1 _).mono ?_
    rintro e w1 ⟨rfl, hg⟩
    go_wp2_with fail
    go_ret3
    exact ⟨by rw [HV.out]; rfl, hg⟩
end Go.Proofs.YtnjbpeojadbclaaDoor
