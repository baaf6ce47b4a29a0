/- impl's NameParts. -/
import Derived.Test.YtaiacpihkhjghaaDoorSplit
import Derived.Test.YtaiacpihkhjghaaDoorIsJ
namespace Go.Proofs.YtaiacpihkhjghaaDoor
open Go.RowKit

set_option maxHeartbeats 1000000 in
theorem np_is (s : ByteArray) (o : Option (ByteArray × Nat)) (a : Addr) (w : World) (hs : s.size ≤ maxLen) (hE : Sent w a) (ho : partsOf s = o) :
    Calls Tryd.prog 5 #[.string s] w fun e w' => e = .returned (ptup o) ∧ w.grownBy w' none := by
  have e1 := ns_is s o a w hs hE ho
  have HE := hid hE
  have e2 := is_same a
  have e3 := is_nil a
  clear hE ho
  cases o with
  | none =>
    unfold nsV at e1
    go_enter Tryd.func5, Tryd.ntmps5
    go_wp2_with fail
    refine e1.mono ?_
    rintro e w1 ⟨rfl, hg1⟩
    have ce := (HE.out.grown0 hg1).cell
    clear e1
    go_wp2_with fail
    refine (e2 _).mono ?_
    rintro e w2 ⟨rfl, rfl⟩
    go_wp2_with fail
    go_ret3
    exact ⟨rfl, hg1⟩
  | some q =>
    unfold nsV at e1
    go_enter Tryd.func5, Tryd.ntmps5
    go_wp2_with fail
    refine e1.mono ?_
    rintro e w1 ⟨rfl, hg1⟩
    have ce := (HE.out.grown0 hg1).cell
    clear e1
    go_wp2_with fail
    refine (e3 _).mono ?_
    rintro e w2 ⟨rfl, rfl⟩
    go_wp2_with fail
    go_ret3
    exact ⟨rfl, hg1⟩
end Go.Proofs.YtaiacpihkhjghaaDoor
