/- l6In: a number in a range. -/
import Derived.Test.YtnjbpeojadbclaaDoorBase
namespace Go.Proofs.YtnjbpeojadbclaaDoor
open Go.RowKit
/-- The table's row of int. -/
theorem intInfo : (Tryd.prog.info? 3).map (fun i => (i.zero, i.size, i.bytes)) = some (some (.int .i64 0), 1, 8) := by kernel_rfl
def inR (n lo hi : Int) : Bool := decide (lo ≤ n ∧ n ≤ hi)
theorem inR_true {n lo hi : Int} (h : lo ≤ n) (h' : n ≤ hi) : inR n lo hi = true := by simp [inR]; omega
theorem inR_false {n lo hi : Int} (h : n < lo ∨ hi < n) : inR n lo hi = false := by simp [inR]; omega
set_option maxHeartbeats 400000 in
theorem in_any (n lo hi : Int) (w : World) :
    Calls Tryd.prog 23 #[.int .i64 n, .int .i64 lo, .int .i64 hi] w fun e w' => e = .returned (.bool (inR n lo hi)) ∧ w = w' := by
  have hA : n < lo ∨ (lo ≤ n ∧ n ≤ hi) ∨ (lo ≤ n ∧ hi < n) := by omega
  rcases hA with hA | ⟨hA, hB⟩ | ⟨hA, hB⟩
  · rw [inR_false (.inl hA)]
    go_enter Tryd.func23, Tryd.ntmps23
    go_wp2
    go_ret
    exact ⟨rfl, rfl⟩
  · rw [inR_true hA hB]
    go_enter Tryd.func23, Tryd.ntmps23
    go_wp2
    go_ret
    exact ⟨rfl, rfl⟩
  · rw [inR_false (.inr hB)]
    go_enter Tryd.func23, Tryd.ntmps23
    go_wp2
    go_ret
    exact ⟨ret_bool (by simp; omega), rfl⟩
theorem in_is (n lo hi : Int) (b : Bool) (w : World) (h : inR n lo hi = b) :
    Calls Tryd.prog 23 #[.int .i64 n, .int .i64 lo, .int .i64 hi] w fun e w' => e = .returned (.bool b) ∧ w = w' := h ▸ in_any n lo hi w
theorem in_q (n lo hi : Int) (b : Bool) (w : World) (h : inR n lo hi = b) :
    Calls Tryd.prog 23 #[.int .i64 n, .int .i64 lo, .int .i64 hi] w fun e w' => e = .returned (.bool b) ∧ w' = w :=
  (in_is n lo hi b w h).mono fun _ _ ⟨he, hw⟩ => ⟨he, hw.symm⟩
end Go.Proofs.YtnjbpeojadbclaaDoor
