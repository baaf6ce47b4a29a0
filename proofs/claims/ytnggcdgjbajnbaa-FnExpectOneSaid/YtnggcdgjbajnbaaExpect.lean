/- Expected versions: the walks of impl and spec. -/
import Derived.Test.YtnggcdgjbajnbaaOf
namespace Go.Proofs.Ytnggcdgjbajnbaa
open Go.RowKit

/-- What an expected version stands for, as a value of the interface. -/
def expOf (x : Int) : Value := if x = -2 then .iface 60 (.agg #[]) else if x = -1 then .iface 61 (.agg #[]) else if 0 ≤ x ∧ x ≤ 23 then .iface 62 (.int .i64 x) else .nilIface
def exOk (x : Int) : Bool := decide (-2 ≤ x ∧ x ≤ 23)
def exHolds (x v : Int) : Bool := decide ((-1 ≤ v ∧ v ≤ 23) ∧ (-2 ≤ x ∧ x ≤ 23) ∧ (x = -2 ∨ x = v))

theorem ret_val {a b : Value} (h : a = b) : Ending.returned a = .returned b := by rw [h]

set_option maxHeartbeats 400000 in
theorem eo_any (x : Int) (w : World) :
    Calls Try.prog 27 #[.int .i64 x] w fun e w' => e = .returned (expOf x) ∧ w = w' := by
  have hA : x = -2 ∨ x = -1 ∨ (0 ≤ x ∧ x ≤ 23) ∨ x < -2 ∨ 23 < x := by omega
  rcases hA with hA | hA | ⟨hA, hB⟩ | hA | hA
  all_goals
    go_enter Try.func27, Try.ntmps27
    go_wp2
    go_ret
    refine ⟨ret_val ?_, rfl⟩
  · simp [expOf, hA]
  · simp [expOf, hA]
  · simp [expOf, show x ≠ -2 by omega, show x ≠ -1 by omega, hA, hB]
  · simp [expOf, show x ≠ -2 by omega, show x ≠ -1 by omega, show ¬ (0 ≤ x ∧ x ≤ 23) by omega]
  · simp [expOf, show x ≠ -2 by omega, show x ≠ -1 by omega, show ¬ (0 ≤ x ∧ x ≤ 23) by omega]

theorem eo_is (x : Int) (v : Value) (w : World) (h : expOf x = v) :
    Calls Try.prog 27 #[.int .i64 x] w fun e w' => e = .returned v ∧ w = w' := h ▸ eo_any x w
theorem exp_any (x : Int) (h : x = -2) : expOf x = .iface 60 (.agg #[]) := by simp [expOf, h]
theorem exp_none (x : Int) (h : x = -1) : expOf x = .iface 61 (.agg #[]) := by simp [expOf, h]
theorem exp_last (x : Int) (h : 0 ≤ x) (h' : x ≤ 23) : expOf x = .iface 62 (.int .i64 x) := by
  simp [expOf, show x ≠ -2 by omega, show x ≠ -1 by omega, h, h']
theorem exp_bad (x : Int) (h : x < -2 ∨ 23 < x) : expOf x = .nilIface := by
  simp [expOf, show x ≠ -2 by omega, show x ≠ -1 by omega, show ¬ (0 ≤ x ∧ x ≤ 23) by omega]

set_option maxHeartbeats 400000 in
theorem ev_any (x : Int) (w : World) :
    Calls Try.prog 11 #[.int .i64 x] w fun e w' => e = .returned (.bool (exOk x)) ∧ w = w' := by
  have hA : x = -2 ∨ x = -1 ∨ (0 ≤ x ∧ x ≤ 23) ∨ (x < -2 ∨ 23 < x) := by omega
  rcases hA with hA | hA | ⟨hA, hB⟩ | hA
  · have hv := eo_is x _ w (exp_any x hA)
    rw [show exOk x = true by simp [exOk]; omega]
    clear hA
    go_enter Try.func11, Try.ntmps11
    go_wp2_with fail
    refine hv.mono ?_
    rintro e w' ⟨rfl, rfl⟩
    go_wp2
    go_ret
    exact ⟨rfl, rfl⟩
  · have hv := eo_is x _ w (exp_none x hA)
    rw [show exOk x = true by simp [exOk]; omega]
    clear hA
    go_enter Try.func11, Try.ntmps11
    go_wp2_with fail
    refine hv.mono ?_
    rintro e w' ⟨rfl, rfl⟩
    go_wp2
    go_ret
    exact ⟨rfl, rfl⟩
  · have hv := eo_is x _ w (exp_last x hA hB)
    rw [show exOk x = true by simp [exOk]; omega]
    go_enter Try.func11, Try.ntmps11
    go_wp2_with fail
    refine hv.mono ?_
    rintro e w' ⟨rfl, rfl⟩
    go_wp2
    go_ret
    exact ⟨rfl, rfl⟩
  · have hv := eo_is x _ w (exp_bad x hA)
    rw [show exOk x = false by simp [exOk]; omega]
    clear hA
    go_enter Try.func11, Try.ntmps11
    go_wp2_with fail
    refine hv.mono ?_
    rintro e w' ⟨rfl, rfl⟩
    go_wp2
    go_ret
    exact ⟨rfl, rfl⟩

theorem upon_method {P : Program} {o : Oper} {a : Act} {K : Act → World → Prop} {Q : Exit → Act → World → Prop} {d : Nat} {t : TypeId} {v : Value} {nm : String} {w : World} {k : FuncId × Value → World → Result Next}
    (f : FuncId) (r : Value) (h : (method d t v nm).run P w = .ok (f, r) w) (hk : o.upon P a K Q (k (f, r) w)) : o.upon P a K Q (((method d t v nm).run P w).andThen k) := by
  rw [h]
  exact hk

theorem ev_is (x : Int) (b : Bool) (w : World) (h : exOk x = b) :
    Calls Try.prog 11 #[.int .i64 x] w fun e w' => e = .returned (.bool b) ∧ w = w' := h ▸ ev_any x w

/- What metBy answers, by what is expected. -/
section
variable (v : Int) (w : World)
set_option maxHeartbeats 400000 in
theorem mb_any :
    Calls Try.prog 29 #[.iface 60 (.agg #[]), .int .i64 v] w fun e w' => e = .returned (.bool true) ∧ w.grownBy w' none := by
  have t0 : ∀ w, (Instr.typeAssert (.iface 60 (.agg #[])) 45 60 true).run Try.prog w = .ok (.tuple #[.agg #[], .bool true]) w := fun _ => by kernel_rfl
  go_enter Try.func29, Try.ntmps29
  go_wp2_with fail
  go_ret
  exact ⟨rfl, gr_refl _ _⟩
set_option maxHeartbeats 400000 in
theorem mb_none :
    Calls Try.prog 29 #[.iface 61 (.agg #[]), .int .i64 v] w fun e w' => e = .returned (.bool (-1 == v)) ∧ w.grownBy w' none := by
  have t0 : ∀ w, (Instr.typeAssert (.iface 61 (.agg #[])) 45 60 true).run Try.prog w = .ok (.tuple #[.agg #[], .bool false]) w := fun _ => by kernel_rfl
  have t1 : ∀ w, (Instr.typeAssert (.iface 61 (.agg #[])) 45 61 true).run Try.prog w = .ok (.tuple #[.agg #[], .bool true]) w := fun _ => by kernel_rfl
  have t2 : ∀ w, (Instr.typeAssert (.iface 61 (.agg #[])) 45 62 true).run Try.prog w = .ok (.tuple #[.int .i64 0, .bool false]) w := fun _ => by kernel_rfl
  go_enter Try.func29, Try.ntmps29
  go_wp2_with fail
  refine upon_method 55 (.agg #[]) (by kernel_rfl) ?_
  go_wp2
  go_ret
  exact ⟨rfl, gr_alloc (gr_refl _ _) _⟩
set_option maxHeartbeats 400000 in
theorem mb_last (x : Int) :
    Calls Try.prog 29 #[.iface 62 (.int .i64 x), .int .i64 v] w fun e w' => e = .returned (.bool (x == v)) ∧ w.grownBy w' none := by
  have t0 : ∀ w, (Instr.typeAssert (.iface 62 (.int .i64 x)) 45 60 true).run Try.prog w = .ok (.tuple #[.agg #[], .bool false]) w := fun _ => by kernel_rfl
  have t1 : ∀ w, (Instr.typeAssert (.iface 62 (.int .i64 x)) 45 61 true).run Try.prog w = .ok (.tuple #[.agg #[], .bool false]) w := fun _ => by kernel_rfl
  have t2 : ∀ w, (Instr.typeAssert (.iface 62 (.int .i64 x)) 45 62 true).run Try.prog w = .ok (.tuple #[.int .i64 x, .bool true]) w := fun _ => by kernel_rfl
  go_enter Try.func29, Try.ntmps29
  go_wp2_with fail
  refine upon_method 56 (.int .i64 x) (by kernel_rfl) ?_
  go_wp2
  go_ret
  exact ⟨rfl, gr_refl _ _⟩
set_option maxHeartbeats 400000 in
theorem mb_nil :
    Calls Try.prog 29 #[.nilIface, .int .i64 v] w fun e w' => e = .returned (.bool false) ∧ w.grownBy w' none := by
  have t0 : ∀ w, (Instr.typeAssert .nilIface 45 60 true).run Try.prog w = .ok (.tuple #[.agg #[], .bool false]) w := fun _ => by kernel_rfl
  have t1 : ∀ w, (Instr.typeAssert .nilIface 45 61 true).run Try.prog w = .ok (.tuple #[.agg #[], .bool false]) w := fun _ => by kernel_rfl
  have t2 : ∀ w, (Instr.typeAssert .nilIface 45 62 true).run Try.prog w = .ok (.tuple #[.int .i64 0, .bool false]) w := fun _ => by kernel_rfl
  go_enter Try.func29, Try.ntmps29
  go_wp2_with fail
  go_ret
  exact ⟨rfl, gr_refl _ _⟩
end

set_option maxHeartbeats 400000 in
theorem eh_any (x v : Int) (w : World) :
    Calls Try.prog 14 #[.int .i64 x, .int .i64 v] w fun e w' => e = .returned (.bool (exHolds x v)) ∧ w.grownBy w' none := by
  have hV : (v < -1 ∨ 23 < v) ∨ (-1 ≤ v ∧ v ≤ 23) := by omega
  rcases hV with hV | ⟨hV, hV'⟩
  · rw [show exHolds x v = false by simp [exHolds]; omega]
    rcases hV with hV | hV
    all_goals
      go_enter Try.func14, Try.ntmps14
      go_wp2
      go_ret
      exact ⟨rfl, gr_refl _ _⟩
  have hA : x = -2 ∨ x = -1 ∨ (0 ≤ x ∧ x ≤ 23) ∨ (x < -2 ∨ 23 < x) := by omega
  rcases hA with hA | hA | ⟨hA, hB⟩ | hA
  · have hv := eo_is x _ w (exp_any x hA)
    rw [show exHolds x v = true by simp [exHolds]; omega]
    clear hA
    go_enter Try.func14, Try.ntmps14
    go_wp2_with fail
    refine hv.mono ?_
    rintro e w' ⟨rfl, rfl⟩
    go_wp2_with fail
    refine (mb_any v _).mono ?_
    rintro e w1 ⟨rfl, hg⟩
    go_wp2
    go_ret
    exact ⟨rfl, hg⟩
  · have hv := eo_is x _ w (exp_none x hA)
    rw [show exHolds x v = (-1 == v) by rw [Bool.eq_iff_iff]; simp [exHolds]; omega]
    clear hA
    go_enter Try.func14, Try.ntmps14
    go_wp2_with fail
    refine hv.mono ?_
    rintro e w' ⟨rfl, rfl⟩
    go_wp2_with fail
    refine (mb_none v _).mono ?_
    rintro e w1 ⟨rfl, hg⟩
    go_wp2
    go_ret
    exact ⟨rfl, hg⟩
  · have hv := eo_is x _ w (exp_last x hA hB)
    rw [show exHolds x v = (x == v) by rw [Bool.eq_iff_iff]; simp [exHolds]; omega]
    go_enter Try.func14, Try.ntmps14
    go_wp2_with fail
    refine hv.mono ?_
    rintro e w' ⟨rfl, rfl⟩
    go_wp2_with fail
    refine (mb_last v _ x).mono ?_
    rintro e w1 ⟨rfl, hg⟩
    go_wp2
    go_ret
    exact ⟨rfl, hg⟩
  · have hv := eo_is x _ w (exp_bad x hA)
    rw [show exHolds x v = false by simp [exHolds]; omega]
    clear hA
    go_enter Try.func14, Try.ntmps14
    go_wp2_with fail
    refine hv.mono ?_
    rintro e w' ⟨rfl, rfl⟩
    go_wp2_with fail
    refine (mb_nil v _).mono ?_
    rintro e w1 ⟨rfl, hg⟩
    go_wp2
    go_ret
    exact ⟨rfl, hg⟩
theorem eh_is (x v : Int) (b : Bool) (w : World) (h : exHolds x v = b) :
    Calls Try.prog 14 #[.int .i64 x, .int .i64 v] w fun e w' => e = .returned (.bool b) ∧ w.grownBy w' none := h ▸ eh_any x v w
end Go.Proofs.Ytnggcdgjbajnbaa
