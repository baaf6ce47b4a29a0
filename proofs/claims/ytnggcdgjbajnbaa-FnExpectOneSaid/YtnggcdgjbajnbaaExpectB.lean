/- Expected versions: the reference, the drawn arguments, the laws' walks. -/
import Derived.Test.YtnggcdgjbajnbaaExpect
import Derived.Test.YtnggcdgjbajnbaaIn
import Derived.Deep.RegionWith
namespace Go.Proofs.Ytnggcdgjbajnbaa
open Go.RowKit

set_option maxHeartbeats 400000 in
theorem sev_any (x : Int) (w : World) :
    Calls Try.prog 12 #[.int .i64 x] w fun e w' => e = .returned (.bool (exOk x)) ∧ w = w' := by
  have hv := in_is x (-2) 23 (exOk x) w rfl
  go_enter Try.func12, Try.ntmps12
  go_wp2_with fail
  refine hv.mono ?_
  rintro e w' ⟨rfl, rfl⟩
  go_wp2
  go_ret
  exact ⟨rfl, rfl⟩

theorem sev_is (x : Int) (b : Bool) (w : World) (h : exOk x = b) :
    Calls Try.prog 12 #[.int .i64 x] w fun e w' => e = .returned (.bool b) ∧ w = w' := h ▸ sev_any x w

set_option maxHeartbeats 400000 in
theorem seh_any (x v : Int) (w : World) :
    Calls Try.prog 15 #[.int .i64 x, .int .i64 v] w fun e w' => e = .returned (.bool (exHolds x v)) ∧ w = w' := by
  have hA : (x < -2 ∨ 23 < x) ∨ (-2 ≤ x ∧ x ≤ 23) := by omega
  have e1 := sev_any x w
  have e2 := in_any v (-1) 23 w
  rcases hA with hA | ⟨hA, hB⟩
  · rw [show exOk x = false by simp [exOk]; omega] at e1
    rw [show exHolds x v = false by simp [exHolds]; omega]
    go_enter Try.func15, Try.ntmps15
    go_wp2_with fail
    refine e1.mono ?_
    rintro e w' ⟨rfl, rfl⟩
    go_wp2
    go_ret
    exact ⟨rfl, rfl⟩
  rw [show exOk x = true by simp [exOk]; omega] at e1
  have hV : (v < -1 ∨ 23 < v) ∨ (-1 ≤ v ∧ v ≤ 23) := by omega
  rcases hV with hV | ⟨hV, hV'⟩
  · rw [inR_false hV] at e2
    rw [show exHolds x v = false by simp [exHolds]; omega]
    clear hV
    go_enter Try.func15, Try.ntmps15
    go_wp2_with fail
    refine e1.mono ?_
    rintro e w' ⟨rfl, rfl⟩
    go_wp2_with fail
    refine e2.mono ?_
    rintro e w' ⟨rfl, rfl⟩
    go_wp2
    go_ret
    exact ⟨rfl, rfl⟩
  rw [inR_true hV hV'] at e2
  have hC : (x == -2) = true ∨ ((x == -2) = false ∧ -2 < x) := by
    rcases (by omega : x = -2 ∨ -2 < x) with h | h
    · exact .inl (by simp [h])
    · exact .inr ⟨by simp; omega, h⟩
  rcases hC with hC | ⟨hC, hC'⟩
  · rw [show exHolds x v = true by simp at hC; simp [exHolds]; omega]
    go_enter Try.func15, Try.ntmps15
    go_wp2_with fail
    refine e1.mono ?_
    rintro e w' ⟨rfl, rfl⟩
    go_wp2_with fail
    refine e2.mono ?_
    rintro e w' ⟨rfl, rfl⟩
    go_wp2
    go_ret
    exact ⟨rfl, rfl⟩
  · rw [show exHolds x v = (x == v) by rw [Bool.eq_iff_iff]; simp [exHolds]; omega]
    go_enter Try.func15, Try.ntmps15
    go_wp2_with fail
    refine e1.mono ?_
    rintro e w' ⟨rfl, rfl⟩
    go_wp2_with fail
    refine e2.mono ?_
    rintro e w' ⟨rfl, rfl⟩
    go_wp2
    go_ret
    exact ⟨rfl, rfl⟩

theorem in3 {a b c x lo hi : Int} (h : x ∈ [a, b, c]) (ha : lo ≤ a ∧ a ≤ hi) (hb : lo ≤ b ∧ b ≤ hi) (hc : lo ≤ c ∧ c ≤ hi) : lo ≤ x ∧ x ≤ hi := by
  simp only [List.mem_cons, List.not_mem_nil, or_false] at h
  rcases h with rfl | rfl | rfl <;> assumption

theorem seh_is (x v : Int) (b : Bool) (w : World) (h : exHolds x v = b) :
    Calls Try.prog 15 #[.int .i64 x, .int .i64 v] w fun e w' => e = .returned (.bool b) ∧ w = w' := h ▸ seh_any x v w

/-- A drawn number in a range. -/
def IntEnds (lo hi : Int) (w : World) (e : Ending) (w' : World) : Prop := ∃ n : Int, e = .returned (.int .i64 n) ∧ lo ≤ n ∧ n ≤ hi ∧ w.grownBy w' none

set_option maxHeartbeats 400000 in
theorem dev_any (A : Option Addr) (n c : Nat) (zs : List Int) (w : World) (h : Code w A n c zs) :
    Calls Try.prog 10 #[.slice A n c] w (IntEnds (-4) 25 w) := by
  go_enter Try.func10, Try.ntmps10
  go_wp2_with fail
  refine (open_any A n c zs _ h).mono ?_
  rintro e w1 ⟨g, rfl, hr1, hg1⟩
  go_wp2_with fail
  refine (pick_any _ g 99999 30 _ hr1 (by omega) (by omega)).mono ?_
  rintro e w2 ⟨k, rfl, hk1, hk2, hr2, hg2⟩
  have hk3 := hk2 (by omega)
  clear hk2
  go_wp2
  go_ret
  exact ⟨_, rfl, by omega, by omega, gr_new hg1 hg2 hr1.ge⟩

/-- Two drawn numbers. -/
def Int2Ends (lo hi : Int) (w : World) (e : Ending) (w' : World) : Prop := ∃ n m : Int, e = .returned (.tuple #[.int .i64 n, .int .i64 m]) ∧ lo ≤ n ∧ n ≤ hi ∧ lo ≤ m ∧ m ≤ hi ∧ w.grownBy w' none

set_option maxHeartbeats 400000 in
theorem deh_any (A : Option Addr) (n c : Nat) (zs : List Int) (w : World) (h : Code w A n c zs) :
    Calls Try.prog 13 #[.slice A n c] w (Int2Ends (-4) 25 w) := by
  go_enter Try.func13, Try.ntmps13
  go_wp2_with fail
  refine (open_any A n c zs _ h).mono ?_
  rintro e w1 ⟨g, rfl, hr1, hg1⟩
  go_wp2_with fail
  refine (pick_any _ g 99999 28 _ hr1 (by omega) (by omega)).mono ?_
  rintro e w2 ⟨k, rfl, hk1, hk2, hr2, hg2⟩
  have hk3 := hk2 (by omega)
  clear hk2
  have hg02 := gr_new hg1 hg2 hr1.ge
  go_wp2_with fail
  go_region_with (first
    | (go_at_call_of 26 (Value.int IntKind.i64 27); refine (pick_any w.heap.size g 99998 27 _ ?_ (by omega) (by omega)).mono ?_; exact hr2.drew; rintro e w3 ⟨k3, rfl, hk31, hk32, hr3, hg3⟩; have hk33 := hk32 (by omega); clear hk32; have hw3 : IntKind.i64.wrap ((k3 : Int) - 2) = (k3 : Int) - 2 := IntWalk.i64_in _ (by omega))
    | (go_at_call_of 26 (Value.int IntKind.i64 3); refine (pick_any w.heap.size g 99997 3 _ ?_ (by omega) (by omega)).mono ?_; exact hr3.alloc _; rintro e w4 ⟨k4, rfl, hk41, hk42, hr4, hg4⟩; have hk43 := hk42 (by omega); clear hk42; obtain ⟨x, hx, hxc⟩ := ((Full.new w3 3 (([(k : Int) - 3, (k : Int) - 3, (k3 : Int) - 2] : List Int).map (Value.int .i64)).toArray).grown hg4 (by intro e; injection e with e; have := hr3.lt; omega)).intAt (k := k4) (by show k4 < 3; omega); have hx0 : -4 ≤ x ∧ x ≤ 25 := in3 hx (by omega) (by omega) (by omega); clear hx)
    | (go_at_call_of 26 (Value.int IntKind.i64 3); refine (pick_any w.heap.size g 99997 3 _ ?_ (by omega) (by omega)).mono ?_; exact hr3; rintro e w4 ⟨k4, rfl, hk41, hk42, hr4, hg4⟩; have hk43 := hk42 (by omega); clear hk42; obtain ⟨x, hx, hxc⟩ := (Full.new w4 3 (([(k : Int) - 3, (k : Int) - 3, (k3 : Int) - 2] : List Int).map (Value.int .i64)).toArray).intAt (k := k4) (by show k4 < 3; omega); have hx0 : -4 ≤ x ∧ x ≤ 25 := in3 hx (by omega) (by omega) (by omega); clear hx; have hxd : (w4.alloc (Obj.cells #[.int .i64 ((k : Int) - 3), .int .i64 ((k : Int) - 3), .int .i64 ((k3 : Int) - 2)] 3)).cell? ⟨w4.heap.size, k4, none⟩ = some (.int .i64 x) := hxc; have hxe : (#[.int .i64 ((k : Int) - 3), .int .i64 ((k : Int) - 3), .int .i64 ((k3 : Int) - 2)] : Array Value)[k4]? = some (.int .i64 x) := ((Full.new w4 3 _).cell k4).symm.trans hxd; clear hxc))
  all_goals
    go_wp2
    go_ret2
  · exact ⟨_, _, rfl, by omega, by omega, hx0.1, hx0.2, gr_new (gr_alloc (gr_new (gr_drew hg02) hg3 hr1.ge) _) hg4 hr1.ge⟩
  · exact ⟨_, _, rfl, by omega, by omega, hx0.1, hx0.2, gr_alloc (gr_new (gr_new (gr_drew hg02) hg3 hr1.ge) hg4 hr1.ge) _⟩

end Go.Proofs.Ytnggcdgjbajnbaa
