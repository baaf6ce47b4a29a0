/- The drawn event. -/
import Derived.Test.YtigcmdbialbadaaEv
import Derived.Test.YtigcmdbialbadaaOf
namespace Go.Proofs.Ytigcmdbialbadaa
open Go.RowKit

/-- What a drawn event is at most. -/
structure EvSmall (e : Ev) : Prop where
  id0 : 0 ≤ e.id
  id1 : e.id ≤ 10000
  kind : e.kind.size ≤ 7
  data0 : -1 ≤ e.data
  data1 : e.data ≤ 1000

def EvRdEnds (T : TypeId) (w : World) (B g m : Nat) (e : Ending) (w' : World) : Prop :=
  ∃ (i : Int) (k : ByteArray) (d : Int), e = .returned (.agg #[.int .i64 i, .string k, .int .i64 d]) ∧ EvSmall ⟨i, k, d⟩ ∧ Rd T w' B g m ∧ w.grownBy w' (some g)

set_option maxHeartbeats 1000000 in
theorem ev91_any (B g m : Nat) (w : World) (h : Rd 53 w B g (m + 5)) :
    Calls Try.prog 30 #[.pointer (some ⟨g, 0, none⟩)] w (EvRdEnds 53 w B g m) := by
  have hlt := h.lt
  have hge := h.ge
  have F0 := Full.new w 35 #[.int .i64 0, .string ⟨#[]⟩, .int .i64 0]
  go_enter Try.func30, Try.ntmps30
  go_wp2_with fail
  refine (pick_any B g (m + 4) 9 _ (h.alloc _) (by omega) (by omega)).mono ?_
  rintro e w1 ⟨k1, rfl, hk11, hk12, hr1, hg1⟩
  have hk13 := hk12 (by omega)
  clear hk12
  have F1 := F0.grown hg1 (by intro e; injection e with e; omega)
  have G1 := gr_trans (World.grownBy_alloc w _ (some g)) hg1
  clear hg1 F0
  go_wp2_with fail
  refine (of_any B g (m + 3) _ 4 4 [⟨#[111, 112, 101, 110]⟩, ⟨#[112, 97, 121]⟩, ⟨#[115, 104, 105, 112]⟩, ⟨#[97]⟩] _ (hr1.alloc _) (Full.new _ _ _) rfl (by omega) (by omega)).mono ?_
  rintro e w2 ⟨s, hs, rfl, hr2, hg2⟩
  have F2 := (F1.alloc (.cells #[.string ⟨#[111, 112, 101, 110]⟩, .string ⟨#[112, 97, 121]⟩, .string ⟨#[115, 104, 105, 112]⟩, .string ⟨#[97]⟩] 9)).grown hg2 (by intro e; injection e with e; omega)
  have G2 := gr_trans (gr_alloc G1 _) hg2
  have hsz : s.size ≤ 7 := by simp at hs; rcases hs with rfl | rfl | rfl | rfl <;> decide
  clear hs hg2 F1 G1
  go_wp2_with fail
  refine (pick_any B g (m + 2) 100 _ hr2 (by omega) (by omega)).mono ?_
  rintro e w3 ⟨k3, rfl, hk31, hk32, hr3, hg3⟩
  have hk33 := hk32 (by omega)
  clear hk32
  have F3 := F2.grown hg3 (by intro e; injection e with e; omega)
  have G3 := gr_trans G2 hg3
  clear hg3 F2 G2
  have F4 := F3.alloc (.cells #[.int .i64 (1 + (k1 : Int)), .string s, .int .i64 (k3 : Int)] 35)
  have E4 := Full.new w3 35 #[.int .i64 (1 + (k1 : Int)), .string s, .int .i64 (k3 : Int)]
  have L3 := G3.size
  have L3' := hr3.lt
  have L3'' : w.heap.size < w3.heap.size := F3.lt
  go_wp2_with fail
  refine (pick_any B g (m + 1) 50 _ (hr3.alloc _) (by omega) (by omega)).mono ?_
  rintro e w4 ⟨k4, rfl, hk41, hk42, hr4, hg4⟩
  have hk43 := hk42 (by omega)
  clear hk42
  replace F4 := F4.grown hg4 (by intro e; injection e with e; omega)
  replace E4 := E4.grown hg4 (by intro e; injection e with e; omega)
  have G4 := gr_trans (gr_alloc G3 _) hg4
  clear hg4 F3 G3
  rcases (by omega : k4 < 1 ∨ (1 ≤ k4 ∧ k4 ≤ 1) ∨ (2 ≤ k4 ∧ k4 ≤ 2) ∨ 3 ≤ k4) with hk | ⟨hk, hk'⟩ | ⟨hk, hk'⟩ | hk
  · go_wp2_with fail
    refine (pick_any B g m 3 _ (hr4.alloc _) (by omega) (by omega)).mono ?_
    rintro e w5 ⟨k5, rfl, hk51, hk52, hr5, hg5⟩
    have hk53 := hk52 (by omega)
    clear hk52
    have F5 := (F4.alloc _).grown hg5 (by intro e; injection e with e; omega)
    have E5 := (E4.alloc _).grown hg5 (by intro e; injection e with e; omega)
    have G5 := gr_trans (gr_alloc G4 _) hg5
    obtain ⟨x, hx, hxc⟩ := ((Full.new w4 3 (([0, 9999, 10000] : List Int).map (Value.int .i64)).toArray).grown hg5 (by intro e; injection e with e; have := hr4.lt; omega)).intAt (k := k5) (by show k5 < 3; omega)
    have hx0 : 0 ≤ x ∧ x ≤ 10000 := by simp at hx; omega
    clear hx hg5
    have c0 := F5.cellAt 0 rfl
    have c1 := F5.cellAt 1 rfl
    have c2 := F5.cellAt 2 rfl
    have f0 := F5.free 0
    have f1 := F5.free 1
    have f2 := F5.free 2
    have d0 := E5.cellAt 0 rfl
    have d1 := E5.cellAt 1 rfl
    have d2 := E5.cellAt 2 rfl
    have g0 := E5.free 0
    go_wp2_with fail
    refine bodyPost_ret (v := .agg #[.int .i64 x, .string s, .int .i64 (k3 : Int)]) ?_ rfl ?_
    · simp [results, Try.results30, go_sem, c0, c1, c2]
    · exact ⟨x, s, (k3 : Int), rfl, ⟨hx0.1, hx0.2, hsz, by simp only []; omega, by simp only []; omega⟩, by repeat (first | refine Rd.set ?_ (by omega) (by omega) _ _ | exact hr5), by repeat (first | refine gr_put ?_ (by omega) _ | exact G5)⟩
  · go_wp2_with fail
    refine (of_any B g m _ 5 5 [⟨#[]⟩, ⟨#[97, 98, 99, 100, 101, 102]⟩, ⟨#[97, 98, 99, 100, 101, 102, 103]⟩, ⟨#[80, 97, 121]⟩, ⟨#[97, 49]⟩] _ (hr4.alloc _) (Full.new _ _ _) rfl (by omega) (by omega)).mono ?_
    rintro e w5 ⟨s2, hs2, rfl, hr5, hg5⟩
    have F5 := (F4.alloc (.cells #[.string ⟨#[]⟩, .string ⟨#[97, 98, 99, 100, 101, 102]⟩, .string ⟨#[97, 98, 99, 100, 101, 102, 103]⟩, .string ⟨#[80, 97, 121]⟩, .string ⟨#[97, 49]⟩] 9)).grown hg5 (by intro e; injection e with e; omega)
    have E5 := (E4.alloc (.cells #[.string ⟨#[]⟩, .string ⟨#[97, 98, 99, 100, 101, 102]⟩, .string ⟨#[97, 98, 99, 100, 101, 102, 103]⟩, .string ⟨#[80, 97, 121]⟩, .string ⟨#[97, 49]⟩] 9)).grown hg5 (by intro e; injection e with e; omega)
    have G5 := gr_trans (gr_alloc G4 _) hg5
    have hsz2 : s2.size ≤ 7 := by simp at hs2; rcases hs2 with rfl | rfl | rfl | rfl | rfl <;> decide
    clear hs2 hg5
    have c0 := F5.cellAt 0 rfl
    have c1 := F5.cellAt 1 rfl
    have c2 := F5.cellAt 2 rfl
    have f0 := F5.free 0
    have f1 := F5.free 1
    have f2 := F5.free 2
    have d0 := E5.cellAt 0 rfl
    have d1 := E5.cellAt 1 rfl
    have d2 := E5.cellAt 2 rfl
    have g1 := E5.free 1
    go_wp2_with fail
    refine bodyPost_ret (v := .agg #[.int .i64 (1 + (k1 : Int)), .string s2, .int .i64 (k3 : Int)]) ?_ rfl ?_
    · simp [results, Try.results30, go_sem, c0, c1, c2]
    · exact ⟨(1 + (k1 : Int)), s2, (k3 : Int), rfl, ⟨by simp only []; omega, by simp only []; omega, hsz2, by simp only []; omega, by simp only []; omega⟩, by repeat (first | refine Rd.set ?_ (by omega) (by omega) _ _ | exact hr5), by repeat (first | refine gr_put ?_ (by omega) _ | exact G5)⟩
  · go_wp2_with fail
    refine (pick_any B g m 3 _ (hr4.alloc _) (by omega) (by omega)).mono ?_
    rintro e w5 ⟨k5, rfl, hk51, hk52, hr5, hg5⟩
    have hk53 := hk52 (by omega)
    clear hk52
    have F5 := (F4.alloc _).grown hg5 (by intro e; injection e with e; omega)
    have E5 := (E4.alloc _).grown hg5 (by intro e; injection e with e; omega)
    have G5 := gr_trans (gr_alloc G4 _) hg5
    obtain ⟨x, hx, hxc⟩ := ((Full.new w4 3 (([-1, 999, 1000] : List Int).map (Value.int .i64)).toArray).grown hg5 (by intro e; injection e with e; have := hr4.lt; omega)).intAt (k := k5) (by show k5 < 3; omega)
    have hx0 : -1 ≤ x ∧ x ≤ 1000 := by simp at hx; omega
    clear hx hg5
    have c0 := F5.cellAt 0 rfl
    have c1 := F5.cellAt 1 rfl
    have c2 := F5.cellAt 2 rfl
    have f0 := F5.free 0
    have f1 := F5.free 1
    have f2 := F5.free 2
    have d0 := E5.cellAt 0 rfl
    have d1 := E5.cellAt 1 rfl
    have d2 := E5.cellAt 2 rfl
    have g2 := E5.free 2
    go_wp2_with fail
    refine bodyPost_ret (v := .agg #[.int .i64 (1 + (k1 : Int)), .string s, .int .i64 x]) ?_ rfl ?_
    · simp [results, Try.results30, go_sem, c0, c1, c2]
    · exact ⟨(1 + (k1 : Int)), s, x, rfl, ⟨by simp only []; omega, by simp only []; omega, hsz, hx0.1, hx0.2⟩, by repeat (first | refine Rd.set ?_ (by omega) (by omega) _ _ | exact hr5), by repeat (first | refine gr_put ?_ (by omega) _ | exact G5)⟩
  · have c0 := F4.cellAt 0 rfl
    have c1 := F4.cellAt 1 rfl
    have c2 := F4.cellAt 2 rfl
    have f0 := F4.free 0
    have f1 := F4.free 1
    have f2 := F4.free 2
    have d0 := E4.cellAt 0 rfl
    have d1 := E4.cellAt 1 rfl
    have d2 := E4.cellAt 2 rfl
    have hr5 : Rd 53 w4 B g m := hr4.less (by omega)
    go_wp2_with fail
    refine bodyPost_ret (v := .agg #[.int .i64 (1 + (k1 : Int)), .string s, .int .i64 (k3 : Int)]) ?_ rfl ?_
    · simp [results, Try.results30, go_sem, c0, c1, c2]
    · exact ⟨(1 + (k1 : Int)), s, (k3 : Int), rfl, ⟨by simp only []; omega, by simp only []; omega, hsz, by simp only []; omega, by simp only []; omega⟩, by repeat (first | refine Rd.set ?_ (by omega) (by omega) _ _ | exact hr5), by repeat (first | refine gr_put ?_ (by omega) _ | exact G4)⟩

/-- A drawn event. -/
def EvEnds (w : World) (e : Ending) (w' : World) : Prop := ∃ (i : Int) (k : ByteArray) (d : Int), e = .returned (.agg #[.int .i64 i, .string k, .int .i64 d]) ∧ EvSmall ⟨i, k, d⟩ ∧ w.grownBy w' none
end Go.Proofs.Ytigcmdbialbadaa
