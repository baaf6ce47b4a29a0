/- Subscribers: validity in impl and spec, the drawn ones, the walk of FnSubPart. -/
import Derived.Test.YtnggcdgjbajnbaaWord
import Derived.Test.YtnggcdgjbajnbaaOf
namespace Go.Proofs.Ytnggcdgjbajnbaa
open Go.RowKit

/-- A drawn subscriber out of a reader. -/
def SubRdEnds (T : TypeId) (w : World) (B g m : Nat) (e : Ending) (w' : World) : Prop :=
  ∃ (s : ByteArray) (at_ : Int), e = .returned (.agg #[.string s, .int .i64 at_]) ∧ s.size ≤ 7 ∧ -1 ≤ at_ ∧ at_ ≤ 101 ∧ Rd T w' B g m ∧ w.grownBy w' (some g)

theorem in3' {a b c x : Int} (h : x ∈ [a, b, c]) : x = a ∨ x = b ∨ x = c := by simpa using h

set_option maxHeartbeats 400000 in
theorem sub92_any (B g m : Nat) (w : World) (h : Rd 58 w B g (m + 3)) :
    Calls Try.prog 31 #[.pointer (some ⟨g, 0, none⟩)] w (SubRdEnds 58 w B g m) := by
  have hlt := h.lt
  have F0 := Full.new w 30 #[.string ⟨#[]⟩, .int .i64 0]
  go_enter Try.func31, Try.ntmps31
  go_wp2_with fail
  refine (pick_any B g (m + 2) 30 _ (h.alloc _) (by omega) (by omega)).mono ?_
  rintro e w1 ⟨k, rfl, hk1, hk2, hr1, hg1⟩
  have hk3 := hk2 (by omega)
  clear hk2
  have F1 := F0.grown hg1 (by intro e; injection e with e; omega)
  have G1 := gr_trans (World.grownBy_alloc w _ (some g)) hg1
  rcases (by omega : k < 1 ∨ 1 ≤ k) with hk | hk
  · go_wp2_with fail
    refine (of_any B g (m + 1) _ 3 3 [⟨#[65]⟩, ⟨#[]⟩, ⟨#[97, 98, 99, 100, 101, 102, 103]⟩] _ (hr1.alloc _) (Full.new _ _ _) rfl (by omega) (by omega)).mono ?_
    rintro e w2 ⟨s, hs, rfl, hr2, hg2⟩
    have F2 := (F1.alloc (.cells #[.string ⟨#[65]⟩, .string ⟨#[]⟩, .string ⟨#[97, 98, 99, 100, 101, 102, 103]⟩] 9)).grown hg2 (by intro e; injection e with e; omega)
    have G2 := gr_trans (gr_alloc G1 _) hg2
    have hsz : s.size ≤ 7 := by simp at hs; rcases hs with rfl | rfl | rfl <;> decide
    clear hs hg1 hg2
    go_wp2_with fail
    refine (pick_any B g m 3 _ (hr2.alloc _) (by omega) (by omega)).mono ?_
    rintro e w3 ⟨k2, rfl, hk21, hk22, hr3, hg3⟩
    have hk23 := hk22 (by omega)
    clear hk22
    have F3 := (F2.alloc _).grown hg3 (by intro e; injection e with e; omega)
    have G3 := gr_trans (gr_alloc G2 _) hg3
    obtain ⟨x, hx, hxc⟩ := ((Full.new w2 3 (([-1, 100, 101] : List Int).map (Value.int .i64)).toArray).grown hg3 (by intro e; injection e with e; have := hr2.lt; omega)).intAt (k := k2) (by show k2 < 3; omega)
    have hx0 : -1 ≤ x ∧ x ≤ 101 := by simp at hx; omega
    clear hx hg3
    have c0 := F3.cellAt 0 rfl
    have c1 := F3.cellAt 1 rfl
    have f0 := F3.free 0
    have f1 := F3.free 1
    go_wp2_with fail
    refine bodyPost_ret (v := .agg #[.string s, .int .i64 x]) ?_ rfl ?_
    · simp [results, Try.results31, go_sem, c0, c1]
    · exact ⟨s, x, rfl, hsz, hx0.1, hx0.2, (hr3.far (by simp; omega) (by simp; have := h.ge; omega) _).far (by simp; omega) (by simp; have := h.ge; omega) _, gr_set (gr_set G3 (.inr (Nat.le_refl _)) _) (.inr (Nat.le_refl _)) _⟩
  · go_wp2_with fail
    refine (of_any B g (m + 1) _ 5 5 [⟨#[]⟩, ⟨#[97, 99, 99, 116]⟩, ⟨#[99, 97, 114, 116]⟩, ⟨#[97]⟩, ⟨#[122, 111, 111]⟩] _ (hr1.alloc _) (Full.new _ _ _) rfl (by omega) (by omega)).mono ?_
    rintro e w2 ⟨s, hs, rfl, hr2, hg2⟩
    have F2 := (F1.alloc (.cells #[.string ⟨#[]⟩, .string ⟨#[97, 99, 99, 116]⟩, .string ⟨#[99, 97, 114, 116]⟩, .string ⟨#[97]⟩, .string ⟨#[122, 111, 111]⟩] 9)).grown hg2 (by intro e; injection e with e; omega)
    have G2 := gr_trans (gr_alloc G1 _) hg2
    have hsz : s.size ≤ 7 := by simp at hs; rcases hs with rfl | rfl | rfl | rfl | rfl <;> decide
    clear hs hg1 hg2
    go_wp2_with fail
    refine (pick_any B g m 8 _ hr2 (by omega) (by omega)).mono ?_
    rintro e w3 ⟨k2, rfl, hk21, hk22, hr3, hg3⟩
    have hk23 := hk22 (by omega)
    clear hk22
    have F3 := F2.grown hg3 (by intro e; injection e with e; omega)
    have G3 := gr_trans G2 hg3
    clear hg3
    have c0 := F3.cellAt 0 rfl
    have c1 := F3.cellAt 1 rfl
    have f0 := F3.free 0
    have f1 := F3.free 1
    go_wp2_with fail
    refine bodyPost_ret (v := .agg #[.string s, .int .i64 (k2 : Int)]) ?_ rfl ?_
    · simp [results, Try.results31, go_sem, c0, c1]
    · exact ⟨s, k2, rfl, hsz, by omega, by omega, (hr3.far (by simp; omega) (by simp; have := h.ge; omega) _).far (by simp; omega) (by simp; have := h.ge; omega) _, gr_set (gr_set G3 (.inr (Nat.le_refl _)) _) (.inr (Nat.le_refl _)) _⟩

/-- A drawn subscriber. -/
def SubEnds (w : World) (e : Ending) (w' : World) : Prop :=
  ∃ (s : ByteArray) (at_ : Int), e = .returned (.agg #[.string s, .int .i64 at_]) ∧ s.size ≤ 7 ∧ -1 ≤ at_ ∧ at_ ≤ 101 ∧ w.grownBy w' none

set_option maxHeartbeats 400000 in
theorem dsub_any (A : Option Addr) (n c : Nat) (zs : List Int) (w : World) (h : Code w A n c zs) :
    Calls Try.prog 16 #[.slice A n c] w (SubEnds w) := by
  have F0 := Full.new w 30 #[.string ⟨#[]⟩, .int .i64 0]
  go_enter Try.func16, Try.ntmps16
  go_wp2_with fail
  refine (open_any A n c zs _ (h.grown (World.grownBy_alloc w _ none))).mono ?_
  rintro e w1 ⟨g, rfl, hr1, hg1⟩
  have F1 := F0.grown hg1 (by simp)
  have G1 := gr_trans (World.grownBy_alloc w _ none) hg1
  have hB := hr1.ge
  simp at hB
  clear hg1
  go_wp2_with fail
  refine (pick_any _ g 99999 4 _ hr1 (by omega) (by omega)).mono ?_
  rintro e w2 ⟨k, rfl, hk1, hk2, hr2, hg2⟩
  have hk3 := hk2 (by omega)
  clear hk2
  have F2 := F1.grown hg2 (by intro e; injection e with e; omega)
  have G2 := gr_new G1 hg2 (by omega)
  clear hg2
  rcases (by omega : k < 1 ∨ 1 ≤ k) with hk | hk
  · go_wp2_with fail
    refine (of_any _ g 99998 _ 3 3 [⟨#[65]⟩, ⟨#[]⟩, ⟨#[97, 98, 99, 100, 101, 102, 103]⟩] _ (hr2.alloc _) (Full.new _ _ _) rfl (by omega) (by omega)).mono ?_
    rintro e w3 ⟨s, hs, rfl, hr3, hg3⟩
    have F3 := (F2.alloc (.cells #[.string ⟨#[65]⟩, .string ⟨#[]⟩, .string ⟨#[97, 98, 99, 100, 101, 102, 103]⟩] 9)).grown hg3 (by intro e; injection e with e; omega)
    have G3 := gr_new (gr_alloc G2 _) hg3 (by omega)
    have hsz : s.size ≤ 7 := by simp at hs; rcases hs with rfl | rfl | rfl <;> decide
    clear hs hg3
    go_wp2_with fail
    refine (pick_any _ g 99997 3 _ (hr3.alloc _) (by omega) (by omega)).mono ?_
    rintro e w4 ⟨k2, rfl, hk21, hk22, hr4, hg4⟩
    have hk23 := hk22 (by omega)
    clear hk22
    have F4 := (F3.alloc _).grown hg4 (by intro e; injection e with e; omega)
    have G4 := gr_new (gr_alloc G3 _) hg4 (by omega)
    obtain ⟨x, hx, hxc⟩ := ((Full.new w3 3 (([-1, 100, 101] : List Int).map (Value.int .i64)).toArray).grown hg4 (by intro e; injection e with e; have := hr3.lt; omega)).intAt (k := k2) (by show k2 < 3; omega)
    have hx0 : -1 ≤ x ∧ x ≤ 101 := by simp at hx; omega
    clear hx hg4
    have c0 := F4.cellAt 0 rfl
    have c1 := F4.cellAt 1 rfl
    have f0 := F4.free 0
    have f1 := F4.free 1
    go_wp2_with fail
    refine bodyPost_ret (v := .agg #[.string s, .int .i64 x]) ?_ rfl ?_
    · simp [results, Try.results16, go_sem, c0, c1]
    · exact ⟨s, x, rfl, hsz, hx0.1, hx0.2, gr_set (gr_set G4 (.inr (Nat.le_refl _)) _) (.inr (Nat.le_refl _)) _⟩
  · go_wp2_with fail
    refine (sub92_any _ g 99990 _ (hr2.less (by omega))).mono ?_
    rintro e w3 ⟨s, x, rfl, hsz, hx0, hx1, hr3, hg3⟩
    have F3 := F2.grown hg3 (by intro e; injection e with e; omega)
    have G3 := gr_new G2 hg3 (by omega)
    clear hg3
    have c0 := F3.cellAt 0 rfl
    have c1 := F3.cellAt 1 rfl
    have f0 := F3.free 0
    have f1 := F3.free 1
    go_wp2_with fail
    refine bodyPost_ret (v := .agg #[.string s, .int .i64 x]) ?_ rfl ?_
    · simp [results, Try.results16, go_sem, c0, c1]
    · exact ⟨s, x, rfl, hsz, hx0, hx1, gr_set (gr_set G3 (.inr (Nat.le_refl _)) _) (.inr (Nat.le_refl _)) _⟩

/-- Whether a subscriber is valid. -/
def subB (s : ByteArray) (x : Int) : Bool := (decide (s.size = 0) || wordB s) && decide (0 ≤ x ∧ x ≤ 100)
theorem subB_no (s : ByteArray) (x : Int) (h : x < 0 ∨ 100 < x) : subB s x = false := by
  simp only [subB, show decide (0 ≤ x ∧ x ≤ 100) = false by simp; omega, Bool.and_false]
theorem subB_none (s : ByteArray) (x : Int) (h : s.size = 0) (h1 : 0 ≤ x) (h2 : x ≤ 100) : subB s x = true := by simp [subB, h, h1, h2]
theorem subB_some (s : ByteArray) (x : Int) (h : 1 ≤ s.size) (h1 : 0 ≤ x) (h2 : x ≤ 100) : subB s x = wordB s := by
  simp [subB, show s.size ≠ 0 by omega, h1, h2]
theorem subB_bad (s : ByteArray) (x : Int) (h : 1 ≤ s.size) (h1 : wordB s = false) : subB s x = false := by
  simp [subB, show s.size ≠ 0 by omega, h1]

set_option maxHeartbeats 400000 in
theorem sv_any (s : ByteArray) (x : Int) (w : World) (hs : s.size ≤ maxLen) :
    Calls Try.prog 17 #[.agg #[.string s, .int .i64 x]] w fun e w' => e = .returned (.bool (subB s x)) ∧ w.grownBy w' none := by
  rcases (by omega : s.size = 0 ∨ 1 ≤ s.size) with h0 | h0
  · have e0 := size0 s h0
    rcases (by omega : x < 0 ∨ (0 ≤ x ∧ 100 < x) ∨ (0 ≤ x ∧ x ≤ 100)) with h1 | ⟨h1, h2⟩ | ⟨h1, h2⟩
    · rw [subB_no s x (.inl h1)]
      clear h0
      go_enter Try.func17, Try.ntmps17
      go_wp2_with fail
      go_ret
      exact ⟨rfl, gr_alloc (gr_refl _ _) _⟩
    · rw [subB_no s x (.inr h2)]
      clear h0
      go_enter Try.func17, Try.ntmps17
      go_wp2_with fail
      go_ret
      exact ⟨ret_bool (by simp; omega), gr_alloc (gr_refl _ _) _⟩
    · rw [subB_none s x h0 h1 h2]
      clear h0
      go_enter Try.func17, Try.ntmps17
      go_wp2_with fail
      go_ret
      exact ⟨rfl, gr_alloc (gr_refl _ _) _⟩
  · have e0 := size1 s h0
    obtain ⟨b, hb⟩ : ∃ b, wordB s = b := ⟨_, rfl⟩
    have e1 := fun w => word_is s b w hs hb
    cases b
    · rw [subB_bad s x h0 hb]
      clear hb
      go_enter Try.func17, Try.ntmps17
      go_wp2_with fail
      refine (e1 _).mono ?_
      rintro e w1 ⟨rfl, rfl⟩
      go_wp2_with fail
      go_ret
      exact ⟨rfl, gr_alloc (gr_refl _ _) _⟩
    · rcases (by omega : x < 0 ∨ (0 ≤ x ∧ 100 < x) ∨ (0 ≤ x ∧ x ≤ 100)) with h1 | ⟨h1, h2⟩ | ⟨h1, h2⟩
      · rw [subB_no s x (.inl h1)]
        clear hb
        go_enter Try.func17, Try.ntmps17
        go_wp2_with fail
        refine (e1 _).mono ?_
        rintro e w1 ⟨rfl, rfl⟩
        go_wp2_with fail
        go_ret
        exact ⟨rfl, gr_alloc (gr_refl _ _) _⟩
      · rw [subB_no s x (.inr h2)]
        clear hb
        go_enter Try.func17, Try.ntmps17
        go_wp2_with fail
        refine (e1 _).mono ?_
        rintro e w1 ⟨rfl, rfl⟩
        go_wp2_with fail
        go_ret
        exact ⟨ret_bool (by simp; omega), gr_alloc (gr_refl _ _) _⟩
      · rw [subB_some s x h0 h1 h2, hb]
        clear hb
        go_enter Try.func17, Try.ntmps17
        go_wp2_with fail
        refine (e1 _).mono ?_
        rintro e w1 ⟨rfl, rfl⟩
        go_wp2_with fail
        go_ret
        exact ⟨rfl, gr_alloc (gr_refl _ _) _⟩
theorem sv_is (s : ByteArray) (x : Int) (b : Bool) (w : World) (hs : s.size ≤ maxLen) (h : subB s x = b) :
    Calls Try.prog 17 #[.agg #[.string s, .int .i64 x]] w fun e w' => e = .returned (.bool b) ∧ w.grownBy w' none := h ▸ sv_any s x w hs

set_option maxHeartbeats 400000 in
theorem ssv_any (s : ByteArray) (x : Int) (w : World) (hs : s.size ≤ maxLen) :
    Calls Try.prog 18 #[.agg #[.string s, .int .i64 x]] w fun e w' => e = .returned (.bool (subB s x)) ∧ w.grownBy w' none := by
  have i1 := fun w => in_any x 0 100 w
  rcases (by omega : s.size = 0 ∨ 1 ≤ s.size) with h0 | h0
  · have e0 := size0 s h0
    rw [show subB s x = inR x 0 100 by simp [subB, h0, inR]]
    clear h0
    go_enter Try.func18, Try.ntmps18
    go_wp2_with fail
    refine (i1 _).mono ?_
    rintro e w1 ⟨rfl, rfl⟩
    go_wp2_with fail
    go_ret
    exact ⟨rfl, gr_alloc (gr_refl _ _) _⟩
  · have e0 := size1 s h0
    obtain ⟨b, hb⟩ : ∃ b, wordB s = b := ⟨_, rfl⟩
    have e1 := fun w => sword_is s b w hs hb
    cases b
    · rw [subB_bad s x h0 hb]
      clear hb
      go_enter Try.func18, Try.ntmps18
      go_wp2_with fail
      refine (e1 _).mono ?_
      rintro e w1 ⟨rfl, rfl⟩
      go_wp2_with fail
      go_ret
      exact ⟨rfl, gr_alloc (gr_refl _ _) _⟩
    · rw [show subB s x = inR x 0 100 by simp [subB, hb, inR]]
      clear hb
      go_enter Try.func18, Try.ntmps18
      go_wp2_with fail
      refine (e1 _).mono ?_
      rintro e w1 ⟨rfl, rfl⟩
      go_wp2_with fail
      refine (i1 _).mono ?_
      rintro e w1 ⟨rfl, rfl⟩
      go_wp2_with fail
      go_ret
      exact ⟨rfl, gr_alloc (gr_refl _ _) _⟩
theorem ssv_is (s : ByteArray) (x : Int) (b : Bool) (w : World) (hs : s.size ≤ maxLen) (h : subB s x = b) :
    Calls Try.prog 18 #[.agg #[.string s, .int .i64 x]] w fun e w' => e = .returned (.bool b) ∧ w.grownBy w' none := h ▸ ssv_any s x w hs

set_option maxHeartbeats 400000 in
theorem sub_walk (A : Option Addr) (n c : Nat) (zs : List Int) (w : World) (h : Code w A n c zs) :
    Calls Try.prog 6 #[.slice A n c] w fun e w' => e = .returned (.bool true) ∧ w.grownBy w' none := by
  have hc := h.cap
  have hm := h.max
  unfold maxLen at hm
  by_cases h1 : n > 1048576
  · go_enter Try.func6, Try.ntmps6
    go_wp2
    go_ret
    exact ⟨rfl, gr_refl _ _⟩
  go_enter Try.func6, Try.ntmps6
  go_wp2_with fail
  refine (dsub_any A n c zs _ h).mono ?_
  rintro e w1 ⟨s, x, rfl, hs, hx0, hx1, hg1⟩
  have hsm : s.size ≤ maxLen := by simp only [maxLen]; omega
  obtain ⟨b, hb⟩ : ∃ b, subB s x = b := ⟨_, rfl⟩
  have e1 := fun w => sv_is s x b w hsm hb
  have e2 := fun w => ssv_is s x b w hsm hb
  have F1 := Full.new w1 30 #[.string s, .int .i64 x]
  cases b
  · clear hb
    go_wp2_with fail
    refine (e1 _).mono ?_
    rintro e w2 ⟨rfl, hg2⟩
    have F2 := F1.grown hg2 (by simp)
    have c0 := F2.cellAt 0 rfl
    have c1 := F2.cellAt 1 rfl
    go_wp2_with fail
    refine (e2 _).mono ?_
    rintro e w3 ⟨rfl, hg3⟩
    go_wp2_with fail
    go_ret
    exact ⟨rfl, gr_0 (gr_0 (gr_alloc hg1 _) hg2) hg3⟩
  · go_wp2_with fail
    refine (e1 _).mono ?_
    rintro e w2 ⟨rfl, hg2⟩
    have F2 := F1.grown hg2 (by simp)
    have c0 := F2.cellAt 0 rfl
    have c1 := F2.cellAt 1 rfl
    go_wp2_with fail
    refine (e2 _).mono ?_
    rintro e w3 ⟨rfl, hg3⟩
    have F3 := F2.grown hg3 (by simp)
    have c0 := F3.cellAt 0 rfl
    have c1 := F3.cellAt 1 rfl
    have e3 := fun w => sv_is s (-1) false w hsm (subB_no s (-1) (by omega))
    clear hb
    go_wp2_with fail
    refine (e3 _).mono ?_
    rintro e w4 ⟨rfl, hg4⟩
    have F4 := F3.grown hg4 (by simp)
    have c0 := F4.cellAt 0 rfl
    have c1 := F4.cellAt 1 rfl
    have hsz : (s ++ ⟨#[45]⟩).size = s.size + 1 := app_size s ⟨#[45]⟩
    have e5 := fun w => sv_is (s ++ ⟨#[45]⟩) x false w (by rw [hsz]; simp only [maxLen]; omega) (subB_bad _ _ (by omega) (word_app s ⟨#[45]⟩ (by decide)))
    clear hsz
    go_wp2_with fail
    refine (e5 _).mono ?_
    rintro e w5 ⟨rfl, hg5⟩
    go_wp2_with fail
    go_ret
    exact ⟨rfl, gr_0 (gr_0 (gr_0 (gr_0 (gr_alloc hg1 _) hg2) hg3) hg4) hg5⟩
end Go.Proofs.Ytnggcdgjbajnbaa
