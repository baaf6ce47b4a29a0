/- Drawn folds. -/
import Derived.Test.YtigcmdbialbadaaFold
import Derived.Test.YtigcmdbialbadaaOf
import Derived.Test.YtigcmdbialbadaaEvs
import Derived.Deep.RegionHeld3
namespace Go.Proofs.Ytigcmdbialbadaa
open Go.RowKit

/-- What a drawn fold is at most. -/
structure FdSmall (v s : Int) (t : ByteArray) : Prop where
  v0 : -1 ≤ v
  v1 : v ≤ 24
  s0 : 0 ≤ s
  s1 : s ≤ 1000
  t1 : t.size ≤ 7
def FdRdEnds (T : TypeId) (w : World) (B g m : Nat) (e : Ending) (w' : World) : Prop :=
  ∃ (v s : Int) (t : ByteArray), e = .returned (.agg #[.int .i64 v, .int .i64 s, .string t]) ∧ FdSmall v s t ∧ Rd T w' B g m ∧ w.grownBy w' (some g)
/-- A drawn fold. -/
def FdEnds (w : World) (e : Ending) (w' : World) : Prop := ∃ (v s : Int) (t : ByteArray), e = .returned (.agg #[.int .i64 v, .int .i64 s, .string t]) ∧ FdSmall v s t ∧ w.grownBy w' none

set_option maxRecDepth 100000 in
set_option maxHeartbeats 1000000 in
theorem fd92_any (B g m : Nat) (w : World) (h : Rd 53 w B g (m + 10)) :
    Calls Try.prog 18 #[.pointer (some ⟨g, 0, none⟩)] w (FdRdEnds 53 w B g m) := by
  have hlt := h.lt
  have hge := h.ge
  have R_0 := Full.new w 24 #[.int .i64 0, .int .i64 0, .string ⟨#[]⟩]
  have G0 := gr_alloc (gr_refl w (some g)) (.cells #[.int .i64 0, .int .i64 0, .string ⟨#[]⟩] 24)
  have R0 := h.alloc (.cells #[.int .i64 0, .int .i64 0, .string ⟨#[]⟩] 24)
  go_enter Try.func18, Try.ntmps18
  go_wp2_with fail
  refine (pick_any B g (m + 9) 4 _ (R0.less (by omega)) (by omega) (by omega)).mono ?_
  rintro e w1 ⟨k1, rfl, hk11, hk12, R1, hg1⟩
  have hk13 := hk12 (by omega)
  clear hk12
  have R_1 := R_0.grown hg1 (by intro e; injection e with e; omega)
  have G1 := gr_trans G0 hg1
  clear hg1
  have L1 := R_1.lt
  rcases (by omega : k1 < 1 ∨ 1 ≤ k1) with hk | hk
  · have rc0 := R_1.cellAt 0 rfl
    have rf0 := R_1.free 0
    have rc1 := R_1.cellAt 1 rfl
    have rf1 := R_1.free 1
    have rc2 := R_1.cellAt 2 rfl
    have rf2 := R_1.free 2
    have Rm := R1.less (show m ≤ m + 9 by omega)
    go_wp2_with fail
    refine bodyPost_ret (v := .agg #[.int .i64 (-1), .int .i64 0, .string ⟨#[]⟩]) ?_ rfl ?_
    · simp [results, Try.results18, go_sem, rc0, rc1, rc2]
    · exact ⟨_, _, _, rfl, ⟨by omega, by omega, by omega, by omega, by decide⟩, by repeat (first | refine Rd.set ?_ (by omega) (by omega) _ _ | exact Rm), by repeat (first | refine gr_put ?_ (by omega) _ | exact G1)⟩
  · go_wp2_with fail
    refine (pick_any B g (m + 8) 3 _ (R1.less (by omega)) (by omega) (by omega)).mono ?_
    rintro e w2 ⟨k2, rfl, hk21, hk22, R2, hg2⟩
    have hk23 := hk22 (by omega)
    clear hk22
    have R_2 := R_1.grown hg2 (by intro e; injection e with e; omega)
    have G2 := gr_trans G1 hg2
    clear hg2
    go_wp2_with fail
    refine (of_any B g (m + 7) _ 2 2 [⟨#[111, 112, 101, 110]⟩, ⟨#[112, 97, 121]⟩] _ ((R2.alloc _).less (by omega)) (Full.new _ _ _) rfl (by omega) (by omega)).mono ?_
    rintro e w3 ⟨s3, hs3, rfl, R3, hg3⟩
    have R_3 := (R_2.alloc _).grown hg3 (by intro e; injection e with e; omega)
    have G3 := gr_trans (gr_alloc G2 _) hg3
    clear hg3
    have hsz : s3.size ≤ 7 := by simp at hs3; rcases hs3 with rfl | rfl <;> decide
    clear hs3
    have Y0 := Full.new w3 24 #[.int .i64 (k2 : Int), .int .i64 0, .string s3]
    have R_3b := R_3.alloc (.cells #[.int .i64 (k2 : Int), .int .i64 0, .string s3] 24)
    have G3b := gr_alloc G3 (.cells #[.int .i64 (k2 : Int), .int .i64 0, .string s3] 24)
    have R3b := R3.alloc (.cells #[.int .i64 (k2 : Int), .int .i64 0, .string s3] 24)
    have L3 := R_3.lt
    have L3g := R3.lt
    have L3w := G3.size
    have c0 := Y0.cellAt 0 rfl
    have c1 := Y0.cellAt 1 rfl
    have yf1 := Y0.free 1
    have hw1 : IntKind.i64.wrap ((k2 : Int) + 1) = (k2 : Int) + 1 := IntWalk.i64_in _ (by omega)
    go_wp2_with fail
    go_region_held3 (fun w' => w'.cell? ⟨w3.heap.size, 0, none⟩ = some (.int .i64 (k2 : Int))) (first | (go_keep; done) | (rw [World.cell?_setCell_other _ _ _ _ (by simp)]; simp [*]))
      (first
        | (go_at_call_of 28 (Value.int IntKind.i64 200)
           refine (pick_any B g (m + 6) 200 _ ?_ (by omega) (by omega)).mono ?_
           · exact R3b.drew
           rintro e w4 ⟨k4, rfl, hk41, hk42, R4, hg4⟩
           have hk43 := hk42 (by omega)
           clear hk42
           have Y4 := Y0.drew.grown hg4 (by intro e; injection e with e; omega)
           have R_4 := R_3b.drew.grown hg4 (by intro e; injection e with e; omega)
           have G4 := gr_trans (gr_drew G3b) hg4
           have yc0 := Y4.cellAt 0 rfl
           have yc1 := Y4.cellAt 1 rfl
           have yc2 := Y4.cellAt 2 rfl
           have yf0 := Y4.free 0
           have yf1 := Y4.free 1
           have yf2 := Y4.free 2))
    clear hg4 R_3b G3b R3b Y0
    obtain ⟨q, hq, hq0, hq1⟩ : ∃ q : Int, IntKind.i64.wrap ((k4 : Int) * ((k2 : Int) + 1)) = q ∧ 0 ≤ q ∧ q ≤ 1000 := by
      rcases (by omega : k2 = 0 ∨ k2 = 1 ∨ k2 = 2) with rfl | rfl | rfl <;> exact ⟨_, IntWalk.i64_in _ (by omega), by omega, by omega⟩
    rw [hq]
    have Y5 := Y4.set 1 (.int .i64 q)
    have R_5 := R_4.far (p := ⟨w3.heap.size, 1, none⟩) (by simp; omega) (.int .i64 q)
    have R5 := R4.set (b := w3.heap.size) (by omega) (by omega) 1 (.int .i64 q)
    have G5 := gr_put (i := 1) G4 (b := w3.heap.size) (by omega) (.int .i64 q)
    obtain ⟨w5, hw5⟩ : ∃ w5, w4.setCell ⟨w3.heap.size, 1, none⟩ (.int .i64 q) = w5 := ⟨_, rfl⟩
    rw [hw5] at Y5 R_5 R5 G5
    have HW5 := hid hw5
    rw [hw5]
    clear hw5 hq yc0 yc1 yc2 yf0 yf1 yf2 Y4 R_4 R4 G4 c0 c1 hw1
    go_wp2_with fail
    refine (pick_any B g (m + 5) 24 _ (R5.less (by omega)) (by omega) (by omega)).mono ?_
    rintro e w6 ⟨k6, rfl, hk61, hk62, R6, hg6⟩
    have hk63 := hk62 (by omega)
    clear hk62
    have R_6 := R_5.grown hg6 (by intro e; injection e with e; omega)
    have Y6 := Y5.grown hg6 (by intro e; injection e with e; omega)
    have G6 := gr_trans G5 hg6
    clear hg6
    rcases (by omega : k6 < 1 ∨ (1 ≤ k6 ∧ k6 ≤ 1) ∨ 2 ≤ k6) with hk | ⟨hk, hk'⟩ | hk
    · go_wp2_with fail
      refine (pick_any B g (m) 3 _ ((R6.alloc _).less (by omega)) (by omega) (by omega)).mono ?_
      rintro e w7 ⟨k7, rfl, hk71, hk72, R7, hg7⟩
      have hk73 := hk72 (by omega)
      clear hk72
      have R_7 := (R_6.alloc _).grown hg7 (by intro e; injection e with e; omega)
      have Y7 := (Y6.alloc _).grown hg7 (by intro e; injection e with e; omega)
      have G7 := gr_trans (gr_alloc G6 _) hg7
      obtain ⟨x, hx, hxc⟩ := ((Full.new w6 3 (([-1, 23, 24] : List Int).map (Value.int .i64)).toArray).grown hg7 (by intro e; injection e with e; have := R6.lt; omega)).intAt (k := k7) (by show k7 < 3; omega)
      have hx0 : -1 ≤ x ∧ x ≤ 24 := by simp at hx; omega
      clear hx
      have yc0 := Y7.cellAt 0 rfl
      have yf0 := Y7.free 0
      have yc1 := Y7.cellAt 1 rfl
      have yf1 := Y7.free 1
      have yc2 := Y7.cellAt 2 rfl
      have yf2 := Y7.free 2
      have rc0 := R_7.cellAt 0 rfl
      have rf0 := R_7.free 0
      have rc1 := R_7.cellAt 1 rfl
      have rf1 := R_7.free 1
      have rc2 := R_7.cellAt 2 rfl
      have rf2 := R_7.free 2
      go_wp2_with fail
      refine bodyPost_ret (v := .agg #[.int .i64 x, .int .i64 q, .string s3]) ?_ rfl ?_
      · simp [results, Try.results18, go_sem, rc0, rc1, rc2]
      · exact ⟨_, _, _, rfl, ⟨hx0.1, hx0.2, hq0, hq1, hsz⟩, by repeat (first | refine Rd.set ?_ (by omega) (by omega) _ _ | exact R7), by repeat (first | refine gr_put ?_ (by omega) _ | exact G7)⟩
    · have yc0 := Y6.cellAt 0 rfl
      have yf0 := Y6.free 0
      have yc1 := Y6.cellAt 1 rfl
      have yf1 := Y6.free 1
      have yc2 := Y6.cellAt 2 rfl
      have yf2 := Y6.free 2
      have rc0 := R_6.cellAt 0 rfl
      have rf0 := R_6.free 0
      have rc1 := R_6.cellAt 1 rfl
      have rf1 := R_6.free 1
      have rc2 := R_6.cellAt 2 rfl
      have rf2 := R_6.free 2
      have Rm := R6.less (show m ≤ m + 5 by omega)
      go_wp2_with fail
      refine bodyPost_ret (v := .agg #[.int .i64 (k2 : Int), .int .i64 q, .string ⟨#[]⟩]) ?_ rfl ?_
      · simp [results, Try.results18, go_sem, rc0, rc1, rc2]
      · exact ⟨_, _, _, rfl, ⟨by omega, by omega, hq0, hq1, by decide⟩, by repeat (first | refine Rd.set ?_ (by omega) (by omega) _ _ | exact Rm), by repeat (first | refine gr_put ?_ (by omega) _ | exact G6)⟩
    · have yc0 := Y6.cellAt 0 rfl
      have yf0 := Y6.free 0
      have yc1 := Y6.cellAt 1 rfl
      have yf1 := Y6.free 1
      have yc2 := Y6.cellAt 2 rfl
      have yf2 := Y6.free 2
      have rc0 := R_6.cellAt 0 rfl
      have rf0 := R_6.free 0
      have rc1 := R_6.cellAt 1 rfl
      have rf1 := R_6.free 1
      have rc2 := R_6.cellAt 2 rfl
      have rf2 := R_6.free 2
      have Rm := R6.less (show m ≤ m + 5 by omega)
      go_wp2_with fail
      refine bodyPost_ret (v := .agg #[.int .i64 (k2 : Int), .int .i64 q, .string s3]) ?_ rfl ?_
      · simp [results, Try.results18, go_sem, rc0, rc1, rc2]
      · exact ⟨_, _, _, rfl, ⟨by omega, by omega, hq0, hq1, hsz⟩, by repeat (first | refine Rd.set ?_ (by omega) (by omega) _ _ | exact Rm), by repeat (first | refine gr_put ?_ (by omega) _ | exact G6)⟩

set_option maxHeartbeats 1000000 in
theorem dfv_any (A : Option Addr) (n c : Nat) (zs : List Int) (w : World) (h : Code w A n c zs) :
    Calls Try.prog 9 #[.slice A n c] w (FdEnds w) := by
  have R_0 := Full.new w 24 #[.int .i64 0, .int .i64 0, .string ⟨#[]⟩]
  go_enter Try.func9, Try.ntmps9
  go_wp2_with fail
  refine (open_any A n c zs _ (h.grown (World.grownBy_alloc w _ none))).mono ?_
  rintro e w1 ⟨g, rfl, hr1, hg1⟩
  have R_1 := R_0.grown hg1 (by simp)
  have G1 := gr_trans (World.grownBy_alloc w _ none) hg1
  have hB := hr1.ge
  simp at hB
  clear hg1
  go_wp2_with fail
  refine (fd92_any _ g 90000 _ (hr1.less (by omega))).mono ?_
  rintro e w2 ⟨v, s, t, rfl, hsm, R2, hg2⟩
  have R_2 := R_1.grown hg2 (by intro e; injection e with e; omega)
  have G2 := gr_new G1 hg2 (by omega)
  clear hg2
  have rc0 := R_2.cellAt 0 rfl
  have rf0 := R_2.free 0
  have rc1 := R_2.cellAt 1 rfl
  have rf1 := R_2.free 1
  have rc2 := R_2.cellAt 2 rfl
  have rf2 := R_2.free 2
  go_wp2_with fail
  refine bodyPost_ret (v := .agg #[.int .i64 v, .int .i64 s, .string t]) ?_ rfl ?_
  · simp [results, Try.results9, go_sem, rc0, rc1, rc2]
  · exact ⟨v, s, t, rfl, hsm, by repeat (first | refine gr_put ?_ (by omega) _ | exact G2)⟩

/-- Drawn events, of their own. -/
def EsEnds (w : World) (most : Nat) (e : Ending) (w' : World) : Prop :=
  ∃ (A : Option Addr) (n c : Nat) (l : List Ev), e = .returned (.slice A n c) ∧ Own w' w.heap.size 35 3 A n c (l.flatMap Ev.cells) ∧ l.length = n ∧ n ≤ most ∧ (∀ x ∈ l, EvSmall x) ∧ w.grownBy w' none
/-- A drawn fold and events. -/
def FeEnds (w : World) (most : Nat) (e : Ending) (w' : World) : Prop :=
  ∃ (v s : Int) (t : ByteArray) (A : Option Addr) (n c : Nat) (l : List Ev), e = .returned (.tuple #[.agg #[.int .i64 v, .int .i64 s, .string t], .slice A n c]) ∧ FdSmall v s t ∧ Own w' w.heap.size 35 3 A n c (l.flatMap Ev.cells) ∧ l.length = n ∧ n ≤ most ∧ (∀ x ∈ l, EvSmall x) ∧ w.grownBy w' none

set_option maxHeartbeats 1000000 in
theorem dfo_any (A : Option Addr) (n c : Nat) (zs : List Int) (w : World) (h : Code w A n c zs) :
    Calls Try.prog 12 #[.slice A n c] w (EsEnds w 5) := by
  go_enter Try.func12, Try.ntmps12
  go_wp2_with fail
  refine (open_any A n c zs _ h).mono ?_
  rintro e w1 ⟨g, rfl, hr1, hg1⟩
  have hB := hr1.ge
  go_wp2_with fail
  refine (evs91_any _ g 90000 5 _ (hr1.less (by omega)) (by omega) (by omega)).mono ?_
  rintro e w3 ⟨A', n', c', l, rfl, hO, hl, hn, hs, hr3, hg3⟩
  go_wp2_with fail
  go_ret
  exact ⟨A', n', c', l, rfl, hO.base_le hg1.size, hl, by omega, hs, gr_new hg1 hg3 hB⟩

set_option maxHeartbeats 1000000 in
theorem dfn_any (A : Option Addr) (n c : Nat) (zs : List Int) (w : World) (h : Code w A n c zs) :
    Calls Try.prog 16 #[.slice A n c] w (FeEnds w 4) := by
  have R_0 := Full.new w 24 #[.int .i64 0, .int .i64 0, .string ⟨#[]⟩]
  go_enter Try.func16, Try.ntmps16
  go_wp2_with fail
  refine (open_any A n c zs _ (h.grown (World.grownBy_alloc w _ none))).mono ?_
  rintro e w1 ⟨g, rfl, hr1, hg1⟩
  have R_1 := R_0.grown hg1 (by simp)
  have G1 := gr_trans (World.grownBy_alloc w _ none) hg1
  have hB := hr1.ge
  simp at hB
  clear hg1
  go_wp2_with fail
  refine (fd92_any _ g 90000 _ (hr1.less (by omega))).mono ?_
  rintro e w2 ⟨v, s, t, rfl, hsm, R2, hg2⟩
  have R_2 := R_1.grown hg2 (by intro e; injection e with e; omega)
  have G2 := gr_new G1 hg2 (by omega)
  clear hg2
  have Y2 := Full.new w2 24 #[.int .i64 v, .int .i64 s, .string t]
  have R_2b := R_2.alloc (.cells #[.int .i64 v, .int .i64 s, .string t] 24)
  have G2b := gr_alloc G2 (.cells #[.int .i64 v, .int .i64 s, .string t] 24)
  obtain ⟨B, R2b⟩ : ∃ B, Rd 53 (w2.alloc (.cells #[.int .i64 v, .int .i64 s, .string t] 24)) B g 90000 := ⟨_, R2.alloc _⟩
  have L2 := R_2.lt
  have L2g := R2.lt
  have c0 := Y2.cellAt 0 rfl
  have c1 := Y2.cellAt 1 rfl
  have c2 := Y2.cellAt 2 rfl
  have HG := hid (show w.heap.size ≤ g by omega)
  have ne1 : w.heap.size ≠ w2.heap.size := by omega
  have ne2 := ne1.symm
  have HL := hid G2b.size
  go_wp2_with fail
  go_region_held3 (fun w' => w'.cell? ⟨w2.heap.size, 0, none⟩ = some (.int .i64 v) ∧ w'.cell? ⟨w2.heap.size, 1, none⟩ = some (.int .i64 s) ∧ w'.cell? ⟨w2.heap.size, 2, none⟩ = some (.string t)) (go_keep)
    (first
      | (go_at_call 23
         refine (evs91_any B g 80000 4 _ ?_ (by omega) (by omega)).mono ?_
         · exact (R2b.less (by omega)).drew
         rintro e w3 ⟨A', n', c', l, rfl, hO, hl, hn, hs, hr3, hg3⟩
         have Y3 := Y2.drew.grown hg3 (by intro e; injection e with e; omega)
         have R_3 := R_2b.drew.grown hg3 (by intro e; injection e with e; omega)
         have G3 := gr_new (gr_drew G2b) hg3 HG.out
         have O3 := hO.base_le (show w.heap.size ≤ _ from HL.out)
         have HN3 := hid hl
         have HS3 := hid hs
         clear hl hs
         have yc0 := Y3.cellAt 0 rfl
         have yc1 := Y3.cellAt 1 rfl
         have yc2 := Y3.cellAt 2 rfl
         have rc0 := R_3.cellAt 0 rfl
         have rc1 := R_3.cellAt 1 rfl
         have rc2 := R_3.cellAt 2 rfl
         have rf0 := R_3.free 0
         have rf1 := R_3.free 1
         have rf2 := R_3.free 2))
  have HNE := hid (O3.ne_full R_3 (by decide))
  go_wp2_with fail
  refine bodyPost_ret (v := .tuple #[.agg #[.int .i64 v, .int .i64 s, .string t], .slice A' n' c']) ?_ rfl ?_
  · simp [results, Try.results16, go_sem, rc0, rc1, rc2]
  · exact ⟨v, s, t, A', n', c', l, rfl, hsm, by repeat (first | exact O3 | refine Own.far ?_ HNE.out _ _), HN3.out, by omega, HS3.out, by repeat (first | exact G3 | refine gr_put ?_ (by omega) _)⟩

end Go.Proofs.Ytigcmdbialbadaa
