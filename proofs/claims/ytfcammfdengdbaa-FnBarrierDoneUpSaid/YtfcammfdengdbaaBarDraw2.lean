/- DrawBarrierTake, DrawBarrierDone. -/
import Derived.Test.YtfcammfdengdbaaBarDraw
import Derived.Deep.RegionLaw
namespace Go.Proofs.Ytfcammfdengdbaa
open Go.RowKit

/-- A drawn barrier, and how many. -/
def BtEnds (w : World) (e : Ending) (w' : World) : Prop :=
  ∃ (d : Int) (A : Option Addr) (n c : Nat) (xs : List Int) (m : Int), e = .returned (.tuple #[.agg #[.int .i64 d, .slice A n c], .int .i64 m]) ∧ Own w' w.heap.size 3 1 A n c (ints xs) ∧ xs.length = n ∧ BrSmall d xs ∧ -1000 ≤ m ∧ m ≤ 1000 ∧ w.grownBy w' none
/-- A drawn barrier, a position, and how many. -/
def BdEnds (w : World) (e : Ending) (w' : World) : Prop :=
  ∃ (d : Int) (A : Option Addr) (n c : Nat) (xs : List Int) (f m : Int), e = .returned (.tuple #[.agg #[.int .i64 d, .slice A n c], .int .i64 f, .int .i64 m]) ∧ Own w' w.heap.size 3 1 A n c (ints xs) ∧ xs.length = n ∧ BrSmall d xs ∧ -1000 ≤ f ∧ f ≤ 1000 ∧ -1000 ≤ m ∧ m ≤ 1000 ∧ w.grownBy w' none

set_option maxHeartbeats 2000000 in
theorem dbt_any (A : Option Addr) (n c : Nat) (zs : List Int) (w : World) (h : Code w A n c zs) :
    Calls Try.prog 23 #[.slice A n c] w (BtEnds w) := by
  have F0 := Full.new w 25 #[.int .i64 0, .slice none 0 0]
  have G0 := World.grownBy_alloc w (.cells #[.int .i64 0, .slice none 0 0] 25) none
  go_enter Try.func23, Try.ntmps23
  go_wp2_with fail
  refine (open_any A n c zs _ (h.grown G0)).mono ?_
  rintro e w1 ⟨g, rfl, hr1, hg1⟩
  have F1 := F0.grown hg1 (by simp)
  have G1 := gr_0 G0 hg1
  have hB := hr1.ge
  simp at hB
  have hs1 := G1.size
  have hgl := hr1.lt
  clear hg1
  go_wp2_with fail
  refine (br91_any _ g 90000 _ (hr1.less (by omega))).mono ?_
  rintro e w2 ⟨d, A2, n2, c2, xs, rfl, hO, hl, hsm, hr2, hg2⟩
  have F2 := F1.grown hg2 (by intro e; injection e with e; omega)
  have G2 := gr_new G1 hg2 (by omega)
  have hs2 := hg2.size
  have hg2lt := hr2.lt
  clear hg2 F1 G1
  have hN := hsm.len
  rw [hl] at hN
  have hC := hO.cap
  have hCm := hO.max
  unfold maxLen at hCm
  have HL := hid hl
  have E2 := Full.new w2 25 #[.int .i64 d, .slice A2 n2 c2]
  have F3 := F2.alloc (.cells #[.int .i64 d, .slice A2 n2 c2] 25)
  have O3 := hO.alloc (.cells #[.int .i64 d, .slice A2 n2 c2] 25)
  obtain ⟨B, R3⟩ : ∃ B, Rd 55 (w2.alloc (.cells #[.int .i64 d, .slice A2 n2 c2] 25)) B g 90000 := ⟨_, hr2.alloc _⟩
  have G3 := gr_alloc G2 (.cells #[.int .i64 d, .slice A2 n2 c2] 25)
  have HG := hid (show w.heap.size ≤ g by omega)
  have E3 := E2
  have ne1 : w.heap.size ≠ w2.heap.size := by omega
  have ne2 : w2.heap.size ≠ w.heap.size := by omega
  have ng1 : g ≠ w2.heap.size := by omega
  have ng2 : g ≠ w.heap.size := by omega
  clear hl E2
  go_wp2_with fail
  go_region_held3 (fun w' => w'.cell? ⟨w2.heap.size, 0, none⟩ = some (.int .i64 d) ∧ w'.cell? ⟨w2.heap.size, 1, none⟩ = some (.slice A2 n2 c2)) (go_keep)
    (first
      | (go_at_call_of 37 (Value.int IntKind.i64 4)
         refine (pick_any B g 89999 4 _ ?_ (by omega) (by omega)).mono ?_
         · exact R3.drew
         rintro e w4 ⟨k4, rfl, hk41, hk42, R4, hg4⟩
         have hk43 := hk42 (by omega)
         clear hk42
         have E4 := E3.drew.grown hg4 (by intro e; injection e with e; omega)
         have F4 := F3.drew.grown hg4 (by intro e; injection e with e; omega)
         have O4 := O3.drew.past hg4 (by omega)
         have G4 := gr_new (gr_drew G3) hg4 HG.out
         have k0 := E4.cellAt 0 (v := .int .i64 d) rfl
         have k1 := E4.cellAt 1 (v := .slice A2 n2 c2) rfl
         skip)
      | (go_at_call_of 37 (Value.int IntKind.i64 20)
         refine (pick_any B g 89998 20 _ ?_ (by omega) (by omega)).mono ?_
         · exact R4
         rintro e w5 ⟨k5, rfl, hk51, hk52, R5, hg5⟩
         have hk53 := hk52 (by omega)
         clear hk52
         have E5 := E4.grown hg5 (by intro e; injection e with e; omega)
         have F5 := F4.grown hg5 (by intro e; injection e with e; omega)
         have O5 := O4.past hg5 (by omega)
         have G5 := gr_new G4 hg5 HG.out
         have k0 := E5.cellAt 0 (v := .int .i64 d) rfl
         have k1 := E5.cellAt 1 (v := .slice A2 n2 c2) rfl
         skip)
      | (go_at_call_of 37 (Value.int IntKind.i64 20)
         refine (pick_any B g 89997 20 _ ?_ (by omega) (by omega)).mono ?_
         · exact R5
         rintro e w6 ⟨k6, rfl, hk61, hk62, R6, hg6⟩
         have hk63 := hk62 (by omega)
         clear hk62
         have E6 := E5.grown hg6 (by intro e; injection e with e; omega)
         have F6 := F5.grown hg6 (by intro e; injection e with e; omega)
         have O6 := O5.past hg6 (by omega)
         have G6 := gr_new G5 hg6 HG.out
         have k0 := E6.cellAt 0 (v := .int .i64 d) rfl
         have k1 := E6.cellAt 1 (v := .slice A2 n2 c2) rfl
         have f0 := F6.free 0
         have f1 := F6.free 1
         have r0 := F6.cellAt 0 (v := .int .i64 0) rfl
         have r1 := F6.cellAt 1 (v := .slice none 0 0) rfl
         skip))
  have e1 : IntKind.i64.wrap ((k5 : Int) / 19) = (k5 : Int) / 19 := IntWalk.i64_in _ (by omega)
  have e2 : IntKind.i64.wrap ((k5 : Int) / 19 * 2) = (k5 : Int) / 19 * 2 := IntWalk.i64_in _ (by omega)
  have e3 : IntKind.i64.wrap ((k6 : Int) / 19) = (k6 : Int) / 19 := IntWalk.i64_in _ (by omega)
  have e4 : IntKind.i64.wrap ((k6 : Int) / 19 * 23) = (k6 : Int) / 19 * 23 := IntWalk.i64_in _ (by omega)
  have e5 : IntKind.i64.wrap (1 + (k4 : Int)) = 1 + (k4 : Int) := IntWalk.i64_in _ (by omega)
  have e6 : IntKind.i64.wrap (1 + (k4 : Int) - (k5 : Int) / 19 * 2) = 1 + (k4 : Int) - (k5 : Int) / 19 * 2 := IntWalk.i64_in _ (by omega)
  have e7 : IntKind.i64.wrap (1 + (k4 : Int) - (k5 : Int) / 19 * 2 + (k6 : Int) / 19 * 23) = 1 + (k4 : Int) - (k5 : Int) / 19 * 2 + (k6 : Int) / 19 * 23 := IntWalk.i64_in _ (by omega)
  try rw [e1]
  try rw [e2]
  try rw [e3]
  try rw [e4]
  try rw [e5]
  try rw [e6]
  try rw [e7]
  obtain ⟨m, hm⟩ : ∃ m, 1 + (k4 : Int) - (k5 : Int) / 19 * 2 + (k6 : Int) / 19 * 23 = m := ⟨_, rfl⟩
  have hm0 : -1000 ≤ m := by omega
  have hm1 : m ≤ 1000 := by omega
  try rw [hm]
  clear e1 e2 e3 e4 e5 e6 e7 hm
  have hO5 := ((O6.put F6 (by decide) 0 (.int .i64 d)).put (F6.set 0 _) (by decide) 1 (.slice A2 n2 c2)).base_le (show w.heap.size ≤ w1.heap.size by omega)
  go_wp2_with fail
  refine bodyPost_ret (v := .tuple #[.agg #[.int .i64 d, .slice A2 n2 c2], .int .i64 m]) ?_ rfl ?_
  · simp [results, Try.results23, go_sem, r0, r1]
  · exact ⟨d, A2, n2, c2, xs, m, rfl, hO5, HL.out, hsm, hm0, hm1, by repeat (first | refine gr_put ?_ (by omega) _ | exact G6)⟩

set_option maxHeartbeats 4000000 in
theorem dbd_any (A : Option Addr) (n c : Nat) (zs : List Int) (w : World) (h : Code w A n c zs) :
    Calls Try.prog 27 #[.slice A n c] w (BdEnds w) := by
  have F0 := Full.new w 25 #[.int .i64 0, .slice none 0 0]
  have G0 := World.grownBy_alloc w (.cells #[.int .i64 0, .slice none 0 0] 25) none
  go_enter Try.func27, Try.ntmps27
  go_wp2_with fail
  refine (open_any A n c zs _ (h.grown G0)).mono ?_
  rintro e w1 ⟨g, rfl, hr1, hg1⟩
  have F1 := F0.grown hg1 (by simp)
  have G1 := gr_0 G0 hg1
  have hB := hr1.ge
  simp at hB
  have hs1 := G1.size
  have hgl := hr1.lt
  clear hg1
  go_wp2_with fail
  refine (br91_any _ g 90000 _ (hr1.less (by omega))).mono ?_
  rintro e w2 ⟨d, A2, n2, c2, xs, rfl, hO, hl, hsm, hr2, hg2⟩
  have F2 := F1.grown hg2 (by intro e; injection e with e; omega)
  have G2 := gr_new G1 hg2 (by omega)
  have hs2 := hg2.size
  have hg2lt := hr2.lt
  clear hg2 F1 G1
  have hN := hsm.len
  rw [hl] at hN
  have hC := hO.cap
  have hCm := hO.max
  unfold maxLen at hCm
  have HL := hid hl
  have E2 := Full.new w2 25 #[.int .i64 d, .slice A2 n2 c2]
  have F3 := F2.alloc (.cells #[.int .i64 d, .slice A2 n2 c2] 25)
  have O3 := hO.alloc (.cells #[.int .i64 d, .slice A2 n2 c2] 25)
  obtain ⟨B, R3⟩ : ∃ B, Rd 55 (w2.alloc (.cells #[.int .i64 d, .slice A2 n2 c2] 25)) B g 90000 := ⟨_, hr2.alloc _⟩
  have G3 := gr_alloc G2 (.cells #[.int .i64 d, .slice A2 n2 c2] 25)
  have HG := hid (show w.heap.size ≤ g by omega)
  have E3 := E2
  have ne1 : w.heap.size ≠ w2.heap.size := by omega
  have ne2 : w2.heap.size ≠ w.heap.size := by omega
  have ng1 : g ≠ w2.heap.size := by omega
  have ng2 : g ≠ w.heap.size := by omega
  clear hl E2
  have c1 := E3.cellAt 1 (v := .slice A2 n2 c2) rfl
  rcases (by omega : n2 = 0 ∨ 0 < n2) with h0 | h0
  · have b0 : decide (0 < n2) = false := by simp; omega
    clear h0
    go_wp2_with fail
    clear c1
    go_region_held3 (fun w' => w'.cell? ⟨w2.heap.size, 0, none⟩ = some (.int .i64 d) ∧ w'.cell? ⟨w2.heap.size, 1, none⟩ = some (.slice A2 n2 c2)) (go_keep)
      (first
        | (go_at_call_of 37 (Value.int IntKind.i64 16)
           refine (pick_any B g 89000 16 _ ?_ (by omega) (by omega)).mono ?_
           · exact (R3.less (show 89001 ≤ 90000 by omega)).drew
           rintro e w5 ⟨k5, rfl, hk51, hk52, R5, hg5⟩
           have hk53 := hk52 (by omega)
           clear hk52
           have E5 := E3.drew.grown hg5 (by intro e; injection e with e; omega)
           have F5 := F3.drew.grown hg5 (by intro e; injection e with e; omega)
           have O5 := O3.drew.past hg5 (by omega)
           have G5 := gr_new (gr_drew G3) hg5 HG.out
           have k0 := E5.cellAt 0 (v := .int .i64 d) rfl
           have k1 := E5.cellAt 1 (v := .slice A2 n2 c2) rfl
           skip)
        | (go_at_call_of 37 (Value.int IntKind.i64 12)
           refine (pick_any B g 88999 12 _ ?_ (by omega) (by omega)).mono ?_
           · exact R5
           rintro e w6 ⟨k6, rfl, hk61, hk62, R6, hg6⟩
           have hk63 := hk62 (by omega)
           clear hk62
           have E6 := E5.grown hg6 (by intro e; injection e with e; omega)
           have F6 := F5.grown hg6 (by intro e; injection e with e; omega)
           have O6 := O5.past hg6 (by omega)
           have G6 := gr_new G5 hg6 HG.out
           have k0 := E6.cellAt 0 (v := .int .i64 d) rfl
           have k1 := E6.cellAt 1 (v := .slice A2 n2 c2) rfl
           skip)
        | (go_at_call_of 37 (Value.int IntKind.i64 3)
           refine (pick_any B g 88998 3 _ ?_ (by omega) (by omega)).mono ?_
           · exact R6
           rintro e w7 ⟨k7, rfl, hk71, hk72, R7, hg7⟩
           have hk73 := hk72 (by omega)
           clear hk72
           have E7 := E6.grown hg7 (by intro e; injection e with e; omega)
           have F7 := F6.grown hg7 (by intro e; injection e with e; omega)
           have O7 := O6.past hg7 (by omega)
           have G7 := gr_new G6 hg7 HG.out
           have k0 := E7.cellAt 0 (v := .int .i64 d) rfl
           have k1 := E7.cellAt 1 (v := .slice A2 n2 c2) rfl
           have f0 := F7.free 0
           have f1 := F7.free 1
           have r0 := F7.cellAt 0 (v := .int .i64 0) rfl
           have r1 := F7.cellAt 1 (v := .slice none 0 0) rfl
           skip))
    have e1 : IntKind.i64.wrap ((k6 : Int) / 11) = (k6 : Int) / 11 := IntWalk.i64_in _ (by omega)
    have e2 : IntKind.i64.wrap ((k6 : Int) / 11 * 16) = (k6 : Int) / 11 * 16 := IntWalk.i64_in _ (by omega)
    have e3 : IntKind.i64.wrap ((k5 : Int) - (k6 : Int) / 11 * 16) = (k5 : Int) - (k6 : Int) / 11 * 16 := IntWalk.i64_in _ (by omega)
    try rw [e1]
    try rw [e2]
    try rw [e3]
    obtain ⟨f, hf⟩ : ∃ f, (k5 : Int) - (k6 : Int) / 11 * 16 = f := ⟨_, rfl⟩
    have hf0 : -1000 ≤ f := by omega
    have hf1 : f ≤ 1000 := by omega
    try rw [hf]
    clear e1 e2 e3 hf
    have hO5 := ((O7.put F7 (by decide) 0 (.int .i64 d)).put (F7.set 0 _) (by decide) 1 (.slice A2 n2 c2)).base_le (show w.heap.size ≤ w1.heap.size by omega)
    go_wp2_with fail
    refine bodyPost_ret (v := .tuple #[.agg #[.int .i64 d, .slice A2 n2 c2], .int .i64 f, .int .i64 (k7 : Int)]) ?_ rfl ?_
    · simp [results, Try.results27, go_sem, r0, r1]
    · exact ⟨d, A2, n2, c2, xs, f, (k7 : Int), rfl, hO5, HL.out, hsm, hf0, hf1, by omega, by omega, by repeat (first | refine gr_put ?_ (by omega) _ | exact G7)⟩
  · have b0 : decide (0 < n2) = true := by simp; omega
    go_wp2_with fail
    refine (pick_any B g 89999 8 _ R3 (by omega) (by omega)).mono ?_
    rintro e w4 ⟨k8, rfl, hk81, hk82, R4, hg4⟩
    have hk83 := hk82 (by omega)
    clear hk82 c1
    have E4 := E3.grown hg4 (by intro e; injection e with e; omega)
    have F4 := F3.grown hg4 (by intro e; injection e with e; omega)
    have O4 := O3.past hg4 (by omega)
    have G4 := gr_new G3 hg4 HG.out
    clear hg4 E3 F3 O3 G3 R3
    rcases (by omega : k8 = 0 ∨ 1 ≤ k8) with h4 | h4
    · subst h4
      have c0 := E4.cellAt 0 (v := .int .i64 d) rfl
      have c1 := E4.cellAt 1 (v := .slice A2 n2 c2) rfl
      go_wp2_with fail
      go_region_held3 (fun w' => w'.cell? ⟨w2.heap.size, 0, none⟩ = some (.int .i64 d) ∧ w'.cell? ⟨w2.heap.size, 1, none⟩ = some (.slice A2 n2 c2)) (go_keep)
        (first
          | (go_at_call_of 37 (Value.int IntKind.i64 16)
             refine (pick_any B g 89000 16 _ ?_ (by omega) (by omega)).mono ?_
             · exact (R4.less (show 89001 ≤ 89999 by omega)).drew
             rintro e w5 ⟨k5, rfl, hk51, hk52, R5, hg5⟩
             have hk53 := hk52 (by omega)
             clear hk52
             have E5 := E4.drew.grown hg5 (by intro e; injection e with e; omega)
             have F5 := F4.drew.grown hg5 (by intro e; injection e with e; omega)
             have O5 := O4.drew.past hg5 (by omega)
             have G5 := gr_new (gr_drew G4) hg5 HG.out
             have k0 := E5.cellAt 0 (v := .int .i64 d) rfl
             have k1 := E5.cellAt 1 (v := .slice A2 n2 c2) rfl
             skip)
          | (go_at_call_of 37 (Value.int IntKind.i64 12)
             refine (pick_any B g 88999 12 _ ?_ (by omega) (by omega)).mono ?_
             · exact R5
             rintro e w6 ⟨k6, rfl, hk61, hk62, R6, hg6⟩
             have hk63 := hk62 (by omega)
             clear hk62
             have E6 := E5.grown hg6 (by intro e; injection e with e; omega)
             have F6 := F5.grown hg6 (by intro e; injection e with e; omega)
             have O6 := O5.past hg6 (by omega)
             have G6 := gr_new G5 hg6 HG.out
             have k0 := E6.cellAt 0 (v := .int .i64 d) rfl
             have k1 := E6.cellAt 1 (v := .slice A2 n2 c2) rfl
             skip)
          | (go_at_call_of 37 (Value.int IntKind.i64 3)
             refine (pick_any B g 88998 3 _ ?_ (by omega) (by omega)).mono ?_
             · exact R6
             rintro e w7 ⟨k7, rfl, hk71, hk72, R7, hg7⟩
             have hk73 := hk72 (by omega)
             clear hk72
             have E7 := E6.grown hg7 (by intro e; injection e with e; omega)
             have F7 := F6.grown hg7 (by intro e; injection e with e; omega)
             have O7 := O6.past hg7 (by omega)
             have G7 := gr_new G6 hg7 HG.out
             have k0 := E7.cellAt 0 (v := .int .i64 d) rfl
             have k1 := E7.cellAt 1 (v := .slice A2 n2 c2) rfl
             have f0 := F7.free 0
             have f1 := F7.free 1
             have r0 := F7.cellAt 0 (v := .int .i64 0) rfl
             have r1 := F7.cellAt 1 (v := .slice none 0 0) rfl
             skip))
      have e1 : IntKind.i64.wrap ((k6 : Int) / 11) = (k6 : Int) / 11 := IntWalk.i64_in _ (by omega)
      have e2 : IntKind.i64.wrap ((k6 : Int) / 11 * 16) = (k6 : Int) / 11 * 16 := IntWalk.i64_in _ (by omega)
      have e3 : IntKind.i64.wrap ((k5 : Int) - (k6 : Int) / 11 * 16) = (k5 : Int) - (k6 : Int) / 11 * 16 := IntWalk.i64_in _ (by omega)
      try rw [e1]
      try rw [e2]
      try rw [e3]
      obtain ⟨f, hf⟩ : ∃ f, (k5 : Int) - (k6 : Int) / 11 * 16 = f := ⟨_, rfl⟩
      have hf0 : -1000 ≤ f := by omega
      have hf1 : f ≤ 1000 := by omega
      try rw [hf]
      clear e1 e2 e3 hf
      have hO5 := ((O7.put F7 (by decide) 0 (.int .i64 d)).put (F7.set 0 _) (by decide) 1 (.slice A2 n2 c2)).base_le (show w.heap.size ≤ w1.heap.size by omega)
      go_wp2_with fail
      refine bodyPost_ret (v := .tuple #[.agg #[.int .i64 d, .slice A2 n2 c2], .int .i64 f, .int .i64 (k7 : Int)]) ?_ rfl ?_
      · simp [results, Try.results27, go_sem, r0, r1]
      · exact ⟨d, A2, n2, c2, xs, f, (k7 : Int), rfl, hO5, HL.out, hsm, hf0, hf1, by omega, by omega, by repeat (first | refine gr_put ?_ (by omega) _ | exact G7)⟩
    · have c1 := E4.cellAt 1 (v := .slice A2 n2 c2) rfl
      go_wp2_with fail
      refine (pick_any B g 89998 (n2 : Int) _ R4 (by omega) (by omega)).mono ?_
      rintro e w5 ⟨kk, rfl, hkk1, hkk2, R5, hg5⟩
      have hkk3 : kk < n2 := by have := hkk2 (by omega); omega
      clear hkk2 c1
      have E5 := E4.grown hg5 (by intro e; injection e with e; omega)
      have F5 := F4.grown hg5 (by intro e; injection e with e; omega)
      have O5 := O4.past hg5 (by omega)
      have G5 := gr_new G4 hg5 HG.out
      clear hg5 E4 F4 O4 G4 R4
      obtain ⟨gA, cur, hA, hgA, FA, hcell⟩ := O5.open_ h0
      obtain rfl := hA
      have hF0 : ∀ k, k < n2 → w5.cell? ⟨gA, k, none⟩ = some (.int .i64 (xs.getD k 0)) := fun k hk => by
        have hkl : k < xs.length := by rw [HL.out]; exact hk
        have e : xs.getD k 0 = xs[k] := by simp [List.getD, hkl]
        rw [e]
        exact hcell k _ (ints_at xs k hkl)
      have HF0 := hid hF0
      have hAgE : gA ≠ w2.heap.size := FA.ne E5 (by decide)
      have hAgg : gA ≠ g := R5.ne_full FA (by decide)
      have nA1 : gA ≠ w.heap.size := by omega
      have nA2 : w.heap.size ≠ gA := by omega
      have HE5 := hid E5
      have HF5 := hid F5
      have HO5 := hid O5
      have HR5 := hid (R5.less (show 89000 - 1 ≤ 89998 by omega))
      have HMem := hid (fun k (hk : k < n2) => hsm.mem (xs.getD k 0) (by
        have hkl : k < xs.length := by rw [HL.out]; exact hk
        rw [List.getD_eq_getElem?_getD, List.getElem?_eq_getElem hkl]
        exact List.getElem_mem hkl))
      clear hF0 hcell FA E5 F5 O5 R5
      go_wp2_with fail
      go_loopw [8] (fun v wr => ∃ q : Nat, v = .int .i64 (q : Int) ∧ 1 ≤ q ∧ kk + q ≤ n2 ∧ Rd 55 wr B g (89000 - q) ∧ Full wr w2.heap.size 25 #[.int .i64 d, .slice (some ⟨gA, 0, none⟩) n2 c2] ∧ Full wr w.heap.size 25 #[.int .i64 0, .slice none 0 0] ∧ Own wr w1.heap.size 3 1 (some ⟨gA, 0, none⟩) n2 c2 (ints xs) ∧ (∀ k, k < n2 → wr.cell? ⟨gA, k, none⟩ = some (.int .i64 (xs.getD k 0))) ∧ w.grownBy wr none) (fun v _ => n2 - (intOf v).toNat)
      case atStart => exact ⟨1, rfl, by omega, by omega, HR5.out, HE5.out, HF5.out, HO5.out, HF0.out, G5⟩
      case round =>
        clear HR5 HE5 HF5 HO5 HF0 G5
        obtain ⟨q, rfl, hq1, hq2, hR, hE, hF, hO, hX, hG⟩ := hrel
        have HX := hid hX
        have HR := hid hR
        have HEr := hid hE
        have HFr := hid hF
        have HOr := hid hO
        have cy := hX kk hkk3
        have hy := HMem.out kk hkk3
        obtain ⟨y, hyy⟩ : ∃ y, xs.getD kk 0 = y := ⟨_, rfl⟩
        rw [hyy] at cy hy
        obtain ⟨hy0, hy1⟩ := hy
        have c0 := hE.cellAt 0 (v := .int .i64 d) rfl
        have c1 := hE.cellAt 1 (v := .slice (some ⟨gA, 0, none⟩) n2 c2) rfl
        have i1 : IntKind.i64.wrap ((kk : Int) + (q : Int)) = (kk : Int) + q := IntWalk.i64_in _ (by omega)
        have i2 : IntKind.i64.wrap (y + (q : Int)) = y + q := IntWalk.i64_in _ (by omega)
        have b3 : (0 : Int) ≤ (kk : Int) := by omega
        have b4 : (kk : Int) < (n2 : Int) := by omega
        have HOUT := hid (show ∀ wf : World, (∀ k, k < n2 → wf.cell? ⟨gA, k, none⟩ = some (.int .i64 (xs.getD k 0))) → Full wf w.heap.size 25 #[.int .i64 0, .slice none 0 0] → Own wf w1.heap.size 3 1 (some ⟨gA, 0, none⟩) n2 c2 (ints xs) → w.grownBy wf none → BdEnds w (.returned (.tuple #[.agg #[.int .i64 d, .slice (some ⟨gA, 0, none⟩) n2 c2], .int .i64 y, .int .i64 (q : Int)])) ((wf.setCell ⟨w.heap.size, 0, none⟩ (.int .i64 d)).setCell ⟨w.heap.size, 1, none⟩ (.slice (some ⟨gA, 0, none⟩) n2 c2)) from fun wf _ hFf hOf hGf =>
          ⟨d, some ⟨gA, 0, none⟩, n2, c2, xs, y, (q : Int), rfl, ((hOf.put hFf (by decide) 0 (.int .i64 d)).put (hFf.set 0 _) (by decide) 1 (.slice (some ⟨gA, 0, none⟩) n2 c2)).base_le (by omega), HL.out, hsm, by omega, by omega, by omega, by omega, gr_put (gr_put hGf (Nat.le_refl _) _) (Nat.le_refl _) _⟩)
        clear hyy hX hR hE hF hO
        rcases (by omega : n2 ≤ kk + q ∨ kk + q < n2) with hlt | hlt
        · have d1 : decide ((kk : Int) + (q : Int) < (n2 : Int)) = false := by simp; omega
          go_wp2_with fail
          go_quiet (fail)
          have f0 := HFr.out.free 0
          have f1 := HFr.out.free 1
          have r0 := HFr.out.cellAt 0 (v := .int .i64 0) rfl
          have r1 := HFr.out.cellAt 1 (v := .slice none 0 0) rfl
          have l0 := HEr.out.cellAt 0 (v := .int .i64 d) rfl
          have l1 := HEr.out.cellAt 1 (v := .slice (some ⟨gA, 0, none⟩) n2 c2) rfl
          skip
          go_wp2_with fail
          go_region_law (fail)
          all_goals
            go_wp2_with fail
            refine bodyPost_ret (v := .tuple #[.agg #[.int .i64 d, .slice (some ⟨gA, 0, none⟩) n2 c2], .int .i64 y, .int .i64 (q : Int)]) ?_ rfl ?_
            · simp [results, Try.results27, go_sem, r0, r1]
            · exact HOUT.out _ (fun k hk => HX.out k hk) (HFr.out.drewN _).drew ((HOr.out.drewN _).drew) (gr_drew (gr_drewN hG _))
        · have cx := HX.out (kk + q) hlt
          have hxb := HMem.out (kk + q) hlt
          obtain ⟨x, hxx⟩ : ∃ x, xs.getD (kk + q) 0 = x := ⟨_, rfl⟩
          rw [hxx] at cx hxb
          obtain ⟨hxb0, hxb1⟩ := hxb
          have d1 : decide ((kk : Int) + (q : Int) < (n2 : Int)) = true := by simp; omega
          have b5 : (0 : Int) ≤ (kk : Int) + (q : Int) := by omega
          have b6 : (kk : Int) + (q : Int) < (n2 : Int) := by omega
          have b7 : ((kk : Int) + (q : Int)).toNat = kk + q := by omega
          clear hxx
          rcases (by omega : x ≠ y + q ∨ x = y + q) with hxy | hxy
          · have d2 : (x == y + (q : Int)) = false := by simpa using hxy
            clear hxy
            go_wp2_with fail
            go_quiet (fail)
            have f0 := HFr.out.free 0
            have f1 := HFr.out.free 1
            have r0 := HFr.out.cellAt 0 (v := .int .i64 0) rfl
            have r1 := HFr.out.cellAt 1 (v := .slice none 0 0) rfl
            have l0 := HEr.out.cellAt 0 (v := .int .i64 d) rfl
            have l1 := HEr.out.cellAt 1 (v := .slice (some ⟨gA, 0, none⟩) n2 c2) rfl
            skip
            go_wp2_with fail
            go_region_law (fail)
            all_goals
              go_wp2_with fail
              refine bodyPost_ret (v := .tuple #[.agg #[.int .i64 d, .slice (some ⟨gA, 0, none⟩) n2 c2], .int .i64 y, .int .i64 (q : Int)]) ?_ rfl ?_
              · simp [results, Try.results27, go_sem, r0, r1]
              · exact HOUT.out _ (fun k hk => HX.out k hk) (HFr.out.drewN _).drew ((HOr.out.drewN _).drew) (gr_drew (gr_drewN hG _))
          · have d2 : (x == y + (q : Int)) = true := by simpa using hxy
            clear hxy
            go_wp2_with fail
            go_region_held3 (fun w' => w'.cell? ⟨w2.heap.size, 0, none⟩ = some (.int .i64 d) ∧ w'.cell? ⟨w2.heap.size, 1, none⟩ = some (.slice (some ⟨gA, 0, none⟩) n2 c2) ∧ w'.cell? ⟨gA, kk, none⟩ = some (.int .i64 y) ∧ w'.cell? ⟨gA, kk + q, none⟩ = some (.int .i64 x)) (go_keep)
              ((go_at_call_of 37 (Value.int IntKind.i64 3)
                refine (pick_any B g (89000 - (q + 1)) 3 _ ?_ (by omega) (by omega)).mono ?_
                · exact (HR.out.less (by omega)).drew
                rintro e w6 ⟨k6, rfl, hk61, hk62, R6, hg6⟩
                have hk63 := hk62 (by omega)
                clear hk62
                have k0 := (HEr.out.drew.grown hg6 (by intro e; injection e with e; omega)).cellAt 0 (v := .int .i64 d) rfl
                have k1 := (HEr.out.drew.grown hg6 (by intro e; injection e with e; omega)).cellAt 1 (v := .slice (some ⟨gA, 0, none⟩) n2 c2) rfl
                have k2 : w6.cell? ⟨gA, kk, none⟩ = some (.int .i64 y) := hg6.cell (a := ⟨gA, kk, none⟩) cy (by simpa using hAgg)
                have k3 : w6.cell? ⟨gA, kk + q, none⟩ = some (.int .i64 x) := hg6.cell (a := ⟨gA, kk + q, none⟩) cx (by simpa using hAgg)))
            have E6 := HEr.out.drew.grown hg6 (by intro e; injection e with e; omega)
            have F6 := HFr.out.drew.grown hg6 (by intro e; injection e with e; omega)
            have O6 := HOr.out.drew.past hg6 (by omega)
            have G6 := gr_new (gr_drew hG) hg6 HG.out
            have X6 : ∀ k, k < n2 → w6.cell? ⟨gA, k, none⟩ = some (.int .i64 (xs.getD k 0)) := fun k hk => hg6.cell (a := ⟨gA, k, none⟩) (HX.out k hk) (by simpa using hAgg)
            have HX6 := hid X6
            clear hg6 X6 c0 c1 cx cy
            rcases (by omega : k6 = 0 ∨ 1 ≤ k6) with hk | hk
            · subst hk
              go_wp2_with fail
              have f0 := F6.free 0
              have f1 := F6.free 1
              have r0 := F6.cellAt 0 (v := .int .i64 0) rfl
              have r1 := F6.cellAt 1 (v := .slice none 0 0) rfl
              have l0 := E6.cellAt 0 (v := .int .i64 d) rfl
              have l1 := E6.cellAt 1 (v := .slice (some ⟨gA, 0, none⟩) n2 c2) rfl
              skip
              go_wp2_with fail
              go_region_law (fail)
              all_goals
                go_wp2_with fail
                refine bodyPost_ret (v := .tuple #[.agg #[.int .i64 d, .slice (some ⟨gA, 0, none⟩) n2 c2], .int .i64 y, .int .i64 (q : Int)]) ?_ rfl ?_
                · simp [results, Try.results27, go_sem, r0, r1]
                · exact HOUT.out w6.drew (fun k hk => HX6.out k hk) F6.drew O6.drew (gr_drew G6)
            · have dk : decide ((0 : Int) < (k6 : Int)) = true := by simp; omega
              have HF6 := hid F6
              have HO6 := hid O6
              clear k0 k1 k2 k3 F6 O6
              go_wp2_with fail
              go_roundw
              case rel => exact ⟨q + 1, by go_num, by omega, by omega, R6, E6, HF6.out, HO6.out, HX6.out, G6⟩
              case measure => simp [intOf]; omega
end Go.Proofs.Ytfcammfdengdbaa
