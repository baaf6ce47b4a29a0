/- A drawn checkpoint and a position. -/
import Derived.Test.YtjhkmgoephmbpaaCkDraw
import Derived.Deep.RegionHeld3
import Derived.Deep.DeepCutAuto
namespace Go.Proofs.Ytjhkmgoephmbpaa
open Go.RowKit

/-- A drawn checkpoint and a position. -/
def ChEnds (w : World) (e : Ending) (w' : World) : Prop :=
  ∃ (d : Int) (A : Option Addr) (n c : Nat) (xs : List Int) (x : Int), e = .returned (.tuple #[.agg #[.int .i64 d, .slice A n c], .int .i64 x]) ∧ Own w' w.heap.size 3 1 A n c (ints xs) ∧ xs.length = n ∧ CkSmall d xs ∧ -100 ≤ x ∧ x ≤ 1000 ∧ w.grownBy w' none

set_option maxHeartbeats 1000000 in
theorem dch_any (A : Option Addr) (n c : Nat) (zs : List Int) (w : World) (h : Code w A n c zs) :
    Calls Try.prog 15 #[.slice A n c] w (ChEnds w) := by
  have F0 := Full.new w 25 #[.int .i64 0, .slice none 0 0]
  go_enter Try.func15, Try.ntmps15
  go_wp2_with fail
  refine (open_any A n c zs _ (h.grown (World.grownBy_alloc w _ none))).mono ?_
  rintro e w1 ⟨g, rfl, hr1, hg1⟩
  have F1 := F0.grown hg1 (by simp)
  have G1 := gr_trans (World.grownBy_alloc w _ none) hg1
  have hB := hr1.ge
  simp at hB
  have hs1 := hg1.size
  simp at hs1
  have hgl := hr1.lt
  clear hg1
  go_wp2_with fail
  refine (ck92_any _ g 90000 _ (hr1.less (by omega))).mono ?_
  rintro e w2 ⟨d, A2, n2, c2, xs, rfl, hO, hl, hsm, hr2, hg2⟩
  have F2 := F1.grown hg2 (by intro e; injection e with e; omega)
  have G2 := gr_new G1 hg2 (by omega)
  have hs2 := hg2.size
  have hg2lt := hr2.lt
  clear hg2 F1 G1
  have hN := hsm.len
  rw [hl] at hN
  have hC := hO.cap
  have hCm := hO.max
  unfold maxLen at hCm
  have HL := hid hl
  have E2 := Full.new w2 25 #[.int .i64 d, .slice A2 n2 c2]
  have F3 := F2.alloc (.cells #[.int .i64 d, .slice A2 n2 c2] 25)
  have O3 := hO.alloc (.cells #[.int .i64 d, .slice A2 n2 c2] 25)
  obtain ⟨B, R3⟩ : ∃ B, Rd 53 (w2.alloc (.cells #[.int .i64 d, .slice A2 n2 c2] 25)) B g 90000 := ⟨_, hr2.alloc _⟩
  have G3 := gr_alloc G2 (.cells #[.int .i64 d, .slice A2 n2 c2] 25)
  have HG := hid (show w.heap.size ≤ g by omega)
  have ne1 : w.heap.size ≠ w2.heap.size := by omega
  have ne2 : w2.heap.size ≠ w.heap.size := by omega
  have ng1 : g ≠ w2.heap.size := by omega
  have ng2 : g ≠ w.heap.size := by omega
  clear hl
  rcases (by omega : n2 = 0 ∨ 0 < n2) with h0 | h0
  · have b0 : decide (0 < n2) = false := by simp; omega
    clear h0
    go_wp2_with fail
    go_region_held3 (fun w' => w'.cell? ⟨w2.heap.size, 0, none⟩ = some (.int .i64 d) ∧ w'.cell? ⟨w2.heap.size, 1, none⟩ = some (.slice A2 n2 c2)) (go_keep)
      (first
        | (go_at_call_of 30 (Value.int IntKind.i64 14)
           refine (pick_any B g 89999 14 _ ?_ (by omega) (by omega)).mono ?_
           · exact R3.drew
           rintro e w4 ⟨k4, rfl, hk41, hk42, R4, hg4⟩
           have hk43 := hk42 (by omega)
           clear hk42
           have E4 := E2.drew.grown hg4 (by intro e; injection e with e; omega)
           have F4 := F3.drew.grown hg4 (by intro e; injection e with e; omega)
           have O4 := O3.drew.past hg4 (by omega)
           have G4 := gr_new (gr_drew G3) hg4 HG.out
           have k0 := E4.cellAt 0 rfl
           have k1 := E4.cellAt 1 rfl)
        | (go_at_call_of 30 (Value.int IntKind.i64 20)
           refine (pick_any B g 89998 20 _ ?_ (by omega) (by omega)).mono ?_
           · exact R4
           rintro e w5 ⟨k5, rfl, hk51, hk52, R5, hg5⟩
           have hk53 := hk52 (by omega)
           clear hk52
           have E5 := E4.grown hg5 (by intro e; injection e with e; omega)
           have F5 := F4.grown hg5 (by intro e; injection e with e; omega)
           have O5 := O4.past hg5 (by omega)
           have G5 := gr_new G4 hg5 HG.out
           have k0 := E5.cellAt 0 rfl
           have k1 := E5.cellAt 1 rfl
           have f0 := F5.free 0
           have f1 := F5.free 1
           have r0 := F5.cellAt 0 rfl
           have r1 := F5.cellAt 1 rfl))
    have hw1 : IntKind.i64.wrap ((k5 : Int) / 19) = (k5 : Int) / 19 := IntWalk.i64_in _ (by omega)
    have hw2 : IntKind.i64.wrap ((k5 : Int) / 19 * 14) = (k5 : Int) / 19 * 14 := IntWalk.i64_in _ (by omega)
    have hw3 : IntKind.i64.wrap ((k4 : Int) - (k5 : Int) / 19 * 14) = (k4 : Int) - (k5 : Int) / 19 * 14 := IntWalk.i64_in _ (by omega)
    rw [hw1, hw2, hw3]
    have hO5 := ((O5.put F5 (by decide) 0 (.int .i64 d)).put (F5.set 0 _) (by decide) 1 (.slice A2 n2 c2)).base_le (show w.heap.size ≤ w1.heap.size by omega)
    go_wp2_with fail
    refine bodyPost_ret (v := .tuple #[.agg #[.int .i64 d, .slice A2 n2 c2], .int .i64 ((k4 : Int) - (k5 : Int) / 19 * 14)]) ?_ rfl ?_
    · simp [results, Try.results15, go_sem, r0, r1]
    · exact ⟨d, A2, n2, c2, xs, _, rfl, hO5, HL.out, hsm, by omega, by omega, by repeat (first | refine gr_put ?_ (by omega) _ | exact G5)⟩
  · have b0 : decide (0 < n2) = true := by simp; omega
    go_wp2_with fail
    refine (pick_any B g 89999 2 _ R3 (by omega) (by omega)).mono ?_
    rintro e w4 ⟨k4, rfl, hk41, hk42, R4, hg4⟩
    have hk43 := hk42 (by omega)
    clear hk42
    have E3 := E2.grown hg4 (by intro e; injection e with e; omega)
    have F4 := F3.grown hg4 (by intro e; injection e with e; omega)
    have O4 := O3.past hg4 (by omega)
    have G4 := gr_new G3 hg4 HG.out
    have c0 := E3.cellAt 0 rfl
    have c1 := E3.cellAt 1 rfl
    clear hg4
    rcases (by omega : k4 = 0 ∨ 1 ≤ k4) with h4 | h4
    · subst h4
      obtain ⟨gA, oA, hA, _, hcell⟩ := O4.lies.open_ (by rw [ints_len, HL.out]; exact h0)
      obtain rfl := hA
      obtain ⟨f, hf⟩ : ∃ f : Nat → Int, ∀ k, k < n2 → f k ∈ xs ∧ w4.cell? ⟨gA, oA + k, none⟩ = some (.int .i64 (f k)) :=
        ⟨fun k => xs.getD k 0, fun k hk => by
          have hkl : k < xs.length := by rw [HL.out]; exact hk
          have e : xs.getD k 0 = xs[k] := by simp [List.getD, hkl]
          show xs.getD k 0 ∈ xs ∧ _ = some (Value.int .i64 (xs.getD k 0))
          rw [e]
          exact ⟨List.getElem_mem hkl, intAt hcell hkl⟩⟩
      have hF0 := fun k hk => (hf k hk).2
      have HF := hid (fun k hk => (hf k hk).1)
      clear hcell hf
      have hAg := fun b hb => (O4.block (b := b) hb).1
      have hgA := hAg gA rfl
      have nA1 : gA ≠ w.heap.size := by omega
      have nA2 : w.heap.size ≠ gA := by omega
      clear hAg
      go_wp2_with fail
      go_region_held3 (fun w' => w'.cell? ⟨w2.heap.size, 0, none⟩ = some (.int .i64 d) ∧ w'.cell? ⟨w2.heap.size, 1, none⟩ = some (.slice (some ⟨gA, oA, none⟩) n2 c2) ∧ ∀ k, k < n2 → w'.cell? ⟨gA, oA + k, none⟩ = some (.int .i64 (f k))) (refine ⟨?_, ?_, ?_⟩ <;> first | (intro k hk; simp [*, World.cell?_alloc_some, World.cell?_setCell_far]; done) | go_keep)
        (first
          | (go_at_call_of 30 (Value.int IntKind.i64 (n2 : Int))
             refine (pick_any B g 89998 (n2 : Int) _ ?_ (by omega) (by omega)).mono ?_
             · exact R4.drew
             rintro e w5 ⟨k5, rfl, hk51, hk52, R5, hg5⟩
             have hk53 := hk52 (by omega)
             clear hk52
             have E5 := E3.drew.grown hg5 (by intro e; injection e with e; omega)
             have F5 := F4.drew.grown hg5 (by intro e; injection e with e; omega)
             have O5 := O4.drew.past hg5 (by omega)
             have G5 := gr_new (gr_drew G4) hg5 HG.out
             have k0 := E5.cellAt 0 rfl
             have k1 := E5.cellAt 1 rfl
             have f0 := F5.free 0
             have f1 := F5.free 1
             have r0 := F5.cellAt 0 rfl
             have r1 := F5.cellAt 1 rfl
             have hk54 : k5 < n2 := by omega
             have hF1 : ∀ k, k < n2 → w5.cell? ⟨gA, oA + k, none⟩ = some (.int .i64 (f k)) := fun k hk => World.grownBy.cell hg5 (hF0 k hk) (by simp [blockOf]; omega)))
      all_goals
        have hx := hsm.mem (f k5) (HF.out k5 hk54)
        have hO5 := ((O5.put F5 (by decide) 0 (.int .i64 d)).put (F5.set 0 _) (by decide) 1 (.slice (some ⟨gA, oA, none⟩) n2 c2)).base_le (show w.heap.size ≤ w1.heap.size by omega)
        go_wp2_with fail
        refine bodyPost_ret (v := .tuple #[.agg #[.int .i64 d, .slice (some ⟨gA, oA, none⟩) n2 c2], .int .i64 (f k5)]) ?_ rfl ?_
        · simp [results, Try.results15, go_sem, r0, r1]
        · exact ⟨d, _, n2, c2, xs, _, rfl, hO5, HL.out, hsm, by omega, by omega, by repeat (first | refine gr_put ?_ (by omega) _ | exact G5)⟩
    · go_wp2_with fail
      go_region_held3 (fun w' => w'.cell? ⟨w2.heap.size, 0, none⟩ = some (.int .i64 d) ∧ w'.cell? ⟨w2.heap.size, 1, none⟩ = some (.slice A2 n2 c2)) (go_keep)
        (first
          | (go_at_call_of 30 (Value.int IntKind.i64 14)
             refine (pick_any B g 89998 14 _ ?_ (by omega) (by omega)).mono ?_
             · exact R4.drew
             rintro e w6 ⟨k6, rfl, hk61, hk62, R6, hg6⟩
             have hk63 := hk62 (by omega)
             clear hk62
             have E6 := E3.drew.grown hg6 (by intro e; injection e with e; omega)
             have F6 := F4.drew.grown hg6 (by intro e; injection e with e; omega)
             have O6 := O4.drew.past hg6 (by omega)
             have G6 := gr_new (gr_drew G4) hg6 HG.out
             have k0 := E6.cellAt 0 rfl
             have k1 := E6.cellAt 1 rfl)
          | (go_at_call_of 30 (Value.int IntKind.i64 20)
             refine (pick_any B g 89997 20 _ ?_ (by omega) (by omega)).mono ?_
             · exact R6
             rintro e w5 ⟨k5, rfl, hk51, hk52, R5, hg5⟩
             have hk53 := hk52 (by omega)
             clear hk52
             have E5 := E6.grown hg5 (by intro e; injection e with e; omega)
             have F5 := F6.grown hg5 (by intro e; injection e with e; omega)
             have O5 := O6.past hg5 (by omega)
             have G5 := gr_new G6 hg5 HG.out
             have k0 := E5.cellAt 0 rfl
             have k1 := E5.cellAt 1 rfl
             have f0 := F5.free 0
             have f1 := F5.free 1
             have r0 := F5.cellAt 0 rfl
             have r1 := F5.cellAt 1 rfl))
      have hw1 : IntKind.i64.wrap ((k5 : Int) / 19) = (k5 : Int) / 19 := IntWalk.i64_in _ (by omega)
      have hw2 : IntKind.i64.wrap ((k5 : Int) / 19 * 14) = (k5 : Int) / 19 * 14 := IntWalk.i64_in _ (by omega)
      have hw3 : IntKind.i64.wrap ((k6 : Int) - (k5 : Int) / 19 * 14) = (k6 : Int) - (k5 : Int) / 19 * 14 := IntWalk.i64_in _ (by omega)
      rw [hw1, hw2, hw3]
      have hO5 := ((O5.put F5 (by decide) 0 (.int .i64 d)).put (F5.set 0 _) (by decide) 1 (.slice A2 n2 c2)).base_le (show w.heap.size ≤ w1.heap.size by omega)
      go_wp2_with fail
      refine bodyPost_ret (v := .tuple #[.agg #[.int .i64 d, .slice A2 n2 c2], .int .i64 ((k6 : Int) - (k5 : Int) / 19 * 14)]) ?_ rfl ?_
      · simp [results, Try.results15, go_sem, r0, r1]
      · exact ⟨d, A2, n2, c2, xs, _, rfl, hO5, HL.out, hsm, by omega, by omega, by repeat (first | refine gr_put ?_ (by omega) _ | exact G5)⟩
end Go.Proofs.Ytjhkmgoephmbpaa
