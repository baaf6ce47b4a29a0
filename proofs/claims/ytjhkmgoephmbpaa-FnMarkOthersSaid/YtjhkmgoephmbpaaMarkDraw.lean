/- A drawn checkpoint and a position to mark. -/
import Derived.Test.YtjhkmgoephmbpaaCkDraw
import Derived.Deep.RegionHeld3
import Derived.Deep.DeepCutAuto
namespace Go.Proofs.Ytjhkmgoephmbpaa
open Go.RowKit

/-- A drawn checkpoint and a position. -/
def CmEnds (w : World) (e : Ending) (w' : World) : Prop :=
  ∃ (d : Int) (A : Option Addr) (n c : Nat) (xs : List Int) (x : Int), e = .returned (.tuple #[.agg #[.int .i64 d, .slice A n c], .int .i64 x]) ∧ Own w' w.heap.size 3 1 A n c (ints xs) ∧ xs.length = n ∧ CkSmall d xs ∧ -100 ≤ x ∧ x ≤ 1000 ∧ w.grownBy w' none

/-- An element of a literal of four ints. -/
theorem four_at {w : World} {g : Nat} {t : TypeId} {a b c d : Int} (h : Full w g t #[.int .i64 a, .int .i64 b, .int .i64 c, .int .i64 d]) {k : Nat} (hk : k < 4) : ∃ x : Int, (x = a ∨ x = b ∨ x = c ∨ x = d) ∧ w.cell? ⟨g, k, none⟩ = some (.int .i64 x) := by
  rcases (by omega : k = 0 ∨ k = 1 ∨ k = 2 ∨ k = 3) with rfl | rfl | rfl | rfl
  · exact ⟨a, .inl rfl, h.cellAt 0 rfl⟩
  · exact ⟨b, .inr (.inl rfl), h.cellAt 1 rfl⟩
  · exact ⟨c, .inr (.inr (.inl rfl)), h.cellAt 2 rfl⟩
  · exact ⟨d, .inr (.inr (.inr rfl)), h.cellAt 3 rfl⟩

/-- The same, of a literal that is made in whatever world of this size. -/
theorem four_new (a b c d : Int) (H : Nat) (t : TypeId) {k : Nat} (hk : k < 4) : ∃ x : Int, (x = a ∨ x = b ∨ x = c ∨ x = d) ∧ ∀ w : World, w.heap.size = H → (w.alloc (.cells #[.int .i64 a, .int .i64 b, .int .i64 c, .int .i64 d] t)).cell? ⟨H, k, none⟩ = some (.int .i64 x) := by
  rcases (by omega : k = 0 ∨ k = 1 ∨ k = 2 ∨ k = 3) with rfl | rfl | rfl | rfl
  · exact ⟨a, .inl rfl, fun w h => (Full.newAt h).cellAt 0 rfl⟩
  · exact ⟨b, .inr (.inl rfl), fun w h => (Full.newAt h).cellAt 1 rfl⟩
  · exact ⟨c, .inr (.inr (.inl rfl)), fun w h => (Full.newAt h).cellAt 2 rfl⟩
  · exact ⟨d, .inr (.inr (.inr rfl)), fun w h => (Full.newAt h).cellAt 3 rfl⟩

set_option maxHeartbeats 4000000 in
theorem dcm_any (A : Option Addr) (n c : Nat) (zs : List Int) (w : World) (h : Code w A n c zs) :
    Calls Try.prog 24 #[.slice A n c] w (CmEnds w) := by
  have F0 := Full.new w 25 #[.int .i64 0, .slice none 0 0]
  go_enter Try.func24, Try.ntmps24
  go_wp2_with fail
  refine (open_any A n c zs _ (h.grown (World.grownBy_alloc w _ none))).mono ?_
  rintro e w1 ⟨g, rfl, hr1, hg1⟩
  have F1 := F0.grown hg1 (by simp)
  have G1 := gr_trans (World.grownBy_alloc w _ none) hg1
  have hB := hr1.ge
  simp at hB
  have hs1 := hg1.size
  simp at hs1
  have hgl := hr1.lt
  clear hg1
  go_wp2_with fail
  refine (ck92_any _ g 90000 _ (hr1.less (by omega))).mono ?_
  rintro e w2 ⟨d, A2, n2, c2, xs, rfl, hO, hl, hsm, hr2, hg2⟩
  have F2 := F1.grown hg2 (by intro e; injection e with e; omega)
  have G2 := gr_new G1 hg2 (by omega)
  have hs2 := hg2.size
  have hg2lt := hr2.lt
  clear hg2 F1 G1
  have hN := hsm.len
  have hd0 := hsm.d0
  have hd1 := hsm.d1
  rw [hl] at hN
  have hC := hO.cap
  have hCm := hO.max
  unfold maxLen at hCm
  have HL := hid hl
  have E2 := Full.new w2 25 #[.int .i64 d, .slice A2 n2 c2]
  have F3 := F2.alloc (.cells #[.int .i64 d, .slice A2 n2 c2] 25)
  have O3 := hO.alloc (.cells #[.int .i64 d, .slice A2 n2 c2] 25)
  obtain ⟨B, R3⟩ : ∃ B, Rd 53 (w2.alloc (.cells #[.int .i64 d, .slice A2 n2 c2] 25)) B g 90000 := ⟨_, hr2.alloc _⟩
  have G3 := gr_alloc G2 (.cells #[.int .i64 d, .slice A2 n2 c2] 25)
  have HG := hid (show w.heap.size ≤ g by omega)
  have ne1 : w.heap.size ≠ w2.heap.size := by omega
  have ne2 : w2.heap.size ≠ w.heap.size := by omega
  have ng1 : g ≠ w2.heap.size := by omega
  have ng2 : g ≠ w.heap.size := by omega
  clear hl
  go_wp2_with fail
  refine wp_region_held_drew (S := (fun w' => w'.cell? ⟨w2.heap.size, 0, none⟩ = some (.int .i64 d) ∧ w'.cell? ⟨w2.heap.size, 1, none⟩ = some (.slice A2 n2 c2))) (by kernel_rfl) ?_ (fun hHeld => ?_)
  · (try dsimp only); go_keep
  refine wpAnyH_take (i := 0) (v := ?v1) rfl (by kernel_rfl) (by kernel_rfl) (by kernel_rfl) (fun _ _ _ h => h) (Or.inl ⟨by rfl, ?h1⟩) (by assumption) ?r1
  case h1 => (intro w hSw; (try dsimp only at hSw); go_simp; all_goals with_reducible rfl)
  try simp only [List.getElem_toArray, List.getElem_cons_zero, List.getElem_cons_succ, Act.put, List.setIfInBounds_toArray, List.set_cons_zero, List.set_cons_succ]
  refine wpAnyH_take (i := 1) (v := ?v2) rfl (by kernel_rfl) (by kernel_rfl) (by kernel_rfl) (fun _ _ _ h => h) (Or.inl ⟨by rfl, ?h2⟩) (by assumption) ?r2
  case h2 => (intro w hSw; (try dsimp only at hSw); go_simp; all_goals with_reducible rfl)
  try simp only [List.getElem_toArray, List.getElem_cons_zero, List.getElem_cons_succ, Act.put, List.setIfInBounds_toArray, List.set_cons_zero, List.set_cons_succ]
  refine wpAnyH_take (i := 2) (v := ?v3) rfl (by kernel_rfl) (by kernel_rfl) (by kernel_rfl) (fun _ _ _ h => h) (Or.inl ⟨by rfl, ?h3⟩) (by assumption) ?r3
  case h3 => (intro w hSw; (try dsimp only at hSw); go_simp; all_goals with_reducible rfl)
  try simp only [List.getElem_toArray, List.getElem_cons_zero, List.getElem_cons_succ, Act.put, List.setIfInBounds_toArray, List.set_cons_zero, List.set_cons_succ]
  refine wpAnyH_take (i := 3) (v := ?v4) rfl (by kernel_rfl) (by kernel_rfl) (by kernel_rfl) (fun _ _ _ h => h) (Or.inl ⟨by rfl, ?h4⟩) (by assumption) ?r4
  case h4 => (intro w hSw; (try dsimp only at hSw); go_simp; all_goals with_reducible rfl)
  try simp only [List.getElem_toArray, List.getElem_cons_zero, List.getElem_cons_succ, Act.put, List.setIfInBounds_toArray, List.set_cons_zero, List.set_cons_succ]
  refine wpAnyH_take (i := 6) (v := ?v5) rfl (by kernel_rfl) (by kernel_rfl) (by kernel_rfl) (fun _ _ _ h => h) (Or.inl ⟨by rfl, ?h5⟩) (by assumption) ?r5
  case h5 => (intro w hSw; (try dsimp only at hSw); go_simp; all_goals with_reducible rfl)
  try simp only [List.getElem_toArray, List.getElem_cons_zero, List.getElem_cons_succ, Act.put, List.setIfInBounds_toArray, List.set_cons_zero, List.set_cons_succ]
  refine wpAnyH_ready (rs := [4]) (by kernel_rfl) (by simp) ?_
  refine AllReadyH.cons rfl (fun K hK => ?_) ?_
  · go_simp
    (first
      | (go_at_call_of 30 (Value.int IntKind.i64 8)
         refine (pick_any B g 89999 8 _ ?_ (by omega) (by omega)).mono ?_
         · exact R3.drew
         rintro e w4 ⟨k4, rfl, hk41, hk42, R4, hg4⟩
         have hk43 := hk42 (by omega)
         clear hk42
         have E4 := E2.drew.grown hg4 (by intro e; injection e with e; omega)
         have F4 := F3.drew.grown hg4 (by intro e; injection e with e; omega)
         have O4 := O3.drew.past hg4 (by omega)
         have G4 := gr_new (gr_drew G3) hg4 HG.out
         have L4 := R4.lt
         have k0 := E4.cellAt 0 rfl
         have k1 := E4.cellAt 1 rfl
         have p0 := F4.cellAt 0 rfl
         have p1 := F4.cellAt 1 rfl
         have p2 := F4.free 0
         have p3 := F4.free 1
         have E6 := E4.alloc (.cells #[.int .i64 0, .int .i64 0, .int .i64 (k4 : Int), .int .i64 (-1)] 3)
         have y0 := E6.cellAt 0 rfl
         have y1 := E6.cellAt 1 rfl
         have be4 := World.new_ne w4 _ k0
         have be4s := be4.symm
         have bf4 := World.new_ne w4 _ p0
         have bf4s := bf4.symm)
      | (go_at_call_of 30 (Value.int IntKind.i64 4)
         refine (pick_any B g 89998 4 _ ?_ (by omega) (by omega)).mono ?_
         · exact R4
         rintro e w5 ⟨k5, rfl, hk51, hk52, R5, hg5⟩
         have hk53 := hk52 (by omega)
         clear hk52
         have E5 := E4.grown hg5 (by intro e; injection e with e; omega)
         have F5 := F4.grown hg5 (by intro e; injection e with e; omega)
         have O5 := O4.past hg5 (by omega)
         have G5 := gr_new G4 hg5 HG.out
         have k0 := E5.cellAt 0 rfl
         have k1 := E5.cellAt 1 rfl
         have f0 := F5.free 0
         have f1 := F5.free 1
         have r0 := F5.cellAt 0 rfl
         have r1 := F5.cellAt 1 rfl
         have F6 := F5.alloc (.cells #[.int .i64 0, .int .i64 0, .int .i64 (k4 : Int), .int .i64 (-1)] 3)
         have v0 := F6.free 0
         have v1 := F6.free 1
         have u0 := F6.cellAt 0 rfl
         have u1 := F6.cellAt 1 rfl
         have E6 := E5.alloc (.cells #[.int .i64 0, .int .i64 0, .int .i64 (k4 : Int), .int .i64 (-1)] 3)
         have y0 := E6.cellAt 0 rfl
         have y1 := E6.cellAt 1 rfl
         have bn0 := World.new_ne w5 _ r0
         have bn0s := bn0.symm
         have bn1 := World.new_ne w5 _ k0
         have bn1s := bn1.symm
         obtain ⟨x, hx, hxc⟩ := four_new 0 0 (k4 : Int) (-1) w5.heap.size 3 (show k5 < 4 by omega)
         have hx0 : -1 ≤ x ∧ x ≤ 7 := by omega
         obtain ⟨hx0, hx1⟩ := hx0
         clear hx)
      | (go_at_call_of 30 (Value.int IntKind.i64 4)
         refine (pick_any B g 89998 4 _ ?_ (by omega) (by omega)).mono ?_
         · exact (R4.alloc (.cells #[.int .i64 0, .int .i64 0, .int .i64 (k4 : Int), .int .i64 (-1)] 3))
         rintro e w5 ⟨k5, rfl, hk51, hk52, R5, hg5⟩
         have hk53 := hk52 (by omega)
         clear hk52
         have E5 := (E4.alloc (.cells #[.int .i64 0, .int .i64 0, .int .i64 (k4 : Int), .int .i64 (-1)] 3)).grown hg5 (by intro e; injection e with e; omega)
         have F5 := (F4.alloc (.cells #[.int .i64 0, .int .i64 0, .int .i64 (k4 : Int), .int .i64 (-1)] 3)).grown hg5 (by intro e; injection e with e; omega)
         have O5 := (O4.alloc (.cells #[.int .i64 0, .int .i64 0, .int .i64 (k4 : Int), .int .i64 (-1)] 3)).past hg5 (by omega)
         have G5 := gr_new (gr_alloc G4 (.cells #[.int .i64 0, .int .i64 0, .int .i64 (k4 : Int), .int .i64 (-1)] 3)) hg5 HG.out
         have k0 := E5.cellAt 0 rfl
         have k1 := E5.cellAt 1 rfl
         have f0 := F5.free 0
         have f1 := F5.free 1
         have r0 := F5.cellAt 0 rfl
         have r1 := F5.cellAt 1 rfl
         have N5 := (Full.new w4 3 #[.int .i64 0, .int .i64 0, .int .i64 (k4 : Int), .int .i64 (-1)]).grown hg5 (by intro e; injection e with e; omega)
         have bn1 := World.new_ne w5 _ r0
         have bn1s := bn1.symm
         have bn3 := World.new_ne w5 _ k0
         have bn3s := bn3.symm
         have bn2 := World.new_ne w4 _ (F4.cellAt 0 rfl)
         have bn2s := bn2.symm
         obtain ⟨x, hx, hxc⟩ := four_at N5 (show k5 < 4 by omega)
         have hx0 : -1 ≤ x ∧ x ≤ 7 := by omega
         obtain ⟨hx0, hx1⟩ := hx0
         clear hx))
    go_wp2_with fail
    refine hK.out _ _ ?_ (fun hHeld => ?_)
    · (try dsimp only); go_keep
    clear hK K
    refine wpAnyH_ready (rs := [5, 7]) (by kernel_rfl) (by simp) ?_
    refine AllReadyH.cons rfl (fun K hK => ?_) ?_
    · go_simp
      refine hK.out _ _ ?_ (fun hHeld => ?_)
      · (try dsimp only); go_keep
      clear hK K
      refine wpAnyH_ready (rs := [7]) (by kernel_rfl) (by simp) ?_
      refine AllReadyH.cons rfl (fun K hK => ?_) ?_
      · go_simp
        (first
          | (go_at_call_of 30 (Value.int IntKind.i64 8)
             refine (pick_any B g 89999 8 _ ?_ (by omega) (by omega)).mono ?_
             · exact R3.drew
             rintro e w4 ⟨k4, rfl, hk41, hk42, R4, hg4⟩
             have hk43 := hk42 (by omega)
             clear hk42
             have E4 := E2.drew.grown hg4 (by intro e; injection e with e; omega)
             have F4 := F3.drew.grown hg4 (by intro e; injection e with e; omega)
             have O4 := O3.drew.past hg4 (by omega)
             have G4 := gr_new (gr_drew G3) hg4 HG.out
             have L4 := R4.lt
             have k0 := E4.cellAt 0 rfl
             have k1 := E4.cellAt 1 rfl
             have p0 := F4.cellAt 0 rfl
             have p1 := F4.cellAt 1 rfl
             have p2 := F4.free 0
             have p3 := F4.free 1
             have E6 := E4.alloc (.cells #[.int .i64 0, .int .i64 0, .int .i64 (k4 : Int), .int .i64 (-1)] 3)
             have y0 := E6.cellAt 0 rfl
             have y1 := E6.cellAt 1 rfl
             have be4 := World.new_ne w4 _ k0
             have be4s := be4.symm
             have bf4 := World.new_ne w4 _ p0
             have bf4s := bf4.symm)
          | (go_at_call_of 30 (Value.int IntKind.i64 4)
             refine (pick_any B g 89998 4 _ ?_ (by omega) (by omega)).mono ?_
             · exact R4
             rintro e w5 ⟨k5, rfl, hk51, hk52, R5, hg5⟩
             have hk53 := hk52 (by omega)
             clear hk52
             have E5 := E4.grown hg5 (by intro e; injection e with e; omega)
             have F5 := F4.grown hg5 (by intro e; injection e with e; omega)
             have O5 := O4.past hg5 (by omega)
             have G5 := gr_new G4 hg5 HG.out
             have k0 := E5.cellAt 0 rfl
             have k1 := E5.cellAt 1 rfl
             have f0 := F5.free 0
             have f1 := F5.free 1
             have r0 := F5.cellAt 0 rfl
             have r1 := F5.cellAt 1 rfl
             have F6 := F5.alloc (.cells #[.int .i64 0, .int .i64 0, .int .i64 (k4 : Int), .int .i64 (-1)] 3)
             have v0 := F6.free 0
             have v1 := F6.free 1
             have u0 := F6.cellAt 0 rfl
             have u1 := F6.cellAt 1 rfl
             have E6 := E5.alloc (.cells #[.int .i64 0, .int .i64 0, .int .i64 (k4 : Int), .int .i64 (-1)] 3)
             have y0 := E6.cellAt 0 rfl
             have y1 := E6.cellAt 1 rfl
             have bn0 := World.new_ne w5 _ r0
             have bn0s := bn0.symm
             have bn1 := World.new_ne w5 _ k0
             have bn1s := bn1.symm
             obtain ⟨x, hx, hxc⟩ := four_new 0 0 (k4 : Int) (-1) w5.heap.size 3 (show k5 < 4 by omega)
             have hx0 : -1 ≤ x ∧ x ≤ 7 := by omega
             obtain ⟨hx0, hx1⟩ := hx0
             clear hx)
          | (go_at_call_of 30 (Value.int IntKind.i64 4)
             refine (pick_any B g 89998 4 _ ?_ (by omega) (by omega)).mono ?_
             · exact (R4.alloc (.cells #[.int .i64 0, .int .i64 0, .int .i64 (k4 : Int), .int .i64 (-1)] 3))
             rintro e w5 ⟨k5, rfl, hk51, hk52, R5, hg5⟩
             have hk53 := hk52 (by omega)
             clear hk52
             have E5 := (E4.alloc (.cells #[.int .i64 0, .int .i64 0, .int .i64 (k4 : Int), .int .i64 (-1)] 3)).grown hg5 (by intro e; injection e with e; omega)
             have F5 := (F4.alloc (.cells #[.int .i64 0, .int .i64 0, .int .i64 (k4 : Int), .int .i64 (-1)] 3)).grown hg5 (by intro e; injection e with e; omega)
             have O5 := (O4.alloc (.cells #[.int .i64 0, .int .i64 0, .int .i64 (k4 : Int), .int .i64 (-1)] 3)).past hg5 (by omega)
             have G5 := gr_new (gr_alloc G4 (.cells #[.int .i64 0, .int .i64 0, .int .i64 (k4 : Int), .int .i64 (-1)] 3)) hg5 HG.out
             have k0 := E5.cellAt 0 rfl
             have k1 := E5.cellAt 1 rfl
             have f0 := F5.free 0
             have f1 := F5.free 1
             have r0 := F5.cellAt 0 rfl
             have r1 := F5.cellAt 1 rfl
             have N5 := (Full.new w4 3 #[.int .i64 0, .int .i64 0, .int .i64 (k4 : Int), .int .i64 (-1)]).grown hg5 (by intro e; injection e with e; omega)
             have bn1 := World.new_ne w5 _ r0
             have bn1s := bn1.symm
             have bn3 := World.new_ne w5 _ k0
             have bn3s := bn3.symm
             have bn2 := World.new_ne w4 _ (F4.cellAt 0 rfl)
             have bn2s := bn2.symm
             obtain ⟨x, hx, hxc⟩ := four_at N5 (show k5 < 4 by omega)
             have hx0 : -1 ≤ x ∧ x ≤ 7 := by omega
             obtain ⟨hx0, hx1⟩ := hx0
             clear hx))
        go_wp2_with fail
        refine hK.out _ _ ?_ (fun hHeld => ?_)
        · (try dsimp only); go_keep
        clear hK K
        refine wpAnyH_take (i := 8) (v := ?v6) rfl (by kernel_rfl) (by kernel_rfl) (by kernel_rfl) (fun _ _ _ h => h) (Or.inl ⟨by rfl, ?h6⟩) (by assumption) ?r6
        case h6 => (intro w hSw; (try dsimp only at hSw); go_simp; all_goals with_reducible rfl)
        try simp only [List.getElem_toArray, List.getElem_cons_zero, List.getElem_cons_succ, Act.put, List.setIfInBounds_toArray, List.set_cons_zero, List.set_cons_succ]
        refine wpAnyH_ready (rs := [9, 11]) (by kernel_rfl) (by simp) ?_
        refine AllReadyH.cons rfl (fun K hK => ?_) ?_
        · go_simp
          refine hK.out _ _ ?_ (fun hHeld => ?_)
          · (try dsimp only); go_keep
          clear hK K
          refine wpAnyH_take (i := 10) (v := ?v7) rfl (by kernel_rfl) (by kernel_rfl) (by kernel_rfl) (fun _ _ _ h => h) (Or.inl ⟨by rfl, ?h7⟩) (by assumption) ?r7
          case h7 => (intro w hSw; (try dsimp only at hSw); go_simp; all_goals with_reducible rfl)
          try simp only [List.getElem_toArray, List.getElem_cons_zero, List.getElem_cons_succ, Act.put, List.setIfInBounds_toArray, List.set_cons_zero, List.set_cons_succ]
          refine wpAnyH_ready (rs := [11]) (by kernel_rfl) (by simp) ?_
          refine AllReadyH.cons rfl (fun K hK => ?_) ?_
          · go_simp
            refine hK.out _ _ ?_ (fun hHeld => ?_)
            · (try dsimp only); go_keep
            clear hK K
            refine wpAnyH_take (i := 12) (v := ?v8) rfl (by kernel_rfl) (by kernel_rfl) (by kernel_rfl) (fun _ _ _ h => h) (Or.inl ⟨by rfl, ?h8⟩) (by assumption) ?r8
            case h8 => (intro w hSw; (try dsimp only at hSw); go_simp; all_goals with_reducible rfl)
            try simp only [List.getElem_toArray, List.getElem_cons_zero, List.getElem_cons_succ, Act.put, List.setIfInBounds_toArray, List.set_cons_zero, List.set_cons_succ]
            refine wpAnyH_done (by kernel_rfl) ?_ _
            have HNE := hid (show ∀ b, blockOf A2 = some b → b ≠ w.heap.size from fun b hb => by have := (O5.block hb).1; omega)
            have hwr : IntKind.i64.wrap (d + x) = d + x := IntWalk.i64_in _ (by omega)
            go_wp2_with fail
            refine bodyPost_ret (v := .tuple #[.agg #[.int .i64 d, .slice A2 n2 c2], .int .i64 (d + x)]) ?_ rfl ?_
            · first
                | (simp [results, Try.results24, go_sem, r0, r1, *]; done)
                | (have Z := ((F5.set 0 (.int .i64 d)).set 1 (.slice A2 n2 c2)).alloc (.cells #[.int .i64 0, .int .i64 0, .int .i64 (k4 : Int), .int .i64 (-1)] 3)
                   have z0 := Z.cellAt 0 rfl
                   have z1 := Z.cellAt 1 rfl
                   simp [results, Try.results24, go_sem, z0, z1, hwr]
                   done)
            · exact ⟨d, A2, n2, c2, xs, _, rfl, by repeat (first | exact O5.base_le (by omega) | refine Own.far ?_ HNE.out _ _ | refine Own.alloc ?_ _), HL.out, hsm, by omega, by omega, by repeat (first | exact G5 | refine gr_put ?_ (by omega) _ | refine gr_alloc ?_ _)⟩
          exact AllReadyH.nil
        refine AllReadyH.cons rfl (fun K hK => ?_) ?_
        · go_simp
          refine hK.out _ _ ?_ (fun hHeld => ?_)
          · (try dsimp only); go_keep
          clear hK K
          refine wpAnyH_ready (rs := [9]) (by kernel_rfl) (by simp) ?_
          refine AllReadyH.cons rfl (fun K hK => ?_) ?_
          · go_simp
            refine hK.out _ _ ?_ (fun hHeld => ?_)
            · (try dsimp only); go_keep
            clear hK K
            refine wpAnyH_take (i := 10) (v := ?v9) rfl (by kernel_rfl) (by kernel_rfl) (by kernel_rfl) (fun _ _ _ h => h) (Or.inl ⟨by rfl, ?h9⟩) (by assumption) ?r9
            case h9 => (intro w hSw; (try dsimp only at hSw); go_simp; all_goals with_reducible rfl)
            try simp only [List.getElem_toArray, List.getElem_cons_zero, List.getElem_cons_succ, Act.put, List.setIfInBounds_toArray, List.set_cons_zero, List.set_cons_succ]
            refine wpAnyH_take (i := 12) (v := ?v10) rfl (by kernel_rfl) (by kernel_rfl) (by kernel_rfl) (fun _ _ _ h => h) (Or.inl ⟨by rfl, ?h10⟩) (by assumption) ?r10
            case h10 => (intro w hSw; (try dsimp only at hSw); go_simp; all_goals with_reducible rfl)
            try simp only [List.getElem_toArray, List.getElem_cons_zero, List.getElem_cons_succ, Act.put, List.setIfInBounds_toArray, List.set_cons_zero, List.set_cons_succ]
            refine wpAnyH_done (by kernel_rfl) ?_ _
            have HNE := hid (show ∀ b, blockOf A2 = some b → b ≠ w.heap.size from fun b hb => by have := (O5.block hb).1; omega)
            have hwr : IntKind.i64.wrap (d + x) = d + x := IntWalk.i64_in _ (by omega)
            go_wp2_with fail
            refine bodyPost_ret (v := .tuple #[.agg #[.int .i64 d, .slice A2 n2 c2], .int .i64 (d + x)]) ?_ rfl ?_
            · first
                | (simp [results, Try.results24, go_sem, r0, r1, *]; done)
                | (have Z := ((F5.set 0 (.int .i64 d)).set 1 (.slice A2 n2 c2)).alloc (.cells #[.int .i64 0, .int .i64 0, .int .i64 (k4 : Int), .int .i64 (-1)] 3)
                   have z0 := Z.cellAt 0 rfl
                   have z1 := Z.cellAt 1 rfl
                   simp [results, Try.results24, go_sem, z0, z1, hwr]
                   done)
            · exact ⟨d, A2, n2, c2, xs, _, rfl, by repeat (first | exact O5.base_le (by omega) | refine Own.far ?_ HNE.out _ _ | refine Own.alloc ?_ _), HL.out, hsm, by omega, by omega, by repeat (first | exact G5 | refine gr_put ?_ (by omega) _ | refine gr_alloc ?_ _)⟩
          exact AllReadyH.nil
        exact AllReadyH.nil
      exact AllReadyH.nil
    refine AllReadyH.cons rfl (fun K hK => ?_) ?_
    · go_simp
      (first
        | (go_at_call_of 30 (Value.int IntKind.i64 8)
           refine (pick_any B g 89999 8 _ ?_ (by omega) (by omega)).mono ?_
           · exact R3.drew
           rintro e w4 ⟨k4, rfl, hk41, hk42, R4, hg4⟩
           have hk43 := hk42 (by omega)
           clear hk42
           have E4 := E2.drew.grown hg4 (by intro e; injection e with e; omega)
           have F4 := F3.drew.grown hg4 (by intro e; injection e with e; omega)
           have O4 := O3.drew.past hg4 (by omega)
           have G4 := gr_new (gr_drew G3) hg4 HG.out
           have L4 := R4.lt
           have k0 := E4.cellAt 0 rfl
           have k1 := E4.cellAt 1 rfl
           have p0 := F4.cellAt 0 rfl
           have p1 := F4.cellAt 1 rfl
           have p2 := F4.free 0
           have p3 := F4.free 1
           have E6 := E4.alloc (.cells #[.int .i64 0, .int .i64 0, .int .i64 (k4 : Int), .int .i64 (-1)] 3)
           have y0 := E6.cellAt 0 rfl
           have y1 := E6.cellAt 1 rfl
           have be4 := World.new_ne w4 _ k0
           have be4s := be4.symm
           have bf4 := World.new_ne w4 _ p0
           have bf4s := bf4.symm)
        | (go_at_call_of 30 (Value.int IntKind.i64 4)
           refine (pick_any B g 89998 4 _ ?_ (by omega) (by omega)).mono ?_
           · exact R4
           rintro e w5 ⟨k5, rfl, hk51, hk52, R5, hg5⟩
           have hk53 := hk52 (by omega)
           clear hk52
           have E5 := E4.grown hg5 (by intro e; injection e with e; omega)
           have F5 := F4.grown hg5 (by intro e; injection e with e; omega)
           have O5 := O4.past hg5 (by omega)
           have G5 := gr_new G4 hg5 HG.out
           have k0 := E5.cellAt 0 rfl
           have k1 := E5.cellAt 1 rfl
           have f0 := F5.free 0
           have f1 := F5.free 1
           have r0 := F5.cellAt 0 rfl
           have r1 := F5.cellAt 1 rfl
           have F6 := F5.alloc (.cells #[.int .i64 0, .int .i64 0, .int .i64 (k4 : Int), .int .i64 (-1)] 3)
           have v0 := F6.free 0
           have v1 := F6.free 1
           have u0 := F6.cellAt 0 rfl
           have u1 := F6.cellAt 1 rfl
           have E6 := E5.alloc (.cells #[.int .i64 0, .int .i64 0, .int .i64 (k4 : Int), .int .i64 (-1)] 3)
           have y0 := E6.cellAt 0 rfl
           have y1 := E6.cellAt 1 rfl
           have bn0 := World.new_ne w5 _ r0
           have bn0s := bn0.symm
           have bn1 := World.new_ne w5 _ k0
           have bn1s := bn1.symm
           obtain ⟨x, hx, hxc⟩ := four_new 0 0 (k4 : Int) (-1) w5.heap.size 3 (show k5 < 4 by omega)
           have hx0 : -1 ≤ x ∧ x ≤ 7 := by omega
           obtain ⟨hx0, hx1⟩ := hx0
           clear hx)
        | (go_at_call_of 30 (Value.int IntKind.i64 4)
           refine (pick_any B g 89998 4 _ ?_ (by omega) (by omega)).mono ?_
           · exact (R4.alloc (.cells #[.int .i64 0, .int .i64 0, .int .i64 (k4 : Int), .int .i64 (-1)] 3))
           rintro e w5 ⟨k5, rfl, hk51, hk52, R5, hg5⟩
           have hk53 := hk52 (by omega)
           clear hk52
           have E5 := (E4.alloc (.cells #[.int .i64 0, .int .i64 0, .int .i64 (k4 : Int), .int .i64 (-1)] 3)).grown hg5 (by intro e; injection e with e; omega)
           have F5 := (F4.alloc (.cells #[.int .i64 0, .int .i64 0, .int .i64 (k4 : Int), .int .i64 (-1)] 3)).grown hg5 (by intro e; injection e with e; omega)
           have O5 := (O4.alloc (.cells #[.int .i64 0, .int .i64 0, .int .i64 (k4 : Int), .int .i64 (-1)] 3)).past hg5 (by omega)
           have G5 := gr_new (gr_alloc G4 (.cells #[.int .i64 0, .int .i64 0, .int .i64 (k4 : Int), .int .i64 (-1)] 3)) hg5 HG.out
           have k0 := E5.cellAt 0 rfl
           have k1 := E5.cellAt 1 rfl
           have f0 := F5.free 0
           have f1 := F5.free 1
           have r0 := F5.cellAt 0 rfl
           have r1 := F5.cellAt 1 rfl
           have N5 := (Full.new w4 3 #[.int .i64 0, .int .i64 0, .int .i64 (k4 : Int), .int .i64 (-1)]).grown hg5 (by intro e; injection e with e; omega)
           have bn1 := World.new_ne w5 _ r0
           have bn1s := bn1.symm
           have bn3 := World.new_ne w5 _ k0
           have bn3s := bn3.symm
           have bn2 := World.new_ne w4 _ (F4.cellAt 0 rfl)
           have bn2s := bn2.symm
           obtain ⟨x, hx, hxc⟩ := four_at N5 (show k5 < 4 by omega)
           have hx0 : -1 ≤ x ∧ x ≤ 7 := by omega
           obtain ⟨hx0, hx1⟩ := hx0
           clear hx))
      go_wp2_with fail
      refine hK.out _ _ ?_ (fun hHeld => ?_)
      · (try dsimp only); go_keep
      clear hK K
      refine wpAnyH_ready (rs := [5, 11]) (by kernel_rfl) (by simp) ?_
      refine AllReadyH.cons rfl (fun K hK => ?_) ?_
      · go_simp
        refine hK.out _ _ ?_ (fun hHeld => ?_)
        · (try dsimp only); go_keep
        clear hK K
        refine wpAnyH_take (i := 8) (v := ?v11) rfl (by kernel_rfl) (by kernel_rfl) (by kernel_rfl) (fun _ _ _ h => h) (Or.inl ⟨by rfl, ?h11⟩) (by assumption) ?r11
        case h11 => (intro w hSw; (try dsimp only at hSw); go_simp; all_goals with_reducible rfl)
        try simp only [List.getElem_toArray, List.getElem_cons_zero, List.getElem_cons_succ, Act.put, List.setIfInBounds_toArray, List.set_cons_zero, List.set_cons_succ]
        refine wpAnyH_ready (rs := [9, 11]) (by kernel_rfl) (by simp) ?_
        refine AllReadyH.cons rfl (fun K hK => ?_) ?_
        · go_simp
          refine hK.out _ _ ?_ (fun hHeld => ?_)
          · (try dsimp only); go_keep
          clear hK K
          refine wpAnyH_take (i := 10) (v := ?v12) rfl (by kernel_rfl) (by kernel_rfl) (by kernel_rfl) (fun _ _ _ h => h) (Or.inl ⟨by rfl, ?h12⟩) (by assumption) ?r12
          case h12 => (intro w hSw; (try dsimp only at hSw); go_simp; all_goals with_reducible rfl)
          try simp only [List.getElem_toArray, List.getElem_cons_zero, List.getElem_cons_succ, Act.put, List.setIfInBounds_toArray, List.set_cons_zero, List.set_cons_succ]
          refine wpAnyH_ready (rs := [11]) (by kernel_rfl) (by simp) ?_
          refine AllReadyH.cons rfl (fun K hK => ?_) ?_
          · go_simp
            refine hK.out _ _ ?_ (fun hHeld => ?_)
            · (try dsimp only); go_keep
            clear hK K
            refine wpAnyH_take (i := 12) (v := ?v13) rfl (by kernel_rfl) (by kernel_rfl) (by kernel_rfl) (fun _ _ _ h => h) (Or.inl ⟨by rfl, ?h13⟩) (by assumption) ?r13
            case h13 => (intro w hSw; (try dsimp only at hSw); go_simp; all_goals with_reducible rfl)
            try simp only [List.getElem_toArray, List.getElem_cons_zero, List.getElem_cons_succ, Act.put, List.setIfInBounds_toArray, List.set_cons_zero, List.set_cons_succ]
            refine wpAnyH_done (by kernel_rfl) ?_ _
            have HNE := hid (show ∀ b, blockOf A2 = some b → b ≠ w.heap.size from fun b hb => by have := (O5.block hb).1; omega)
            have hwr : IntKind.i64.wrap (d + x) = d + x := IntWalk.i64_in _ (by omega)
            go_wp2_with fail
            refine bodyPost_ret (v := .tuple #[.agg #[.int .i64 d, .slice A2 n2 c2], .int .i64 (d + x)]) ?_ rfl ?_
            · first
                | (simp [results, Try.results24, go_sem, r0, r1, *]; done)
                | (have Z := ((F5.set 0 (.int .i64 d)).set 1 (.slice A2 n2 c2)).alloc (.cells #[.int .i64 0, .int .i64 0, .int .i64 (k4 : Int), .int .i64 (-1)] 3)
                   have z0 := Z.cellAt 0 rfl
                   have z1 := Z.cellAt 1 rfl
                   simp [results, Try.results24, go_sem, z0, z1, hwr]
                   done)
            · exact ⟨d, A2, n2, c2, xs, _, rfl, by repeat (first | exact O5.base_le (by omega) | refine Own.far ?_ HNE.out _ _ | refine Own.alloc ?_ _), HL.out, hsm, by omega, by omega, by repeat (first | exact G5 | refine gr_put ?_ (by omega) _ | refine gr_alloc ?_ _)⟩
          exact AllReadyH.nil
        refine AllReadyH.cons rfl (fun K hK => ?_) ?_
        · go_simp
          refine hK.out _ _ ?_ (fun hHeld => ?_)
          · (try dsimp only); go_keep
          clear hK K
          refine wpAnyH_ready (rs := [9]) (by kernel_rfl) (by simp) ?_
          refine AllReadyH.cons rfl (fun K hK => ?_) ?_
          · go_simp
            refine hK.out _ _ ?_ (fun hHeld => ?_)
            · (try dsimp only); go_keep
            clear hK K
            refine wpAnyH_take (i := 10) (v := ?v14) rfl (by kernel_rfl) (by kernel_rfl) (by kernel_rfl) (fun _ _ _ h => h) (Or.inl ⟨by rfl, ?h14⟩) (by assumption) ?r14
            case h14 => (intro w hSw; (try dsimp only at hSw); go_simp; all_goals with_reducible rfl)
            try simp only [List.getElem_toArray, List.getElem_cons_zero, List.getElem_cons_succ, Act.put, List.setIfInBounds_toArray, List.set_cons_zero, List.set_cons_succ]
            refine wpAnyH_take (i := 12) (v := ?v15) rfl (by kernel_rfl) (by kernel_rfl) (by kernel_rfl) (fun _ _ _ h => h) (Or.inl ⟨by rfl, ?h15⟩) (by assumption) ?r15
            case h15 => (intro w hSw; (try dsimp only at hSw); go_simp; all_goals with_reducible rfl)
            try simp only [List.getElem_toArray, List.getElem_cons_zero, List.getElem_cons_succ, Act.put, List.setIfInBounds_toArray, List.set_cons_zero, List.set_cons_succ]
            refine wpAnyH_done (by kernel_rfl) ?_ _
            have HNE := hid (show ∀ b, blockOf A2 = some b → b ≠ w.heap.size from fun b hb => by have := (O5.block hb).1; omega)
            have hwr : IntKind.i64.wrap (d + x) = d + x := IntWalk.i64_in _ (by omega)
            go_wp2_with fail
            refine bodyPost_ret (v := .tuple #[.agg #[.int .i64 d, .slice A2 n2 c2], .int .i64 (d + x)]) ?_ rfl ?_
            · first
                | (simp [results, Try.results24, go_sem, r0, r1, *]; done)
                | (have Z := ((F5.set 0 (.int .i64 d)).set 1 (.slice A2 n2 c2)).alloc (.cells #[.int .i64 0, .int .i64 0, .int .i64 (k4 : Int), .int .i64 (-1)] 3)
                   have z0 := Z.cellAt 0 rfl
                   have z1 := Z.cellAt 1 rfl
                   simp [results, Try.results24, go_sem, z0, z1, hwr]
                   done)
            · exact ⟨d, A2, n2, c2, xs, _, rfl, by repeat (first | exact O5.base_le (by omega) | refine Own.far ?_ HNE.out _ _ | refine Own.alloc ?_ _), HL.out, hsm, by omega, by omega, by repeat (first | exact G5 | refine gr_put ?_ (by omega) _ | refine gr_alloc ?_ _)⟩
          exact AllReadyH.nil
        exact AllReadyH.nil
      refine AllReadyH.cons rfl (fun K hK => ?_) ?_
      · go_simp
        refine hK.out _ _ ?_ (fun hHeld => ?_)
        · (try dsimp only); go_keep
        clear hK K
        refine wpAnyH_ready (rs := [5]) (by kernel_rfl) (by simp) ?_
        refine AllReadyH.cons rfl (fun K hK => ?_) ?_
        · go_simp
          refine hK.out _ _ ?_ (fun hHeld => ?_)
          · (try dsimp only); go_keep
          clear hK K
          refine wpAnyH_take (i := 8) (v := ?v16) rfl (by kernel_rfl) (by kernel_rfl) (by kernel_rfl) (fun _ _ _ h => h) (Or.inl ⟨by rfl, ?h16⟩) (by assumption) ?r16
          case h16 => (intro w hSw; (try dsimp only at hSw); go_simp; all_goals with_reducible rfl)
          try simp only [List.getElem_toArray, List.getElem_cons_zero, List.getElem_cons_succ, Act.put, List.setIfInBounds_toArray, List.set_cons_zero, List.set_cons_succ]
          refine wpAnyH_ready (rs := [9]) (by kernel_rfl) (by simp) ?_
          refine AllReadyH.cons rfl (fun K hK => ?_) ?_
          · go_simp
            refine hK.out _ _ ?_ (fun hHeld => ?_)
            · (try dsimp only); go_keep
            clear hK K
            refine wpAnyH_take (i := 10) (v := ?v17) rfl (by kernel_rfl) (by kernel_rfl) (by kernel_rfl) (fun _ _ _ h => h) (Or.inl ⟨by rfl, ?h17⟩) (by assumption) ?r17
            case h17 => (intro w hSw; (try dsimp only at hSw); go_simp; all_goals with_reducible rfl)
            try simp only [List.getElem_toArray, List.getElem_cons_zero, List.getElem_cons_succ, Act.put, List.setIfInBounds_toArray, List.set_cons_zero, List.set_cons_succ]
            refine wpAnyH_take (i := 12) (v := ?v18) rfl (by kernel_rfl) (by kernel_rfl) (by kernel_rfl) (fun _ _ _ h => h) (Or.inl ⟨by rfl, ?h18⟩) (by assumption) ?r18
            case h18 => (intro w hSw; (try dsimp only at hSw); go_simp; all_goals with_reducible rfl)
            try simp only [List.getElem_toArray, List.getElem_cons_zero, List.getElem_cons_succ, Act.put, List.setIfInBounds_toArray, List.set_cons_zero, List.set_cons_succ]
            refine wpAnyH_done (by kernel_rfl) ?_ _
            have HNE := hid (show ∀ b, blockOf A2 = some b → b ≠ w.heap.size from fun b hb => by have := (O5.block hb).1; omega)
            have hwr : IntKind.i64.wrap (d + x) = d + x := IntWalk.i64_in _ (by omega)
            go_wp2_with fail
            refine bodyPost_ret (v := .tuple #[.agg #[.int .i64 d, .slice A2 n2 c2], .int .i64 (d + x)]) ?_ rfl ?_
            · first
                | (simp [results, Try.results24, go_sem, r0, r1, *]; done)
                | (have Z := ((F5.set 0 (.int .i64 d)).set 1 (.slice A2 n2 c2)).alloc (.cells #[.int .i64 0, .int .i64 0, .int .i64 (k4 : Int), .int .i64 (-1)] 3)
                   have z0 := Z.cellAt 0 rfl
                   have z1 := Z.cellAt 1 rfl
                   simp [results, Try.results24, go_sem, z0, z1, hwr]
                   done)
            · exact ⟨d, A2, n2, c2, xs, _, rfl, by repeat (first | exact O5.base_le (by omega) | refine Own.far ?_ HNE.out _ _ | refine Own.alloc ?_ _), HL.out, hsm, by omega, by omega, by repeat (first | exact G5 | refine gr_put ?_ (by omega) _ | refine gr_alloc ?_ _)⟩
          exact AllReadyH.nil
        exact AllReadyH.nil
      exact AllReadyH.nil
    exact AllReadyH.nil
  exact AllReadyH.nil
end Go.Proofs.Ytjhkmgoephmbpaa
