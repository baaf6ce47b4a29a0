/- The drawn event at the front, impl's EventValid, the walk of FnEventPart. -/
import Derived.Test.YtnggcdgjbajnbaaEvDraw
namespace Go.Proofs.Ytnggcdgjbajnbaa
open Go.RowKit

set_option maxHeartbeats 400000 in
theorem dev1_any (A : Option Addr) (n c : Nat) (zs : List Int) (w : World) (h : Code w A n c zs) :
    Calls Try.prog 19 #[.slice A n c] w (EvEnds w) := by
  have F0 := Full.new w 34 #[.int .i64 0, .string ⟨#[]⟩, .int .i64 0]
  go_enter Try.func19, Try.ntmps19
  go_wp2_with fail
  refine (open_any A n c zs _ (h.grown (World.grownBy_alloc w _ none))).mono ?_
  rintro e w1 ⟨g, rfl, hr1, hg1⟩
  have F1 := F0.grown hg1 (by simp)
  have G1 := gr_trans (World.grownBy_alloc w _ none) hg1
  have hB := hr1.ge
  simp at hB
  clear hg1
  go_wp2_with fail
  refine (ev91_any _ g 99990 _ (hr1.less (by omega))).mono ?_
  rintro e w2 ⟨i, k, d, rfl, hsm, hr2, hg2⟩
  have F2 := F1.grown hg2 (by intro e; injection e with e; omega)
  have G2 := gr_new G1 hg2 (by omega)
  clear hg2
  have c0 := F2.cellAt 0 rfl
  have c1 := F2.cellAt 1 rfl
  have c2 := F2.cellAt 2 rfl
  have f0 := F2.free 0
  have f1 := F2.free 1
  have f2 := F2.free 2
  go_wp2_with fail
  refine bodyPost_ret (v := .agg #[.int .i64 i, .string k, .int .i64 d]) ?_ rfl ?_
  · simp [results, Try.results19, go_sem, c0, c1, c2]
  · exact ⟨i, k, d, rfl, hsm, by repeat (first | refine gr_put ?_ (by omega) _ | exact G2)⟩

set_option maxHeartbeats 400000 in
theorem evv_is (i : Int) (k : ByteArray) (d : Int) (b : Bool) (w : World) (hs : k.size ≤ maxLen) (h : evB ⟨i, k, d⟩ = b) :
    Calls Try.prog 20 #[.agg #[.int .i64 i, .string k, .int .i64 d]] w fun e w' => e = .returned (.bool b) ∧ w.grownBy w' none := by
  have e1 := fun w => evm_is i k d b w hs h
  clear h
  go_enter Try.func20, Try.ntmps20
  go_wp2_with fail
  refine (e1 _).mono ?_
  rintro e w1 ⟨rfl, hg⟩
  go_wp2_with fail
  go_ret
  exact ⟨rfl, gr_trans (World.grownBy_alloc w _ none) hg⟩

set_option maxHeartbeats 1000000 in
theorem evpart_walk (A : Option Addr) (n c : Nat) (zs : List Int) (w : World) (h : Code w A n c zs) :
    Calls Try.prog 7 #[.slice A n c] w fun e w' => e = .returned (.bool true) ∧ w.grownBy w' none := by
  have hc := h.cap
  have hm := h.max
  unfold maxLen at hm
  by_cases h1 : n > 1048576
  · go_enter Try.func7, Try.ntmps7
    go_wp2
    go_ret
    exact ⟨rfl, gr_refl _ _⟩
  go_enter Try.func7, Try.ntmps7
  go_wp2_with fail
  refine (dev1_any A n c zs _ h).mono ?_
  rintro e w1 ⟨i, k, d, rfl, hsm, hg1⟩
  have hs := hsm.kind
  simp only [] at hs
  have hsm' : k.size ≤ maxLen := by simp only [maxLen]; omega
  obtain ⟨b, hb⟩ : ∃ b, evB ⟨i, k, d⟩ = b := ⟨_, rfl⟩
  have e1 := fun w => evv_is i k d b w hsm' hb
  have e2 := fun w => sevm_is i k d b w hsm' hb
  have F1 := Full.new w1 34 #[.int .i64 i, .string k, .int .i64 d]
  go_wp2_with fail
  refine (e1 _).mono ?_
  rintro e w2 ⟨rfl, hg2⟩
  have F2 := F1.grown hg2 (by simp)
  have c0 := F2.cellAt 0 rfl
  have c1 := F2.cellAt 1 rfl
  have c2 := F2.cellAt 2 rfl
  have HB := hid hb
  clear hb
  go_wp2_with fail
  refine (e2 _).mono ?_
  rintro e w3 ⟨rfl, hg3⟩
  have F3 := F2.grown hg3 (by simp)
  have c0 := F3.cellAt 0 rfl
  have c1 := F3.cellAt 1 rfl
  have c2 := F3.cellAt 2 rfl
  have G3 := gr_0 (gr_0 (gr_alloc hg1 _) hg2) hg3
  clear hg1 hg2 hg3 e1 e2 F1 F2
  have e3 := fun w => evv_is 0 k d false w hsm' (evB_id 0 k d (by omega))
  have e4 := fun w => evv_is i ⟨#[]⟩ d false w (by decide) (evB_word i _ d (by decide))
  cases b
  · go_wp2_with fail
    go_ret
    exact ⟨rfl, G3⟩
  · have a0 := fun o => (F3.alloc o).cellAt 0 rfl
    have a1 := fun o => (F3.alloc o).cellAt 1 rfl
    have a2 := fun o => (F3.alloc o).cellAt 2 rfl
    have Y := Full.new (w3.alloc (.cells #[.int .i64 0, .string k, .int .i64 d] 34)) 34 #[.int .i64 i, .string ⟨#[]⟩, .int .i64 d]
    simp at Y
    go_wp2_with fail
    refine (e3 _).mono ?_
    rintro e w4 ⟨rfl, hg4⟩
    have Y4 := Y.grown hg4 (by simp)
    have c0 := Y4.cellAt 0 rfl
    have c1 := Y4.cellAt 1 rfl
    have c2 := Y4.cellAt 2 rfl
    go_wp2_with fail
    refine (e4 _).mono ?_
    rintro e w5 ⟨rfl, hg5⟩
    go_wp2_with fail
    go_ret
    exact ⟨rfl, gr_0 (gr_0 (gr_alloc (gr_alloc G3 _) _) hg4) hg5⟩
end Go.Proofs.Ytnggcdgjbajnbaa
