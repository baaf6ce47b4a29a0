/- Drawn events. -/
import Derived.Test.YtigcmdbialbadaaEvDraw
import Derived.Test.YtigcmdbialbadaaOwn
namespace Go.Proofs.Ytigcmdbialbadaa
open Go.RowKit

theorem evCells_len (e : Ev) : e.cells.length = 3 := rfl
theorem evInfo : (Try.prog.info? 35).map (fun i => (i.zero, i.size, i.bytes)) = some (some (.agg #[.int .i64 0, .string ⟨#[]⟩, .int .i64 0]), 3, 32) := by kernel_rfl

/-- Drawn events out of a reader: a slice of its own. -/
def EvsRdEnds (T : TypeId) (w : World) (B g m most : Nat) (e : Ending) (w' : World) : Prop :=
  ∃ (A : Option Addr) (n c : Nat) (l : List Ev), e = .returned (.slice A n c) ∧ Own w' w.heap.size 35 3 A n c (l.flatMap Ev.cells) ∧ l.length = n ∧ n ≤ most ∧ (∀ x ∈ l, EvSmall x) ∧ Rd T w' B g m ∧ w.grownBy w' (some g)

/-- What holds at the head of the loop. -/
structure EvsAt (w : World) (B g m N : Nat) (k : Nat) (l : List Ev) (A : Option Addr) (c : Nat) (wr : World) : Prop where
  le : k ≤ N
  len : l.length = k
  own : Own wr w.heap.size 35 3 A k c (l.flatMap Ev.cells)
  small : ∀ x ∈ l, EvSmall x
  rd : Rd 53 wr B g (m + 99 - 7 * k)
  gr : w.grownBy wr (some g)

set_option maxHeartbeats 2000000 in
theorem evs91_any (B g m : Nat) (most : Int) (w : World) (h : Rd 53 w B g (m + 100)) (h0 : 0 ≤ most) (h1 : most ≤ 10) :
    Calls Try.prog 23 #[.pointer (some ⟨g, 0, none⟩), .int .i64 most] w (EvsRdEnds 53 w B g m most.toNat) := by
  have hlt := h.lt
  have hge := h.ge
  go_enter Try.func23, Try.ntmps23
  go_wp2_with fail
  refine (pick_any B g (m + 99) _ _ (h.alloc _) (by omega) (by omega)).mono ?_
  rintro e w1 ⟨N, rfl, hk1, hk2, hr1, hg1⟩
  have hN := hk2 (by omega)
  clear hk2
  have O1 := (Own.empty (e := 35) (s := 3) w (Nat.le_refl _)).past hg1 hlt
  have G1 := gr_trans (World.grownBy_alloc w _ (some g)) hg1
  clear hg1
  go_wp2_with fail
  go_loopw [5, 7] (fun v i wr => ∃ (k : Nat) (l : List Ev) (A : Option Addr) (c : Nat), i = .int .i64 k ∧ v = .slice A k c ∧ EvsAt w B g m N k l A c wr) (fun _ i _ => N - (intOf i).toNat)
  case atStart => exact ⟨0, [], _, _, rfl, rfl, by omega, rfl, O1, by simp, hr1, G1⟩
  case round =>
    obtain ⟨k, l, A, c, rfl, rfl, hat⟩ := hrel
    have hkN := hat.le
    have hw := hat.gr.size
    by_cases hlt2 : k < N
    · go_wp2_with fail
      refine (ev91_any B g (m + 94 - 7 * k) _ (hat.rd.less (by omega))).mono ?_
      rintro e w2 ⟨i, s, d, rfl, hsm, hr2, hg2⟩
      have O2 := hat.own.past hg2 hlt
      have G2 := gr_trans hat.gr hg2
      have E2 := Full.new w2 35 #[.int .i64 i, .string s, .int .i64 d]
      have O2' := O2.alloc (.cells #[.int .i64 i, .string s, .int .i64 d] 35)
      have hL2 := G2.size
      have hAb : ∀ b, blockOf A = some b → b ≠ w2.heap.size := fun b hb => Nat.ne_of_lt (Nat.lt_of_lt_of_le (hat.own.block hb).2 hg2.size)
      clear hg2 O2
      go_wp2_with fail
      refine (pick_any B g (m + 93 - 7 * k) 16 _ ((hr2.alloc _).less (by omega)) (by omega) (by omega)).mono ?_
      rintro e w3 ⟨k3, rfl, hk31, hk32, hr3, hg3⟩
      have hk33 := hk32 (by omega)
      clear hk32
      have O3 := O2'.past hg3 hlt
      have G3 := gr_trans (gr_alloc G2 _) hg3
      have E3 := E2.grown hg3 (by intro e; injection e with e; have := hr2.lt; omega)
      clear hg3 O2' E2
      have c0 := E3.cellAt 0 rfl
      have c1 := E3.cellAt 1 rfl
      have c2 := E3.cellAt 2 rfl
      have f0 := E3.free 0
      have hk := hsm.kind
      simp only [] at hk
      rcases (by omega : k3 < 1 ∨ 1 ≤ k3) with hk3 | hk3
      · go_wp2_with (at_builtin; refine wpList_push _ rfl _ _ 28 rfl w.heap.size 35 Try.underlying28 evInfo rfl (by omega) A k c (l.flatMap Ev.cells) rfl (O3.alloc (.cells #[.int .i64 i, .string s, .int .i64 d] 35)) _ 1 #[.int .i64 i, .string s, .int .i64 d] rfl (Full.newAt (by simp)) rfl (by intro u hu; simp at hu; rcases hu with rfl | rfl | rfl <;> rfl) (by omega) (by omega) (Nat.le_trans G3.size (World.grownBy_alloc _ _ none).size) ?_; intro A' c' wz hown hgz _)
        have ST : EvsAt w B g m N (k + 1) (l ++ [⟨i, s, d⟩]) A' c' wz := by
          refine ⟨by omega, by simp [hat.len], by simpa [Ev.cells] using hown, ?_, (hr3.alloc _).grown hgz (fun b hb => ?_) |>.less (by omega), gr_then (gr_alloc G3 _) hgz (fun b hb => .inr (O3.block hb).1)⟩
          · intro x hx
            rcases List.mem_append.1 hx with hx | hx
            · exact hat.small x hx
            · simp at hx
              subst hx
              exact hsm
          · have := (O3.block hb).1
            exact ⟨by omega, by omega⟩
        clear hown hgz hat
        go_wp2_with fail
        go_roundw
        case rel => exact ⟨k + 1, _, A', c', by go_num, rfl, ST⟩
        case measure => simp [intOf]; omega

      · obtain ⟨b, hb⟩ : ∃ b, evB ⟨i, s, d⟩ = b := ⟨_, rfl⟩
        have e1 := fun w => sevm_is i s d b w (by simp only [maxLen]; omega) hb
        clear hb
        go_wp2_with fail
        refine (e1 _).mono ?_
        rintro e w4 ⟨rfl, hg4⟩
        have O4 := O3.kept0 hg4
        have G4 := gr_0 G3 hg4
        have E4 := E3.grown hg4 (by simp)
        have hr4 := hr3.grown hg4 (by simp)
        clear hg4 e1 E3
        have c0 := E4.cellAt 0 rfl
        have c1 := E4.cellAt 1 rfl
        have c2 := E4.cellAt 2 rfl
        have f0 := E4.free 0
        cases b
        · go_wp2_with (at_builtin; refine wpList_push _ rfl _ _ 28 rfl w.heap.size 35 Try.underlying28 evInfo rfl (by omega) A k c (l.flatMap Ev.cells) rfl (O4.alloc (.cells #[.int .i64 i, .string s, .int .i64 d] 35)) _ 1 #[.int .i64 i, .string s, .int .i64 d] rfl (Full.newAt (by simp)) rfl (by intro u hu; simp at hu; rcases hu with rfl | rfl | rfl <;> rfl) (by omega) (by omega) (Nat.le_trans G4.size (World.grownBy_alloc _ _ none).size) ?_; intro A' c' wz hown hgz _)
          have ST : EvsAt w B g m N (k + 1) (l ++ [⟨i, s, d⟩]) A' c' wz := by
            refine ⟨by omega, by simp [hat.len], by simpa [Ev.cells] using hown, ?_, (hr4.alloc _).grown hgz (fun b hb => ?_) |>.less (by omega), gr_then (gr_alloc G4 _) hgz (fun b hb => .inr (O4.block hb).1)⟩
            · intro x hx
              rcases List.mem_append.1 hx with hx | hx
              · exact hat.small x hx
              · simp at hx
                subst hx
                exact hsm
            · have := (O4.block hb).1
              exact ⟨by omega, by omega⟩
          clear hown hgz hat
          go_wp2_with fail
          go_roundw
          case rel => exact ⟨k + 1, _, A', c', by go_num, rfl, ST⟩
          case measure => simp [intOf]; omega

        · go_wp2_with fail
          refine (pick_any B g (m + 92 - 7 * k) 3 _ (hr4.less (by omega)) (by omega) (by omega)).mono ?_
          rintro e w5 ⟨k5, rfl, hk51, hk52, hr5, hg5⟩
          have hk53 := hk52 (by omega)
          clear hk52
          have O5 := O4.past hg5 hlt
          have G5 := gr_trans G4 hg5
          have E5 := E4.grown hg5 (by intro e; injection e with e; have := hr2.lt; omega)
          have c0 := E5.cellAt 0 rfl
          have c1 := E5.cellAt 1 rfl
          have c2 := E5.cellAt 2 rfl
          have f0 := E5.free 0
          have hL5 := hr2.lt
          have O6 : Own (w5.setCell ⟨w2.heap.size, 0, none⟩ (.int .i64 (10 * ((k : Int) + 1) + (k5 : Int)))) w.heap.size 35 3 A k c (l.flatMap Ev.cells) := O5.far hAb _ _
          have G6 : w.grownBy (w5.setCell ⟨w2.heap.size, 0, none⟩ (.int .i64 (10 * ((k : Int) + 1) + (k5 : Int)))) (some g) := gr_put G5 (by omega) _
          have hr6 : Rd 53 (w5.setCell ⟨w2.heap.size, 0, none⟩ (.int .i64 (10 * ((k : Int) + 1) + (k5 : Int)))) B g (m + 92 - 7 * k) := hr5.set (by omega) (by omega) _ _
          clear hg5 E4 O5
          go_wp2_with (at_builtin; refine wpList_push _ rfl _ _ 28 rfl w.heap.size 35 Try.underlying28 evInfo rfl (by omega) A k c (l.flatMap Ev.cells) rfl (O6.alloc (.cells #[.int .i64 (10 * ((k : Int) + 1) + (k5 : Int)), .string s, .int .i64 d] 35)) _ 1 #[.int .i64 (10 * ((k : Int) + 1) + (k5 : Int)), .string s, .int .i64 d] rfl (Full.newAt (by simp)) rfl (by intro u hu; simp at hu; rcases hu with rfl | rfl | rfl <;> rfl) (by omega) (by omega) (Nat.le_trans G6.size (World.grownBy_alloc _ _ none).size) ?_; intro A' c' wz hown hgz _)
          have ST : EvsAt w B g m N (k + 1) (l ++ [⟨(10 * ((k : Int) + 1) + (k5 : Int)), s, d⟩]) A' c' wz := by
            refine ⟨by omega, by simp [hat.len], by simpa [Ev.cells] using hown, ?_, (hr6.alloc _).grown hgz (fun b hb => ?_) |>.less (by omega), gr_then (gr_alloc G6 _) hgz (fun b hb => .inr (O6.block hb).1)⟩
            · intro x hx
              rcases List.mem_append.1 hx with hx | hx
              · exact hat.small x hx
              · simp at hx
                subst hx
                exact ⟨by simp only []; omega, by simp only []; omega, hsm.kind, hsm.data0, hsm.data1⟩
            · have := (O6.block hb).1
              exact ⟨by omega, by omega⟩
          clear hown hgz hat
          go_wp2_with fail
          go_roundw
          case rel => exact ⟨k + 1, _, A', c', by go_num, rfl, ST⟩
          case measure => simp [intOf]; omega

    · go_wp2_with fail
      go_ret
      exact ⟨A, k, c, l, rfl, hat.own, hat.len, by omega, hat.small, hat.rd.less (by omega), hat.gr⟩
end Go.Proofs.Ytigcmdbialbadaa
