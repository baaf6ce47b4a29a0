/- The walk of FnExactGroupValid. -/
import Derived.Test.YtmjficimnkbonaaGrpTo
namespace Go.Proofs.Ytmjficimnkbonaa
open Go.RowKit

/-- A group in a block of its own. -/
structure GBox (w : World) (t : TypeId) (g : Nat) (s : Int) (A : Option Addr) (n c : Nat) (ms : List ByteArray) : Prop where
  full : Full w g t #[.int .i64 s, .slice A n c]
  arg : SArg w A n c ms
theorem GBox.grown0 {w w' : World} {t : TypeId} {g : Nat} {s : Int} {A : Option Addr} {n c : Nat} {ms : List ByteArray} (h : GBox w t g s A n c ms) (hg : w.grownBy w' none) : GBox w' t g s A n c ms :=
  ⟨h.full.grown hg (by simp), h.arg.grown0 hg⟩
theorem GBox.new {w : World} {t : TypeId} {s : Int} {A : Option Addr} {n c : Nat} {ms : List ByteArray} (h : SArg w A n c ms) : GBox (w.alloc (.cells #[.int .i64 s, .slice A n c] t)) t w.heap.size s A n c ms :=
  ⟨Full.new _ _ _, h.alloc _⟩
theorem tg_sarg {w w' : World} {base g n : Nat} {A : Option Addr} {m c : Nat} {ms : List ByteArray} (hO : Own w base 9 1 (some ⟨g, 0, none⟩) n n (strs ms)) (h : SArg w' A m c ms) (hn : ms.length = n) : SArg w (some ⟨g, 0, none⟩) n n ms :=
  SArg.of_own hO hn h.sz

set_option maxHeartbeats 2000000 in
theorem exGroupValid_walk (s : Int) (A : Option Addr) (n c : Nat) (ms : List ByteArray) (w : World) (h : SArg w A n c ms) :
    Calls Try.prog 5 #[.agg #[.int .i64 s, .slice A n c]] w fun e w' => e = .returned (.bool true) ∧ w.grownBy w' none := by
  have E0 := GBox.new (t := 35) (s := s) h
  have G0 := World.grownBy_alloc w (.cells #[.int .i64 s, .slice A n c] 35) none
  have c0 := E0.full.cellAt 0 rfl
  have c1 := E0.full.cellAt 1 rfl
  have e1 := szg_any s A n c ms 1048576 _ E0.arg (by omega) (by omega)
  have HL := hid h.len
  clear h
  go_enter Try.func5, Try.ntmps5
  go_wp2_with fail
  refine e1.mono ?_
  rintro e w1 ⟨r, rfl, h2, h3, h4, hg1⟩
  have E1 := E0.grown0 hg1
  have G1 := gr_0 G0 hg1
  clear e1 E0 G0 hg1 c0 c1
  rcases (by omega : r < 0 ∨ 0 ≤ r) with q | q
  · go_wp2_with fail
    go_ret
    exact ⟨rfl, G1⟩
  have hn := h4 q
  have c0 := E1.full.cellAt 0 rfl
  have c1 := E1.full.cellAt 1 rfl
  have e2 := fun w (h : SArg w A n c ms) => tg_any s A n c ms w h (by omega)
  clear h3 h4
  obtain ⟨b, hb⟩ : ∃ b, grpB s ms = b := ⟨_, rfl⟩
  have HB := hid hb
  clear hb
  go_wp2_with fail
  refine (e2 _ E1.arg).mono ?_
  rintro e w2 ⟨g2, rfl, hO2, hg2⟩
  have E2 := E1.grown0 hg2
  have S2 := tg_sarg hO2 E2.arg HL.out
  have G2 := gr_0 G1 hg2
  have e3 := sgv_is s _ n n ms b _ S2 HB.out
  clear E1 G1 hg2 hO2 c0 c1 S2
  go_wp2_with fail
  refine e3.mono ?_
  rintro e w3 ⟨rfl, hg3⟩
  have E3 := E2.grown0 hg3
  have G3 := gr_0 G2 hg3
  have c0 := E3.full.cellAt 0 rfl
  have c1 := E3.full.cellAt 1 rfl
  clear E2 G2 hg3 e3
  go_wp2_with fail
  refine (e2 _ E3.arg).mono ?_
  rintro e w4 ⟨g4, rfl, hO4, hg4⟩
  have S4 := tg_sarg hO4 (E3.grown0 hg4).arg HL.out
  have X4 := GBox.new (t := 25) (s := s) S4
  have E4 := (E3.grown0 hg4).grown0 (World.grownBy_alloc w4 (.cells #[.int .i64 s, .slice (some ⟨g4, 0, none⟩) n n] 25) none)
  have G4 := gr_alloc (gr_0 G3 hg4) (.cells #[.int .i64 s, .slice (some ⟨g4, 0, none⟩) n n] 25)
  have d0 := X4.full.cellAt 0 rfl
  have d1 := X4.full.cellAt 1 rfl
  have e4 := gv_is s _ n n ms b _ X4.arg HB.out
  clear E3 G3 hg4 hO4 c0 c1 S4
  go_wp2_with fail
  refine e4.mono ?_
  rintro e w5 ⟨rfl, hg5⟩
  have E5 := E4.grown0 hg5
  have X5 := X4.grown0 hg5
  have G5 := gr_0 G4 hg5
  clear E4 X4 G4 hg5 d0 d1 e4
  have c0 := E5.full.cellAt 0 rfl
  have c1 := E5.full.cellAt 1 rfl
  have d0 := X5.full.cellAt 0 rfl
  have d1 := X5.full.cellAt 1 rfl
  have q' : ((b : Bool) != b) = false := by simp
  go_wp2_with fail
  go_region_held3 (fun w' => w'.cell? ⟨w.heap.size, 0, none⟩ = some (.int .i64 s) ∧ w'.cell? ⟨w.heap.size, 1, none⟩ = some (.slice A n c) ∧ w'.cell? ⟨w4.heap.size, 0, none⟩ = some (.int .i64 s) ∧ w'.cell? ⟨w4.heap.size, 1, none⟩ = some (.slice (some ⟨g4, 0, none⟩) n n)) (go_keep)
    (first
      | (go_at_call 23
         refine (e2 _ (E5.grown0 (gr_drew (gr_refl _ _))).arg).mono ?_
         rintro e w6 ⟨g6, rfl, hO6, hg6⟩
         have E6 := (E5.grown0 (gr_drew (gr_refl w5 none))).grown0 hg6
         have X6 := (X5.grown0 (gr_drew (gr_refl w5 none))).grown0 hg6
         have S6 := tg_sarg hO6 E6.arg HL.out
         have G6 := gr_0 (gr_drew G5) hg6
         have c0 := E6.full.cellAt 0 rfl
         have c1 := E6.full.cellAt 1 rfl
         have d0 := X6.full.cellAt 0 rfl
         have d1 := X6.full.cellAt 1 rfl)
      | (go_at_call 24
         refine (eg_is s s _ _ n n n n ms ms true _ X6.arg S6 (by simp)).mono ?_
         rintro e w7 ⟨rfl, hg7⟩
         have E7 := E6.grown0 hg7
         have X7 := X6.grown0 hg7
         have G7 := gr_0 G6 hg7
         have c0 := E7.full.cellAt 0 rfl
         have c1 := E7.full.cellAt 1 rfl
         have d0 := X7.full.cellAt 0 rfl
         have d1 := X7.full.cellAt 1 rfl))
  go_wp2_with fail
  go_ret
  exact ⟨rfl, G7⟩
end Go.Proofs.Ytmjficimnkbonaa
