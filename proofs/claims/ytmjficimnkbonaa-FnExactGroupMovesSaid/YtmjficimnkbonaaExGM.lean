/- The walk of FnExactGroupMoves. -/
import Derived.Test.YtmjficimnkbonaaExGV
import Derived.Test.YtmjficimnkbonaaGrpMoves
namespace Go.Proofs.Ytmjficimnkbonaa
open Go.RowKit

set_option maxHeartbeats 4000000 in
theorem exGroupMoves_walk (s : Int) (A : Option Addr) (n c : Nat) (ms : List ByteArray) (r : Int) (B : Option Addr) (m d : Nat) (ns : List ByteArray) (w : World) (h : SArg w A n c ms) (h2 : SArg w B m d ns) :
    Calls Try.prog 7 #[.agg #[.int .i64 s, .slice A n c], .agg #[.int .i64 r, .slice B m d]] w fun e w' => e = .returned (.bool true) ∧ w.grownBy w' none := by
  have E0 := (GBox.new (t := 35) (s := s) h).grown0 (World.grownBy_alloc _ (.cells #[.int .i64 r, .slice B m d] 35) none)
  have U0 : GBox ((w.alloc (.cells #[.int .i64 s, .slice A n c] 35)).alloc (.cells #[.int .i64 r, .slice B m d] 35)) 35 (w.heap.size + 1) r B m d ns := ⟨Full.newAt (by simp), (h2.alloc _).alloc _⟩
  have G0 := gr_alloc (gr_alloc (gr_refl w none) (.cells #[.int .i64 s, .slice A n c] 35)) (.cells #[.int .i64 r, .slice B m d] 35)
  have c0 := E0.full.cellAt 0 (v := .int .i64 s) rfl
  have c1 := E0.full.cellAt 1 (v := .slice A n c) rfl
  have e1 := szg_any s A n c ms 1048576 _ E0.arg (by omega) (by omega)
  have HL := hid h.len
  have HM := hid h2.len
  clear h h2
  obtain ⟨ub, hub⟩ : ∃ ub, w.heap.size + 1 = ub := ⟨_, rfl⟩
  rw [hub] at U0
  go_enter Try.func7, Try.ntmps7
  go_wp2_with fail
  refine e1.mono ?_
  rintro e w1 ⟨q1, rfl, h21, h31, h41, hg1⟩
  have E1 := E0.grown0 hg1
  have U1 := U0.grown0 hg1
  have G1 := gr_0 G0 hg1
  clear e1 E0 U0 G0 hg1 c0 c1
  rcases (by omega : q1 < 0 ∨ 0 ≤ q1) with q | q
  · go_wp2_with fail
    go_ret
    exact ⟨rfl, G1⟩
  have hn := h41 q
  have c0 := U1.full.cellAt 0 (v := .int .i64 r) rfl
  have c1 := U1.full.cellAt 1 (v := .slice B m d) rfl
  have hq1 : q1 ≤ 1048576 := by omega
  have e1 := szg_any r B m d ns q1 _ U1.arg q hq1
  clear h31 h41
  go_wp2_with fail
  refine e1.mono ?_
  rintro e w2 ⟨q2, rfl, h22, h32, h42, hg2⟩
  have E2 := E1.grown0 hg2
  have U2 := U1.grown0 hg2
  have G2 := gr_0 G1 hg2
  clear e1 E1 U1 G1 hg2 c0 c1
  rcases (by omega : q2 < 0 ∨ 0 ≤ q2) with q' | q'
  · go_wp2_with fail
    go_ret
    exact ⟨rfl, G2⟩
  have hm := h42 q'
  have tA := fun w (h : SArg w A n c ms) => tg_any s A n c ms w h (by omega)
  have tB := fun w (h : SArg w B m d ns) => tg_any r B m d ns w h (by omega)
  clear h32 h42
  obtain ⟨v, hv⟩ : ∃ v, movesOf s ms r ns = v := ⟨_, rfl⟩
  have HV := hid hv
  clear hv hub
  have c0 := E2.full.cellAt 0 (v := .int .i64 s) rfl
  have c1 := E2.full.cellAt 1 (v := .slice A n c) rfl
  have d0 := U2.full.cellAt 0 (v := .int .i64 r) rfl
  have d1 := U2.full.cellAt 1 (v := .slice B m d) rfl
  have hC0 : ∀ w' : World, w2.grownBy w' none → w'.cell? ⟨w.heap.size, 0, none⟩ = some (.int .i64 s) := fun w' h => h.cell c0 (by simp)
  have hC1 : ∀ w' : World, w2.grownBy w' none → w'.cell? ⟨w.heap.size, 1, none⟩ = some (.slice A n c) := fun w' h => h.cell c1 (by simp)
  have hC2 : ∀ w' : World, w2.grownBy w' none → w'.cell? ⟨ub, 0, none⟩ = some (.int .i64 r) := fun w' h => h.cell d0 (by simp)
  have hC3 : ∀ w' : World, w2.grownBy w' none → w'.cell? ⟨ub, 1, none⟩ = some (.slice B m d) := fun w' h => h.cell d1 (by simp)
  clear c0 c1 d0 d1
  go_wp2_with fail
  go_region_held3 (fun w' => w2.grownBy w' none) (repeat (first | (with_reducible assumption) | (with_reducible exact gr_refl _ _) | (with_reducible refine gr_drew ?_) | (with_reducible refine gr_0 ?_ hg5) | (with_reducible refine gr_0 ?_ hg4) | (with_reducible refine gr_0 ?_ hg3)))
    (first
      | (go_at_call_of 23 (Value.slice A n c)
         refine (tA _ (E2.grown0 (gr_drew (gr_refl _ _))).arg).mono ?_
         rintro e w3 ⟨g3, rfl, hO3, hg3⟩
         have S3 := tg_sarg hO3 E2.arg HL.out
         have T3 := gr_0 (gr_drew (gr_refl w2 none)) hg3)
      | (go_at_call_of 23 (Value.slice B m d)
         refine (tB _ (U2.grown0 T3).arg).mono ?_
         rintro e w4 ⟨g4, rfl, hO4, hg4⟩
         have S4 := tg_sarg hO4 U2.arg HM.out
         have S3' := S3.grown0 hg4
         have T4 := gr_0 T3 hg4)
      | (go_at_call 27
         refine (sgmv_is s r _ _ _ _ _ _ ms ns v _ S3' S4 HV.out).mono ?_
         rintro e w5 ⟨rfl, hg5⟩
         have T5 := gr_0 T4 hg5))
  have E5 := E2.grown0 T5
  have U5 := U2.grown0 T5
  have G5 := gr_0 G2 T5
  clear hC0 hC1 hC2 hC3 hO3 hO4 S3 S3' S4 T3 T4 T5 hg3 hg4 hg5 E2 U2 G2
  have c0 := E5.full.cellAt 0 (v := .int .i64 s) rfl
  have c1 := E5.full.cellAt 1 (v := .slice A n c) rfl
  go_wp2_with fail
  refine (tA _ E5.arg).mono ?_
  rintro e w6 ⟨g6, rfl, hO6, hg6⟩
  have X6 := GBox.new (t := 25) (s := s) (tg_sarg hO6 (E5.grown0 hg6).arg HL.out)
  have E6 := (E5.grown0 hg6).grown0 (World.grownBy_alloc w6 (.cells #[.int .i64 s, .slice (some ⟨g6, 0, none⟩) n n] 25) none)
  have U6 := (U5.grown0 hg6).grown0 (World.grownBy_alloc w6 (.cells #[.int .i64 s, .slice (some ⟨g6, 0, none⟩) n n] 25) none)
  have G6 := gr_alloc (gr_0 G5 hg6) (.cells #[.int .i64 s, .slice (some ⟨g6, 0, none⟩) n n] 25)
  clear E5 U5 G5 hg6 hO6 c0 c1
  have c0 := U6.full.cellAt 0 (v := .int .i64 r) rfl
  have c1 := U6.full.cellAt 1 (v := .slice B m d) rfl
  go_wp2_with fail
  refine (tB _ U6.arg).mono ?_
  rintro e w7 ⟨g7, rfl, hO7, hg7⟩
  have Y7 := GBox.new (t := 25) (s := r) (tg_sarg hO7 (U6.grown0 hg7).arg HM.out)
  have X7 := (X6.grown0 hg7).grown0 (World.grownBy_alloc w7 (.cells #[.int .i64 r, .slice (some ⟨g7, 0, none⟩) m m] 25) none)
  have E7 := (E6.grown0 hg7).grown0 (World.grownBy_alloc w7 (.cells #[.int .i64 r, .slice (some ⟨g7, 0, none⟩) m m] 25) none)
  have U7 := (U6.grown0 hg7).grown0 (World.grownBy_alloc w7 (.cells #[.int .i64 r, .slice (some ⟨g7, 0, none⟩) m m] 25) none)
  have G7 := gr_alloc (gr_0 G6 hg7) (.cells #[.int .i64 r, .slice (some ⟨g7, 0, none⟩) m m] 25)
  have e4 := gmv_is s r _ _ _ _ _ _ ms ns v _ X7.arg Y7.arg HV.out
  clear X6 E6 U6 G6 hg7 hO7 c0 c1
  have x0 := X7.full.cellAt 0 (v := .int .i64 s) rfl
  have x1 := X7.full.cellAt 1 (v := .slice (some ⟨g6, 0, none⟩) n n) rfl
  have y0 := Y7.full.cellAt 0 (v := .int .i64 r) rfl
  have y1 := Y7.full.cellAt 1 (v := .slice (some ⟨g7, 0, none⟩) m m) rfl
  go_wp2_with fail
  refine e4.mono ?_
  rintro e w8 ⟨rfl, hg8⟩
  have X8 := X7.grown0 hg8
  have Y8 := Y7.grown0 hg8
  have E8 := E7.grown0 hg8
  have U8 := U7.grown0 hg8
  have G8 := gr_0 G7 hg8
  clear X7 Y7 E7 U7 G7 hg8 e4 x0 x1 y0 y1
  have qv : (v != v) = false := by simp
  have c0 := E8.full.cellAt 0 (v := .int .i64 s) rfl
  have c1 := E8.full.cellAt 1 (v := .slice A n c) rfl
  have x0 := X8.full.cellAt 0 (v := .int .i64 s) rfl
  have x1 := X8.full.cellAt 1 (v := .slice (some ⟨g6, 0, none⟩) n n) rfl
  have hC0 : ∀ w' : World, w8.grownBy w' none → w'.cell? ⟨w.heap.size, 0, none⟩ = some (.int .i64 s) := fun w' h => h.cell c0 (by simp)
  have hC1 : ∀ w' : World, w8.grownBy w' none → w'.cell? ⟨w.heap.size, 1, none⟩ = some (.slice A n c) := fun w' h => h.cell c1 (by simp)
  have hC2 : ∀ w' : World, w8.grownBy w' none → w'.cell? ⟨w6.heap.size, 0, none⟩ = some (.int .i64 s) := fun w' h => h.cell x0 (by simp)
  have hC3 : ∀ w' : World, w8.grownBy w' none → w'.cell? ⟨w6.heap.size, 1, none⟩ = some (.slice (some ⟨g6, 0, none⟩) n n) := fun w' h => h.cell x1 (by simp)
  clear c0 c1 x0 x1
  go_wp2_with fail
  go_region_held3 (fun w' => w8.grownBy w' none) (repeat (first | (with_reducible assumption) | (with_reducible exact gr_refl _ _) | (with_reducible refine gr_drew ?_) | (with_reducible refine gr_0 ?_ hga) | (with_reducible refine gr_0 ?_ hg9)))
    (first
      | (go_at_call 23
         refine (tA _ (E8.grown0 (gr_drew (gr_refl _ _))).arg).mono ?_
         rintro e w9 ⟨g9, rfl, hO9, hg9⟩
         have S9 := tg_sarg hO9 E8.arg HL.out
         have T9 := gr_0 (gr_drew (gr_refl w8 none)) hg9)
      | (go_at_call 24
         refine (eg_is s s _ _ n n n n ms ms true _ (X8.grown0 T9).arg S9 (by simp)).mono ?_
         rintro e wa ⟨rfl, hga⟩
         have Ta := gr_0 T9 hga))
  have Ya := Y8.grown0 Ta
  have Ua := U8.grown0 Ta
  have Ga := gr_0 G8 Ta
  clear hC0 hC1 hC2 hC3 hO9 S9 T9 Ta hg9 hga E8 U8 X8 Y8 G8
  have c0 := Ua.full.cellAt 0 (v := .int .i64 r) rfl
  have c1 := Ua.full.cellAt 1 (v := .slice B m d) rfl
  have x0 := Ya.full.cellAt 0 (v := .int .i64 r) rfl
  have x1 := Ya.full.cellAt 1 (v := .slice (some ⟨g7, 0, none⟩) m m) rfl
  have hC0 : ∀ w' : World, wa.grownBy w' none → w'.cell? ⟨ub, 0, none⟩ = some (.int .i64 r) := fun w' h => h.cell c0 (by simp)
  have hC1 : ∀ w' : World, wa.grownBy w' none → w'.cell? ⟨ub, 1, none⟩ = some (.slice B m d) := fun w' h => h.cell c1 (by simp)
  have hC2 : ∀ w' : World, wa.grownBy w' none → w'.cell? ⟨w7.heap.size, 0, none⟩ = some (.int .i64 r) := fun w' h => h.cell x0 (by simp)
  have hC3 : ∀ w' : World, wa.grownBy w' none → w'.cell? ⟨w7.heap.size, 1, none⟩ = some (.slice (some ⟨g7, 0, none⟩) m m) := fun w' h => h.cell x1 (by simp)
  clear c0 c1 x0 x1
  go_wp2_with fail
  go_region_held3 (fun w' => wa.grownBy w' none) (repeat (first | (with_reducible assumption) | (with_reducible exact gr_refl _ _) | (with_reducible refine gr_drew ?_) | (with_reducible refine gr_0 ?_ hgz) | (with_reducible refine gr_0 ?_ hgb)))
    (first
      | (go_at_call 23
         refine (tB _ (Ua.grown0 (gr_drew (gr_refl _ _))).arg).mono ?_
         rintro e wb ⟨gb, rfl, hOb, hgb⟩
         have Sb := tg_sarg hOb Ua.arg HM.out
         have Tb := gr_0 (gr_drew (gr_refl wa none)) hgb)
      | (go_at_call 24
         refine (eg_is r r _ _ m m m m ns ns true _ (Ya.grown0 Tb).arg Sb (by simp)).mono ?_
         rintro e wz ⟨rfl, hgz⟩
         have Tz := gr_0 Tb hgz))
  have Gz := gr_0 Ga Tz
  clear hC0 hC1 hC2 hC3
  go_wp2_with fail
  go_ret
  exact ⟨rfl, Gz⟩
end Go.Proofs.Ytmjficimnkbonaa
