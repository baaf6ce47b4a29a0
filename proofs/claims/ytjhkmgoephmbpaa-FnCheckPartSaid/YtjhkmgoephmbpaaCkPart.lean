/- The drawn checkpoint at the front; the walk of FnCheckPart. -/
import Derived.Test.YtjhkmgoephmbpaaCkS
import Derived.Test.YtjhkmgoephmbpaaCkDraw
import Derived.Test.YtjhkmgoephmbpaaApp
import Derived.Deep.RegionHeld3
import Derived.Deep.DeepCutAuto
namespace Go.Proofs.Ytjhkmgoephmbpaa
open Go.RowKit

set_option maxHeartbeats 400000 in
theorem dck_any (A : Option Addr) (n c : Nat) (zs : List Int) (w : World) (h : Code w A n c zs) :
    Calls Try.prog 12 #[.slice A n c] w (CkEnds w) := by
  have F0 := Full.new w 25 #[.int .i64 0, .slice none 0 0]
  go_enter Try.func12, Try.ntmps12
  go_wp2_with fail
  refine (open_any A n c zs _ (h.grown (World.grownBy_alloc w _ none))).mono ?_
  rintro e w1 ⟨g, rfl, hr1, hg1⟩
  have F1 := F0.grown hg1 (by simp)
  have G1 := gr_trans (World.grownBy_alloc w _ none) hg1
  have hB := hr1.ge
  simp at hB
  have hs1 := hg1.size
  simp at hs1
  clear hg1
  go_wp2_with fail
  refine (ck92_any _ g 90000 _ (hr1.less (by omega))).mono ?_
  rintro e w2 ⟨d, A2, n2, c2, xs, rfl, hO, hl, hsm, hr2, hg2⟩
  have F2 := F1.grown hg2 (by intro e; injection e with e; omega)
  have G2 := gr_new G1 hg2 (by omega)
  have hO2 := ((hO.put F2 (by decide) 0 (.int .i64 d)).put (F2.set 0 _) (by decide) 1 (.slice A2 n2 c2)).base_le (show w.heap.size ≤ w1.heap.size by omega)
  clear hg2 hO
  have c0 := F2.cellAt 0 rfl
  have c1 := F2.cellAt 1 rfl
  have f0 := F2.free 0
  have f1 := F2.free 1
  go_wp2_with fail
  refine bodyPost_ret (v := .agg #[.int .i64 d, .slice A2 n2 c2]) ?_ rfl ?_
  · simp [results, Try.results12, go_sem, c0, c1]
  · exact ⟨d, A2, n2, c2, xs, rfl, hO2, hl, hsm, by repeat (first | refine gr_put ?_ (by omega) _ | exact G2)⟩

set_option maxHeartbeats 1000000 in
theorem ckpart_walk (A : Option Addr) (n c : Nat) (zs : List Int) (w : World) (h : Code w A n c zs) :
    Calls Try.prog 3 #[.slice A n c] w fun e w' => e = .returned (.bool true) ∧ w.grownBy w' none := by
  have hc := h.cap
  have hm := h.max
  unfold maxLen at hm
  by_cases h1 : n > 1048576
  · go_enter Try.func3, Try.ntmps3
    go_wp2
    go_ret
    exact ⟨rfl, gr_refl _ _⟩
  go_enter Try.func3, Try.ntmps3
  go_wp2_with fail
  refine (dck_any A n c zs _ h).mono ?_
  rintro e w1 ⟨d, B, N, C, xs, rfl, hO, hl, hsm, hg1⟩
  have hC := hO.cap
  have hCm := hO.max
  have hd0 := hsm.d0
  have hd1 := hsm.d1
  have hN := hsm.len
  rw [hl] at hN
  obtain ⟨b, hb⟩ : ∃ b, ckB d xs = b := ⟨_, rfl⟩
  have HL := hid hl
  have HB := hid hb
  have e1 := fun w hL => ckv_is d B N C xs b w hL hl hC hCm hb
  have e2 := fun w hL => sckv_is d B N C xs b w hL hl hC hCm (by omega) (by omega) hb
  have F1 := Full.new w1 25 #[.int .i64 d, .slice B N C]
  have hL1 := hO.lies.alloc (.cells #[.int .i64 d, .slice B N C] 25)
  have hBb := fun g hg => (hO.block (b := g) hg).2
  clear hl hb hO
  unfold maxLen at hCm
  go_wp2_with fail
  refine (e1 _ hL1).mono ?_
  rintro e w2 ⟨rfl, hg2⟩
  have F2 := F1.grown hg2 (by simp)
  have hL2 := hL1.grown0 hg2
  have G2 := gr_0 (gr_alloc hg1 _) hg2
  have c0 := F2.cellAt 0 rfl
  have c1 := F2.cellAt 1 rfl
  clear e1
  go_wp2_with fail
  refine (e2 _ hL2).mono ?_
  rintro e w3 ⟨rfl, hg3⟩
  have F3 := F2.grown hg3 (by simp)
  have hL3 := hL2.grown0 hg3
  have G3 := gr_0 G2 hg3
  have c0 := F3.cellAt 0 rfl
  have c1 := F3.cellAt 1 rfl
  clear e2 F1 F2 hL1 hL2 G2 hg2 hg3
  cases b
  · go_wp2_with fail
    go_ret
    exact ⟨rfl, G3⟩
  have hge3 := F3.lt
  have bne := World.new_ne w3 _ c0
  have n1 : w3.heap.size + 1 ≠ w1.heap.size := by omega
  have hB3 : ∀ g, blockOf B = some g → g < w3.heap.size := fun g hg => by have := hBb g hg; omega
  have hLen : (ints xs).length = N * 1 := by rw [ints_len, HL.out]; omega
  have HLen := hid hLen
  clear hLen
  go_upto_region 8 with (fail)
  go_cut [6] (fun s6 wx => ∃ (gx : Nat) (A' : Option Addr) (c' : Nat), s6 = .pointer (some ⟨gx, 0, none⟩) ∧ Full wx gx 25 #[.int .i64 d, .slice A' (1 + N) c'] ∧ Own wx w3.heap.size 3 1 A' (1 + N) c' (ints (d :: xs)) ∧ w3.grownBy wx none)
  case first =>
    go_region_held3 (fun w' => w'.cell? ⟨w1.heap.size, 0, none⟩ = some (.int .i64 d) ∧ w'.cell? ⟨w1.heap.size, 1, none⟩ = some (.slice B N C)) (go_keep)
      (first
        | (refine step_app _ rfl (.tmp 31) (.tmp 33) 23 rfl w3.heap.size 3 Try.underlying23 intInfo rfl (by omega) (some ⟨w3.heap.size, 0, none⟩) 1 1 [.int .i64 d] (by rfl) ?_ B N C (ints xs) (by rfl) ?_ HLen.out (ints_one _) (by omega) (by omega) (by first | (simp; done) | (simp; omega)) ?_
           · exact (Own.lit w3 #[.int .i64 d] 1 (Nat.le_refl _) (by simp [maxLen]) rfl).drew
           · exact (hL3.alloc _).drew
           intro A4 c4 w4 hown4 hg4 _
           have k0 := hg4.cell (a := ⟨w1.heap.size, 0, none⟩) (v := .int .i64 d) (by simp [*]) (by simp [blockOf]; omega)
           have k1 := hg4.cell (a := ⟨w1.heap.size, 1, none⟩) (v := .slice B N C) (by simp [*]) (by simp [blockOf]; omega)
           have ne4 := World.new_ne w4 _ k0)
        | (refine step_app _ rfl (.tmp 31) (.tmp 33) 23 rfl w3.heap.size 3 Try.underlying23 intInfo rfl (by omega) (some ⟨w3.heap.size, 0, none⟩) 1 1 [.int .i64 d] (by rfl) ?_ B N C (ints xs) (by rfl) ?_ HLen.out (ints_one _) (by omega) (by omega) (by first | (simp; done) | (simp; omega)) ?_
           · exact ((Own.lit w3 #[.int .i64 d] 1 (Nat.le_refl _) (by simp [maxLen]) rfl).alloc (.cells #[.int .i64 0, .slice none 0 0] 25)).drew
           · exact ((hL3.alloc _).alloc _).drew
           intro A4 c4 w4 hown4 hg4 _
           have k0 := hg4.cell (a := ⟨w1.heap.size, 0, none⟩) (v := .int .i64 d) (by simp [*]) (by simp [blockOf]; omega)
           have k1 := hg4.cell (a := ⟨w1.heap.size, 1, none⟩) (v := .slice B N C) (by simp [*]) (by simp [blockOf]; omega)
           have Z := (Full.newAt (w := w3.alloc (.cells #[.int .i64 d] 3)) (t := 25) (cs := #[.int .i64 0, .slice none 0 0]) (H := w3.heap.size + 1) (by simp)).drew.grown hg4 (by simp [blockOf])
           have zc0 := Z.cellAt 0 rfl
           have zc1 := Z.cellAt 1 rfl
           have xf0 := Z.free 0
           have xf1 := Z.free 1)
        | (refine step_app _ rfl (.tmp 31) (.tmp 33) 23 rfl w3.heap.size 3 Try.underlying23 intInfo rfl (by omega) (some ⟨w3.heap.size + 1, 0, none⟩) 1 1 [.int .i64 d] (by rfl) ?_ B N C (ints xs) (by rfl) ?_ HLen.out (ints_one _) (by omega) (by omega) (by first | (simp; done) | (simp; omega)) ?_
           · exact (Own.litAt (w3.alloc (.cells #[.int .i64 0, .slice none 0 0] 25)) #[.int .i64 d] 1 (H := w3.heap.size + 1) (by simp) (by omega) (by simp [maxLen]) rfl).drew
           · exact ((hL3.alloc _).alloc _).drew
           intro A4 c4 w4 hown4 hg4 _
           have k0 := hg4.cell (a := ⟨w1.heap.size, 0, none⟩) (v := .int .i64 d) (by simp [*]) (by simp [blockOf]; omega)
           have k1 := hg4.cell (a := ⟨w1.heap.size, 1, none⟩) (v := .slice B N C) (by simp [*]) (by simp [blockOf]; omega)
           have Z := ((Full.new w3 25 #[.int .i64 0, .slice none 0 0]).alloc (.cells #[.int .i64 d] 3)).drew.grown hg4 (by simp [blockOf])
           have zc0 := Z.cellAt 0 rfl
           have zc1 := Z.cellAt 1 rfl
           have xf0 := Z.free 0
           have xf1 := Z.free 1))
    · have GA := gr_then (gr_drew (gr_alloc (gr_refl w3 none) (.cells #[.int .i64 d] 3))) hg4 (by rintro g hg; injection hg with hg; subst hg; exact .inr (Nat.le_refl _))
      go_wp2_with fail
      go_meet
      case rel => exact ⟨_, A4, c4, rfl, Full.new _ _ _, hown4.alloc _, gr_alloc GA _⟩
    · have GA := gr_then (gr_drew (gr_alloc (gr_alloc (gr_refl w3 none) (.cells #[.int .i64 d] 3)) (.cells #[.int .i64 0, .slice none 0 0] 25))) hg4 (by rintro g hg; injection hg with hg; subst hg; exact .inr (Nat.le_refl _))
      go_wp2_with fail
      go_meet
      case rel => exact ⟨_, A4, c4, rfl, (Z.set 0 _).set 1 _, (hown4.put Z (by decide) _ _).put (Z.set 0 _) (by decide) _ _, gr_put (gr_put GA (by omega) _) (by omega) _⟩
    · have GA := gr_then (gr_drew (gr_alloc (gr_alloc (gr_refl w3 none) (.cells #[.int .i64 0, .slice none 0 0] 25)) (.cells #[.int .i64 d] 3))) hg4 (by rintro g hg; injection hg with hg; subst hg; exact .inr (by simp))
      go_wp2_with fail
      go_meet
      case rel => exact ⟨_, A4, c4, rfl, (Z.set 0 _).set 1 _, (hown4.put Z (by decide) _ _).put (Z.set 0 _) (by decide) _ _, gr_put (gr_put GA (by omega) _) (by omega) _⟩
  case rest =>
    obtain ⟨gx, A4, c4, rfl, FX, OX, GX⟩ := hcut
    have Fc := F3.grown GX (by simp)
    have hLc := hL3.grown0 GX
    have c0 := Fc.cellAt 0 rfl
    have c1 := Fc.cellAt 1 rfl
    have x0' := FX.cellAt 0 rfl
    have x1' := FX.cellAt 1 rfl
    have hgec := Fc.lt
    have GC := gr_0 G3 GX
    have hlx : (d :: xs).length = 1 + N := by rw [List.length_cons, HL.out]; omega
    have e3 := fun w hL => ckv_is d A4 (1 + N) c4 (d :: xs) false w hL hlx OX.cap OX.max (ckB_not d _ (by simp [asc]))
    have hLx := OX.lies
    have hBX := fun g hg => (OX.block (b := g) hg).2
    clear hlx hL3 F3 G3
    by_cases h0 : N = 0
    · have h0' : ((N : Int) == 0) = true := by simp [h0]
      clear h0
      go_wp2_with fail
      refine (e3 _ hLx).mono ?_
      rintro e w6 ⟨rfl, hg6⟩
      go_wp2_with fail
      go_ret
      exact ⟨rfl, gr_0 GC hg6⟩
    have h0' : ((N : Int) == 0) = false := by simp; omega
    obtain ⟨gB, oB, hBe, hgB, hcell⟩ := hLc.open_ (by rw [ints_len, HL.out]; omega)
    obtain rfl := hBe
    have cx := intAt hcell (k := 0) (by rw [HL.out]; omega)
    rw [Nat.add_zero] at cx
    obtain ⟨x0, hx0⟩ : ∃ x0, xs[0]'(by rw [HL.out]; omega) = x0 := ⟨_, rfl⟩
    rw [hx0] at cx
    have HX0 := hid hx0
    have b0 : (0 : Int) < (N : Int) := by omega
    have b1 : 0 < N := by omega
    clear hcell hx0 hB3
    have bne := World.new_ne wc _ c0
    have n2 : wc.heap.size + 1 ≠ gB := by omega
    have n3 : wc.heap.size ≠ gB := by omega
    have n1 : wc.heap.size + 1 ≠ w1.heap.size := by omega
    have hB3 : ∀ g, blockOf (some ⟨gB, oB, none⟩) = some g → g < wc.heap.size := fun g hg => by have := hBb g hg; omega
    go_upto_region 11 with (fail)
    go_cut [7] (fun s6 wx => ∃ (gx : Nat) (A' : Option Addr) (c' : Nat), s6 = .pointer (some ⟨gx, 0, none⟩) ∧ Full wx gx 25 #[.int .i64 d, .slice A' (1 + N) c'] ∧ Own wx wc.heap.size 3 1 A' (1 + N) c' (ints (x0 :: xs)) ∧ wc.grownBy wx none)
    case first =>
      go_region_held3 (fun w' => w'.cell? ⟨w1.heap.size, 0, none⟩ = some (.int .i64 d) ∧ w'.cell? ⟨w1.heap.size, 1, none⟩ = some (.slice (some ⟨gB, oB, none⟩) N C) ∧ w'.cell? ⟨gB, oB, none⟩ = some (.int .i64 x0)) (go_keep)
        (first
          | (refine step_app _ rfl (.tmp 49) (.tmp 51) 23 rfl wc.heap.size 3 Try.underlying23 intInfo rfl (by omega) (some ⟨wc.heap.size, 0, none⟩) 1 1 [.int .i64 x0] (by rfl) ?_ (some ⟨gB, oB, none⟩) N C (ints xs) (by rfl) ?_ HLen.out (ints_one _) (by omega) (by omega) (by first | (simp; done) | (simp; omega)) ?_
             · exact (Own.lit wc #[.int .i64 x0] 1 (Nat.le_refl _) (by simp [maxLen]) rfl).drew
             · exact (hLc.alloc _).drew
             intro A5 c5 w5 hown5 hg5 _
             have k0 := hg5.cell (a := ⟨w1.heap.size, 0, none⟩) (v := .int .i64 d) (by simp [*]) (by simp [blockOf]; omega)
             have k2 := hg5.cell (a := ⟨gB, oB, none⟩) (v := .int .i64 x0) (by simp [*]) (by simp [blockOf]; omega)
             have k1 := hg5.cell (a := ⟨w1.heap.size, 1, none⟩) (v := .slice (some ⟨gB, oB, none⟩) N C) (by simp [*]) (by simp [blockOf]; omega)
             have ne4 := World.new_ne w5 _ k0
             have ne5 := World.new_ne w5 _ k2)
          | (refine step_app _ rfl (.tmp 49) (.tmp 51) 23 rfl wc.heap.size 3 Try.underlying23 intInfo rfl (by omega) (some ⟨wc.heap.size, 0, none⟩) 1 1 [.int .i64 x0] (by rfl) ?_ (some ⟨gB, oB, none⟩) N C (ints xs) (by rfl) ?_ HLen.out (ints_one _) (by omega) (by omega) (by first | (simp; done) | (simp; omega)) ?_
             · exact ((Own.lit wc #[.int .i64 x0] 1 (Nat.le_refl _) (by simp [maxLen]) rfl).alloc (.cells #[.int .i64 0, .slice none 0 0] 25)).drew
             · exact ((hLc.alloc _).alloc _).drew
             intro A5 c5 w5 hown5 hg5 _
             have k0 := hg5.cell (a := ⟨w1.heap.size, 0, none⟩) (v := .int .i64 d) (by simp [*]) (by simp [blockOf]; omega)
             have k2 := hg5.cell (a := ⟨gB, oB, none⟩) (v := .int .i64 x0) (by simp [*]) (by simp [blockOf]; omega)
             have k1 := hg5.cell (a := ⟨w1.heap.size, 1, none⟩) (v := .slice (some ⟨gB, oB, none⟩) N C) (by simp [*]) (by simp [blockOf]; omega)
             have Z := (Full.newAt (w := wc.alloc (.cells #[.int .i64 x0] 3)) (t := 25) (cs := #[.int .i64 0, .slice none 0 0]) (H := wc.heap.size + 1) (by simp)).drew.grown hg5 (by simp [blockOf])
             have zc0 := Z.cellAt 0 rfl
             have zc1 := Z.cellAt 1 rfl
             have xf0 := Z.free 0
             have xf1 := Z.free 1)
          | (refine step_app _ rfl (.tmp 49) (.tmp 51) 23 rfl wc.heap.size 3 Try.underlying23 intInfo rfl (by omega) (some ⟨wc.heap.size + 1, 0, none⟩) 1 1 [.int .i64 x0] (by rfl) ?_ (some ⟨gB, oB, none⟩) N C (ints xs) (by rfl) ?_ HLen.out (ints_one _) (by omega) (by omega) (by first | (simp; done) | (simp; omega)) ?_
             · exact (Own.litAt (wc.alloc (.cells #[.int .i64 0, .slice none 0 0] 25)) #[.int .i64 x0] 1 (H := wc.heap.size + 1) (by simp) (by omega) (by simp [maxLen]) rfl).drew
             · exact ((hLc.alloc _).alloc _).drew
             intro A5 c5 w5 hown5 hg5 _
             have k0 := hg5.cell (a := ⟨w1.heap.size, 0, none⟩) (v := .int .i64 d) (by simp [*]) (by simp [blockOf]; omega)
             have k2 := hg5.cell (a := ⟨gB, oB, none⟩) (v := .int .i64 x0) (by simp [*]) (by simp [blockOf]; omega)
             have k1 := hg5.cell (a := ⟨w1.heap.size, 1, none⟩) (v := .slice (some ⟨gB, oB, none⟩) N C) (by simp [*]) (by simp [blockOf]; omega)
             have Z := ((Full.new wc 25 #[.int .i64 0, .slice none 0 0]).alloc (.cells #[.int .i64 x0] 3)).drew.grown hg5 (by simp [blockOf])
             have zc0 := Z.cellAt 0 rfl
             have zc1 := Z.cellAt 1 rfl
             have xf0 := Z.free 0
             have xf1 := Z.free 1))
      · have GA := gr_then (gr_drew (gr_alloc (gr_refl wc none) (.cells #[.int .i64 x0] 3))) hg5 (by rintro g hg; injection hg with hg; subst hg; exact .inr (Nat.le_refl _))
        go_wp2_with fail
        go_meet
        case rel => exact ⟨_, A5, c5, rfl, Full.new _ _ _, hown5.alloc _, gr_alloc GA _⟩
      · have GA := gr_then (gr_drew (gr_alloc (gr_alloc (gr_refl wc none) (.cells #[.int .i64 x0] 3)) (.cells #[.int .i64 0, .slice none 0 0] 25))) hg5 (by rintro g hg; injection hg with hg; subst hg; exact .inr (Nat.le_refl _))
        go_wp2_with fail
        go_meet
        case rel => exact ⟨_, A5, c5, rfl, (Z.set 0 _).set 1 _, (hown5.put Z (by decide) _ _).put (Z.set 0 _) (by decide) _ _, gr_put (gr_put GA (by omega) _) (by omega) _⟩
      · have GA := gr_then (gr_drew (gr_alloc (gr_alloc (gr_refl wc none) (.cells #[.int .i64 0, .slice none 0 0] 25)) (.cells #[.int .i64 x0] 3))) hg5 (by rintro g hg; injection hg with hg; subst hg; exact .inr (by simp))
        go_wp2_with fail
        go_meet
        case rel => exact ⟨_, A5, c5, rfl, (Z.set 0 _).set 1 _, (hown5.put Z (by decide) _ _).put (Z.set 0 _) (by decide) _ _, gr_put (gr_put GA (by omega) _) (by omega) _⟩
    case rest =>
      obtain ⟨gy, A5, c5, rfl, FY, OY, GY⟩ := hcut
      have FX2 := FX.grown GY (by simp)
      have x0' := FX2.cellAt 0 rfl
      have x1' := FX2.cellAt 1 rfl
      have y0' := FY.cellAt 0 rfl
      have y1' := FY.cellAt 1 rfl
      have hlx : (x0 :: xs).length = 1 + N := by rw [List.length_cons, HL.out]; omega
      have e4 := fun w hL => ckv_is d A5 (1 + N) c5 (x0 :: xs) false w hL hlx OY.cap OY.max (ckB_not d _ (by
        have : xs = x0 :: xs.drop 1 := by
          have h1 := List.drop_eq_getElem_cons (l := xs) (i := 0) (by rw [HL.out]; omega)
          rw [HX0.out] at h1
          simpa using h1
        rw [this]
        simp [asc]))
      have hLx2 := hLx.grown0 GY
      have hLy := OY.lies
      clear hlx
      go_wp2_with fail
      refine (e3 _ hLx2).mono ?_
      rintro e w6 ⟨rfl, hg6⟩
      have FY3 := FY.grown hg6 (by simp)
      have y0' := FY3.cellAt 0 rfl
      have y1' := FY3.cellAt 1 rfl
      have hLy3 := hLy.grown0 hg6
      go_wp2_with fail
      refine (e4 _ hLy3).mono ?_
      rintro e w7 ⟨rfl, hg7⟩
      go_wp2_with fail
      go_ret
      exact ⟨rfl, gr_0 (gr_0 (gr_0 GC GY) hg6) hg7⟩
end Go.Proofs.Ytjhkmgoephmbpaa
