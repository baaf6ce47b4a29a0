/- DrawGroupValid; the walk of FnGroupPart. -/
import Derived.Test.YtmjficimnkbonaaGrpDraw
import Derived.Deep.DeepCutAuto
namespace Go.Proofs.Ytmjficimnkbonaa
open Go.RowKit

theorem mems_sz {ms : List ByteArray} (h : ∀ m ∈ ms, m.size ≤ 3) : ∀ m ∈ ms, m.size ≤ maxLen := fun m hm => by have := h m hm; simp only [maxLen]; omega

set_option maxHeartbeats 1000000 in
theorem dgv_any (A : Option Addr) (n c : Nat) (zs : List Int) (w : World) (h : Code w A n c zs) :
    Calls Try.prog 20 #[.slice A n c] w (GrEnds w) := by
  have F0 := Full.new w 25 #[.int .i64 0, .slice none 0 0]
  have G0 := World.grownBy_alloc w (.cells #[.int .i64 0, .slice none 0 0] 25) none
  go_enter Try.func20, Try.ntmps20
  go_wp2_with fail
  refine (open_any A n c zs _ (h.grown G0)).mono ?_
  rintro e w1 ⟨g, rfl, hr1, hg1⟩
  have F1 := F0.grown hg1 (by simp)
  have G1 := gr_0 G0 hg1
  have hB := hr1.ge
  simp at hB
  have hs1 := G1.size
  clear hg1
  go_wp2_with fail
  refine (gr92_any _ g 90000 _ (hr1.less (by omega))).mono ?_
  rintro e w2 ⟨s, A2, n2, c2, ms, rfl, hO, hl, hn, hsm, h0, h9, hr2, hg2⟩
  have F2 := F1.grown hg2 (by intro e; injection e with e; omega)
  have G2 := gr_new G1 hg2 (by omega)
  have HL := hid hl
  have HS := hid hsm
  have f0 := F2.free 0
  have f1 := F2.free 1
  have c0 := F2.cellAt 0 rfl
  have c1 := F2.cellAt 1 rfl
  have O3 := ((hO.put F2 (by decide) 0 (.int .i64 s)).put (F2.set 0 _) (by decide) 1 (.slice A2 n2 c2)).base_le hs1
  clear hl hsm hg2
  go_wp2_with fail
  refine bodyPost_ret (v := .agg #[.int .i64 s, .slice A2 n2 c2]) ?_ rfl ?_
  · simp [results, Try.results20, go_sem, c0, c1]
  · exact ⟨s, A2, n2, c2, ms, rfl, O3, HL.out, hn, HS.out, h0, h9, gr_put (gr_put G2 (by omega) _) (by omega) _⟩

theorem grp_twice {s : Int} {m : ByteArray} {ms : List ByteArray} : grpB s (m :: m :: ms) = false :=
  grpB_no fun ⟨_, _, _, h⟩ => by
    have := (List.pairwise_cons.1 h).1 m (by simp)
    rw [sl_irrefl] at this
    cases this

set_option maxHeartbeats 2000000 in
theorem groupPart_walk (A : Option Addr) (n c : Nat) (zs : List Int) (w : World) (h : Code w A n c zs) :
    Calls Try.prog 4 #[.slice A n c] w fun e w' => e = .returned (.bool true) ∧ w.grownBy w' none := by
  have hc := h.cap
  have hm := h.max
  unfold maxLen at hm
  by_cases h1 : n > 1048576
  · go_enter Try.func4, Try.ntmps4
    go_wp2
    go_ret
    exact ⟨rfl, gr_refl _ _⟩
  go_enter Try.func4, Try.ntmps4
  go_wp2_with fail
  refine (dgv_any A n c zs _ h).mono ?_
  rintro e w1 ⟨s, B, N, C, ms, rfl, hO, hl, hN, hsm, hs0, hs9, hg1⟩
  have S0 := SArg.of_own hO hl (mems_sz hsm)
  obtain ⟨b, hb⟩ : ∃ b, grpB s ms = b := ⟨_, rfl⟩
  have hC := hO.cap
  have hCm := hO.max
  unfold maxLen at hCm
  have HB := hid hb
  have HL := hid hl
  have HS := hid (mems_sz hsm)
  have F1 := Full.new w1 25 #[.int .i64 s, .slice B N C]
  have S1 := S0.alloc (.cells #[.int .i64 s, .slice B N C] 25)
  have G1 := gr_alloc hg1 (.cells #[.int .i64 s, .slice B N C] 25)
  have e1 := gv_is s B N C ms b _ S1 hb
  have c0 := F1.cellAt 0 rfl
  have c1 := F1.cellAt 1 rfl
  clear hb hl hsm hg1 S0 hO
  go_wp2_with fail
  refine e1.mono ?_
  rintro e w2 ⟨rfl, hg2⟩
  have F2 := F1.grown hg2 (by simp)
  have S2 := S1.grown0 hg2
  have G2 := gr_0 G1 hg2
  have e2 := sgv_is s B N C ms b _ S2 HB.out
  clear F1 S1 G1 hg2 e1 c0 c1
  have c0 := F2.cellAt 0 rfl
  have c1 := F2.cellAt 1 rfl
  go_wp2_with fail
  refine e2.mono ?_
  rintro e w3 ⟨rfl, hg3⟩
  have F3 := F2.grown hg3 (by simp)
  have S3 := S2.grown0 hg3
  have G3 := gr_0 G2 hg3
  clear F2 S2 G2 hg3 e2 c0 c1
  cases b with
  | false =>
    go_wp2_with fail
    go_ret
    exact ⟨rfl, G3⟩
  | true =>
    obtain ⟨_, ⟨h1, h6⟩, _⟩ := grpB_iff.1 HB.out
    obtain ⟨m0, mr, rfl⟩ : ∃ x r, ms = x :: r := List.exists_cons_of_ne_nil (fun e => by rw [e] at h1; simp at h1)
    have hNp : 0 < N := by have := HL.out; simp at this; omega
    obtain ⟨gB, oB, rfl, hgB, hcell⟩ := S3.li.open_ (by simp [strs])
    have cm := hcell 0 _ rfl
    simp only [Nat.add_zero] at cm
    have c0 := F3.cellAt 0 rfl
    have c1 := F3.cellAt 1 rfl
    have b1 : (0 : Int) < (N : Int) := by omega
    have hll : (strs (m0 :: mr)).length = N := by rw [strs_len]; exact HL.out
    have HLL := hid hll
    have FX := Full.new w3 25 #[.int .i64 s, .slice none 0 0]
    have GX := World.grownBy_alloc w3 (.cells #[.int .i64 s, .slice none 0 0] 25) none
    have SX := S3.grown0 GX
    have FC := F3.grown GX (by simp)
    have hLc := SX.li
    have cx := GX.cell cm (by simp)
    have GC := gr_0 G3 GX
    have hxl := FX.lt
    clear GX cm hcell hgB h1 h6 F3 S3 G3
    go_upto_region 9 with (fail)
    clear c0 c1
    generalize w3.alloc (.cells #[.int .i64 s, .slice none 0 0] 25) = wc at *
    have c0 := FC.cellAt 0 rfl
    have c1 := FC.cellAt 1 rfl
    have bne := World.new_ne wc _ c0
    have bn2 := World.new_ne wc _ cx
    have hl1 := FC.lt
    have hl2 := World.block_lt_of_cell? wc _ cx
    simp only [] at hl2
    have n2 : wc.heap.size + 1 ≠ gB := by omega
    have n3 : wc.heap.size ≠ gB := by omega
    have n1 : wc.heap.size + 1 ≠ w1.heap.size := by omega
    have HLLL := hid (show (strs (m0 :: mr)).length = N * 1 by rw [Nat.mul_one]; exact hll)
    clear hll
    go_cut [7] (fun s6 wx => ∃ (gx : Nat) (A' : Option Addr) (c' : Nat), s6 = .pointer (some ⟨gx, 0, none⟩) ∧ Full wx gx 25 #[.int .i64 s, .slice A' (1 + N) c'] ∧ Own wx wc.heap.size 9 1 A' (1 + N) c' (strs (m0 :: m0 :: mr)) ∧ wc.grownBy wx none)
    case first =>
      go_region_held3 (fun w' => w'.cell? ⟨w1.heap.size, 0, none⟩ = some (.int .i64 s) ∧ w'.cell? ⟨w1.heap.size, 1, none⟩ = some (.slice (some ⟨gB, oB, none⟩) N C) ∧ w'.cell? ⟨gB, oB, none⟩ = some (.string m0)) (go_keep)
        (first
          | (refine step_app _ rfl (.tmp 36) (.tmp 38) 23 rfl wc.heap.size 9 Try.underlying23 strInfo' rfl (by omega) (some ⟨wc.heap.size, 0, none⟩) 1 1 [.string m0] (by rfl) ?_ (some ⟨gB, oB, none⟩) N C (strs (m0 :: mr)) (by rfl) ?_ HLLL.out (strs_one _) (by omega) (by omega) (by first | (simp; done) | (simp; omega)) ?_
             · exact (Own.lit wc #[.string m0] 1 (Nat.le_refl _) (by simp [maxLen]) rfl).drew
             · exact (hLc.alloc _).drew
             intro A5 c5 w5 hown5 hg5 _
             have k0 := hg5.cell (a := ⟨w1.heap.size, 0, none⟩) (v := .int .i64 s) (by simp [*]) (by simp [blockOf]; omega)
             have k2 := hg5.cell (a := ⟨gB, oB, none⟩) (v := .string m0) (by simp [*]) (by simp [blockOf]; omega)
             have k1 := hg5.cell (a := ⟨w1.heap.size, 1, none⟩) (v := .slice (some ⟨gB, oB, none⟩) N C) (by simp [*]) (by simp [blockOf]; omega)
             have ne4 := World.new_ne w5 _ k0
             have ne5 := World.new_ne w5 _ k2)
          | (refine step_app _ rfl (.tmp 36) (.tmp 38) 23 rfl wc.heap.size 9 Try.underlying23 strInfo' rfl (by omega) (some ⟨wc.heap.size, 0, none⟩) 1 1 [.string m0] (by rfl) ?_ (some ⟨gB, oB, none⟩) N C (strs (m0 :: mr)) (by rfl) ?_ HLLL.out (strs_one _) (by omega) (by omega) (by first | (simp; done) | (simp; omega)) ?_
             · exact ((Own.lit wc #[.string m0] 1 (Nat.le_refl _) (by simp [maxLen]) rfl).alloc (.cells #[.int .i64 0, .slice none 0 0] 25)).drew
             · exact ((hLc.alloc _).alloc _).drew
             intro A5 c5 w5 hown5 hg5 _
             have k0 := hg5.cell (a := ⟨w1.heap.size, 0, none⟩) (v := .int .i64 s) (by simp [*]) (by simp [blockOf]; omega)
             have k2 := hg5.cell (a := ⟨gB, oB, none⟩) (v := .string m0) (by simp [*]) (by simp [blockOf]; omega)
             have k1 := hg5.cell (a := ⟨w1.heap.size, 1, none⟩) (v := .slice (some ⟨gB, oB, none⟩) N C) (by simp [*]) (by simp [blockOf]; omega)
             have Z := (Full.newAt (w := wc.alloc (.cells #[.string m0] 9)) (t := 25) (cs := #[.int .i64 0, .slice none 0 0]) (H := wc.heap.size + 1) (by simp)).drew.grown hg5 (by simp [blockOf])
             have zc0 := Z.cellAt 0 rfl
             have zc1 := Z.cellAt 1 rfl
             have xf0 := Z.free 0
             have xf1 := Z.free 1)
          | (refine step_app _ rfl (.tmp 36) (.tmp 38) 23 rfl wc.heap.size 9 Try.underlying23 strInfo' rfl (by omega) (some ⟨wc.heap.size + 1, 0, none⟩) 1 1 [.string m0] (by rfl) ?_ (some ⟨gB, oB, none⟩) N C (strs (m0 :: mr)) (by rfl) ?_ HLLL.out (strs_one _) (by omega) (by omega) (by first | (simp; done) | (simp; omega)) ?_
             · exact (Own.litAt (wc.alloc (.cells #[.int .i64 0, .slice none 0 0] 25)) #[.string m0] 1 (H := wc.heap.size + 1) (by simp) (by omega) (by simp [maxLen]) rfl).drew
             · exact ((hLc.alloc _).alloc _).drew
             intro A5 c5 w5 hown5 hg5 _
             have k0 := hg5.cell (a := ⟨w1.heap.size, 0, none⟩) (v := .int .i64 s) (by simp [*]) (by simp [blockOf]; omega)
             have k2 := hg5.cell (a := ⟨gB, oB, none⟩) (v := .string m0) (by simp [*]) (by simp [blockOf]; omega)
             have k1 := hg5.cell (a := ⟨w1.heap.size, 1, none⟩) (v := .slice (some ⟨gB, oB, none⟩) N C) (by simp [*]) (by simp [blockOf]; omega)
             have Z := ((Full.new wc 25 #[.int .i64 0, .slice none 0 0]).alloc (.cells #[.string m0] 9)).drew.grown hg5 (by simp [blockOf])
             have zc0 := Z.cellAt 0 rfl
             have zc1 := Z.cellAt 1 rfl
             have xf0 := Z.free 0
             have xf1 := Z.free 1))
      · have GA := gr_then (gr_drew (gr_alloc (gr_refl wc none) (.cells #[.string m0] 9))) hg5 (by rintro g hg; injection hg with hg; subst hg; exact .inr (Nat.le_refl _))
        go_wp2_with fail
        go_meet
        case rel => exact ⟨_, A5, c5, rfl, Full.new _ _ _, hown5.alloc _, gr_alloc GA _⟩
      · have GA := gr_then (gr_drew (gr_alloc (gr_alloc (gr_refl wc none) (.cells #[.string m0] 9)) (.cells #[.int .i64 0, .slice none 0 0] 25))) hg5 (by rintro g hg; injection hg with hg; subst hg; exact .inr (Nat.le_refl _))
        go_wp2_with fail
        go_meet
        case rel => exact ⟨_, A5, c5, rfl, (Z.set 0 _).set 1 _, (hown5.put Z (by decide) _ _).put (Z.set 0 _) (by decide) _ _, gr_put (gr_put GA (by omega) _) (by omega) _⟩
      · have GA := gr_then (gr_drew (gr_alloc (gr_alloc (gr_refl wc none) (.cells #[.int .i64 0, .slice none 0 0] 25)) (.cells #[.string m0] 9))) hg5 (by rintro g hg; injection hg with hg; subst hg; exact .inr (by simp))
        go_wp2_with fail
        go_meet
        case rel => exact ⟨_, A5, c5, rfl, (Z.set 0 _).set 1 _, (hown5.put Z (by decide) _ _).put (Z.set 0 _) (by decide) _ _, gr_put (gr_put GA (by omega) _) (by omega) _⟩
    case rest =>
      obtain ⟨gy, A5, c5, rfl, FY, OY, GY⟩ := hcut
      have FX2 := FX.grown GY (by simp)
      have x0' := FX2.cellAt 0 rfl
      have x1' := FX2.cellAt 1 rfl
      have hlx : (m0 :: m0 :: mr).length = 1 + N := by have := HL.out; simp at this ⊢; omega
      have S5 := SArg.of_own OY hlx (fun x hx => HS.out x (by simp at hx ⊢; rcases hx with hx | hx <;> simp [hx]))
      have S6 : ∀ w : World, SArg w none 0 0 [] := fun w => ⟨.inl rfl, rfl, Nat.le_refl _, by simp [maxLen], by simp⟩
      have e4 := fun w => gv_is s none 0 0 [] false w (S6 w) (grpB_n (.inl (by simp)))
      have e5 := fun w h => gv_is s A5 (1 + N) c5 (m0 :: m0 :: mr) false w h grp_twice
      clear hlx
      go_wp2_with fail
      refine (e4 _).mono ?_
      rintro e w6 ⟨rfl, hg6⟩
      have FY3 := FY.grown hg6 (by simp)
      have y0' := FY3.cellAt 0 rfl
      have y1' := FY3.cellAt 1 rfl
      have S7 := S5.grown0 hg6
      go_wp2_with fail
      refine (e5 _ S7).mono ?_
      rintro e w7 ⟨rfl, hg7⟩
      go_wp2_with fail
      go_ret
      exact ⟨rfl, gr_0 (gr_0 (gr_0 GC GY) hg6) hg7⟩
end Go.Proofs.Ytmjficimnkbonaa
