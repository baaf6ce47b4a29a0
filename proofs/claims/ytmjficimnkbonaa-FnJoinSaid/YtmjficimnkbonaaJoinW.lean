/- DrawGroupJoin; the walk of FnJoin. -/
import Derived.Test.YtmjficimnkbonaaJoinI
import Derived.Test.YtmjficimnkbonaaGrpDraw2
import Derived.Test.YtmjficimnkbonaaGrpArg
import Derived.Test.YtmjficimnkbonaaExGV
namespace Go.Proofs.Ytmjficimnkbonaa
open Go.RowKit

set_option maxHeartbeats 2000000 in
theorem dgj_any (A : Option Addr) (n c : Nat) (zs : List Int) (w : World) (h : Code w A n c zs) :
    Calls Try.prog 14 #[.slice A n c] w (GsEnds w) := by
  have F0 := Full.new w 25 #[.int .i64 0, .slice none 0 0]
  have G0 := World.grownBy_alloc w (.cells #[.int .i64 0, .slice none 0 0] 25) none
  go_enter Try.func14, Try.ntmps14
  go_wp2_with fail
  refine (open_any A n c zs _ (h.grown G0)).mono ?_
  rintro e w1 ⟨g, rfl, hr1, hg1⟩
  have F1 := F0.grown hg1 (by simp)
  have G1 := gr_0 G0 hg1
  have hB := hr1.ge
  simp at hB
  have hgl := hr1.lt
  have hs1 := G1.size
  clear hg1
  go_wp2_with fail
  refine (gr92_any _ g 90000 _ (hr1.less (by omega))).mono ?_
  rintro e w2 ⟨s, A2, n2, c2, ms, rfl, hO, hl, hn, hsm, h0, h9, hr2, hg2⟩
  have F2 := (F1.grown hg2 (by intro e; injection e with e; omega)).alloc (.cells #[.int .i64 s, .slice A2 n2 c2] 25)
  have G2 := gr_alloc (gr_new G1 hg2 (by omega)) (.cells #[.int .i64 s, .slice A2 n2 c2] 25)
  have X2 := Full.new w2 25 #[.int .i64 s, .slice A2 n2 c2]
  have O2 := hO.alloc (.cells #[.int .i64 s, .slice A2 n2 c2] 25)
  have hxl : w.heap.size < w2.heap.size := by have := F2.lt; have := hg2.size; omega
  have hgl2 : g < w2.heap.size := by have := hg2.size; omega
  obtain ⟨B, R2⟩ : ∃ B, Rd 75 (w2.alloc (.cells #[.int .i64 s, .slice A2 n2 c2] 25)) B g 90000 := ⟨_, hr2.alloc _⟩
  have HL := hid hl
  have HS := hid hsm
  have ne1 : w.heap.size ≠ w2.heap.size := by omega
  have ne2 : w2.heap.size ≠ w.heap.size := by omega
  have HG := hid (show w.heap.size ≤ g by omega)
  clear hl hsm hg2 hr2
  go_wp2_with fail
  refine (pick_any B g 89999 3 _ R2 (by omega) (by omega)).mono ?_
  rintro e w3 ⟨k, rfl, hk1, hk2, R3, hg3⟩
  have hk3 := hk2 (by omega)
  have X3 := X2.grown hg3 (by intro e; injection e with e; omega)
  have F3 := F2.grown hg3 (by intro e; injection e with e; omega)
  have O3 := O2.past hg3 (by omega)
  have G3 := gr_new G2 hg3 HG.out
  have hs3 := hg3.size
  simp at hs3
  have x0 := X3.cellAt 0 (v := .int .i64 s) rfl
  have x1 := X3.cellAt 1 (v := .slice A2 n2 c2) rfl
  have f0 := F3.free 0
  have f1 := F3.free 1
  have r0 := F3.cellAt 0 (v := .int .i64 0) rfl
  have r1 := F3.cellAt 1 (v := .slice none 0 0) rfl
  clear hk2 hg3 X2 F2 O2 G2 R2
  rcases (by omega : 1 ≤ k ∨ k = 0) with q | q
  · have dk : decide ((0 : Int) < (k : Int)) = true := by simp; omega
    go_wp2_with fail
    go_region_held3 (fun w' => w'.cell? ⟨w2.heap.size, 0, none⟩ = some (.int .i64 s) ∧ w'.cell? ⟨w2.heap.size, 1, none⟩ = some (.slice A2 n2 c2)) (go_keep)
      ((go_at_call 43
        refine (of_any B g 80000 w3.heap.size 4 4 [⟨#[122, 111, 101]⟩, ⟨#[98, 111, 98]⟩, ⟨#[97, 108]⟩, ⟨#[66, 97, 100]⟩] _ ?rr ?ff rfl (by omega) (by omega)).mono ?_
        case rr => exact (((R3.less (show 80001 ≤ 89999 by omega)).alloc _).drew)
        case ff => first | exact (Full.new _ _ _).drew | exact Full.newAt (by first | rfl | simp)
        rintro e w5 ⟨x, hx, rfl, R5, hg5⟩
        have hx3 : x.size ≤ 3 := by simp at hx; rcases hx with rfl | rfl | rfl | rfl <;> decide
        have X5 := (X3.alloc (.cells #[.string ⟨#[122, 111, 101]⟩, .string ⟨#[98, 111, 98]⟩, .string ⟨#[97, 108]⟩, .string ⟨#[66, 97, 100]⟩] 9)).drew.grown hg5 (by intro e; injection e with e; omega)
        have F5 := (F3.alloc (.cells #[.string ⟨#[122, 111, 101]⟩, .string ⟨#[98, 111, 98]⟩, .string ⟨#[97, 108]⟩, .string ⟨#[66, 97, 100]⟩] 9)).drew.grown hg5 (by intro e; injection e with e; omega)
        have O5 := (O3.alloc (.cells #[.string ⟨#[122, 111, 101]⟩, .string ⟨#[98, 111, 98]⟩, .string ⟨#[97, 108]⟩, .string ⟨#[66, 97, 100]⟩] 9)).drew.past hg5 (by omega)
        have G5 := gr_new (gr_drew (gr_alloc G3 (.cells #[.string ⟨#[122, 111, 101]⟩, .string ⟨#[98, 111, 98]⟩, .string ⟨#[97, 108]⟩, .string ⟨#[66, 97, 100]⟩] 9))) hg5 HG.out
        have y0 := X5.cellAt 0 (v := .int .i64 s) rfl
        have y1 := X5.cellAt 1 (v := .slice A2 n2 c2) rfl
        have p0 := F5.cellAt 0 (v := .int .i64 0) rfl
        have p1 := F5.cellAt 1 (v := .slice none 0 0) rfl
        have g0 := F5.free 0
        have g1 := F5.free 1))
    all_goals
      have O6 := (O5.put F5 (by decide) 0 (.int .i64 s)).put (F5.set 0 _) (by decide) 1 (.slice A2 n2 c2)
      go_wp2_with fail
      refine bodyPost_ret (v := .tuple #[.agg #[.int .i64 s, .slice A2 n2 c2], .string x]) ?_ rfl ?_
      · simp [results, Try.results14, go_sem, p0, p1]
      · exact ⟨s, A2, n2, c2, ms, x, rfl, SArg.of_own O6 HL.out (fun m hm => by have := HS.out m hm; simp only [maxLen]; omega), hn, HS.out, h0, h9, hx3, gr_put (gr_put G5 (by omega) _) (by omega) _⟩
  · have dk : decide ((0 : Int) < (k : Int)) = false := by simp; omega
    go_wp2_with fail
    go_region_held3 (fun w' => w'.cell? ⟨w2.heap.size, 0, none⟩ = some (.int .i64 s) ∧ w'.cell? ⟨w2.heap.size, 1, none⟩ = some (.slice A2 n2 c2)) (go_keep)
      ((go_at_call 44
        refine (mem_any B g 80000 w1.heap.size s A2 n2 c2 ms _ ?rr ?oo hgl HL.out hn HS.out).mono ?_
        case rr => exact (R3.drew).less (by omega)
        case oo => exact O3.drew
        rintro e w5 ⟨x, rfl, hx3, R5, hg5⟩
        have X5 := X3.drew.grown hg5 (by intro e; injection e with e; omega)
        have F5 := F3.drew.grown hg5 (by intro e; injection e with e; omega)
        have O5 := O3.drew.past hg5 hgl
        have G5 := gr_new (gr_drew G3) hg5 HG.out
        have y0 := X5.cellAt 0 (v := .int .i64 s) rfl
        have y1 := X5.cellAt 1 (v := .slice A2 n2 c2) rfl
        have p0 := F5.cellAt 0 (v := .int .i64 0) rfl
        have p1 := F5.cellAt 1 (v := .slice none 0 0) rfl
        have g0 := F5.free 0
        have g1 := F5.free 1))
    all_goals
      have O6 := (O5.put F5 (by decide) 0 (.int .i64 s)).put (F5.set 0 _) (by decide) 1 (.slice A2 n2 c2)
      go_wp2_with fail
      refine bodyPost_ret (v := .tuple #[.agg #[.int .i64 s, .slice A2 n2 c2], .string x]) ?_ rfl ?_
      · simp [results, Try.results14, go_sem, p0, p1]
      · exact ⟨s, A2, n2, c2, ms, x, rfl, SArg.of_own O6 HL.out (fun m hm => by have := HS.out m hm; simp only [maxLen]; omega), hn, HS.out, h0, h9, hx3, gr_put (gr_put G5 (by omega) _) (by omega) _⟩

theorem hasB_next {x : ByteArray} {l : List ByteArray} {k : Nat} (hk : k < l.length) : hasB x (l.take (k + 1)) = (hasB x (l.take k) || decide (l[k] = x)) := by
  unfold hasB
  rw [List.take_succ_eq_append_getElem hk, List.any_append]
  simp
theorem GBox.beyond {w w' : World} {t : TypeId} {g : Nat} {s : Int} {A : Option Addr} {n c : Nat} {ms : List ByteArray} (h : GBox w t g s A n c ms) {row : Option Nat} {B : Nat} (hg : w.grownBy w' row) (hr : ∀ b, row = some b → B ≤ b) (h1 : g < B) (h2 : 0 < n → ∀ b, blockOf A = some b → b < B) : GBox w' t g s A n c ms := by
  refine ⟨h.full.grown hg (fun e => by have := hr g e.symm; omega), ?_, h.arg.len, h.arg.cap, h.arg.max, h.arg.sz⟩
  rcases Nat.eq_zero_or_pos n with h0 | h0
  · have h00 : ms = [] := List.eq_nil_of_length_eq_zero (by rw [h.arg.len]; exact h0)
    rw [h00]
    exact Lies.nil
  · exact h.arg.li.grown hg (fun b hb e => by have := hr b e.symm; have := h2 h0 b hb; omega)

set_option maxHeartbeats 4000000 in
theorem join_walk (A : Option Addr) (n c : Nat) (zs : List Int) (w : World) (h : Code w A n c zs) :
    Calls Try.prog 3 #[.slice A n c] w fun e w' => e = .returned (.bool true) ∧ w.grownBy w' none := by
  have hc := h.cap
  have hm := h.max
  unfold maxLen at hm
  by_cases h1 : n > 1048576
  · go_enter Try.func3, Try.ntmps3
    go_wp2
    go_ret
    exact ⟨rfl, gr_refl _ _⟩
  go_enter Try.func3, Try.ntmps3
  go_wp2_with fail
  refine (dgj_any A n c zs _ h).mono ?_
  rintro e w1 ⟨s, P, N, C, ms, x, rfl, hP, hN, hsz, hs0, hs9, hx, hg1⟩
  have hC := hP.cap
  have hCm := hP.max
  unfold maxLen at hCm
  have hxm : x.size ≤ maxLen := by simp only [maxLen]; omega
  have B1 := GBox.new (t := 25) (s := s) hP
  have G1 := gr_alloc hg1 (.cells #[.int .i64 s, .slice P N C] 25)
  obtain ⟨D, hD⟩ : ∃ v, joinN s ms x = v := ⟨_, rfl⟩
  obtain ⟨L, hL⟩ : ∃ v, joinL s ms x = v := ⟨_, rfl⟩
  obtain ⟨b, hb⟩ : ∃ v, joinB s ms x = v := ⟨_, rfl⟩
  have HD := hid hD
  have HL := hid hL
  have HB := hid hb
  have HSzL := hid (show ∀ y ∈ L, y.size ≤ maxLen from fun y hy => by
    rw [← hL] at hy
    unfold joinL at hy
    split at hy
    · rcases putIn_mem hy with rfl | hy
      · exact hxm
      · exact hP.sz y hy
    · simp at hy)
  have e1 := gj_any s P N C ms x _ B1.arg hxm
  rw [hD, hL, hb] at e1
  have c0 := B1.full.cellAt 0 (v := .int .i64 s) rfl
  have c1 := B1.full.cellAt 1 (v := .slice P N C) rfl
  clear hD hL hb hg1 hP
  go_wp2_with fail
  refine e1.mono ?_
  rintro e w2 ⟨A2, n2, c2, rfl, hS2, hg2⟩
  have B2 := (B1.grown0 hg2).grown0 (World.grownBy_alloc w2 (.cells #[.int .i64 D, .slice A2 n2 c2] 25) none)
  have X2 := GBox.new (t := 25) (s := D) hS2
  have G2 := gr_alloc (gr_0 G1 hg2) (.cells #[.int .i64 D, .slice A2 n2 c2] 25)
  have e2 := sgj_any s P N C ms x _ B2.arg hxm
  rw [HD.out, HL.out, HB.out] at e2
  have hc2 := hS2.cap
  have hm2 := hS2.max
  have HL2 := hid hS2.len
  unfold maxLen at hm2
  clear e1 B1 G1 hg2 hS2 c0 c1
  have c0 := B2.full.cellAt 0 (v := .int .i64 s) rfl
  have c1 := B2.full.cellAt 1 (v := .slice P N C) rfl
  go_wp2_with fail
  refine e2.mono ?_
  rintro e w3 ⟨A3, n3, c3, rfl, hO3, hl3, hg3⟩
  obtain rfl : n3 = n2 := hl3.symm.trans HL2.out
  have B3 := (B2.grown0 hg3).grown0 (World.grownBy_alloc w3 (.cells #[.int .i64 D, .slice A3 n3 c3] 25) none)
  have X3 := (X2.grown0 hg3).grown0 (World.grownBy_alloc w3 (.cells #[.int .i64 D, .slice A3 n3 c3] 25) none)
  have Y3 := GBox.new (t := 25) (s := D) (SArg.of_own hO3 hl3 HSzL.out)
  have G3 := gr_alloc (gr_0 G2 hg3) (.cells #[.int .i64 D, .slice A3 n3 c3] 25)
  have e3 := fun w (hX : SArg w A2 n3 c2 L) (hY : SArg w A3 n3 c3 L) => sgp_is D D A2 A3 n3 n3 c2 c3 L L true w hX hY (by simp)
  have e3a := e3 _ X3.arg Y3.arg
  have x0 := X3.full.cellAt 0 (v := .int .i64 D) rfl
  have x1 := X3.full.cellAt 1 (v := .slice A2 n3 c2) rfl
  have y0 := Y3.full.cellAt 0 (v := .int .i64 D) rfl
  have y1 := Y3.full.cellAt 1 (v := .slice A3 n3 c3) rfl
  have qb : (b != b) = false := by simp
  clear e2 B2 X2 G2 hg3 hO3 hl3 c0 c1
  go_wp2_with fail
  refine e3a.mono ?_
  rintro e w4 ⟨rfl, hg4⟩
  have B4 := B3.grown0 hg4
  have X4 := X3.grown0 hg4
  have Y4 := Y3.grown0 hg4
  have G4 := gr_0 G3 hg4
  clear e3a B3 X3 Y3 G3 hg4 x0 x1 y0 y1
  cases b with
  | false =>
    have x0 := X4.full.cellAt 0 (v := .int .i64 D) rfl
    have x1 := X4.full.cellAt 1 (v := .slice A2 n3 c2) rfl
    have y0 := Y4.full.cellAt 0 (v := .int .i64 D) rfl
    have y1 := Y4.full.cellAt 1 (v := .slice A3 n3 c3) rfl
    have e5 := e3 _ X4.arg Y4.arg
    go_wp2_with fail
    refine e5.mono ?_
    rintro e w5 ⟨rfl, hg5⟩
    go_wp2_with fail
    go_ret
    exact ⟨ret_bool (by first | rfl | simp), gr_0 G4 hg5⟩
  | true =>
    obtain ⟨q1, q2⟩ := join_yes HB.out
    rw [HD.out] at q1
    rw [HL.out] at q2
    obtain ⟨hv1, _, hv3, hv4⟩ := joinB_parts HB.out
    have HV1 := hid hv1
    have HV3 := hid hv3
    have HV4 := hid hv4
    clear HD HL Y4 e3 qb hv1 hv3 hv4
    skip
    subst q1
    subst q2
    have hn3 := HL2.out
    rw [putIn_len, B4.arg.len] at hn3
    have hn9 : n3 ≤ 9 := by omega
    clear hn3
    have hBb := B4.arg.below
    have hXb := X4.arg.below
    have hBl := B4.full.lt
    have hXl := X4.full.lt
    obtain ⟨wo, hwo⟩ : ∃ wo, wo = w4 := ⟨_, rfl⟩
    subst hwo
    have HB0 := hid (B4.grown0 (World.grownBy_alloc wo (.cells #[] 9) none))
    have HX0 := hid (X4.grown0 (World.grownBy_alloc wo (.cells #[] 9) none))
    have HO0 := hid (Own.empty (e := 9) (s := 1) wo (Nat.le_refl _))
    have G5 := gr_alloc G4 (.cells #[] 9)
    have hsz4 := G4.size
    clear B4 X4 G4
    go_wp2_with fail
    go_loopw [9, 10, 11] (fun rv sv iv wr => ∃ (j q : Nat) (Q : Option Addr) (cQ : Nat), rv = .slice Q q cQ ∧ sv = .bool (hasB x ((putIn x ms).take j)) ∧ iv = .int .i64 (j : Int) ∧ j ≤ n3 ∧ (rest x ((putIn x ms).take j)).length = q ∧ Own wr wo.heap.size 9 1 Q q cQ (strs (rest x ((putIn x ms).take j))) ∧ GBox wr 25 w1.heap.size D P N C ms ∧ GBox wr 25 w2.heap.size D A2 n3 c2 (putIn x ms) ∧ wo.heap.size ≤ wr.heap.size ∧ w.grownBy wr none) (fun _ _ iv _ => n3 - (intOf iv).toNat)
    case atStart => exact ⟨0, 0, _, 0, rfl, rfl, rfl, by omega, rfl, HO0.out, HB0.out, HX0.out, by simp, G5⟩
    case round =>
      clear HB0 HX0 HO0 G5
      obtain ⟨j, q, Q, cQ, rfl, rfl, rfl, hjn, hq, hO, hB, hX, hwr, hG⟩ := hrel
      have HQ := hid hq
      have hqj : q ≤ j := by rw [← hq]; exact rest_len x (putIn x ms) j
      have hsw := hG.size
      clear hq
      have x1 := hX.full.cellAt 1 (v := .slice A2 n3 c2) rfl
      obtain ⟨so, hso⟩ : ∃ v, hasB x ((putIn x ms).take j) = v := ⟨_, rfl⟩
      simp only [hso]
      have HSo := hid hso
      clear hso
      by_cases hlt : j < n3
      · have hjl : j < (putIn x ms).length := by rw [HL2.out]; exact hlt
        obtain ⟨g, o, hA, _, hcell⟩ := hX.arg.li.open_ (by rw [strs_len]; omega)
        have hgw := hXb (by omega) g (by rw [hA]; rfl)
        obtain rfl := hA
        have cx := strAt' hcell hjl
        clear hcell
        have HYes := hid (rest_yes (m := x) hjl)
        have HNo := hid (rest_no (m := x) hjl)
        have HNx := hid (hasB_next (x := x) hjl)
        obtain ⟨y, hy⟩ : ∃ y, (putIn x ms)[j] = y := ⟨_, rfl⟩
        simp only [hy] at cx HYes HNo HNx
        clear hy
        have b1 : (0 : Int) ≤ (j : Int) := by omega
        have b2 : (j : Int) < (n3 : Int) := by omega
        obtain ⟨qb, hqb⟩ : ∃ q, (y.toList == x.toList) = q := ⟨_, rfl⟩
        have HQb := hid (show decide (y = x) = qb by rw [← hqb, beq_bytes])
        cases qb with
        | false =>
          have HY := hid (HYes.out (of_decide_eq_false HQb.out))
          have HE := hid (show hasB x ((putIn x ms).take (j + 1)) = so by rw [HNx.out, HSo.out, HQb.out, Bool.or_false])
          clear HYes HNo HNx
          go_wp2_with (at_builtin; refine wpList_push _ rfl _ _ 23 rfl wo.heap.size 9 Try.underlying23 strInfo rfl (by omega) Q q cQ (strs (rest x ((putIn x ms).take j))) rfl (hO.alloc (.cells #[.string y] 9)) _ 1 #[.string y] rfl (Full.newAt (by simp)) rfl (by intro u hu; simp at hu; subst hu; rfl) (by omega) (by omega) (by simp; omega) ?_; intro A' c' wz hown hgz hbz)
          have hQb := fun b hb => (hO.block (b := b) hb).1
          have BZ := (hB.grown0 (World.grownBy_alloc wr (.cells #[.string y] 9) none)).beyond hgz hQb (by omega) (fun h0 b hb => hBb h0 b hb)
          have XZ := (hX.grown0 (World.grownBy_alloc wr (.cells #[.string y] 9) none)).beyond hgz hQb (by omega) (fun h0 b hb => hXb h0 b hb)
          have GZ := gr_then (gr_alloc hG (.cells #[.string y] 9)) hgz (fun b hb => .inr (by have := hQb b hb; omega))
          have HOZ := hid (show Own wz wo.heap.size 9 1 A' (q + 1) c' (strs (rest x ((putIn x ms).take (j + 1)))) by rw [HY.out, strs_app]; exact hown)
          have HBZ := hid BZ
          have HXZ := hid XZ
          have hwz : wo.heap.size ≤ wz.heap.size := by have := hgz.size; simp at this; omega
          clear hown hgz hbz hO hB hX BZ XZ hG
          go_wp2_with fail
          go_roundw
          case rel => exact ⟨j + 1, q + 1, A', c', by go_num, by rw [HE.out], by go_num, by omega, by rw [HY.out, List.length_append, HQ.out]; rfl, HOZ.out, HBZ.out, HXZ.out, hwz, GZ⟩
          case measure => simp [intOf]; omega
        | true =>
          have HY := hid (HNo.out (of_decide_eq_true HQb.out))
          have HE := hid (show hasB x ((putIn x ms).take (j + 1)) = true by rw [HNx.out, HQb.out, Bool.or_true])
          have HO := hid hO
          have HB2 := hid hB
          have HX2 := hid hX
          clear HYes HNo HNx hO hB hX
          go_wp2_with fail
          go_roundw
          case rel => exact ⟨j + 1, q, Q, cQ, rfl, by rw [HE.out], by go_num, by omega, by rw [HY.out]; exact HQ.out, by rw [HY.out]; exact HO.out, HB2.out, HX2.out, hwr, hG⟩
          case measure => simp [intOf]; omega
      · obtain rfl : j = n3 := by omega
        have htk : (putIn x ms).take j = putIn x ms := List.take_of_length_le (by rw [HL2.out]; exact Nat.le_refl _)
        have HR := hid (putIn_rest HV3.out)
        have HQ2 := hid (show ms.length = q by have := HQ.out; rwa [htk, HR.out] at this)
        have hO2 : Own wr wo.heap.size 9 1 Q q cQ (strs ms) := by rw [htk, HR.out] at hO; exact hO
        have hst : so = true := by rw [← HSo.out, htk]; exact putIn_has x ms
        clear HSo
        subst hst
        have e5 := gv_is D A2 j c2 (putIn x ms) true _ hX.arg HV4.out
        have hQc := hO2.cap
        have hQm := hO2.max
        unfold maxLen at hQm
        have SQ := SArg.of_own hO2 HQ2.out hB.arg.sz
        have x0 := hX.full.cellAt 0 (v := .int .i64 D) rfl
        clear hO htk
        go_wp2_with fail
        refine e5.mono ?_
        rintro e w6 ⟨rfl, hg6⟩
        have B6 := hB.grown0 hg6
        have X6 := hX.grown0 hg6
        have S6 := SQ.grown0 hg6
        have G6 := gr_0 hG hg6
        have e6 := st_is Q P q N cQ C ms ms true _ S6 B6.arg (by simp)
        clear e5 x0 x1 hB hX SQ hG hg6 hO2
        have c0 := B6.full.cellAt 0 (v := .int .i64 D) rfl
        have c1 := B6.full.cellAt 1 (v := .slice P N C) rfl
        go_wp2_with fail
        refine e6.mono ?_
        rintro e w7 ⟨rfl, hg7⟩
        have B7 := B6.grown0 hg7
        have X7 := X6.grown0 hg7
        have G7 := gr_0 G6 hg7
        clear e6 B6 X6 S6 G6 hg7 c0 c1
        have c0 := B7.full.cellAt 0 (v := .int .i64 D) rfl
        have x0 := X7.full.cellAt 0 (v := .int .i64 D) rfl
        have q5 : (D == D) = true := by simp
        go_wp2_with fail
        go_ret
        exact ⟨ret_bool (by first | rfl | simp), G7⟩
end Go.Proofs.Ytmjficimnkbonaa
