/- The walk of FnMissingAll. -/
import Derived.Test.YtjhkmgoephmbpaaMissFn
import Derived.Deep.RegionHeld3
import Derived.Deep.DeepCutAuto
namespace Go.Proofs.Ytjhkmgoephmbpaa
open Go.RowKit

theorem mark_step {d : Int} {xs : List Int} (h : ckB d xs = true) (hne : xs ≠ []) : mkB d xs d = true ∧ ckB (stripA d (insA d xs)).1 (stripA d (insA d xs)).2 = true ∧
    missA (stripA d (insA d xs)).1 (stripA d (insA d xs)).2 = (missA d xs).tail ∧ lastOf ((stripA d (insA d xs)).1 - 1) (stripA d (insA d xs)).2 = lastOf (d - 1) xs := by
  obtain ⟨⟨h0, h1⟩, h2, h3⟩ := ckB_parts h
  have hlow : ∀ y ∈ xs, d < y := fun y hy => (asc_mem h3 y hy).1
  have hin : inR d 0 99 = true := by
    cases xs with
    | nil => exact absurd rfl hne
    | cons y r =>
      obtain ⟨a, b, _⟩ := asc_head h3
      exact inR_true h0 (by omega)
  have hno : hasB d xs d = false := by
    rw [hasB_out (fun hm => by have := hlow d hm; omega)]; simp
  have hl := mark_len d xs hlow
  have hm := mark_to h hin hno
  refine ⟨?_, ?_, mark_miss h3 hne, mark_last h3 hne⟩
  · rw [mkB_len h hin hno]; exact decide_eq_true (by omega)
  · rw [hm.ck]; exact decide_eq_true (by omega)
/-- What holds at the head of the loop. -/
structure MaAt (w : World) (b6 : Nat) (l : List Int) (last : Int) (k : Nat) (d : Int) (xs : List Int) (A : Option Addr) (n c : Nat) (wr : World) : Prop where
  full : Full wr b6 25 #[.int .i64 d, .slice A n c]
  lies : Lies wr A (ints xs)
  len : xs.length = n
  cap : n ≤ c
  max : c ≤ maxLen
  ck : ckB d xs = true
  miss : missA d xs = l.drop k
  last : lastOf (d - 1) xs = last
  ne : ∀ b, blockOf A = some b → b ≠ b6
  gr : w.grownBy wr none

set_option maxHeartbeats 4000000 in
theorem missingAll_walk (A : Option Addr) (n c : Nat) (zs : List Int) (w : World) (h : Code w A n c zs) :
    Calls Try.prog 7 #[.slice A n c] w fun e w' => e = .returned (.bool true) ∧ w.grownBy w' none := by
  have hc := h.cap
  have hm := h.max
  unfold maxLen at hm
  by_cases h1 : n > 1048576
  · go_enter Try.func7, Try.ntmps7
    go_wp2
    go_ret
    exact ⟨rfl, gr_refl _ _⟩
  go_enter Try.func7, Try.ntmps7
  go_wp2_with fail
  refine (dms_any A n c zs _ h).mono ?_
  rintro e w1 ⟨d, B, N, C, xs, rfl, hO, hl, hsm, hg1⟩
  have hC := hO.cap
  have hCm := hO.max
  have hd0 := hsm.d0
  have hd1 := hsm.d1
  have hN := hsm.len
  rw [hl] at hN
  obtain ⟨l, hml⟩ : ∃ y, msV d xs = y := ⟨_, rfl⟩
  have e1 := fun w hL => ms_any d B N C xs w hL hl hC hCm
  have e2 := fun w hL => sms_any d B N C xs w hL hl hC hCm (by omega) (by omega)
  rw [hml] at e1 e2
  have HM := hid hml
  have HL := hid hl
  have e9 := fun (y : Int) (w : World) hL => ch_any d B N C xs y w hL hl hC hCm
  have HBb := hid (fun b hb => (hO.block (b := b) hb).2)
  have L1 := hO.lies.alloc (.cells #[.int .i64 d, .slice B N C] 25)
  have P1 := Full.new w1 25 #[.int .i64 d, .slice B N C]
  have G1 := gr_alloc hg1 (.cells #[.int .i64 d, .slice B N C] 25)
  clear hl hO hg1 hml
  unfold maxLen at hCm
  go_wp2_with fail
  refine (e1 _ L1).mono ?_
  rintro e w2 ⟨A1, m, c1, rfl, hO1, hl1, hg2⟩
  have L2 := L1.grown0 hg2
  have P2 := P1.grown hg2 (by simp)
  have G2 := gr_0 G1 hg2
  clear hg2
  have pc0 := P2.cellAt 0 rfl
  have pc1 := P2.cellAt 1 rfl
  have hcA1 := hO1.cap
  have hmA1 := hO1.max
  go_wp2_with fail
  refine (e2 _ L2).mono ?_
  rintro e w3 ⟨A2, m2, c2, rfl, hO2, hl2, hg3⟩
  have L3 := L2.grown0 hg3
  have P3 := P2.grown hg3 (by simp)
  have G3 := gr_0 G2 hg3
  have O3 := hO1.kept0 hg3
  clear hg3
  have pc0 := P3.cellAt 0 rfl
  have pc1 := P3.cellAt 1 rfl
  have hcA2 := hO2.cap
  have hmA2 := hO2.max
  obtain rfl : m = m2 := hl1.symm.trans hl2
  have LA := O3.lies
  have LB := hO2.lies
  have e3 := fun w hA hB => si_is A1 A2 m m c1 c2 l l true w hA hB hl1 hl2 hcA1 hmA1 hcA2 hmA2 (by simp)
  have HLn := hid hl1
  clear hl1 hl2 e1 e2
  unfold maxLen at hmA1 hmA2
  rcases (by omega : m = 0 ∨ 0 < m) with h0 | h0
  · have hz : ((m : Int) == 0) = true := by simp [h0]
    clear h0
    go_wp2_with fail
    refine (e3 _ LA LB).mono ?_
    rintro e w4 ⟨rfl, hg4⟩
    have L4 := L3.grown0 hg4
    have P4 := P3.grown hg4 (by simp)
    have G4 := gr_0 G3 hg4
    have LA4 := LA.grown0 hg4
    have LB4 := LB.grown0 hg4
    clear hg4
    go_wp2_with fail
    refine (e3 _ LA4 LB4).mono ?_
    rintro e w5 ⟨rfl, hg5⟩
    have L5 := L4.grown0 hg5
    have P5 := P4.grown hg5 (by simp)
    have G5 := gr_0 G4 hg5
    have LA5 := LA4.grown0 hg5
    have LB5 := LB4.grown0 hg5
    clear hg5
    go_wp2_with fail
    go_ret
    exact ⟨rfl, G5⟩
  · have hz : ((m : Int) == 0) = false := by simp; omega
    have hck : ckB d xs = true := msV_ck (by rw [HM.out, HLn.out]; exact h0)
    have hlm : l = missA d xs := by rw [← HM.out]; exact msV_yes hck
    have hxne : xs ≠ [] := fun e => by rw [e] at hlm; have := HLn.out; rw [hlm] at this; simp [missA] at this; omega
    have hN0 : 0 < N := by
      have := HL.out
      rcases Nat.eq_zero_or_pos N with q | q
      · exact absurd (List.eq_nil_of_length_eq_zero (by omega)) hxne
      · exact q
    have hkx : N - 1 < xs.length := by rw [HL.out]; omega
    have hlast : lastOf (d - 1) xs = xs[N - 1] := by
      have := last_take (d - 1) xs (N - 1) hkx
      rwa [List.take_of_length_le (by rw [HL.out]; omega)] at this
    obtain ⟨x0, hx0⟩ : ∃ x0, xs[N - 1] = x0 := ⟨_, rfl⟩
    rw [hx0] at hlast
    have hx09 := (asc_mem (ckB_parts hck).2.2 x0 (hx0 ▸ List.getElem_mem hkx))
    obtain ⟨hx1, hx2⟩ := hx09
    have HC := hid hck
    have HLM := hid hlm
    have HLast := hid hlast
    have HX0 := hid hx0
    clear hck hlm hxne hlast hx0 e9
    go_wp2_with fail
    refine (e3 _ LA LB).mono ?_
    rintro e w4 ⟨rfl, hg4⟩
    have L4 := L3.grown0 hg4
    have P4 := P3.grown hg4 (by simp)
    have G4 := gr_0 G3 hg4
    have LA4 := LA.grown0 hg4
    have LB4 := LB.grown0 hg4
    clear hg4
    have pc0 := P4.cellAt 0 rfl
    have pc1 := P4.cellAt 1 rfl
    clear e3
    have hpl := P4.lt
    have MA : MaAt w4 w4.heap.size l x0 0 d xs B N C (w4.alloc (.cells #[.int .i64 d, .slice B N C] 25)) := ⟨Full.new _ _ _, L4.alloc _, HL.out, by omega, by unfold maxLen; exact hCm, HC.out, HLM.out.symm, HLast.out, fun b hb => by have := HBb.out b hb; omega, World.grownBy_alloc _ _ none⟩
    have HMA := hid MA
    clear MA
    go_wp2_with fail
    go_loopw [7] (fun i wr => ∃ (k : Nat) (d' : Int) (xs' : List Int) (A' : Option Addr) (n' c' : Nat), i = .int .i64 k ∧ k ≤ m ∧ MaAt w4 w4.heap.size l x0 k d' xs' A' n' c' wr) (fun i _ => m - (intOf i).toNat)
    case atStart => exact ⟨0, d, xs, B, N, C, rfl, by omega, HMA.out⟩
    case round =>
      clear HMA
      obtain ⟨k, d', xs', A', n', c', rfl, hkm, hat⟩ := hrel
      have hgr := hat.gr
      have Ar := LA4.grown0 hgr
      obtain ⟨g, o, rfl, hg, hcell⟩ := Ar.open_ (by rw [ints_len, HLn.out]; exact h0)
      have Fr := hat.full
      have t0 := Fr.cellAt 0 rfl
      have t1 := Fr.cellAt 1 rfl
      have tf0 := Fr.free 0
      have tf1 := Fr.free 1
      by_cases hlt : k < m
      · have hkl : k < l.length := by rw [HLn.out]; exact hlt
        have hmi := hat.miss
        rw [List.drop_eq_getElem_cons hkl] at hmi
        have hne : xs' ≠ [] := fun e => by rw [e] at hmi; cases hmi
        obtain ⟨r, hr⟩ := missA_head (ckB_parts hat.ck).2.2 (by rw [hmi]; exact List.cons_ne_nil _ _)
        have hld : l[k] = d' := by rw [hr] at hmi; injection hmi with h1 _; exact h1.symm
        obtain ⟨q1, q2, q3, q4⟩ := mark_step hat.ck hne
        rw [hmi, List.tail_cons] at q3
        rw [hat.last] at q4
        have cx := intAt hcell hkl
        rw [hld] at cx
        have e4 := fun w hL => mk_any d' A' n' c' xs' d' w hL hat.len hat.cap hat.max
        rw [mkV_yes q1, q1] at e4
        obtain ⟨d2, hd2⟩ : ∃ y, (stripA d' (insA d' xs')).1 = y := ⟨_, rfl⟩
        obtain ⟨xs2, hx2'⟩ : ∃ y, (stripA d' (insA d' xs')).2 = y := ⟨_, rfl⟩
        rw [hd2, hx2'] at e4 q2 q3 q4
        have hLr := hat.lies
        have hFlt := Fr.lt
        have hglt : g < wr.heap.size := World.block_lt_of_cell? wr _ cx
        have Q2 := hid q2
        have Q3 := hid q3
        have Q4 := hid q4
        have bn := World.new_ne wr _ t0
        have bns := bn.symm
        have bm := World.new_ne wr _ cx
        have bms := bm.symm
        have b1 : (0 : Int) ≤ (k : Int) := by omega
        have b2 : (k : Int) < (m : Int) := by omega
        clear hmi hne hr hld q1 q2 q3 q4 hd2 hx2' hat hcell
        go_upto_region 12 with (fail)
        go_cut [8, 9] (fun s8 s9 wx => ∃ (gx : Nat) (A2 : Option Addr) (n2 c2 : Nat), s8 = .pointer (some ⟨gx, 0, none⟩) ∧ s9 = .bool true ∧ Full wx gx 25 #[.int .i64 d2, .slice A2 n2 c2] ∧ Lies wx A2 (ints xs2) ∧ xs2.length = n2 ∧ n2 ≤ c2 ∧ c2 ≤ maxLen ∧ (∀ b, blockOf A2 = some b → wr.heap.size ≤ b) ∧ wr.heap.size ≤ gx ∧ wr.grownBy wx none)
        case first =>
          go_region_held3 (fun w' => w'.cell? ⟨w4.heap.size, 0, none⟩ = some (.int .i64 d') ∧ w'.cell? ⟨w4.heap.size, 1, none⟩ = some (.slice A' n' c') ∧ w'.cell? ⟨g, o + k, none⟩ = some (.int .i64 d')) (go_keep)
            (first
              | (go_at_call 23
                 refine (e4 _ ?_).mono ?_
                 · exact hLr.drew
                 rintro e w9 ⟨A2, n2, c2, rfl, hA2, hn2, hc2, hm2, hg9, hb2⟩
                 have z0 := hg9.cell (a := ⟨w4.heap.size, 0, none⟩) (v := .int .i64 d') (by simp [*]) (by simp)
                 have z1 := hg9.cell (a := ⟨w4.heap.size, 1, none⟩) (v := .slice A' n' c') (by simp [*]) (by simp)
                 have z2 := hg9.cell (a := ⟨g, o + k, none⟩) (v := .int .i64 d') (by simp [*]) (by simp)
                 have n0 := World.new_ne w9 _ z0
                 have n0s := n0.symm
                 have n1 := World.new_ne w9 _ z2
                 have n1s := n1.symm
                 have GA := gr_0 (gr_drew (gr_refl wr none)) hg9)
              | (go_at_call 23
                 refine (e4 _ ?_).mono ?_
                 · exact (hLr.alloc (.cells #[.int .i64 0, .slice none 0 0] 25)).drew
                 rintro e w9 ⟨A2, n2, c2, rfl, hA2, hn2, hc2, hm2, hg9, hb2⟩
                 have z0 := hg9.cell (a := ⟨w4.heap.size, 0, none⟩) (v := .int .i64 d') (by simp [*]) (by simp)
                 have z1 := hg9.cell (a := ⟨w4.heap.size, 1, none⟩) (v := .slice A' n' c') (by simp [*]) (by simp)
                 have z2 := hg9.cell (a := ⟨g, o + k, none⟩) (v := .int .i64 d') (by simp [*]) (by simp)
                 have n0 := World.new_ne w9 _ z0
                 have n0s := n0.symm
                 have n1 := World.new_ne w9 _ z2
                 have n1s := n1.symm
                 have Z := (Full.new wr 25 #[.int .i64 0, .slice none 0 0]).drew.grown hg9 (by simp)
                 have zc0 := Z.cellAt 0 rfl
                 have zc1 := Z.cellAt 1 rfl
                 have xf0 := Z.free 0
                 have xf1 := Z.free 1
                 have GA := gr_0 (gr_drew (gr_alloc (gr_refl wr none) _)) hg9))
          · go_wp2_with fail
            go_meet
            case rel => exact ⟨_, A2, n2, c2, rfl, rfl, Full.new _ _ _, hA2.alloc _, hn2, hc2, hm2, fun b hb => by have := hb2 b hb; simpa using this, GA.size, gr_alloc GA _⟩
          · go_wp2_with fail
            go_meet
            case rel => exact ⟨_, A2, n2, c2, rfl, rfl, (Z.set 0 _).set 1 _, (hA2.setCell (by intro b hb; have := hb2 b hb; simp at this ⊢; omega) _).setCell (by intro b hb; have := hb2 b hb; simp at this ⊢; omega) _, hn2, hc2, hm2, fun b hb => by have := hb2 b hb; simp at this; omega, Nat.le_refl _, gr_put (gr_put GA (Nat.le_refl _) _) (Nat.le_refl _) _⟩
        case rest =>
          obtain ⟨gx, A2, n2, c2, rfl, rfl, FX, LX, hn2, hc2, hm2, hb2, hgx, GX⟩ := hcut
          have Fc := Fr.grown GX (by simp)
          have s0 := Fc.cellAt 0 rfl
          have s1 := Fc.cellAt 1 rfl
          have sf0 := Fc.free 0
          have sf1 := Fc.free 1
          have x0' := FX.cellAt 0 rfl
          have x1' := FX.cellAt 1 rfl
          have ST : MaAt w4 w4.heap.size l x0 (k + 1) d2 xs2 A2 n2 c2 ((wc.setCell ⟨w4.heap.size, 0, none⟩ (.int .i64 d2)).setCell ⟨w4.heap.size, 1, none⟩ (.slice A2 n2 c2)) :=
            ⟨(Fc.set 0 _).set 1 _, (LX.setCell (by intro b hb; have := hb2 b hb; simp; omega) _).setCell (by intro b hb; have := hb2 b hb; simp; omega) _, hn2, hc2, hm2, Q2.out, Q3.out, Q4.out, fun b hb => by have := hb2 b hb; omega, gr_put (gr_put (gr_0 hgr GX) (Nat.le_refl _) _) (Nat.le_refl _) _⟩
          have HST := hid ST
          clear ST hn2 hb2 LX
          go_wp2_with fail
          go_roundw
          case rel => exact ⟨k + 1, d2, xs2, A2, n2, c2, by go_num, by omega, HST.out⟩
          case measure => simp [intOf]; omega
      · obtain rfl : k = m := by omega
        have hxe : xs' = [] := miss_none (ckB_parts hat.ck).2.2 (by rw [hat.miss, List.drop_of_length_le (by rw [HLn.out]; omega)])
        have hn0 := hat.len
        have hl0 := hat.last
        rw [hxe] at hn0 hl0
        simp only [lastOf, List.length_nil] at hn0 hl0
        have hd9 : (d' == x0 + 1) = true := by simp; omega
        subst hn0
        have Pr := P4.grown hgr (by simp)
        have Lr := L4.grown0 hgr
        obtain ⟨g2, o2, rfl, hg2, hcell2⟩ := Lr.open_ (by rw [ints_len, HL.out]; exact hN0)
        have cy := intAt hcell2 hkx
        rw [HX0.out] at cy
        have p0 := Pr.cellAt 0 rfl
        have p1 := Pr.cellAt 1 rfl
        have Gr := gr_0 G4 hgr
        have b1 : (0 : Int) ≤ (N : Int) - 1 := by omega
        have b2 : (N : Int) - 1 < (N : Int) := by omega
        have b3 : ((N : Int) - 1).toNat = N - 1 := by omega
        clear hxe hl0 hcell hcell2 hat
        go_wp2_with fail
        go_quiet (fail)
        go_wp2_with fail
        go_ret
        first | exact ⟨rfl, gr_drewN Gr _⟩ | exact ⟨ret_bool (by simp), gr_drewN Gr _⟩

end Go.Proofs.Ytjhkmgoephmbpaa
