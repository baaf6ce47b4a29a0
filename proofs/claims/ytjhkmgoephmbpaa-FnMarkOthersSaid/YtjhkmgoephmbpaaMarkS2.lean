/- CheckMark in spec. -/
import Derived.Test.YtjhkmgoephmbpaaMarkS
import Derived.Test.YtjhkmgoephmbpaaApp
namespace Go.Proofs.Ytjhkmgoephmbpaa
open Go.RowKit

/-- What holds at the head of the loop: Done has gone on by k. -/
structure MsAt (w : World) (gx : Nat) (d : Int) (l : List Int) (n k : Nat) (A : Option Addr) (c : Nat) (wr : World) : Prop where
  full : Full wr gx 25 #[.int .i64 (d + (k : Int)), .slice A (n - k) c]
  lies : Lies wr A (ints (l.drop k))
  ne : ∀ b, blockOf A = some b → b ≠ gx
  nr : ∀ b, blockOf A = some b → w.heap.size + 1 < b
  cap : n - k ≤ c
  max : c ≤ maxLen
  res : Full wr (w.heap.size + 1) 25 #[.int .i64 0, .slice none 0 0]
  gr : w.grownBy wr none
theorem Lies.tail {w : World} {g o : Nat} {x : Value} {r : List Value} (h : Lies w (some ⟨g, o, none⟩) (x :: r)) : Lies w (some ⟨g, o + 1, none⟩) r := by
  rcases h with h | ⟨g', o', hA, hc⟩
  · cases h
  · injection hA with hA
    injection hA with h1 h2
    subst h1 h2
    refine .inr ⟨g, o + 1, rfl, fun j u hu => ?_⟩
    rw [Nat.add_assoc, Nat.add_comm 1 j]
    exact hc (j + 1) u (by simpa using hu)
theorem block_tail (A : Option Addr) (c k : Nat) : blockOf (if c = k then A else A.map (·.add k)) = blockOf A := by
  split
  · rfl
  · cases A with
    | none => rfl
    | some a => simp [blockOf, block_add]

set_option maxHeartbeats 2000000 in
theorem smk_any (d : Int) (A : Option Addr) (n c : Nat) (xs : List Int) (x : Int) (w : World) (h : Lies w A (ints xs)) (hn : xs.length = n) (hc : n ≤ c) (hm : c ≤ maxLen) (hd0 : -1000000 ≤ d) (hd1 : d ≤ 1000000) :
    Calls Try.prog 25 #[.agg #[.int .i64 d, .slice A n c], .int .i64 x] w (MkTo w (mkV d xs x).1 (mkV d xs x).2 (mkB d xs x)) := by
  have hL := (h.alloc (.cells #[.int .i64 d, .slice A n c] 25)).alloc (.cells #[.int .i64 0, .slice none 0 0] 25)
  have F := (Full.new w 25 #[.int .i64 d, .slice A n c]).alloc (.cells #[.int .i64 0, .slice none 0 0] 25)
  have R := Full.newAt (w := w.alloc (.cells #[.int .i64 d, .slice A n c] 25)) (t := 25) (cs := #[.int .i64 0, .slice none 0 0]) (H := w.heap.size + 1) (by simp)
  have G0 := gr_alloc (gr_alloc (gr_refl w none) (.cells #[.int .i64 d, .slice A n c] 25)) (.cells #[.int .i64 0, .slice none 0 0] 25)
  have HN := hid hn
  obtain ⟨b1, hb1⟩ : ∃ b, ckB d xs = b := ⟨_, rfl⟩
  obtain ⟨b2, hb2⟩ : ∃ b, inR x 0 99 = b := ⟨_, rfl⟩
  obtain ⟨b3, hb3⟩ : ∃ b, hasB d xs x = b := ⟨_, rfl⟩
  have e1 := fun w hL => sckv_is d A n c xs b1 w hL hn hc hm hd0 hd1 hb1
  have e2 := fun w => in_is x 0 99 b2 w hb2
  have e3 := fun w hL => lh_is d A n c xs x b3 w hL hn hc hm hb3
  have HB1 := hid hb1
  have HB2 := hid hb2
  have HB3 := hid hb3
  clear hb1 hb2 hb3
  cases b1 with
  | false =>
    rw [mkV_no (mkB_ck HB1.out), mkB_ck HB1.out]
    clear hn
    unfold maxLen at hm
    go_enter Try.func25, Try.ntmps25
    go_wp2_with fail
    refine (e1 _ hL).mono ?_
    rintro e w1 ⟨rfl, hg1⟩
    have R1 := R.grown hg1 (by simp)
    have F1 := F.grown hg1 (by simp)
    have hL1 := hL.grown0 hg1
    have c0 := F1.cellAt 0 rfl
    have c1 := F1.cellAt 1 rfl
    have G1 := gr_0 G0 hg1
    clear hg1
    have r0 := R1.cellAt 0 rfl
    have r1 := R1.cellAt 1 rfl
    have q0 := R1.free 0
    have q1 := R1.free 1
    go_wp2_with fail
    refine bodyPost_ret (v := .tuple #[.agg #[.int .i64 0, .slice none 0 0], .bool false]) ?_ rfl ?_
    · simp [results, Try.results25, go_sem, r0, r1]
    · exact ⟨none, 0, 0, rfl, Lies.nil, rfl, Nat.le_refl _, by simp [maxLen], by repeat (first | refine gr_put ?_ (by omega) _ | exact G1), by intro b hb; cases hb⟩
  | true =>
    cases b2 with
    | false =>
      rw [mkV_no (mkB_in HB2.out), mkB_in HB2.out]
      clear hn
      unfold maxLen at hm
      go_enter Try.func25, Try.ntmps25
      go_wp2_with fail
      refine (e1 _ hL).mono ?_
      rintro e w1 ⟨rfl, hg1⟩
      have R1 := R.grown hg1 (by simp)
      have F1 := F.grown hg1 (by simp)
      have hL1 := hL.grown0 hg1
      have c0 := F1.cellAt 0 rfl
      have c1 := F1.cellAt 1 rfl
      have G1 := gr_0 G0 hg1
      clear hg1
      go_wp2_with fail
      refine (e2 _).mono ?_
      rintro e w2 ⟨rfl, rfl⟩
      have r0 := R1.cellAt 0 rfl
      have r1 := R1.cellAt 1 rfl
      have q0 := R1.free 0
      have q1 := R1.free 1
      go_wp2_with fail
      refine bodyPost_ret (v := .tuple #[.agg #[.int .i64 0, .slice none 0 0], .bool false]) ?_ rfl ?_
      · simp [results, Try.results25, go_sem, r0, r1]
      · exact ⟨none, 0, 0, rfl, Lies.nil, rfl, Nat.le_refl _, by simp [maxLen], by repeat (first | refine gr_put ?_ (by omega) _ | exact G1), by intro b hb; cases hb⟩
    | true =>
      cases b3 with
      | true =>
        rw [mkV_no (mkB_has HB3.out), mkB_has HB3.out]
        clear hn
        unfold maxLen at hm
        go_enter Try.func25, Try.ntmps25
        go_wp2_with fail
        refine (e1 _ hL).mono ?_
        rintro e w1 ⟨rfl, hg1⟩
        have R1 := R.grown hg1 (by simp)
        have F1 := F.grown hg1 (by simp)
        have hL1 := hL.grown0 hg1
        have c0 := F1.cellAt 0 rfl
        have c1 := F1.cellAt 1 rfl
        have G1 := gr_0 G0 hg1
        clear hg1
        go_wp2_with fail
        refine (e2 _).mono ?_
        rintro e w2 ⟨rfl, rfl⟩
        go_wp2_with fail
        refine (e3 _ hL1).mono ?_
        rintro e w3 ⟨rfl, hg3⟩
        have R3 := R1.grown hg3 (by simp)
        have G3 := gr_0 G1 hg3
        have r0 := R3.cellAt 0 rfl
        have r1 := R3.cellAt 1 rfl
        have q0 := R3.free 0
        have q1 := R3.free 1
        go_wp2_with fail
        refine bodyPost_ret (v := .tuple #[.agg #[.int .i64 0, .slice none 0 0], .bool false]) ?_ rfl ?_
        · simp [results, Try.results25, go_sem, r0, r1]
        · exact ⟨none, 0, 0, rfl, Lies.nil, rfl, Nat.le_refl _, by simp [maxLen], by repeat (first | refine gr_put ?_ (by omega) _ | exact G3), by intro b hb; cases hb⟩
      | false =>
        have HM := hid (mark_to HB1.out HB2.out HB3.out)
        have HE := hid (mkB_len HB1.out HB2.out HB3.out)
        obtain ⟨K, hK1, hK2, hK3, hK4⟩ := strip_at d (insA x xs)
        rw [insA_len, HN.out] at hK1
        have hp := ckB_parts HB1.out
        obtain ⟨⟨d0, d1⟩, hxl, _⟩ := hp
        rw [HN.out] at hxl
        have hxn : x ∉ xs := fun hmem => by
          have := HB3.out
          rw [Bool.eq_false_iff] at this
          exact this (hasB_iff.2 (.inl hmem))
        have e5 := fun w hL => lp_any A n c xs x w hL hn hc hm (by omega) hxn
        have HK2 := hid hK2
        have HK3 := hid hK3
        have HK4 := hid hK4
        have HLn := hid ((insA_len x xs).trans (by rw [HN.out]))
        clear hK2 hK3 hK4 hn hxn
        unfold maxLen at hm
        go_enter Try.func25, Try.ntmps25
        go_wp2_with fail
        refine (e1 _ hL).mono ?_
        rintro e w1 ⟨rfl, hg1⟩
        have R1 := R.grown hg1 (by simp)
        have F1 := F.grown hg1 (by simp)
        have hL1 := hL.grown0 hg1
        have c0 := F1.cellAt 0 rfl
        have c1 := F1.cellAt 1 rfl
        have G1 := gr_0 G0 hg1
        clear hg1
        go_wp2_with fail
        refine (e2 _).mono ?_
        rintro e w2 ⟨rfl, rfl⟩
        go_wp2_with fail
        refine (e3 _ hL1).mono ?_
        rintro e w3 ⟨rfl, hg3⟩
        have R3 := R1.grown hg3 (by simp)
        have F3 := F1.grown hg3 (by simp)
        have hL3 := hL1.grown0 hg3
        have c0 := F3.cellAt 0 rfl
        have c1 := F3.cellAt 1 rfl
        have G3 := gr_0 G1 hg3
        have hlt := F3.lt
        have bne := World.new_ne w3 _ c0
        clear hg3 e1 e2 e3
        go_upto_region 3 with (fail)
        go_cut [6] (fun s6 wx => ∃ (gx : Nat) (A' : Option Addr) (c' : Nat), s6 = .pointer (some ⟨gx, 0, none⟩) ∧ Full wx gx 25 #[.int .i64 d, .slice A' (n + 1) c'] ∧ Own wx w3.heap.size 3 1 A' (n + 1) c' (ints (insA x xs)) ∧ w3.heap.size ≤ gx ∧ w3.grownBy wx none)
        case first =>
          go_region_held3 (fun w' => w'.cell? ⟨w.heap.size, 0, none⟩ = some (.int .i64 d) ∧ w'.cell? ⟨w.heap.size, 1, none⟩ = some (.slice A n c)) (go_keep)
            (first
              | (go_at_call 36
                 refine (e5 _ hL3.drew).mono ?_
                 rintro e w4 ⟨A', c', rfl, hO, hg4⟩
                 have k0 := hg4.cell (a := ⟨w.heap.size, 0, none⟩) (v := .int .i64 d) (by simp [*]) (by simp)
                 have k1 := hg4.cell (a := ⟨w.heap.size, 1, none⟩) (v := .slice A n c) (by simp [*]) (by simp)
                 have O4 := hO.base_le (show w3.heap.size ≤ _ by simp)
                 have GA := gr_0 (gr_drew (gr_refl w3 none)) hg4)
              | (go_at_call 36
                 refine (e5 _ (hL3.alloc (.cells #[.int .i64 0, .slice none 0 0] 25)).drew).mono ?_
                 rintro e w4 ⟨A', c', rfl, hO, hg4⟩
                 have k0 := hg4.cell (a := ⟨w.heap.size, 0, none⟩) (v := .int .i64 d) (by simp [*]) (by simp)
                 have k1 := hg4.cell (a := ⟨w.heap.size, 1, none⟩) (v := .slice A n c) (by simp [*]) (by simp)
                 have Z := (Full.new w3 25 #[.int .i64 0, .slice none 0 0]).drew.grown hg4 (by simp)
                 have zc0 := Z.cellAt 0 rfl
                 have zc1 := Z.cellAt 1 rfl
                 have xf0 := Z.free 0
                 have xf1 := Z.free 1
                 have O4 := hO.base_le (show w3.heap.size ≤ _ by simp)
                 have GA := gr_0 (gr_drew (gr_alloc (gr_refl w3 none) _)) hg4))
          · go_wp2_with fail
            go_meet
            case rel => exact ⟨_, A', c', rfl, Full.new _ _ _, O4.alloc _, GA.size, gr_alloc GA _⟩
          · go_wp2_with fail
            go_meet
            case rel => exact ⟨_, A', c', rfl, (Z.set 0 _).set 1 _, (O4.put Z (by decide) _ _).put (Z.set 0 _) (by decide) _ _, Nat.le_refl _, gr_put (gr_put GA (Nat.le_refl _) _) (Nat.le_refl _) _⟩
        case rest =>
          obtain ⟨gx, A1, c1', rfl, FX, OX, hgx, GX⟩ := hcut
          have hRlt := R3.lt
          have MS : MsAt w gx d (insA x xs) (n + 1) 0 A1 c1' wc := ⟨by simpa using FX, OX.lies, OX.ne_full FX (by decide), fun b hb => by have := (OX.block hb).1; omega, OX.cap, OX.max, R3.grown GX (by simp), gr_0 G3 GX⟩
          clear FX OX GX R3 F3 R1 F1 hL1 hL3 hL G3 G1 e5
          go_wp2_with fail
          go_loopg [] (n + 1) (fun gk wr => ∃ (k : Nat) (A' : Option Addr) (c' : Nat), k + gk = n + 1 ∧ k ≤ K ∧ MsAt w gx d (insA x xs) (n + 1) k A' c' wr)
          case atStart => exact ⟨0, _, _, by omega, by omega, MS⟩
          case round =>
            clear MS
            obtain ⟨k, A', c', hkg, hkK, hat⟩ := hrel
            obtain ⟨m, hmk⟩ : ∃ m, n + 1 - k = m := ⟨_, rfl⟩
            have FX := hat.full
            have hcap := hat.cap
            have hmax := hat.max
            rw [hmk] at FX hcap
            unfold maxLen at hmax
            have c0 := FX.cellAt 0 rfl
            have c1 := FX.cellAt 1 rfl
            have f0 := FX.free 0
            have f1 := FX.free 1
            by_cases hlt2 : k < K
            · have hkl : k < (insA x xs).length := by rw [HLn.out]; omega
              have hk3 := HK3.out k hlt2 hkl
              have hll := hat.lies
              rw [List.drop_eq_getElem_cons hkl, hk3] at hll
              obtain ⟨gB, oB, rfl, hgB, hcell⟩ := hll.open_ (by simp [ints])
              have cx : wr.cell? ⟨gB, oB, none⟩ = some (.int .i64 (d + (k : Int))) := by simpa using hcell 0 _ rfl
              have hne := hat.ne gB rfl
              have hLT := (show Lies wr (some ⟨gB, oB, none⟩) (Value.int .i64 (d + (k : Int)) :: ints ((insA x xs).drop (k + 1))) from hll).tail
              have hRR := hat.res
              have hGG := hat.gr
              have hgxr : gx ≠ w.heap.size + 1 := by omega
              clear hcell hll hk3
              have hm0 : 0 < m := by omega
              have hk1 : d + (k : Int) + 1 = d + ((k + 1 : Nat) : Int) := by omega
              have HK1 := hid hk1
              have hm1 : m - 1 = n + 1 - (k + 1) := by omega
              have HM1 := hid hm1
              have HMK := hid hmk
              clear hmk hk1 hm1
              by_cases hc1 : c' = 1
              · subst hc1
                have hm11 : m = 1 := by omega
                subst hm11
                have HNil := hid (show ints ((insA x xs).drop (k + 1)) = [] by rw [List.drop_of_length_le (by rw [HLn.out]; have := HMK.out; omega)]; rfl)
                go_wp2_with fail
                go_quiet (fail)
                go_wp2_with fail
                go_roundg (n + 1 - (k + 1))
                case measure => omega
                case rel =>
                  refine ⟨k + 1, some ⟨gB, oB, none⟩, 0, by omega, by omega, ?_, by rw [HNil.out]; exact Lies.nil, by intro b hb; simp [blockOf] at hb; omega, by intro b hb; exact hat.nr b hb, by have := HM1.out; omega, by simp [maxLen], ((hRR.drewN nq).far (fun e => hgxr (by simpa using e.symm)) _).far (fun e => hgxr (by simpa using e.symm)) _, gr_put (gr_put (gr_drewN hGG nq) (by omega) _) (by omega) _⟩
                  rw [← HK1.out, ← HM1.out]
                  exact ((FX.drewN nq).set 0 _).set 1 _
              · go_wp2_with fail
                go_quiet (fail)
                go_wp2_with fail
                go_roundg (n + 1 - (k + 1))
                case measure => omega
                case rel =>
                  refine ⟨k + 1, some ⟨gB, oB + 1, none⟩, c' - 1, by omega, by omega, ?_, ((hLT.drewN nq).setCell (by intro g hg; simp [blockOf] at hg; simp; omega) _).setCell (by intro g hg; simp [blockOf] at hg; simp; omega) _, by intro b hb; simp [blockOf] at hb; omega, by intro b hb; exact hat.nr b hb, by have := HM1.out; omega, by unfold maxLen; omega, ((hRR.drewN nq).far (fun e => hgxr (by simpa using e.symm)) _).far (fun e => hgxr (by simpa using e.symm)) _, gr_put (gr_put (gr_drewN hGG nq) (by omega) _) (by omega) _⟩
                  rw [← HK1.out, ← HM1.out]
                  exact ((FX.drewN nq).set 0 _).set 1 _
            · obtain rfl : k = K := by omega
              have hk2 : (stripA d (insA x xs)).2 = (insA x xs).drop k := by rw [HK2.out]
              have hk1 : (stripA d (insA x xs)).1 = d + (k : Int) := by rw [HK2.out]
              have hkn : ((insA x xs).drop k).length = m := by rw [List.length_drop, HLn.out]; exact hmk
              have hck : ckB (d + (k : Int)) ((insA x xs).drop k) = decide (m ≤ 8) := by
                rw [← hk1, ← hk2, HM.out.ck, hk2, hkn]
              have hmb : mkB d xs x = decide (m ≤ 8) := by rw [HE.out, hk2, hkn]
              have HMB := hid hmb
              have HK1 := hid hk1
              have HK2' := hid hk2
              have HKN := hid hkn
              obtain ⟨bb, hbb⟩ : ∃ bb, decide (m ≤ 8) = bb := ⟨_, rfl⟩
              rw [hbb] at hck
              have e6 := fun w hL => sckv_is (d + (k : Int)) A' m c' ((insA x xs).drop k) bb w hL hkn hcap (by unfold maxLen; exact hmax) (by omega) (by omega) hck
              have HBB := hid hbb
              have r0 := hat.res.cellAt 0 rfl
              have hLL := hat.lies
              have RR := hat.res
              have GG := hat.gr
              have hrlt := RR.lt
              have hNE := hat.ne
              clear hbb hck hmb hk1 hk2 hkn
              have HR1 := hid (hat.nr)
              by_cases hq : k < n + 1
              · have hkl : k < (insA x xs).length := by rw [HLn.out]; omega
                have hll := hat.lies
                rw [List.drop_eq_getElem_cons hkl] at hll
                have hy := HK4.out hkl
                obtain ⟨y, hy0⟩ : ∃ y, (insA x xs)[k] = y := ⟨_, rfl⟩
                rw [hy0] at hy hll
                obtain ⟨gB, oB, rfl, hgB, hcell⟩ := hll.open_ (by simp [ints])
                have cx : wr.cell? ⟨gB, oB, none⟩ = some (.int .i64 y) := by simpa using hcell 0 _ rfl
                have hy' : (y == d + (k : Int)) = false := by simpa using hy
                have hm0 : 0 < m := by omega
                have HMK := hid hmk
                clear hy hy0 hll hcell hmk hat hNE
                go_wp2_with fail
                go_quiet (fail)
                go_wp2_with fail
                refine (e6 _ (hLL.drewN _)).mono ?_
                rintro e w7 ⟨rfl, hg7⟩
                have R7 := (RR.drewN nq).grown hg7 (by simp)
                have M7 := (FX.drewN nq).grown hg7 (by simp)
                have L7 := (hLL.drewN nq).grown0 hg7
                have G7 := gr_0 (gr_drewN GG nq) hg7
                have r0 := R7.cellAt 0 rfl
                have r1 := R7.cellAt 1 rfl
                have q0 := R7.free 0
                have q1 := R7.free 1
                have m0 := M7.cellAt 0 rfl
                have m1 := M7.cellAt 1 rfl
                clear e6 hg7
                cases bb with
                | false =>
                  go_wp2_with fail
                  refine bodyPost_ret (v := .tuple #[.agg #[.int .i64 0, .slice none 0 0], .bool false]) ?_ rfl ?_
                  · simp [results, Try.results25, go_sem, r0, r1]
                  · rw [mkV_no (HMB.out.trans HBB.out), HMB.out.trans HBB.out]
                    exact ⟨none, 0, 0, rfl, Lies.nil, rfl, Nat.le_refl _, by simp [maxLen], by repeat (first | refine gr_put ?_ (by omega) _ | exact G7), by intro b hb; cases hb⟩
                | true =>
                  go_wp2_with fail
                  refine bodyPost_ret (v := .tuple #[.agg #[.int .i64 (d + (k : Int)), .slice (some ⟨gB, oB, none⟩) m c'], .bool true]) ?_ rfl ?_
                  · simp [results, Try.results25, go_sem, r0, r1]
                  · rw [mkV_yes (HMB.out.trans HBB.out), HMB.out.trans HBB.out, HK1.out, HK2'.out]
                    exact ⟨_, m, c', rfl, (L7.setCell (by first | (intro g hg; have := HR1.out g hg; simp; omega) | (intro g hg; simp [blockOf] at hg; simp; omega)) _).setCell (by first | (intro g hg; have := HR1.out g hg; simp; omega) | (intro g hg; simp [blockOf] at hg; simp; omega)) _, HKN.out, hcap, by unfold maxLen; exact hmax, by repeat (first | refine gr_put ?_ (by omega) _ | exact G7), fun b hb => by have := HR1.out b hb; omega⟩
              · have hm0 : m = 0 := by omega
                subst hm0
                have HMK := hid hmk
                clear hmk hat hNE
                go_wp2_with fail
                go_quiet (fail)
                go_wp2_with fail
                refine (e6 _ (hLL.drewN _)).mono ?_
                rintro e w7 ⟨rfl, hg7⟩
                have R7 := (RR.drewN nq).grown hg7 (by simp)
                have M7 := (FX.drewN nq).grown hg7 (by simp)
                have L7 := (hLL.drewN nq).grown0 hg7
                have G7 := gr_0 (gr_drewN GG nq) hg7
                have r0 := R7.cellAt 0 rfl
                have r1 := R7.cellAt 1 rfl
                have q0 := R7.free 0
                have q1 := R7.free 1
                have m0 := M7.cellAt 0 rfl
                have m1 := M7.cellAt 1 rfl
                clear e6 hg7
                cases bb with
                | false =>
                  go_wp2_with fail
                  refine bodyPost_ret (v := .tuple #[.agg #[.int .i64 0, .slice none 0 0], .bool false]) ?_ rfl ?_
                  · simp [results, Try.results25, go_sem, r0, r1]
                  · rw [mkV_no (HMB.out.trans HBB.out), HMB.out.trans HBB.out]
                    exact ⟨none, 0, 0, rfl, Lies.nil, rfl, Nat.le_refl _, by simp [maxLen], by repeat (first | refine gr_put ?_ (by omega) _ | exact G7), by intro b hb; cases hb⟩
                | true =>
                  go_wp2_with fail
                  refine bodyPost_ret (v := .tuple #[.agg #[.int .i64 (d + (k : Int)), .slice A' 0 c'], .bool true]) ?_ rfl ?_
                  · simp [results, Try.results25, go_sem, r0, r1]
                  · rw [mkV_yes (HMB.out.trans HBB.out), HMB.out.trans HBB.out, HK1.out, HK2'.out]
                    exact ⟨_, 0, c', rfl, (L7.setCell (by first | (intro g hg; have := HR1.out g hg; simp; omega) | (intro g hg; simp [blockOf] at hg; simp; omega)) _).setCell (by first | (intro g hg; have := HR1.out g hg; simp; omega) | (intro g hg; simp [blockOf] at hg; simp; omega)) _, HKN.out, hcap, by unfold maxLen; exact hmax, by repeat (first | refine gr_put ?_ (by omega) _ | exact G7), fun b hb => by have := HR1.out b hb; omega⟩
end Go.Proofs.Ytjhkmgoephmbpaa
