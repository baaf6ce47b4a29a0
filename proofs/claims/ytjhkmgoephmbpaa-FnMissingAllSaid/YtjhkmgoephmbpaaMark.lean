/- CheckMark in impl. -/
import Derived.Test.YtjhkmgoephmbpaaChain
import Derived.Test.YtjhkmgoephmbpaaSame
namespace Go.Proofs.Ytjhkmgoephmbpaa
open Go.RowKit

def mkB (d : Int) (xs : List Int) (x : Int) : Bool := (ckB d xs && inR x 0 99) && (!hasB d xs x && decide ((stripA d (insA x xs)).2.length ≤ 8))
def mkV (d : Int) (xs : List Int) (x : Int) : Int × List Int := if mkB d xs x then stripA d (insA x xs) else (0, [])
theorem mkV_no {d x : Int} {xs : List Int} (h : mkB d xs x = false) : mkV d xs x = (0, []) := by simp [mkV, h]
theorem mkV_yes {d x : Int} {xs : List Int} (h : mkB d xs x = true) : mkV d xs x = stripA d (insA x xs) := by simp [mkV, h]
theorem mkB_ck {d : Int} {xs : List Int} {x : Int} (h : ckB d xs = false) : mkB d xs x = false := by simp [mkB, h]
theorem mkB_in {d : Int} {xs : List Int} {x : Int} (h : inR x 0 99 = false) : mkB d xs x = false := by simp [mkB, h]
theorem mkB_has {d : Int} {xs : List Int} {x : Int} (h : hasB d xs x = true) : mkB d xs x = false := by simp [mkB, h]
theorem mkB_len {d : Int} {xs : List Int} {x : Int} (h1 : ckB d xs = true) (h2 : inR x 0 99 = true) (h3 : hasB d xs x = false) : mkB d xs x = decide ((stripA d (insA x xs)).2.length ≤ 8) := by simp [mkB, h1, h2, h3]
theorem mkB_parts {d : Int} {xs : List Int} {x : Int} (h : mkB d xs x = true) : ckB d xs = true ∧ inR x 0 99 = true ∧ hasB d xs x = false ∧ (stripA d (insA x xs)).2.length ≤ 8 := by
  simp only [mkB, Bool.and_eq_true, decide_eq_true_eq, Bool.not_eq_true'] at h
  exact ⟨h.1.1, h.1.2, h.2.1, h.2.2⟩

/-- What CheckMark leaves. -/
def MkTo (w : World) (d : Int) (xs : List Int) (b : Bool) (e : Ending) (w' : World) : Prop :=
  ∃ (A : Option Addr) (n c : Nat), e = .returned (.tuple #[.agg #[.int .i64 d, .slice A n c], .bool b]) ∧ Lies w' A (ints xs) ∧ xs.length = n ∧ n ≤ c ∧ c ≤ maxLen ∧ w.grownBy w' none ∧ ∀ b, blockOf A = some b → w.heap.size ≤ b

/-- How far Done goes. -/
theorem strip_at (d : Int) (l : List Int) : ∃ K : Nat, K ≤ l.length ∧ stripA d l = (d + K, l.drop K) ∧ (∀ j (_ : j < K) (h : j < l.length), l[j] = d + j) ∧ (∀ h : K < l.length, l[K] ≠ d + K) := by
  induction l generalizing d with
  | nil => exact ⟨0, Nat.le_refl _, by simp [stripA], by simp, by simp⟩
  | cons y r ih =>
    rw [stripA]
    split
    · rename_i e
      subst e
      obtain ⟨K, h1, h2, h3, h4⟩ := ih (y + 1)
      refine ⟨K + 1, by simp; omega, ?_, ?_, ?_⟩
      · rw [h2, List.drop_succ_cons]
        congr 1
        omega
      · intro j hj hl
        cases j with
        | zero => simp
        | succ j =>
          have := h3 j (by omega) (by simpa using hl)
          rw [List.getElem_cons_succ, this]
          omega
      · intro hl
        have := h4 (by simpa using hl)
        rw [List.getElem_cons_succ]
        omega
    · rename_i e
      exact ⟨0, by omega, by simp, by intro j hj; omega, by intro _; simpa using e⟩

set_option maxHeartbeats 2000000 in
theorem mk_any (d : Int) (A : Option Addr) (n c : Nat) (xs : List Int) (x : Int) (w : World) (h : Lies w A (ints xs)) (hn : xs.length = n) (hc : n ≤ c) (hm : c ≤ maxLen) :
    Calls Try.prog 23 #[.agg #[.int .i64 d, .slice A n c], .int .i64 x] w (MkTo w (mkV d xs x).1 (mkV d xs x).2 (mkB d xs x)) := by
  have hL := (h.alloc (.cells #[.int .i64 d, .slice A n c] 25)).alloc (.cells #[.int .i64 0, .slice none 0 0] 25)
  have F := (Full.new w 25 #[.int .i64 d, .slice A n c]).alloc (.cells #[.int .i64 0, .slice none 0 0] 25)
  have R := Full.newAt (w := w.alloc (.cells #[.int .i64 d, .slice A n c] 25)) (t := 25) (cs := #[.int .i64 0, .slice none 0 0]) (H := w.heap.size + 1) (by simp)
  have G0 := gr_alloc (gr_alloc (gr_refl w none) (.cells #[.int .i64 d, .slice A n c] 25)) (.cells #[.int .i64 0, .slice none 0 0] 25)
  have HN := hid hn
  obtain ⟨b1, hb1⟩ : ∃ b, ckB d xs = b := ⟨_, rfl⟩
  obtain ⟨b2, hb2⟩ : ∃ b, inR x 0 99 = b := ⟨_, rfl⟩
  obtain ⟨b3, hb3⟩ : ∃ b, hasB d xs x = b := ⟨_, rfl⟩
  have e1 := fun w hL => ckv_is d A n c xs b1 w hL hn hc hm hb1
  have e2 := fun w => pv_is x b2 w hb2
  have e3 := fun w hL => ch_any d A n c xs x w hL hn hc hm
  have e4 := fun w hL => po_is A n c xs w hL hn hc hm
  have HB1 := hid hb1
  have HB2 := hid hb2
  have HB3 := hid hb3
  clear hn hb1 hb2 hb3
  unfold maxLen at hm
  cases b1 with
  | false =>
    rw [mkV_no (mkB_ck HB1.out), mkB_ck HB1.out]
    go_enter Try.func23, Try.ntmps23
    go_wp2_with fail
    refine (e1 _ hL).mono ?_
    rintro e w1 ⟨rfl, hg1⟩
    have R1 := R.grown hg1 (by simp)
    have r0 := R1.cellAt 0 rfl
    have r1 := R1.cellAt 1 rfl
    have q0 := R1.free 0
    have q1 := R1.free 1
    have G1 := gr_0 G0 hg1
    go_wp2_with fail
    refine bodyPost_ret (v := .tuple #[.agg #[.int .i64 0, .slice none 0 0], .bool false]) ?_ rfl ?_
    · simp [results, Try.results23, go_sem, r0, r1]
    · exact ⟨none, 0, 0, rfl, Lies.nil, rfl, Nat.le_refl _, by simp [maxLen], by repeat (first | refine gr_put ?_ (by omega) _ | exact G1), by intro b hb; cases hb⟩
  | true =>
    cases b2 with
    | false =>
      rw [mkV_no (mkB_in HB2.out), mkB_in HB2.out]
      go_enter Try.func23, Try.ntmps23
      go_wp2_with fail
      refine (e1 _ hL).mono ?_
      rintro e w1 ⟨rfl, hg1⟩
      have R1 := R.grown hg1 (by simp)
      have r0 := R1.cellAt 0 rfl
      have r1 := R1.cellAt 1 rfl
      have q0 := R1.free 0
      have q1 := R1.free 1
      have G1 := gr_0 G0 hg1
      go_wp2_with fail
      refine (e2 _).mono ?_
      rintro e w2 ⟨rfl, rfl⟩
      go_wp2_with fail
      refine bodyPost_ret (v := .tuple #[.agg #[.int .i64 0, .slice none 0 0], .bool false]) ?_ rfl ?_
      · simp [results, Try.results23, go_sem, r0, r1]
      · exact ⟨none, 0, 0, rfl, Lies.nil, rfl, Nat.le_refl _, by simp [maxLen], by repeat (first | refine gr_put ?_ (by omega) _ | exact G1), by intro b hb; cases hb⟩
    | true =>
      have HC := hid (show chB d xs x = b3 by rw [chB_has HB1.out HB2.out]; exact HB3.out)
      have e3' : ∀ w, Lies w A (ints xs) → _ := fun w hL => HC.out ▸ e3 w hL
      clear e3
      cases b3 with
      | true =>
        rw [mkV_no (mkB_has HB3.out), mkB_has HB3.out]
        go_enter Try.func23, Try.ntmps23
        go_wp2_with fail
        refine (e1 _ hL).mono ?_
        rintro e w1 ⟨rfl, hg1⟩
        have R1 := R.grown hg1 (by simp)
        have F1 := F.grown hg1 (by simp)
        have hL1 := hL.grown0 hg1
        have c0 := F1.cellAt 0 rfl
        have c1 := F1.cellAt 1 rfl
        have G1 := gr_0 G0 hg1
        clear hg1
        go_wp2_with fail
        refine (e2 _).mono ?_
        rintro e w2 ⟨rfl, rfl⟩
        go_wp2_with fail
        refine (e3' _ hL1).mono ?_
        rintro e w3 ⟨rfl, hg3⟩
        have R3 := R1.grown hg3 (by simp)
        have r0 := R3.cellAt 0 rfl
        have r1 := R3.cellAt 1 rfl
        have q0 := R3.free 0
        have q1 := R3.free 1
        have G3 := gr_0 G1 hg3
        go_wp2_with fail
        refine bodyPost_ret (v := .tuple #[.agg #[.int .i64 0, .slice none 0 0], .bool false]) ?_ rfl ?_
        · simp [results, Try.results23, go_sem, r0, r1]
        · exact ⟨none, 0, 0, rfl, Lies.nil, rfl, Nat.le_refl _, by simp [maxLen], by repeat (first | refine gr_put ?_ (by omega) _ | exact G3), by intro b hb; cases hb⟩
      | false =>
        have HM := hid (mark_to HB1.out HB2.out HB3.out)
        have HE := hid (mkB_len HB1.out HB2.out HB3.out)
        obtain ⟨K, hK1, hK2, hK3, hK4⟩ := strip_at d (insA x xs)
        rw [insA_len, HN.out] at hK1
        have HK2 := hid hK2
        have HK3 := hid hK3
        have HK4 := hid hK4
        have HLn := hid ((insA_len x xs).trans (by rw [HN.out]))
        have hp := ckB_parts HB1.out
        obtain ⟨⟨d0, d1⟩, hxl, _⟩ := hp
        rw [HN.out] at hxl
        clear hK2 hK3 hK4
        go_enter Try.func23, Try.ntmps23
        go_wp2_with fail
        refine (e1 _ hL).mono ?_
        rintro e w1 ⟨rfl, hg1⟩
        have R1 := R.grown hg1 (by simp)
        have F1 := F.grown hg1 (by simp)
        have hL1 := hL.grown0 hg1
        have c0 := F1.cellAt 0 rfl
        have c1 := F1.cellAt 1 rfl
        have G1 := gr_0 G0 hg1
        clear hg1
        go_wp2_with fail
        refine (e2 _).mono ?_
        rintro e w2 ⟨rfl, rfl⟩
        go_wp2_with fail
        refine (e3' _ hL1).mono ?_
        rintro e w3 ⟨rfl, hg3⟩
        have R3 := R1.grown hg3 (by simp)
        have F3 := F1.grown hg3 (by simp)
        have hL3 := hL1.grown0 hg3
        have c0 := F3.cellAt 0 rfl
        have c1 := F3.cellAt 1 rfl
        have G3 := gr_0 G1 hg3
        clear hg3
        go_wp2_with fail
        refine (e4 _ hL3).mono ?_
        rintro e w4 ⟨gs, rfl, hch, hnd, hgs, hg4⟩
        go_wp2_with fail
        refine (pw_any x xs gs _ hch hnd).mono ?_
        rintro e w5 ⟨gs1, rfl, hch1, hnd1, _, ht⟩
        have hg5 := Touch.gr hg4 ht hgs
        have R5 := R3.grown hg5 (by simp)
        have F5 := F3.grown hg5 (by simp)
        have c0 := F5.cellAt 0 rfl
        have G5 := gr_0 G3 hg5
        have HCh := hid hch1
        have HNd := hid hnd1
        have HGl := hid (hch1.len.trans HLn.out)
        clear hg5 hg4 ht hch hnd hgs hch1 hnd1 F1 F3 R1 R3 hL1 hL3 G1 G3 e1 e2 e3' e4
        go_wp2_with fail
        go_loop [6, 7] (fun p v => ∃ k : Nat, p = ptrOf (gs1.drop k) ∧ v = .int .i64 (d + (k : Int)) ∧ k ≤ K) (fun p _ => (n + 1) - posOf gs1 p)
        case atStart => exact ⟨0, rfl, by simp, by omega⟩
        case round =>
          obtain ⟨k, rfl, rfl, hkK⟩ := hrel
          have HP := hid (posOf_drop HNd.out (show k ≤ gs1.length by rw [HGl.out]; omega))
          by_cases hlt : k < K
          · have hkl : k < (insA x xs).length := by rw [HLn.out]; omega
            have hkg : k < gs1.length := by rw [HGl.out]; omega
            have HP2 := hid (posOf_drop HNd.out (show k + 1 ≤ gs1.length by rw [HGl.out]; omega))
            have hd := HCh.out.drop k
            rw [List.drop_eq_getElem_cons hkl, List.drop_eq_getElem_cons hkg, HK3.out k hlt hkl] at hd
            have HE2 := hid (List.drop_eq_getElem_cons hkg)
            obtain ⟨Fk, _⟩ := hd
            obtain ⟨g, hg⟩ : ∃ g, gs1[k] = g := ⟨_, rfl⟩
            obtain ⟨u, hu⟩ := ptrOf_pointer (gs1.drop (k + 1))
            rw [hg, hu] at Fk
            have HU := hid hu
            have hp : ptrOf (gs1.drop k) = .pointer (some ⟨g, 0, none⟩) := by rw [HE2.out, ← hg]; rfl
            have HQ := hid hp
            rw [hp]
            clear hg hu hp
            have k0 := Fk.cellAt 0 rfl
            have k1 := Fk.cellAt 1 rfl
            go_wp2_with fail
            go_round
            case rel => exact ⟨k + 1, HU.out.symm, congrArg (Value.int .i64) (by omega), by omega⟩
            case measure => rw [← HU.out, ← HQ.out, HP2.out, HP.out]; omega
          · obtain rfl : k = K := by omega
            have hPos : ∃ u, ptrOf (gs1.drop k) = .pointer u ∧ ((u = none) ∨ ∃ g y v, u = some ⟨g, 0, none⟩ ∧ Full w5 g 48 #[.int .i64 y, v] ∧ y ≠ d + (k : Int)) := by
              by_cases hq : k < n + 1
              · have hkl : k < (insA x xs).length := by rw [HLn.out]; omega
                have hkg : k < gs1.length := by rw [HGl.out]; omega
                have hd := HCh.out.drop k
                rw [List.drop_eq_getElem_cons hkl, List.drop_eq_getElem_cons hkg] at hd
                rw [List.drop_eq_getElem_cons hkg]
                exact ⟨_, rfl, .inr ⟨_, _, _, rfl, hd.1, HK4.out hkl⟩⟩
              · rw [List.drop_of_length_le (by rw [HGl.out]; omega)]
                exact ⟨_, rfl, .inl rfl⟩
            obtain ⟨u, hu, hcase⟩ := hPos
            have hE5 := pl_any (gs1.drop k) ((insA x xs).drop k) (n + 1 - k) w5 (HCh.out.drop k) (HNd.out.sublist (List.drop_sublist _ _)) (by rw [List.length_drop, HLn.out]) (by omega)
            rw [hu] at hE5 ⊢
            clear hu
            have hk2 : (stripA d (insA x xs)).2 = (insA x xs).drop k := by rw [HK2.out]
            have hk1 : (stripA d (insA x xs)).1 = d + (k : Int) := by rw [HK2.out]
            have hkn : ((insA x xs).drop k).length = n + 1 - k := by rw [List.length_drop, HLn.out]
            have hck : ckB (d + (k : Int)) ((insA x xs).drop k) = decide (n + 1 - k ≤ 8) := by
              rw [← hk1, ← hk2, HM.out.ck, hk2, hkn]
            have hmb : mkB d xs x = decide (n + 1 - k ≤ 8) := by rw [HE.out, hk2, hkn]
            have HMB := hid hmb
            have HK1 := hid hk1
            have HK2' := hid hk2
            have HKN := hid hkn
            have hd5 : d + (k : Int) ≤ 100 := by rw [← hk1]; exact HM.out.d1
            obtain ⟨bb, hbb⟩ : ∃ bb, decide (n + 1 - k ≤ 8) = bb := ⟨_, rfl⟩
            rw [hbb] at hck
            have e6 := fun w A' c' hL hc' hm' => ckv_is (d + (k : Int)) A' (n + 1 - k) c' ((insA x xs).drop k) bb w hL hkn hc' hm' hck
            have HBB := hid hbb
            have r0 := R5.cellAt 0 rfl
            clear hbb hck hmb hk1 hk2 hkn
            rcases hcase with rfl | ⟨g, y, v, rfl, Fy, hy⟩
            · go_wp2_with fail
              refine hE5.mono ?_
              rintro e w6 ⟨A', c', rfl, hO, hg6⟩
              have M6 := Full.new w6 25 #[.int .i64 (d + (k : Int)), .slice A' (n + 1 - k) c']
              have R6 := (R5.grown hg6 (by simp)).alloc (.cells #[.int .i64 (d + (k : Int)), .slice A' (n + 1 - k) c'] 25)
              have G6 := gr_alloc (gr_0 G5 hg6) (.cells #[.int .i64 (d + (k : Int)), .slice A' (n + 1 - k) c'] 25)
              have hO6 := hO.alloc (.cells #[.int .i64 (d + (k : Int)), .slice A' (n + 1 - k) c'] 25)
              clear hg6 hE5
              go_wp2_with fail
              refine (e6 _ A' c' hO6.lies hO6.cap hO6.max).mono ?_
              rintro e w7 ⟨rfl, hg7⟩
              have R7 := R6.grown hg7 (by simp)
              have M7 := M6.grown hg7 (by simp)
              have O7 := hO6.kept0 hg7
              have G7 := gr_0 G6 hg7
              have r0 := R7.cellAt 0 rfl
              have r1 := R7.cellAt 1 rfl
              have q0 := R7.free 0
              have q1 := R7.free 1
              have m0 := M7.cellAt 0 rfl
              have m1 := M7.cellAt 1 rfl
              clear e6 hg7 M6 R6 G6 hO6 hO
              cases bb with
              | false =>
                go_wp2_with fail
                refine bodyPost_ret (v := .tuple #[.agg #[.int .i64 0, .slice none 0 0], .bool false]) ?_ rfl ?_
                · simp [results, Try.results23, go_sem, r0, r1]
                · rw [mkV_no (HMB.out.trans HBB.out), HMB.out.trans HBB.out]
                  exact ⟨none, 0, 0, rfl, Lies.nil, rfl, Nat.le_refl _, by simp [maxLen], by repeat (first | refine gr_put ?_ (by omega) _ | exact G7), by intro b hb; cases hb⟩
              | true =>
                go_wp2_with fail
                refine bodyPost_ret (v := .tuple #[.agg #[.int .i64 (d + (k : Int)), .slice A' (n + 1 - k) c'], .bool true]) ?_ rfl ?_
                · simp [results, Try.results23, go_sem, r0, r1]
                · rw [mkV_yes (HMB.out.trans HBB.out), HMB.out.trans HBB.out, HK1.out, HK2'.out]
                  exact ⟨A', n + 1 - k, c', rfl, (((O7.put R7 (by decide) _ _).put (R7.set 0 _) (by decide) _ _)).lies, HKN.out, O7.cap, O7.max, by repeat (first | refine gr_put ?_ (by omega) _ | exact G7), fun b hb => Nat.le_trans G5.size (O7.block hb).1⟩
            · have k0 := Fy.cellAt 0 rfl
              have hy' : (y == d + (k : Int)) = false := by simpa using hy
              clear hy
              go_wp2_with fail
              refine hE5.mono ?_
              rintro e w6 ⟨A', c', rfl, hO, hg6⟩
              have M6 := Full.new w6 25 #[.int .i64 (d + (k : Int)), .slice A' (n + 1 - k) c']
              have R6 := (R5.grown hg6 (by simp)).alloc (.cells #[.int .i64 (d + (k : Int)), .slice A' (n + 1 - k) c'] 25)
              have G6 := gr_alloc (gr_0 G5 hg6) (.cells #[.int .i64 (d + (k : Int)), .slice A' (n + 1 - k) c'] 25)
              have hO6 := hO.alloc (.cells #[.int .i64 (d + (k : Int)), .slice A' (n + 1 - k) c'] 25)
              clear hg6 hE5
              go_wp2_with fail
              refine (e6 _ A' c' hO6.lies hO6.cap hO6.max).mono ?_
              rintro e w7 ⟨rfl, hg7⟩
              have R7 := R6.grown hg7 (by simp)
              have M7 := M6.grown hg7 (by simp)
              have O7 := hO6.kept0 hg7
              have G7 := gr_0 G6 hg7
              have r0 := R7.cellAt 0 rfl
              have r1 := R7.cellAt 1 rfl
              have q0 := R7.free 0
              have q1 := R7.free 1
              have m0 := M7.cellAt 0 rfl
              have m1 := M7.cellAt 1 rfl
              clear e6 hg7 M6 R6 G6 hO6 hO
              cases bb with
              | false =>
                go_wp2_with fail
                refine bodyPost_ret (v := .tuple #[.agg #[.int .i64 0, .slice none 0 0], .bool false]) ?_ rfl ?_
                · simp [results, Try.results23, go_sem, r0, r1]
                · rw [mkV_no (HMB.out.trans HBB.out), HMB.out.trans HBB.out]
                  exact ⟨none, 0, 0, rfl, Lies.nil, rfl, Nat.le_refl _, by simp [maxLen], by repeat (first | refine gr_put ?_ (by omega) _ | exact G7), by intro b hb; cases hb⟩
              | true =>
                go_wp2_with fail
                refine bodyPost_ret (v := .tuple #[.agg #[.int .i64 (d + (k : Int)), .slice A' (n + 1 - k) c'], .bool true]) ?_ rfl ?_
                · simp [results, Try.results23, go_sem, r0, r1]
                · rw [mkV_yes (HMB.out.trans HBB.out), HMB.out.trans HBB.out, HK1.out, HK2'.out]
                  exact ⟨A', n + 1 - k, c', rfl, (((O7.put R7 (by decide) _ _).put (R7.set 0 _) (by decide) _ _)).lies, HKN.out, O7.cap, O7.max, by repeat (first | refine gr_put ?_ (by omega) _ | exact G7), fun b hb => Nat.le_trans G5.size (O7.block hb).1⟩
end Go.Proofs.Ytjhkmgoephmbpaa
