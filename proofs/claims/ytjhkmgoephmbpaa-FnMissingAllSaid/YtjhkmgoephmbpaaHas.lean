/- CheckHas in impl and in spec. -/
import Derived.Test.YtjhkmgoephmbpaaPlaces
namespace Go.Proofs.Ytjhkmgoephmbpaa
open Go.RowKit

/-- Where a block stands in a list. -/
def idx (g : Nat) : List Nat → Nat
  | [] => 0
  | a :: l => if a = g then 0 else idx g l + 1
theorem idx_at {gs : List Nat} {k : Nat} (hnd : gs.Nodup) (hk : k < gs.length) : idx gs[k] gs = k := by
  induction gs generalizing k with
  | nil => simp at hk
  | cons a l ih =>
    cases k with
    | zero => simp [idx]
    | succ k =>
      have h1 := List.nodup_cons.1 hnd
      have hk' : k < l.length := by simpa using hk
      have : a ≠ l[k] := fun e => h1.1 (e ▸ List.getElem_mem hk')
      simp [idx, this, ih h1.2 hk']
def posOf (gs : List Nat) (v : Value) : Nat :=
  match v with
  | .pointer (some a) => match blockOf (some a) with
    | some g => idx g gs
    | none => gs.length
  | _ => gs.length
theorem posOf_drop {gs : List Nat} {k : Nat} (hnd : gs.Nodup) (hk : k ≤ gs.length) : posOf gs (ptrOf (gs.drop k)) = k := by
  rcases Nat.lt_or_eq_of_le hk with h | h
  · rw [List.drop_eq_getElem_cons h]
    exact idx_at hnd h
  · rw [List.drop_of_length_le (by omega)]
    exact h.symm

theorem chB_ck {d : Int} {xs : List Int} {x : Int} (h : ckB d xs = false) : chB d xs x = false := by simp only [chB, h, Bool.false_and]
theorem chB_in {d : Int} {xs : List Int} {x : Int} (h : inR x 0 99 = false) : chB d xs x = false := by simp only [chB, h, Bool.and_false, Bool.false_and]
theorem chB_has {d : Int} {xs : List Int} {x : Int} (h : ckB d xs = true) (h2 : inR x 0 99 = true) : chB d xs x = hasB d xs x := by simp only [chB, h, h2, Bool.true_and]

set_option maxHeartbeats 1000000 in
theorem ch_any (d : Int) (A : Option Addr) (n c : Nat) (xs : List Int) (x : Int) (w : World) (h : Lies w A (ints xs)) (hn : xs.length = n) (hc : n ≤ c) (hm : c ≤ maxLen) :
    Calls Try.prog 16 #[.agg #[.int .i64 d, .slice A n c], .int .i64 x] w fun e w' => e = .returned (.bool (chB d xs x)) ∧ w.grownBy w' none := by
  have HN := hid hn
  have hL := h.alloc (.cells #[.int .i64 d, .slice A n c] 25)
  have F := Full.new w 25 #[.int .i64 d, .slice A n c]
  have G0 := gr_alloc (gr_refl w none) (.cells #[.int .i64 d, .slice A n c] 25)
  obtain ⟨b, hb⟩ : ∃ b, ckB d xs = b := ⟨_, rfl⟩
  have e1 := fun w hL => ckv_is d A n c xs b w hL hn hc hm hb
  have e3 := fun w hL => po_is A n c xs w hL hn hc hm
  have HB := hid hb
  clear hn hb
  unfold maxLen at hm
  cases b with
  | false =>
    rw [chB_ck HB.out]
    go_enter Try.func16, Try.ntmps16
    go_wp2_with fail
    refine (e1 _ hL).mono ?_
    rintro e w1 ⟨rfl, hg1⟩
    go_wp2_with fail
    go_ret
    exact ⟨rfl, gr_0 G0 hg1⟩
  | true =>
    obtain ⟨b2, hb2⟩ : ∃ b2, inR x 0 99 = b2 := ⟨_, rfl⟩
    have e2 := fun w => pv_is x b2 w hb2
    have HB2 := hid hb2
    clear hb2
    cases b2 with
    | false =>
      rw [chB_in HB2.out]
      go_enter Try.func16, Try.ntmps16
      go_wp2_with fail
      refine (e1 _ hL).mono ?_
      rintro e w1 ⟨rfl, hg1⟩
      go_wp2_with fail
      refine (e2 _).mono ?_
      rintro e w2 ⟨rfl, rfl⟩
      go_wp2_with fail
      go_ret
      exact ⟨rfl, gr_0 G0 hg1⟩
    | true =>
      rw [chB_has HB.out HB2.out]
      go_enter Try.func16, Try.ntmps16
      go_wp2_with fail
      refine (e1 _ hL).mono ?_
      rintro e w1 ⟨rfl, hg1⟩
      go_wp2_with fail
      refine (e2 _).mono ?_
      rintro e w2 ⟨rfl, rfl⟩
      have F1 := F.grown hg1 (by simp)
      have c0 := F1.cellAt 0 rfl
      have c1 := F1.cellAt 1 rfl
      have hL1 := hL.grown0 hg1
      have G1 := gr_0 G0 hg1
      clear hg1
      go_wp2_with fail
      refine (e3 _ hL1).mono ?_
      rintro e w3 ⟨gs, rfl, hch, hnd, _, hg3⟩
      have F3 := F1.grown hg3 (by simp)
      have c0 := F3.cellAt 0 rfl
      have c1 := F3.cellAt 1 rfl
      have G3 := gr_0 G1 hg3
      have HL := hid (hch.len.trans HN.out)
      clear hg3
      go_wp2_with fail
      go_loop [5] (fun v => ∃ k : Nat, v = ptrOf (gs.drop k) ∧ k ≤ n ∧ noneTo xs x k) (fun v => n - posOf gs v)
      case atStart => exact ⟨0, rfl, by omega, by intro y hy; simp at hy⟩
      case round =>
        obtain ⟨k, rfl, hkn, hno⟩ := hrel
        have HNo := hid hno
        have HP := hid (posOf_drop hnd (show k ≤ gs.length by rw [HL.out]; exact hkn))
        clear hno
        by_cases hlt : k < n
        · have hkl : k < xs.length := by rw [HN.out]; exact hlt
          have hkg : k < gs.length := by rw [HL.out]; exact hlt
          have HD := hid (posOf_drop hnd (show k + 1 ≤ gs.length by rw [HL.out]; exact hlt))
          have hd := hch.drop k
          rw [List.drop_eq_getElem_cons hkl, List.drop_eq_getElem_cons hkg] at hd
          obtain ⟨FN, _⟩ := hd
          have HE := hid (congrArg ptrOf (List.drop_eq_getElem_cons hkg))
          obtain ⟨u, hu⟩ := ptrOf_pointer (gs.drop (k + 1))
          obtain ⟨g, hg⟩ : ∃ g, gs[k] = g := ⟨_, rfl⟩
          obtain ⟨y, hy⟩ : ∃ y, xs[k] = y := ⟨_, rfl⟩
          rw [hu, hg, hy] at FN
          have hp : ptrOf (gs.drop k) = .pointer (some ⟨g, 0, none⟩) := by rw [HE.out, hg]; rfl
          rw [hp] at HP ⊢
          have HU := hid hu
          have HY := hid hy
          clear hu hg hy hp HE
          have k0 := FN.cellAt 0 rfl
          have k1 := FN.cellAt 1 rfl
          rcases (by by_cases h : y = x; exact .inl h; exact .inr h : y = x ∨ y ≠ x) with he | he
          · have he' : (y == x) = true := by simp [he]
            have HI := hid (hasB_in (d := d) hkl (HY.out.trans he))
            clear he
            go_wp2_with fail
            go_ret
            exact ⟨ret_bool HI.out.symm, G3⟩
          · have he' : (y == x) = false := by simp [he]
            have HI := hid (noneTo_next HNo.out hkl (by rw [HY.out]; exact he))
            clear he
            go_wp2_with fail
            go_round
            case rel => exact ⟨k + 1, HU.out.symm, by omega, HI.out⟩
            case measure =>
              have := HP.out
              have := HD.out
              rw [HU.out] at this
              omega
        · obtain rfl : k = n := by omega
          have hp : ptrOf (gs.drop k) = .pointer none := by rw [List.drop_of_length_le (by rw [HL.out]; omega)]; rfl
          rw [hp] at HP ⊢
          have HO := hid (hasB_out (d := d) (noneTo_all HNo.out (by rw [HN.out]; omega)))
          go_wp2_with fail
          go_ret
          exact ⟨ret_bool HO.out.symm, G3⟩
theorem ch_is (d : Int) (A : Option Addr) (n c : Nat) (xs : List Int) (x : Int) (b : Bool) (w : World) (h : Lies w A (ints xs)) (hn : xs.length = n) (hc : n ≤ c) (hm : c ≤ maxLen) (hb : chB d xs x = b) :
    Calls Try.prog 16 #[.agg #[.int .i64 d, .slice A n c], .int .i64 x] w fun e w' => e = .returned (.bool b) ∧ w.grownBy w' none := by
  subst hb
  exact ch_any d A n c xs x w h hn hc hm

set_option maxHeartbeats 1000000 in
theorem lh_any (d : Int) (A : Option Addr) (n c : Nat) (xs : List Int) (x : Int) (w : World) (h : Lies w A (ints xs)) (hn : xs.length = n) (hc : n ≤ c) (hm : c ≤ maxLen) :
    Calls Try.prog 33 #[.agg #[.int .i64 d, .slice A n c], .int .i64 x] w fun e w' => e = .returned (.bool (hasB d xs x)) ∧ w.grownBy w' none := by
  unfold maxLen at hm
  have HN := hid hn
  clear hn
  have hL := h.alloc (.cells #[.int .i64 d, .slice A n c] 25)
  have G0 := gr_alloc (gr_refl w none) (.cells #[.int .i64 d, .slice A n c] 25)
  go_enter Try.func33, Try.ntmps33
  go_wp2_with fail
  go_loop [5] (fun i => ∃ k : Nat, i = .int .i64 k ∧ k ≤ n ∧ noneTo xs x k) (fun i => n - (intOf i).toNat)
  case atStart => exact ⟨0, rfl, by omega, by intro y hy; simp at hy⟩
  case round =>
    obtain ⟨k, rfl, hkn, hno⟩ := hrel
    have HNo := hid hno
    clear hno
    by_cases hlt : k < n
    · have hkl : k < xs.length := by rw [HN.out]; omega
      obtain ⟨g, o, hA, hg, hcell⟩ := hL.open_ (by rw [ints_len]; omega)
      obtain rfl := hA
      have cx := intAt hcell hkl
      clear hcell
      obtain ⟨y, hy⟩ : ∃ y, xs[k] = y := ⟨_, rfl⟩
      rw [hy] at cx
      have HY := hid hy
      clear hy
      rcases (by by_cases h : y = x; exact .inl h; exact .inr h : y = x ∨ y ≠ x) with he | he
      · have he' : (y == x) = true := by simp [he]
        have HI := hid (hasB_in (d := d) hkl (HY.out.trans he))
        clear he
        go_wp2_with fail
        go_ret
        exact ⟨ret_bool HI.out.symm, G0⟩
      · have he' : (y == x) = false := by simp [he]
        have HE := hid (noneTo_next HNo.out hkl (by rw [HY.out]; exact he))
        clear he
        go_wp2_with fail
        go_round
        case rel => exact ⟨k + 1, by go_num, by omega, HE.out⟩
        case measure => simp [intOf]; omega
    · have HO := hid (hasB_out (d := d) (noneTo_all HNo.out (by rw [HN.out]; omega)))
      go_wp2_with fail
      go_ret
      exact ⟨ret_bool HO.out.symm, G0⟩
theorem lh_is (d : Int) (A : Option Addr) (n c : Nat) (xs : List Int) (x : Int) (b : Bool) (w : World) (h : Lies w A (ints xs)) (hn : xs.length = n) (hc : n ≤ c) (hm : c ≤ maxLen) (hb : hasB d xs x = b) :
    Calls Try.prog 33 #[.agg #[.int .i64 d, .slice A n c], .int .i64 x] w fun e w' => e = .returned (.bool b) ∧ w.grownBy w' none := by
  subst hb
  exact lh_any d A n c xs x w h hn hc hm

set_option maxHeartbeats 1000000 in
theorem sch_any (d : Int) (A : Option Addr) (n c : Nat) (xs : List Int) (x : Int) (w : World) (h : Lies w A (ints xs)) (hn : xs.length = n) (hc : n ≤ c) (hm : c ≤ maxLen) (hd0 : -1000000 ≤ d) (hd1 : d ≤ 1000000) :
    Calls Try.prog 17 #[.agg #[.int .i64 d, .slice A n c], .int .i64 x] w fun e w' => e = .returned (.bool (chB d xs x)) ∧ w.grownBy w' none := by
  have hL := h.alloc (.cells #[.int .i64 d, .slice A n c] 25)
  have F := Full.new w 25 #[.int .i64 d, .slice A n c]
  have G0 := gr_alloc (gr_refl w none) (.cells #[.int .i64 d, .slice A n c] 25)
  obtain ⟨b, hb⟩ : ∃ b, ckB d xs = b := ⟨_, rfl⟩
  obtain ⟨b2, hb2⟩ : ∃ b2, inR x 0 99 = b2 := ⟨_, rfl⟩
  obtain ⟨b3, hb3⟩ : ∃ b3, hasB d xs x = b3 := ⟨_, rfl⟩
  have e1 := fun w hL => sckv_is d A n c xs b w hL hn hc hm hd0 hd1 hb
  have e2 := fun w => in_is x 0 99 b2 w hb2
  have e3 := fun w hL => lh_is d A n c xs x b3 w hL hn hc hm hb3
  have HR := hid (show chB d xs x = (b && b2 && b3) by simp only [chB, hb, hb2, hb3])
  rw [HR.out]
  clear hb hb2 hb3 HR hn
  cases b with
  | false =>
    go_enter Try.func17, Try.ntmps17
    go_wp2_with fail
    refine (e1 _ hL).mono ?_
    rintro e w1 ⟨rfl, hg1⟩
    go_wp2_with fail
    go_ret
    exact ⟨rfl, gr_0 G0 hg1⟩
  | true =>
    cases b2 with
    | false =>
      go_enter Try.func17, Try.ntmps17
      go_wp2_with fail
      refine (e1 _ hL).mono ?_
      rintro e w1 ⟨rfl, hg1⟩
      go_wp2_with fail
      refine (e2 _).mono ?_
      rintro e w2 ⟨rfl, rfl⟩
      go_wp2_with fail
      go_ret
      exact ⟨rfl, gr_0 G0 hg1⟩
    | true =>
      go_enter Try.func17, Try.ntmps17
      go_wp2_with fail
      refine (e1 _ hL).mono ?_
      rintro e w1 ⟨rfl, hg1⟩
      go_wp2_with fail
      refine (e2 _).mono ?_
      rintro e w2 ⟨rfl, rfl⟩
      have F1 := F.grown hg1 (by simp)
      have c0 := F1.cellAt 0 rfl
      have c1 := F1.cellAt 1 rfl
      have hL1 := hL.grown0 hg1
      have G1 := gr_0 G0 hg1
      clear hg1
      go_wp2_with fail
      refine (e3 _ hL1).mono ?_
      rintro e w3 ⟨rfl, hg3⟩
      go_wp2_with fail
      go_ret
      exact ⟨ret_bool (by simp), gr_0 G1 hg3⟩
theorem sch_is (d : Int) (A : Option Addr) (n c : Nat) (xs : List Int) (x : Int) (b : Bool) (w : World) (h : Lies w A (ints xs)) (hn : xs.length = n) (hc : n ≤ c) (hm : c ≤ maxLen) (hd0 : -1000000 ≤ d) (hd1 : d ≤ 1000000) (hb : chB d xs x = b) :
    Calls Try.prog 17 #[.agg #[.int .i64 d, .slice A n c], .int .i64 x] w fun e w' => e = .returned (.bool b) ∧ w.grownBy w' none := by
  subst hb
  exact sch_any d A n c xs x w h hn hc hm hd0 hd1
end Go.Proofs.Ytjhkmgoephmbpaa
