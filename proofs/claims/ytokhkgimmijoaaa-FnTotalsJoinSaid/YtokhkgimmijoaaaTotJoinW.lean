/- The walks of FnTotalsJoinBoth and FnTotalsJoin. -/
import Derived.Test.YtokhkgimmijoaaaTotJoin
import Derived.Test.YtokhkgimmijoaaaTotFind
namespace Go.Proofs.Ytokhkgimmijoaaa
open Go.RowKit

theorem targ_same {w : World} {A B : Option Addr} {n c m d : Nat} {l : List Tot} (h : TArg w A n c l) (h' : TArg w B m d l) :
    Calls Try.prog 16 #[.slice A n c, .slice B m d] w fun e w' => e = .returned (.bool true) ∧ w.grownBy w' none :=
  st_same A B n m c d l w h.li h'.li h.len h'.len h.cap h.max h'.cap h'.max
theorem targ_empty (w : World) : TArg (w.alloc (.cells #[] 30)) (some ⟨w.heap.size, 0, none⟩) 0 0 [] :=
  ⟨.inl rfl, rfl, Nat.le_refl _, by simp [maxLen], fun g hg => by injection hg with hg; subst hg; simp, by simp⟩
theorem tjB_parts {la lb : List Tot} (h : tjB la lb = true) : totsB la = true ∧ totsB lb = true ∧ totsB (mergeT la lb) = true := by
  simp only [tjB, Bool.and_eq_true] at h
  exact h
theorem tjB_comm {la lb : List Tot} (h : tjB la lb = true) : tjB lb la = true ∧ mergeT lb la = mergeT la lb := by
  obtain ⟨h1, h2, h3⟩ := tjB_parts h
  have e := merge_comm (totsB_iff.1 h2).2.2 (totsB_iff.1 h1).2.2 (totsB_pos h2) (totsB_pos h1)
  exact ⟨by rw [tjB, h1, h2, e, h3]; rfl, e⟩
theorem tjB_nil {la lb : List Tot} (h : tjB la lb = true) : tjB la [] = true := by
  obtain ⟨h1, _, _⟩ := tjB_parts h
  rw [tjB, h1, mergeT_nil, h1, totsB_iff.2 (show TotsOk [] from ⟨by simp, by simp, by simp [ascT]⟩)]; rfl
theorem tj_size {w : World} {A B : Option Addr} {n c m d : Nat} {la lb : List Tot} (hA : TArg w A n c la) (hB : TArg w B m d lb) : ∀ x ∈ tjV la lb, x.c.size ≤ maxLen := by
  unfold tjV
  split
  · exact merge_size hA.sz hB.sz
  · simp

set_option maxHeartbeats 2000000 in
theorem joinBoth_walk (A : Option Addr) (n c : Nat) (zs : List Int) (w : World) (h : Code w A n c zs) :
    Calls Try.prog 5 #[.slice A n c] w fun e w' => e = .returned (.bool true) ∧ w.grownBy w' none := by
  have hc := h.cap
  have hm := h.max
  unfold maxLen at hm
  by_cases h1 : n > 1048576
  · go_enter Try.func5, Try.ntmps5
    go_wp2
    go_ret
    exact ⟨rfl, gr_refl _ _⟩
  go_enter Try.func5, Try.ntmps5
  go_wp2_with fail
  refine (dtj_any A n c zs _ h).mono ?_
  rintro e w1 ⟨P, nP, cP, la, Q, nQ, cQ, lb, rfl, hP, hQ, hn5, hm5, hg1⟩
  have HSz := hid (tj_size hP hQ)
  obtain ⟨b, hb⟩ : ∃ b, tjB la lb = b := ⟨_, rfl⟩
  have e1 := fun w h1 h2 => tj_any P nP cP la Q nQ cQ lb w h1 h2
  have e2 := fun w h1 h2 => stj_any P nP cP la Q nQ cQ lb w h1 h2
  rw [hb] at e1 e2
  have HB := hid hb
  clear hb
  go_wp2_with fail
  refine (e1 _ hP hQ).mono ?_
  rintro e w2 ⟨L, nL, cL, rfl, hO, hl, hg2⟩
  have hP2 := hP.grown0 hg2
  have hQ2 := hQ.grown0 hg2
  have hL2 := TArg.of_own hO hl HSz.out
  have G2 := gr_0 hg1 hg2
  have HL := hid hl
  clear hP hQ hO hl hg1 hg2 e1
  go_wp2_with fail
  refine (e2 _ hP2 hQ2).mono ?_
  rintro e w3 ⟨M, nM, cM, rfl, hO, hl, hg3⟩
  have hP3 := hP2.grown0 hg3
  have hQ3 := hQ2.grown0 hg3
  have hL3 := hL2.grown0 hg3
  have hM3 := TArg.of_own hO hl HSz.out
  have G3 := gr_0 G2 hg3
  clear hP2 hQ2 hO hl G2 hg3 e2 hL2
  go_wp2_with fail
  refine (targ_same hL3 hM3).mono ?_
  rintro e w4 ⟨rfl, hg4⟩
  have hP4 := hP3.grown0 hg4
  have hQ4 := hQ3.grown0 hg4
  have hL4 := hL3.grown0 hg4
  have hM4 := hM3.grown0 hg4
  have G4 := gr_0 G3 hg4
  clear hP3 hQ3 hL3 hM3 G3 hg4
  cases b with
  | false =>
    go_wp2_with fail
    refine (targ_same hL4 hM4).mono ?_
    rintro e w5 ⟨rfl, hg5⟩
    go_wp2_with fail
    go_ret
    exact ⟨rfl, gr_0 G4 hg5⟩
  | true =>
    obtain ⟨hc1, hc2⟩ := tjB_comm HB.out
    have hc3 := tjB_nil HB.out
    have HV := hid (show tjV lb la = tjV la lb by rw [tjV_yes hc1, tjV_yes HB.out, hc2])
    have HW := hid (show tjV la [] = la by rw [tjV_yes hc3, mergeT_nil])
    have e3 := fun w h1 h2 => tj_any Q nQ cQ lb P nP cP la w h1 h2
    have e4 := fun w B h1 h2 => tj_any P nP cP la B 0 0 [] w h1 h2
    rw [hc1, HV.out] at e3
    rw [hc3, HW.out] at e4
    clear hc1 hc2 hc3
    go_wp2_with fail
    refine (e3 _ hQ4 hP4).mono ?_
    rintro e w5 ⟨X, nX, cX, rfl, hO, hl, hg5⟩
    have hP5 := (hP4.grown0 hg5).grown0 (World.grownBy_alloc w5 (.cells #[] 30) none)
    have hL5 := (hL4.grown0 hg5).grown0 (World.grownBy_alloc w5 (.cells #[] 30) none)
    have hX5 := (TArg.of_own hO hl HSz.out).grown0 (World.grownBy_alloc w5 (.cells #[] 30) none)
    have G5 := gr_alloc (gr_0 G4 hg5) (.cells #[] 30)
    have hE5 := targ_empty w5
    clear hO hl hg5 G4 hP4 hL4 hQ4 hM4 e3
    go_wp2_with fail
    refine (e4 _ _ hP5 hE5).mono ?_
    rintro e w6 ⟨Y, nY, cY, rfl, hO, hl, hg6⟩
    have hP6 := hP5.grown0 hg6
    have hL6 := hL5.grown0 hg6
    have hX6 := hX5.grown0 hg6
    have hY6 := TArg.of_own hO hl hP5.sz
    have G6 := gr_0 G5 hg6
    clear hO hl hg6 G5 hP5 hL5 hX5 hE5 e4
    go_wp2_with fail
    refine (targ_same hX6 hL6).mono ?_
    rintro e w7 ⟨rfl, hg7⟩
    have hP7 := hP6.grown0 hg7
    have hY7 := hY6.grown0 hg7
    have G7 := gr_0 G6 hg7
    clear hP6 hL6 hX6 hY6 G6 hg7
    go_wp2_with fail
    refine (targ_same hY7 hP7).mono ?_
    rintro e w8 ⟨rfl, hg8⟩
    go_wp2_with fail
    go_ret
    exact ⟨rfl, gr_0 G7 hg8⟩

theorem tfV_many {l : List Tot} (h : totsB l = true) (c : ByteArray) : (tfV l c).m = manyOf l c ∧ (tfV l c).s = sumOf l c ∧ 0 ≤ (tfV l c).m ∧ (tfV l c).m ≤ 100000 ∧ 0 ≤ (tfV l c).s ∧ (tfV l c).s ≤ 100000 := by
  have hb := totsB_bnd h
  unfold tfV tfO
  rw [if_pos h]
  clear h
  induction l with
  | nil => exact ⟨rfl, rfl, Int.le_refl 0, (by show (0 : Int) ≤ 100000; omega), Int.le_refl 0, (by show (0 : Int) ≤ 100000; omega)⟩
  | cons x r ih =>
    have := hb x (by simp)
    rw [manyOf, sumOf]
    by_cases q : x.c = c
    · rw [List.find?_cons_of_pos (by simpa using q), if_pos q, if_pos q]
      exact ⟨rfl, rfl, this⟩
    · rw [List.find?_cons_of_neg (by simpa using q), if_neg q, if_neg q]
      exact ih fun y hy => hb y (by simp [hy])
theorem tfV_size {l : List Tot} {q : Nat} (h : ∀ x ∈ l, x.c.size ≤ q) (s : ByteArray) : (tfV l s).c.size ≤ q := by
  unfold tfV tfO
  split
  · cases hx : l.find? (fun x => decide (x.c = s)) with
    | none => exact Nat.zero_le _
    | some x => exact h x (List.mem_of_find?_eq_some hx)
  · exact Nat.zero_le _
/-- A joined total is the sum of both. -/
theorem tj_sum {la lb : List Tot} (h : tjB la lb = true) {k : Nat} (hk : k < (mergeT la lb).length) :
    (mergeT la lb)[k].m = (tfV la (mergeT la lb)[k].c).m + (tfV lb (mergeT la lb)[k].c).m ∧ (mergeT la lb)[k].s = (tfV la (mergeT la lb)[k].c).s + (tfV lb (mergeT la lb)[k].c).s := by
  obtain ⟨h1, h2, h3⟩ := tjB_parts h
  have m := merge_props (totsB_iff.1 h1).2.2 (totsB_iff.1 h2).2.2 (totsB_pos h1) (totsB_pos h2)
  have e := many_mem m.1 (List.getElem_mem hk)
  have f := m.2.2.2 (mergeT la lb)[k].c
  have a := tfV_many h1 (mergeT la lb)[k].c
  have b := tfV_many h2 (mergeT la lb)[k].c
  exact ⟨by rw [a.1, b.1, ← f.1, e.1], by rw [a.2.1, b.2.1, ← f.2, e.2]⟩

set_option maxHeartbeats 4000000 in
theorem join_walk (A : Option Addr) (n c : Nat) (zs : List Int) (w : World) (h : Code w A n c zs) :
    Calls Try.prog 6 #[.slice A n c] w fun e w' => e = .returned (.bool true) ∧ w.grownBy w' none := by
  have hc := h.cap
  have hm := h.max
  unfold maxLen at hm
  by_cases h1 : n > 1048576
  · go_enter Try.func6, Try.ntmps6
    go_wp2
    go_ret
    exact ⟨rfl, gr_refl _ _⟩
  go_enter Try.func6, Try.ntmps6
  go_wp2_with fail
  refine (dtj_any A n c zs _ h).mono ?_
  rintro e w1 ⟨P, nP, cP, la, Q, nQ, cQ, lb, rfl, hP, hQ, hn5, hm5, hg1⟩
  have HSz := hid (tj_size hP hQ)
  obtain ⟨b, hb⟩ : ∃ b, tjB la lb = b := ⟨_, rfl⟩
  have e1 := fun w h1 h2 => tj_any P nP cP la Q nQ cQ lb w h1 h2
  have e2 := fun w h1 h2 => stj_any P nP cP la Q nQ cQ lb w h1 h2
  rw [hb] at e1 e2
  have HB := hid hb
  clear hb
  go_wp2_with fail
  refine (e1 _ hP hQ).mono ?_
  rintro e w2 ⟨L, nL, cL, rfl, hO, hl, hg2⟩
  have hP2 := hP.grown0 hg2
  have hQ2 := hQ.grown0 hg2
  have hL2 := TArg.of_own hO hl HSz.out
  have G2 := gr_0 hg1 hg2
  have HL := hid hl
  clear hP hQ hO hl hg1 hg2 e1
  go_wp2_with fail
  refine (e2 _ hP2 hQ2).mono ?_
  rintro e w3 ⟨M, nM, cM, rfl, hO, hl, hg3⟩
  have hP3 := hP2.grown0 hg3
  have hQ3 := hQ2.grown0 hg3
  have hL3 := hL2.grown0 hg3
  have hM3 := TArg.of_own hO hl HSz.out
  have G3 := gr_0 G2 hg3
  clear hP2 hQ2 hO hl G2 hg3 e2 hL2
  go_wp2_with fail
  refine (targ_same hL3 hM3).mono ?_
  rintro e w4 ⟨rfl, hg4⟩
  have hP4 := hP3.grown0 hg4
  have hQ4 := hQ3.grown0 hg4
  have hL4 := hL3.grown0 hg4
  have hM4 := hM3.grown0 hg4
  have G4 := gr_0 G3 hg4
  clear hP3 hQ3 hL3 hM3 G3 hg4
  cases b with
  | false =>
    go_wp2_with fail
    refine (targ_same hL4 hM4).mono ?_
    rintro e w5 ⟨rfl, hg5⟩
    go_wp2_with fail
    go_ret
    exact ⟨rfl, gr_0 G4 hg5⟩
  | true =>
    have HV := hid (tjV_yes HB.out)
    rw [HV.out] at hL4
    have HL2 := hid (show (mergeT la lb).length = nL by rw [← HV.out]; exact HL.out)
    obtain ⟨hb1, hb2, hb3⟩ := tjB_parts HB.out
    have HB1 := hid hb1
    have HB2 := hid hb2
    have HB3 := hid hb3
    have HP := hid hP4
    have HQ := hid hQ4
    have HL4 := hid hL4
    have hnL : nL ≤ nP + nQ := by have := merge_len hb1 hb2; have := hP4.len; have := hQ4.len; have := HL2.out; omega
    clear hM4 hb1 hb2 hb3 hP4 hQ4 hL4
    go_wp2_with fail
    go_loopw [9] (fun i wr => ∃ k : Nat, i = .int .i64 k ∧ k ≤ nL ∧ TArg wr P nP cP la ∧ TArg wr Q nQ cQ lb ∧ TArg wr L nL cL (mergeT la lb) ∧ w.grownBy wr none) (fun i _ => nL - (intOf i).toNat)
    case atStart => exact ⟨0, rfl, by omega, HP.out, HQ.out, HL4.out, G4⟩
    case round =>
      clear HP HQ HL4 G4
      obtain ⟨k, rfl, hkn, hP, hQ, hL, hG⟩ := hrel
      by_cases hlt : k < nL
      · have hkl : k < (mergeT la lb).length := by rw [HL2.out]; exact hlt
        obtain ⟨g, o, rfl, hg, hcell⟩ := hL.li.open_ (by rw [tot_len]; omega)
        obtain ⟨ca, cb, cc⟩ := totAt hcell hkl
        have hsum := tj_sum HB.out hkl
        have hzz := hL.sz _ (List.getElem_mem hkl)
        obtain ⟨z, hz⟩ : ∃ z, (mergeT la lb)[k] = z := ⟨_, rfl⟩
        rw [hz] at ca cb cc hsum hzz
        clear hz hcell
        obtain ⟨zc, zm, zs⟩ := z
        simp only [] at ca cb cc hsum hzz
        have e5 := fun w (hT : TArg w P nP cP la) => tf_any P nP cP la zc w hT.li hT.len hT.cap hT.max hT.sz hzz
        have e6 := fun w (hT : TArg w Q nQ cQ lb) => tf_any Q nQ cQ lb zc w hT.li hT.len hT.cap hT.max hT.sz hzz
        have hx := tfV_many HB1.out zc
        have hy := tfV_many HB2.out zc
        obtain ⟨x, hx'⟩ : ∃ x, tfV la zc = x := ⟨_, rfl⟩
        obtain ⟨y, hy'⟩ : ∃ y, tfV lb zc = y := ⟨_, rfl⟩
        rw [hx'] at e5 hx hsum
        rw [hy'] at e6 hy hsum
        obtain ⟨_, _, hx⟩ := hx
        obtain ⟨_, _, hy⟩ := hy
        obtain ⟨xc, xm, xs⟩ := x
        obtain ⟨yc, ym, ys⟩ := y
        simp only [] at hx hy hsum
        obtain ⟨hs1, hs2⟩ := hsum
        rw [hs1] at cb
        rw [hs2] at cc
        clear hs1 hs2 hx' hy'
        obtain ⟨hx1, hx2, hx3, hx4⟩ := hx
        obtain ⟨hy1, hy2, hy3, hy4⟩ := hy
        rename_i hd1 hd2 hd3 hd4
        clear hd1 hd2 hd3 hd4
        have b1 : (0 : Int) ≤ (k : Int) := by omega
        have b2 : (k : Int) < (nL : Int) := by omega
        obtain ⟨q1, hq1⟩ : ∃ b, tfB la zc = b := ⟨_, rfl⟩
        obtain ⟨q2, hq2⟩ : ∃ b, tfB lb zc = b := ⟨_, rfl⟩
        rw [hq1] at e5
        rw [hq2] at e6
        clear hq1 hq2 hzz
        go_wp2_with fail
        refine (e5 _ hP).mono ?_
        rintro e w5 ⟨rfl, hg5⟩
        have F5 := (Full.new w5 30 #[.string xc, .int .i64 xm, .int .i64 xs])
        have g5 := gr_alloc hg5 (.cells #[.string xc, .int .i64 xm, .int .i64 xs] 30)
        have hP5 := hP.grown0 g5
        have hQ5 := hQ.grown0 g5
        have hL5 := hL.grown0 g5
        have G5 := gr_0 hG g5
        have ca5 := g5.cell ca (by simp)
        have cb5 := g5.cell cb (by simp)
        have cc5 := g5.cell cc (by simp)
        clear hP hQ hL hG g5 hg5 ca cb cc e5
        go_wp2_with fail
        refine (e6 _ hQ5).mono ?_
        rintro e w6 ⟨rfl, hg6⟩
        have g6 := gr_alloc hg6 (.cells #[.string yc, .int .i64 ym, .int .i64 ys] 30)
        have F6 := F5.grown g6 (by simp)
        have E6 := (Full.new w6 30 #[.string yc, .int .i64 ym, .int .i64 ys])
        have hP6 := hP5.grown0 g6
        have hQ6 := hQ5.grown0 g6
        have hL6 := hL5.grown0 g6
        have G6 := gr_0 G5 g6
        have ca6 := g6.cell ca5 (by simp)
        have cb6 := g6.cell cb5 (by simp)
        have cc6 := g6.cell cc5 (by simp)
        clear hP5 hQ5 hL5 G5 g6 hg6 ca5 cb5 cc5 e6 F5
        have f1 := F6.cellAt 1 rfl
        have f2 := F6.cellAt 2 rfl
        have v1 := E6.cellAt 1 rfl
        have v2 := E6.cellAt 2 rfl
        have i1 : IntKind.i64.wrap (xm + ym) = xm + ym := IntWalk.i64_in _ (by omega)
        have i2 : IntKind.i64.wrap (xs + ys) = xs + ys := IntWalk.i64_in _ (by omega)
        clear F6 E6
        have HP6 := hid hP6
        have HQ6 := hid hQ6
        have HL6 := hid hL6
        clear hP6 hQ6 hL6
        go_wp2_with fail
        go_quiet (fail)
        clear i1 i2
        have gq := fun q => World.grownBy.refl (World.drewN ((w6.alloc (.cells #[.string yc, .int .i64 ym, .int .i64 ys] 30))) q) none
        go_wp2_with fail
        go_roundw
        case rel => exact ⟨k + 1, by go_num, by omega, HP6.out.grown0 (gr_drewN (gr_refl _ _) _), HQ6.out.grown0 (gr_drewN (gr_refl _ _) _), HL6.out.grown0 (gr_drewN (gr_refl _ _) _), gr_drewN G6 _⟩
        case measure => simp [intOf]; omega
      · have e7 := targ_valid hL true HB3.out
        have hd : decide ((nL : Int) ≤ (nP : Int) + (nQ : Int)) = true := by simp; omega
        clear hP hQ hL
        go_wp2_with fail
        refine e7.mono ?_
        rintro e w7 ⟨rfl, hg7⟩
        go_wp2_with fail
        go_ret
        exact ⟨rfl, gr_0 hG hg7⟩
end Go.Proofs.Ytokhkgimmijoaaa
