/- The walk of FnTake. -/
import Derived.Test.YtcchnkpkdeminaaTakeGive
import Derived.Test.YtcchnkpkdeminaaHasInt
namespace Go.Proofs.Ytcchnkpkdeminaa
open Go.RowKit

theorem asc_ext {lo hi lo' hi' : Int} {a b : List Int} (ha : asc lo hi a = true) (hb : asc lo' hi' b = true) (he : ∀ s, s ∈ a ↔ s ∈ b) : a = b := by
  induction a generalizing lo lo' b with
  | nil =>
    cases b with
    | nil => rfl
    | cons y r => exact absurd ((he y).2 (by simp)) (by simp)
  | cons x a ih =>
    cases b with
    | nil => exact absurd ((he x).1 (by simp)) (by simp)
    | cons y r =>
      obtain ⟨_, _, a3⟩ := asc_head ha
      obtain ⟨_, _, b3⟩ := asc_head hb
      have hxy : x = y := by
        have e1 := (he x).1 (by simp)
        have e2 := (he y).2 (by simp)
        rcases List.mem_cons.1 e1 with e1 | e1
        · exact e1
        · rcases List.mem_cons.1 e2 with e2 | e2
          · exact e2.symm
          · have := (asc_mem b3 x e1).1
            have := (asc_mem a3 y e2).1
            omega
      subst hxy
      congr 1
      refine ih a3 b3 fun s => ?_
      constructor
      · intro hs
        have := (asc_mem a3 s hs).1
        rcases List.mem_cons.1 ((he s).1 (List.mem_cons_of_mem _ hs)) with e | e
        · omega
        · exact e
      · intro hs
        have := (asc_mem b3 s hs).1
        rcases List.mem_cons.1 ((he s).2 (List.mem_cons_of_mem _ hs)) with e | e
        · omega
        · exact e
theorem filt_asc {lo : Int} {l : List Lk} (h : lkA lo l = true) (hlo : True) (p : Int → Bool) : asc lo 7 ((l.filter fun z => p z.s).map Lk.s) = true := by
  induction l generalizing lo with
  | nil => rfl
  | cons y l ih =>
    obtain ⟨a1, a2, a3, a4, a5⟩ := lkA_head h
    rw [List.filter_cons]
    split
    · rw [List.map_cons, asc, ih a5, decide_eq_true a1, decide_eq_true a2]; rfl
    · exact asc_low (ih a5) (by omega)
def cntT (l : List Lk) (xs : List Int) : Nat := (l.filter fun z => decide (z.s ∈ xs)).length
theorem cnt_next {l : List Lk} {xs : List Int} {k : Nat} (h : k < l.length) : cntT (l.take (k + 1)) xs = cntT (l.take k) xs + (if decide (l[k].s ∈ xs) = true then 1 else 0) := by
  rw [List.take_succ_eq_append_getElem h, cntT, List.filter_append, List.length_append, ← cntT, List.filter_cons]
  split <;> rfl
theorem cnt_le (l : List Lk) (xs : List Int) : cntT l xs ≤ l.length := List.length_filter_le _ _
theorem take_count {l : List Lk} {o : Int} {xs : List Int} (h : freeB l o xs = true) : cntT (takeL l o xs) xs = xs.length := by
  obtain ⟨f1, f2, f3⟩ := take_facts h
  obtain ⟨h1, h2, h3, h4⟩ := freeB_parts h
  have e : ((takeL l o xs).filter fun z => decide (z.s ∈ xs)).map Lk.s = xs := by
    refine asc_ext (filt_asc f2 trivial fun s => decide (s ∈ xs)) h3 fun s => ?_
    rw [List.mem_map]
    constructor
    · rintro ⟨z, hz, rfl⟩
      exact of_decide_eq_true (List.mem_filter.1 hz).2
    · intro hs
      have ho : ownerOf (takeL l o xs) s ≠ 0 := by rw [f3, if_pos hs]; omega
      exact ⟨_, List.mem_filter.2 ⟨own_some ho, decide_eq_true hs⟩, rfl⟩
  have := congrArg List.length e
  rwa [List.length_map] at this
theorem take_held {l : List Lk} {o : Int} {xs : List Int} {k : Nat} (h : freeB l o xs = true) (hk : k < (takeL l o xs).length) (hm : (takeL l o xs)[k].s ∈ xs) : (takeL l o xs)[k].o = o := by
  obtain ⟨f1, f2, f3⟩ := take_facts h
  rw [← own_mem f2 (List.getElem_mem hk), f3, if_pos hm]
theorem take_held2 {l y : List Lk} {o : Int} {xs : List Int} (h : freeB l o xs = true) (e : tkV l o xs = y) : ∀ (k : Nat) (hk : k < y.length), y[k].s ∈ xs → y[k].o = o := by
  have e2 := (take_facts h).1.symm.trans e
  subst e2
  exact fun k hk hm => take_held h hk hm

set_option maxHeartbeats 2000000 in
theorem take_walk (A : Option Addr) (n c : Nat) (zs : List Int) (w : World) (h : Code w A n c zs) :
    Calls Try.prog 9 #[.slice A n c] w fun e w' => e = .returned (.bool true) ∧ w.grownBy w' none := by
  have hc := h.cap
  have hm := h.max
  unfold maxLen at hm
  by_cases h1 : n > 1048576
  · go_enter Try.func9, Try.ntmps9
    go_wp2
    go_ret
    exact ⟨rfl, gr_refl _ _⟩
  go_enter Try.func9, Try.ntmps9
  go_wp2_with fail
  refine (dlt_any A n c zs _ h).mono ?_
  rintro e w1 ⟨B, N, C, l, o, D, m, d, xs, rfl, hO, hl, hsm, ho0, ho1, hO2, hxn, hm9, hx9, hg1⟩
  have hC := hO.cap
  have hCm := hO.max
  have hD := hO2.cap
  have hDm := hO2.max
  have hN := hsm.len
  rw [hl] at hN
  obtain ⟨b, hb⟩ : ∃ b, freeB l o xs = b := ⟨_, rfl⟩
  obtain ⟨y, hy⟩ : ∃ y, tkV l o xs = y := ⟨_, rfl⟩
  have L1 := hO.lies
  have D1 := hO2.lies
  have e1 := fun w hL hD1 => tk_any B N C l o D m d xs w hL hl hC hCm hD1 hxn hD hDm
  have e2 := fun w hL hD1 => stk_any B N C l o D m d xs w hL hl hC hCm hD1 hxn hD hDm
  rw [hb, hy] at e1 e2
  have e7 := fun s b w hL hb => hi_is D m d xs s b w hL hxn hD hDm hb
  have HL := hid hl
  have HXn := hid hxn
  have HB := hid hb
  have HY := hid hy
  clear hl hxn hb hy hO hO2 hsm hx9
  unfold maxLen at hCm hDm
  go_wp2_with fail
  refine (e1 _ L1 D1).mono ?_
  rintro e w2 ⟨A1, q, c1, rfl, hO1, hl1, hq1, hg2⟩
  have L2 := L1.grown0 hg2
  have D2 := D1.grown0 hg2
  have G2 := gr_0 hg1 hg2
  clear hg2
  have hcA1 := hO1.cap
  have hmA1 := hO1.max
  go_wp2_with fail
  refine (e2 _ L2 D2).mono ?_
  rintro e w3 ⟨A2, q2, c2, rfl, hO2, hl2, hq2, hg3⟩
  have L3 := L2.grown0 hg3
  have D3 := D2.grown0 hg3
  have G3 := gr_0 G2 hg3
  have O3 := hO1.kept0 hg3
  clear hg3
  have hcA2 := hO2.cap
  have hmA2 := hO2.max
  obtain rfl : q = q2 := hl1.symm.trans hl2
  have LA := O3.lies
  have LB := hO2.lies
  have e3 := fun w hA hB => sl_same A1 A2 q q c1 c2 y w hA hB hl1 hl2 hcA1 hmA1 hcA2 hmA2
  have e5 := fun w hL hv => lkv_is A1 q c1 y true w hL hl1 hcA1 hmA1 hv
  have HLn := hid hl1
  clear hl1 hl2 e1 e2 hO2
  unfold maxLen at hmA1 hmA2
  go_wp2_with fail
  refine (e3 _ LA LB).mono ?_
  rintro e w4 ⟨rfl, hg4⟩
  have L4 := L3.grown0 hg4
  have D4 := D3.grown0 hg4
  have G4 := gr_0 G3 hg4
  have LA4 := LA.grown0 hg4
  have LB4 := LB.grown0 hg4
  clear hg4
  cases b with
  | false =>
    go_wp2_with fail
    refine (e3 _ LA4 LB4).mono ?_
    rintro e w5 ⟨rfl, hg5⟩
    have L5 := L4.grown0 hg5
    have D5 := D4.grown0 hg5
    have G5 := gr_0 G4 hg5
    have LA5 := LA4.grown0 hg5
    have LB5 := LB4.grown0 hg5
    clear hg5
    go_wp2_with fail
    go_ret
    exact ⟨rfl, G5⟩
  | true =>
    have hf := take_facts HB.out
    have hct := take_count HB.out
    have hhd := take_held2 HB.out HY.out
    rw [← hf.1, HY.out] at hct
    rw [HXn.out] at hct
    have hvy := hf.2.1
    rw [← hf.1, HY.out] at hvy
    have HCt := hid hct
    have HHd := hid hhd
    have HVy := hid hvy
    clear hf hct hhd hvy e3
    go_wp2_with fail
    go_loopw [10, 11] (fun v i wr => ∃ k : Nat, i = .int .i64 k ∧ v = .int .i64 (cntT (y.take k) xs : Nat) ∧ k ≤ q ∧ w4.grownBy wr none) (fun _ i _ => q - (intOf i).toNat)
    case atStart => exact ⟨0, rfl, rfl, by omega, gr_refl _ _⟩
    case round =>
      obtain ⟨k, rfl, rfl, hkN, hgr⟩ := hrel
      have Dr := D4.grown0 hgr
      have Ar := LA4.grown0 hgr
      have Gr := gr_0 G4 hgr
      by_cases hlt : k < q
      · have hkl : k < y.length := by rw [HLn.out]; exact hlt
        obtain ⟨g, ofs, rfl, hg, hcell⟩ := Ar.open_ (by rw [flat_len Lk.cells 2 (fun _ => rfl), HLn.out]; omega)
        obtain ⟨ca, cb⟩ := lkAt hcell hkl
        have hnx := cnt_next (xs := xs) hkl
        have hle := cnt_le (y.take k) xs
        rw [List.length_take] at hle
        have HH := hid (HHd.out k hkl)
        obtain ⟨z, hz⟩ : ∃ z, y[k] = z := ⟨_, rfl⟩
        rw [hz] at ca cb HH hnx
        obtain ⟨s, ow⟩ := z
        simp only [] at ca cb HH hnx
        obtain ⟨q0, hq0⟩ : ∃ q0, cntT (y.take k) xs = q0 := ⟨_, rfl⟩
        rw [hq0] at hnx hle ⊢
        have hq8 : q0 ≤ 8 := by omega
        obtain ⟨b, hb⟩ : ∃ b, decide (s ∈ xs) = b := ⟨_, rfl⟩
        rw [hb] at hnx
        have HX := hid hnx
        have e8 := fun w hL => e7 s b w hL hb
        have Hb := hid hb
        have b1 : (0 : Int) ≤ (k : Int) := by omega
        have b2 : (k : Int) < (q : Int) := by omega
        clear hz hcell hnx hle hq0 hb e7 e5
        go_wp2_with fail
        refine (e8 _ Dr).mono ?_
        rintro e w_ ⟨rfl, rfl⟩
        cases b with
        | false =>
          go_wp2_with fail
          go_roundw
          case rel => exact ⟨k + 1, by go_num, by rw [HX.out]; rfl, by omega, hgr⟩
          case measure => simp [intOf]; omega
        | true =>
          have hq : (ow != o) = false := by simp [HH.out (of_decide_eq_true Hb.out)]
          go_wp2_with fail
          go_roundw
          case rel => exact ⟨k + 1, by go_num, by rw [HX.out]; simp, by omega, hgr⟩
          case measure => simp [intOf]; omega
      · obtain rfl : k = q := by omega
        have hct : cntT (y.take k) xs = m := by rw [List.take_of_length_le (by rw [HLn.out]; omega)]; exact HCt.out
        rw [hct]
        clear hct
        go_wp2_with fail
        refine (e5 _ Ar HVy.out).mono ?_
        rintro e w9 ⟨rfl, hg9⟩
        go_wp2_with fail
        go_ret
        first | exact ⟨rfl, gr_0 Gr hg9⟩ | exact ⟨ret_bool (by simp), gr_0 Gr hg9⟩

end Go.Proofs.Ytcchnkpkdeminaa
