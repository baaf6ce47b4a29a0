/- The walk of FnTakeGive. -/
import Derived.Test.YtcchnkpkdeminaaLkWith
import Derived.Test.YtcchnkpkdeminaaLkDraw
namespace Go.Proofs.Ytcchnkpkdeminaa
open Go.RowKit

theorem take_facts {l : List Lk} {o : Int} {xs : List Int} (h : freeB l o xs = true) : tkV l o xs = takeL l o xs ∧ lkA (-1) (takeL l o xs) = true ∧ ∀ s, ownerOf (takeL l o xs) s = if s ∈ xs then o else ownerOf l s := by
  obtain ⟨h1, h2, h3, h4⟩ := freeB_parts h
  exact ⟨by rw [tkV, h]; rfl, take_valid h1 h2 xs (fun s hs => by have := asc_mem h3 s hs; omega)⟩
theorem take_give {l : List Lk} {o : Int} {xs : List Int} (h : freeB l o xs = true) (hno : ∀ z ∈ l, z.o ≠ o) : gvV (tkV l o xs) o = l := by
  obtain ⟨f1, f2, f3⟩ := take_facts h
  obtain ⟨h1, h2, h3, h4⟩ := freeB_parts h
  rw [freeS, List.all_eq_true] at h4
  have hlo : ∀ s, ownerOf l s ≠ o := fun s e => by
    have := hno _ (own_some (l := l) (s := s) (by omega))
    exact this e
  rw [f1, gvV, f2, if_pos rfl]
  refine lk_ext (give_valid f2 o) h1 fun s => ?_
  rw [own_give f2, f3]
  by_cases q : s ∈ xs
  · rw [if_pos q, if_pos rfl]
    have := h4 s q
    simp only [Bool.or_eq_true, decide_eq_true_eq] at this
    exact (this.resolve_right (hlo s)).symm
  · rw [if_neg q, if_neg (hlo s)]
/-- No lock of o so far. -/
theorem no_own {l : List Lk} {o : Int} {k : Nat} (hk : k < l.length) (h : ∀ z ∈ l.take k, z.o ≠ o) (hx : l[k].o ≠ o) : ∀ z ∈ l.take (k + 1), z.o ≠ o := by
  rw [List.take_succ_eq_append_getElem hk]
  intro z hz
  rcases List.mem_append.1 hz with hz | hz
  · exact h z hz
  · rw [List.mem_singleton.1 hz]; exact hx

set_option maxHeartbeats 2000000 in
theorem takegive_walk (A : Option Addr) (n c : Nat) (zs : List Int) (w : World) (h : Code w A n c zs) :
    Calls Try.prog 11 #[.slice A n c] w fun e w' => e = .returned (.bool true) ∧ w.grownBy w' none := by
  have hc := h.cap
  have hm := h.max
  unfold maxLen at hm
  by_cases h1 : n > 1048576
  · go_enter Try.func11, Try.ntmps11
    go_wp2
    go_ret
    exact ⟨rfl, gr_refl _ _⟩
  go_enter Try.func11, Try.ntmps11
  go_wp2_with fail
  refine (dlt_any A n c zs _ h).mono ?_
  rintro e w1 ⟨B, N, C, l, o, D, m, d, xs, rfl, hO, hl, hsm, ho0, ho1, hO2, hxn, hm9, hx9, hg1⟩
  have hC := hO.cap
  have hCm := hO.max
  have hD := hO2.cap
  have hDm := hO2.max
  have hN := hsm.len
  rw [hl] at hN
  obtain ⟨b, hb⟩ : ∃ b, freeB l o xs = b := ⟨_, rfl⟩
  obtain ⟨y, hy⟩ : ∃ y, tkV l o xs = y := ⟨_, rfl⟩
  have L1 := hO.lies
  have D1 := hO2.lies
  have e1 := fun w hL hD1 => tk_any B N C l o D m d xs w hL hl hC hCm hD1 hxn hD hDm
  have e2 := fun w hL hD1 => stk_any B N C l o D m d xs w hL hl hC hCm hD1 hxn hD hDm
  rw [hb, hy] at e1 e2
  have e5 := fun A3 c3 w hA hB h1 h2 h3 => sl_same A3 B N N c3 C l w hA hB h1 hl h2 h3 hC hCm
  have HL := hid hl
  have HXn := hid hxn
  have HB := hid hb
  have HY := hid hy
  clear hl hxn hb hy hO hO2 hsm hx9
  unfold maxLen at hCm hDm
  go_wp2_with fail
  refine (e1 _ L1 D1).mono ?_
  rintro e w2 ⟨A1, q, c1, rfl, hO1, hl1, hq1, hg2⟩
  have L2 := L1.grown0 hg2
  have D2 := D1.grown0 hg2
  have G2 := gr_0 hg1 hg2
  clear hg2
  have hcA1 := hO1.cap
  have hmA1 := hO1.max
  go_wp2_with fail
  refine (e2 _ L2 D2).mono ?_
  rintro e w3 ⟨A2, q2, c2, rfl, hO2, hl2, hq2, hg3⟩
  have L3 := L2.grown0 hg3
  have D3 := D2.grown0 hg3
  have G3 := gr_0 G2 hg3
  have O3 := hO1.kept0 hg3
  clear hg3
  have hcA2 := hO2.cap
  have hmA2 := hO2.max
  obtain rfl : q = q2 := hl1.symm.trans hl2
  have LA := O3.lies
  have LB := hO2.lies
  have e3 := fun w hA hB => sl_same A1 A2 q q c1 c2 y w hA hB hl1 hl2 hcA1 hmA1 hcA2 hmA2
  have e4 := fun w hL => gv_any A1 q c1 y o w hL hl1 hcA1 hmA1
  have HLn := hid hl1
  clear hl1 hl2 e1 e2 hO2
  unfold maxLen at hmA1 hmA2
  go_wp2_with fail
  refine (e3 _ LA LB).mono ?_
  rintro e w4 ⟨rfl, hg4⟩
  have L4 := L3.grown0 hg4
  have D4 := D3.grown0 hg4
  have G4 := gr_0 G3 hg4
  have LA4 := LA.grown0 hg4
  have LB4 := LB.grown0 hg4
  clear hg4
  cases b with
  | false =>
    go_wp2_with fail
    refine (e3 _ LA4 LB4).mono ?_
    rintro e w5 ⟨rfl, hg5⟩
    have L5 := L4.grown0 hg5
    have D5 := D4.grown0 hg5
    have G5 := gr_0 G4 hg5
    have LA5 := LA4.grown0 hg5
    have LB5 := LB4.grown0 hg5
    clear hg5
    go_wp2_with fail
    go_ret
    exact ⟨rfl, G5⟩
  | true =>
    have HGv := hid (fun hno => take_give HB.out hno)
    rw [HY.out] at HGv
    clear e3
    go_wp2_with fail
    go_loopw [10] (fun i wr => ∃ k : Nat, i = .int .i64 k ∧ k ≤ N ∧ (∀ z ∈ l.take k, z.o ≠ o) ∧ w4.grownBy wr none) (fun i _ => N - (intOf i).toNat)
    case atStart => exact ⟨0, rfl, by omega, by simp, gr_refl _ _⟩
    case round =>
      obtain ⟨k, rfl, hkN, hno, hgr⟩ := hrel
      have HNo := hid hno
      clear hno
      have Lr := L4.grown0 hgr
      have Ar := LA4.grown0 hgr
      have Gr := gr_0 G4 hgr
      by_cases hlt : k < N
      · have hkl : k < l.length := by rw [HL.out]; exact hlt
        obtain ⟨g, ofs, rfl, hg, hcell⟩ := Lr.open_ (by rw [flat_len Lk.cells 2 (fun _ => rfl), HL.out]; omega)
        obtain ⟨ca, cb⟩ := lkAt hcell hkl
        have HS := hid (fun q => no_own hkl HNo.out q)
        obtain ⟨z, hz⟩ : ∃ z, l[k] = z := ⟨_, rfl⟩
        simp only [hz] at ca cb HS
        obtain ⟨s, ow⟩ := z
        simp only [] at ca cb HS
        have b1 : (0 : Int) ≤ (k : Int) := by omega
        have b2 : (k : Int) < (N : Int) := by omega
        clear hz hcell e4 e5
        rcases (by omega : ow = o ∨ ow ≠ o) with r | r
        · have hq : (ow == o) = true := by simp [r]
          clear r HS
          go_wp2_with fail
          go_ret
          exact ⟨rfl, Gr⟩
        · have hq : (ow == o) = false := by simp [r]
          have HX := hid (HS.out r)
          clear r HS
          go_wp2_with fail
          go_roundw
          case rel => exact ⟨k + 1, by go_num, by omega, HX.out, hgr⟩
          case measure => simp [intOf]; omega
      · obtain rfl : k = N := by omega
        have hgv : gvV y o = l := HGv.out (by have := HNo.out; rwa [List.take_of_length_le (by rw [HL.out]; omega)] at this)
        rw [hgv] at e4
        clear hgv
        go_wp2_with fail
        refine (e4 _ Ar).mono ?_
        rintro e w8 ⟨A3, q3, c3, rfl, hO3, hl3, hq3, hg8⟩
        have hcA3 := hO3.cap
        have hmA3 := hO3.max
        obtain rfl : k = q3 := HL.out.symm.trans hl3
        have HL3 := hid hl3
        have L8 := Lr.grown0 hg8
        have G8 := gr_0 Gr hg8
        have L3 := hO3.lies
        clear hl3 hO3 hg8
        go_wp2_with fail
        refine (e5 A3 c3 _ L3 L8 HL3.out hcA3 hmA3).mono ?_
        rintro e w9 ⟨rfl, hg9⟩
        go_wp2_with fail
        go_ret
        exact ⟨rfl, gr_0 G8 hg9⟩

end Go.Proofs.Ytcchnkpkdeminaa
