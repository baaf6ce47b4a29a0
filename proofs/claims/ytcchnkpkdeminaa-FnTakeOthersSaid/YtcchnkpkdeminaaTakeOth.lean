/- The walk of FnTakeOthers. -/
import Derived.Test.YtcchnkpkdeminaaTakeGive
import Derived.Test.YtcchnkpkdeminaaHasInt
namespace Go.Proofs.Ytcchnkpkdeminaa
open Go.RowKit

def othL (l : List Lk) (xs : List Int) : List Lk := l.filter fun z => !decide (z.s ∈ xs)
theorem oth_valid {lo : Int} {l : List Lk} (h : lkA lo l = true) (xs : List Int) : lkA lo (othL l xs) = true := by
  induction l generalizing lo with
  | nil => rfl
  | cons y l ih =>
    obtain ⟨a1, a2, a3, a4, a5⟩ := lkA_head h
    rw [othL, List.filter_cons]
    split
    · exact lkA_cons a1 a2 a3 a4 (ih a5)
    · exact lkA_low (ih a5) (by omega)
theorem own_oth (l : List Lk) (xs : List Int) (s : Int) : ownerOf (othL l xs) s = if s ∈ xs then 0 else ownerOf l s := by
  induction l with
  | nil => show (0 : Int) = if s ∈ xs then 0 else 0; split <;> rfl
  | cons y l ih =>
    rw [othL, List.filter_cons, ← othL]
    by_cases q : y.s ∈ xs
    · rw [if_neg (by simp [q]), ih, ownerOf]
      by_cases r : y.s = s
      · rw [if_pos r, if_pos (r ▸ q), if_pos (r ▸ q)]
      · rw [if_neg r]
    · rw [if_pos (by simp [q]), ownerOf, ih, ownerOf]
      by_cases r : y.s = s
      · rw [if_pos r, if_pos r, if_neg (r ▸ q)]
      · rw [if_neg r, if_neg r]
theorem oth_next {l : List Lk} {xs : List Int} {k : Nat} (h : k < l.length) : othL (l.take (k + 1)) xs = othL (l.take k) xs ++ (if decide (l[k].s ∈ xs) = true then [] else [l[k]]) := by
  rw [List.take_succ_eq_append_getElem h, othL, List.filter_append, ← othL, List.filter_cons]
  by_cases q : l[k].s ∈ xs
  · rw [if_neg (by simp [q]), if_pos (by simp [q])]; rfl
  · rw [if_pos (by simp [q]), if_neg (by simp [q])]; rfl
theorem take_oth {l : List Lk} {o : Int} {xs : List Int} (h : freeB l o xs = true) : othL (takeL l o xs) xs = othL l xs := by
  obtain ⟨f1, f2, f3⟩ := take_facts h
  refine lk_ext (oth_valid f2 xs) (oth_valid (freeB_parts h).1 xs) fun s => ?_
  rw [own_oth, own_oth, f3]
  split <;> rfl
structure OtAt (w : World) (l : List Lk) (xs : List Int) (k m : Nat) (A : Option Addr) (c : Nat) (wr : World) : Prop where
  own : Own wr w.heap.size 32 2 A m c ((othL (l.take k) xs).flatMap Lk.cells)
  len : (othL (l.take k) xs).length = m
  le : m ≤ k
  gr : w.grownBy wr none

set_option maxHeartbeats 4000000 in
theorem takeoth_walk (A : Option Addr) (n c : Nat) (zs : List Int) (w : World) (h : Code w A n c zs) :
    Calls Try.prog 10 #[.slice A n c] w fun e w' => e = .returned (.bool true) ∧ w.grownBy w' none := by
  have hc := h.cap
  have hm := h.max
  unfold maxLen at hm
  by_cases h1 : n > 1048576
  · go_enter Try.func10, Try.ntmps10
    go_wp2
    go_ret
    exact ⟨rfl, gr_refl _ _⟩
  go_enter Try.func10, Try.ntmps10
  go_wp2_with fail
  refine (dlt_any A n c zs _ h).mono ?_
  rintro e w1 ⟨B, N, C, l, o, D, m, d, xs, rfl, hO, hl, hsm, ho0, ho1, hO2, hxn, hm9, hx9, hg1⟩
  have hC := hO.cap
  have hCm := hO.max
  have hD := hO2.cap
  have hDm := hO2.max
  have hN := hsm.len
  rw [hl] at hN
  obtain ⟨b, hb⟩ : ∃ b, freeB l o xs = b := ⟨_, rfl⟩
  obtain ⟨y, hy⟩ : ∃ y, tkV l o xs = y := ⟨_, rfl⟩
  have L1 := hO.lies
  have D1 := hO2.lies
  have e1 := fun w hL hD1 => tk_any B N C l o D m d xs w hL hl hC hCm hD1 hxn hD hDm
  have e2 := fun w hL hD1 => stk_any B N C l o D m d xs w hL hl hC hCm hD1 hxn hD hDm
  rw [hb, hy] at e1 e2
  have e7 := fun s b w hL hb => hi_is D m d xs s b w hL hxn hD hDm hb
  have HL := hid hl
  have HXn := hid hxn
  have HB := hid hb
  have HY := hid hy
  clear hl hxn hb hy hO hO2 hsm hx9
  unfold maxLen at hCm hDm
  go_wp2_with fail
  refine (e1 _ L1 D1).mono ?_
  rintro e w2 ⟨A1, q, c1, rfl, hO1, hl1, hq1, hg2⟩
  have L2 := L1.grown0 hg2
  have D2 := D1.grown0 hg2
  have G2 := gr_0 hg1 hg2
  clear hg2
  have hcA1 := hO1.cap
  have hmA1 := hO1.max
  go_wp2_with fail
  refine (e2 _ L2 D2).mono ?_
  rintro e w3 ⟨A2, q2, c2, rfl, hO2, hl2, hq2, hg3⟩
  have L3 := L2.grown0 hg3
  have D3 := D2.grown0 hg3
  have G3 := gr_0 G2 hg3
  have O3 := hO1.kept0 hg3
  clear hg3
  have hcA2 := hO2.cap
  have hmA2 := hO2.max
  obtain rfl : q = q2 := hl1.symm.trans hl2
  have LA := O3.lies
  have LB := hO2.lies
  have e3 := fun w hA hB => sl_same A1 A2 q q c1 c2 y w hA hB hl1 hl2 hcA1 hmA1 hcA2 hmA2
  have HLn := hid hl1
  clear hl1 hl2 e1 e2 hO2
  unfold maxLen at hmA1 hmA2
  go_wp2_with fail
  refine (e3 _ LA LB).mono ?_
  rintro e w4 ⟨rfl, hg4⟩
  have L4 := L3.grown0 hg4
  have D4 := D3.grown0 hg4
  have G4 := gr_0 G3 hg4
  have LA4 := LA.grown0 hg4
  have LB4 := LB.grown0 hg4
  clear hg4
  cases b with
  | false =>
    go_wp2_with fail
    refine (e3 _ LA4 LB4).mono ?_
    rintro e w5 ⟨rfl, hg5⟩
    have L5 := L4.grown0 hg5
    have D5 := D4.grown0 hg5
    have G5 := gr_0 G4 hg5
    have LA5 := LA4.grown0 hg5
    have LB5 := LB4.grown0 hg5
    clear hg5
    go_wp2_with fail
    go_ret
    exact ⟨rfl, G5⟩
  | true =>
    have hto := take_oth HB.out
    rw [← (take_facts HB.out).1, HY.out] at hto
    have HTo := hid hto
    clear hto e3
    have hs0 := (G4).size
    have SA : OtAt w4 l xs 0 0 (some ⟨w4.heap.size, 0, none⟩) 0 ((w4.alloc (.cells #[] 32)).alloc (.cells #[] 32)) := ⟨(Own.empty w4 (Nat.le_refl _)).alloc _, rfl, Nat.le_refl _, gr_alloc (gr_alloc (gr_refl w4 none) _) _⟩
    have SB : OtAt w4 y xs 0 0 (some ⟨w4.heap.size + 1, 0, none⟩) 0 ((w4.alloc (.cells #[] 32)).alloc (.cells #[] 32)) := by
      have O0 := Own.empty (base := w4.heap.size) (e := 32) (s := 2) (w4.alloc (.cells #[] 32)) (by simp)
      simp only [World.size_alloc] at O0
      exact ⟨O0, rfl, Nat.le_refl _, gr_alloc (gr_alloc (gr_refl w4 none) _) _⟩
    have HSA := hid SA
    have HSB := hid SB
    clear SA SB
    go_wp2_with fail
    go_loopw [10, 12] (fun v i wr => ∃ (k m' : Nat) (A' : Option Addr) (c' : Nat), i = .int .i64 k ∧ v = .slice A' m' c' ∧ k ≤ N ∧ OtAt w4 l xs k m' A' c' wr ∧ OtAt w4 y xs 0 0 (some ⟨w4.heap.size + 1, 0, none⟩) 0 wr ∧ (∀ b, blockOf A' = some b → b ≠ w4.heap.size + 1)) (fun _ i _ => N - (intOf i).toNat)
    case atStart => exact ⟨0, 0, _, _, rfl, rfl, by omega, HSA.out, HSB.out, by intro b hb; simp [blockOf] at hb; omega⟩
    case round =>
      clear HSA HSB
      obtain ⟨k, m', A', c', rfl, rfl, hkN, hat, hbt, hne⟩ := hrel
      have O := hat.own
      have G := hat.gr
      have HLe := hid hat.len
      have hle := hat.le
      have HNe := hid hne
      have OB := hbt.own
      clear hne
      by_cases hlt : k < N
      · have hkl : k < l.length := by rw [HL.out]; exact hlt
        have Xr := L4.grown0 G
        have Dr := D4.grown0 G
        obtain ⟨g, ofs, rfl, hg, hcell⟩ := Xr.open_ (by rw [flat_len Lk.cells 2 (fun _ => rfl), HL.out]; omega)
        obtain ⟨ca, cb⟩ := lkAt hcell hkl
        have hnx := oth_next (xs := xs) hkl
        obtain ⟨z, hz⟩ : ∃ z, l[k] = z := ⟨_, rfl⟩
        rw [hz] at ca cb hnx
        obtain ⟨s, ow⟩ := z
        simp only [] at ca cb hnx
        obtain ⟨b, hb⟩ : ∃ b, decide (s ∈ xs) = b := ⟨_, rfl⟩
        rw [hb] at hnx
        have HX := hid hnx
        have e8 := fun w hL => e7 s b w hL hb
        have b1 : (0 : Int) ≤ (k : Int) := by omega
        have b2 : (k : Int) < (N : Int) := by omega
        clear hz hcell hnx hb
        go_wp2_with fail
        refine (e8 _ Dr).mono ?_
        rintro e w_ ⟨rfl, rfl⟩
        clear e8
        cases b with
        | true =>
          have HY2 := hid (show othL (l.take (k + 1)) xs = othL (l.take k) xs by rw [HX.out]; simp)
          clear HX
          go_wp2_with fail
          go_roundw
          case rel => exact ⟨k + 1, m', A', c', by go_num, rfl, by omega, ⟨by rw [HY2.out]; exact O, by rw [HY2.out]; exact HLe.out, by omega, G⟩, hbt, HNe.out⟩
          case measure => simp [intOf]; omega
        | false =>
          have HY2 := hid (show othL (l.take (k + 1)) xs = othL (l.take k) xs ++ [⟨s, ow⟩] by rw [HX.out]; simp)
          clear HX
          go_wp2_with (at_builtin; refine wpList_push _ rfl _ _ 23 rfl w4.heap.size 32 Try.underlying23 lkInfo rfl (by omega) A' m' c' ((othL (l.take k) xs).flatMap Lk.cells) rfl (O.alloc (.cells #[.int .i64 s, .int .i64 ow] 32)) _ 1 #[.int .i64 s, .int .i64 ow] rfl (Full.newAt (by simp)) rfl (by intro u hu; simp at hu; rcases hu with rfl | rfl <;> rfl) (by omega) (by omega) (Nat.le_trans G.size (World.grownBy_alloc _ _ none).size) ?_; intro A2 c2' wz hown hgz hblk)
          have GZ := gr_then (gr_alloc G _) hgz (fun b hb => .inr (O.block hb).1)
          have ST : OtAt w4 l xs (k + 1) (m' + 1) A2 c2' wz := ⟨by rw [HY2.out, List.flatMap_append]; exact hown, by rw [HY2.out, List.length_append, HLe.out]; rfl, by omega, GZ⟩
          have SB2 : OtAt w4 y xs 0 0 (some ⟨w4.heap.size + 1, 0, none⟩) 0 wz := by
            refine ⟨World.ownsRow.kept (OB.alloc _) hgz ?_, rfl, by omega, GZ⟩
            rw [own_block]
            exact .inr (fun e => HNe.out _ e.symm rfl)
          have HN2 := hid (show ∀ b, blockOf A2 = some b → b ≠ w4.heap.size + 1 by
            intro b hb
            rcases hblk with q | q
            · exact HNe.out b (q ▸ hb)
            · rw [q] at hb
              injection hb with hb
              have := (OB.block (b := w4.heap.size + 1) rfl).2
              rw [← hb]; simp; omega)
          clear hown hgz hblk
          go_wp2_with fail
          go_roundw
          case rel => exact ⟨k + 1, m' + 1, A2, c2', by go_num, by go_num, by omega, ST, SB2, HN2.out⟩
          case measure => simp [intOf]; omega
      · obtain rfl : k = N := by omega
        have hlen := HLe.out
        rw [List.take_of_length_le (by rw [HL.out]; omega)] at O hlen
        have HLa := hid hlen
        have hcA := O.cap
        have hmA := O.max
        have OA := O
        have HNa := HNe
        clear HLe HNe hat hlen O
        obtain ⟨A9, hA9⟩ : ∃ A9, A' = A9 := ⟨_, rfl⟩
        obtain ⟨m9, hm9'⟩ : ∃ m9, m' = m9 := ⟨_, rfl⟩
        obtain ⟨c9, hc9⟩ : ∃ c9, c' = c9 := ⟨_, rfl⟩
        obtain ⟨B9, hB9⟩ : ∃ B9 : Option Addr, B9 = some ⟨w4.heap.size + 1, 0, none⟩ := ⟨_, rfl⟩
        rw [hA9, hm9', hc9] at OA
        rw [hm9'] at HLa
        rw [hm9', hc9] at hcA
        rw [hc9] at hmA
        rw [hA9] at HNa
        rw [hA9, hm9', hc9]
        have HB9 := hid (show ∀ b, blockOf A9 = some b → ∀ b', blockOf B9 = some b' → b ≠ b' by
          intro b hb b' hb'; rw [hB9] at hb'; injection hb' with hb'; rw [← hb']; exact HNa.out b hb)
        rw [← hB9] at hbt ⊢
        have HSt := hid (show OtAt w4 y xs 0 0 B9 0 wr ∧ Own wr w4.heap.size 32 2 A9 m9 c9 ((othL l xs).flatMap Lk.cells) from ⟨hbt, OA⟩)
        clear hA9 hm9' hc9 hB9 hbt OA HNa OB G hlt hle
        go_wp2_with fail
        go_loopw [11, 13] (fun v i wr => ∃ (k m' : Nat) (A' : Option Addr) (c' : Nat), i = .int .i64 k ∧ v = .slice A' m' c' ∧ k ≤ q ∧ OtAt w4 y xs k m' A' c' wr ∧ Own wr w4.heap.size 32 2 A9 m9 c9 ((othL l xs).flatMap Lk.cells) ∧ (∀ b, blockOf A9 = some b → ∀ b', blockOf A' = some b' → b ≠ b')) (fun _ i _ => q - (intOf i).toNat)
        case atStart => exact ⟨0, 0, _, _, rfl, rfl, by omega, HSt.out.1, HSt.out.2, HB9.out⟩
        case round =>
          clear HSt HB9
          obtain ⟨k, m', A', c', rfl, rfl, hkN, hat, OA, hne⟩ := hrel
          have O := hat.own
          have G := hat.gr
          have HLe := hid hat.len
          have hle := hat.le
          have HNe := hid hne
          clear hne
          by_cases hlt : k < q
          · have hkl : k < y.length := by rw [HLn.out]; exact hlt
            have Xr := LA4.grown0 G
            have Dr := D4.grown0 G
            obtain ⟨g, ofs, rfl, hg, hcell⟩ := Xr.open_ (by rw [flat_len Lk.cells 2 (fun _ => rfl), HLn.out]; omega)
            obtain ⟨ca, cb⟩ := lkAt hcell hkl
            have hnx := oth_next (xs := xs) hkl
            obtain ⟨z, hz⟩ : ∃ z, y[k] = z := ⟨_, rfl⟩
            rw [hz] at ca cb hnx
            obtain ⟨s, ow⟩ := z
            simp only [] at ca cb hnx
            obtain ⟨b, hb⟩ : ∃ b, decide (s ∈ xs) = b := ⟨_, rfl⟩
            rw [hb] at hnx
            have HX := hid hnx
            have e8 := fun w hL => e7 s b w hL hb
            have b1 : (0 : Int) ≤ (k : Int) := by omega
            have b2 : (k : Int) < (q : Int) := by omega
            clear hz hcell hnx hb
            go_wp2_with fail
            refine (e8 _ Dr).mono ?_
            rintro e w_ ⟨rfl, rfl⟩
            clear e8
            cases b with
            | true =>
              have HY2 := hid (show othL (y.take (k + 1)) xs = othL (y.take k) xs by rw [HX.out]; simp)
              clear HX
              go_wp2_with fail
              go_roundw
              case rel => exact ⟨k + 1, m', A', c', by go_num, rfl, by omega, ⟨by rw [HY2.out]; exact O, by rw [HY2.out]; exact HLe.out, by omega, G⟩, OA, HNe.out⟩
              case measure => simp [intOf]; omega
            | false =>
              have HY2 := hid (show othL (y.take (k + 1)) xs = othL (y.take k) xs ++ [⟨s, ow⟩] by rw [HX.out]; simp)
              clear HX
              go_wp2_with (at_builtin; refine wpList_push _ rfl _ _ 23 rfl w4.heap.size 32 Try.underlying23 lkInfo rfl (by omega) A' m' c' ((othL (y.take k) xs).flatMap Lk.cells) rfl (O.alloc (.cells #[.int .i64 s, .int .i64 ow] 32)) _ 1 #[.int .i64 s, .int .i64 ow] rfl (Full.newAt (by simp)) rfl (by intro u hu; simp at hu; rcases hu with rfl | rfl <;> rfl) (by omega) (by omega) (Nat.le_trans G.size (World.grownBy_alloc _ _ none).size) ?_; intro A2 c2' wz hown hgz hblk)
              have GZ := gr_then (gr_alloc G _) hgz (fun b hb => .inr (O.block hb).1)
              have ST : OtAt w4 y xs (k + 1) (m' + 1) A2 c2' wz := ⟨by rw [HY2.out, List.flatMap_append]; exact hown, by rw [HY2.out, List.length_append, HLe.out]; rfl, by omega, GZ⟩
              have OA2 : Own wz w4.heap.size 32 2 A9 m9 c9 ((othL l xs).flatMap Lk.cells) := by
                refine World.ownsRow.kept (OA.alloc _) hgz ?_
                rw [own_block]
                cases hA : blockOf A9 with
                | none => exact .inl rfl
                | some b => exact .inr (fun e => HNe.out b hA b e.symm rfl)
              have HN2 := hid (show ∀ b, blockOf A9 = some b → ∀ b', blockOf A2 = some b' → b ≠ b' by
                intro b hb b' hb'
                rcases hblk with q | q
                · exact HNe.out b hb b' (q ▸ hb')
                · rw [q] at hb'
                  injection hb' with hb'
                  have := (OA.block hb).2
                  rw [← hb']; simp; omega)
              clear hown hgz hblk
              go_wp2_with fail
              go_roundw
              case rel => exact ⟨k + 1, m' + 1, A2, c2', by go_num, by go_num, by omega, ST, OA2, HN2.out⟩
              case measure => simp [intOf]; omega
          · obtain rfl : k = q := by omega
            have hlen := HLe.out
            rw [List.take_of_length_le (by rw [HLn.out]; omega), HTo.out] at O hlen
            obtain rfl : m9 = m' := HLa.out.symm.trans hlen
            have e9 := fun w hA hB => sl_same A9 A' m9 m9 c9 c' (othL l xs) w hA hB HLa.out HLa.out OA.cap OA.max O.cap O.max
            have LA9 := OA.lies
            have LB9 := O.lies
            have G9 := gr_0 G4 G
            clear hlen O OA hat
            go_wp2_with fail
            refine (e9 _ LA9 LB9).mono ?_
            rintro e w9 ⟨rfl, hg9⟩
            go_wp2_with fail
            go_ret
            exact ⟨rfl, gr_0 G9 hg9⟩

end Go.Proofs.Ytcchnkpkdeminaa
