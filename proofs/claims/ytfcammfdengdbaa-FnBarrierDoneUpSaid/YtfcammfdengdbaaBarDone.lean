/- BarrierDone in impl. -/
import Derived.Test.YtfcammfdengdbaaBarLaw
namespace Go.Proofs.Ytfcammfdengdbaa
open Go.RowKit

/-- What BarrierDone leaves. -/
def BdTo (w : World) (d : Int) (l : List Int) (b : Bool) (e : Ending) (w' : World) : Prop :=
  ∃ (A : Option Addr) (n c : Nat), e = .returned (.tuple #[.agg #[.int .i64 d, .slice A n c], .bool b]) ∧ Own w' w.heap.size 3 1 A n c (ints l) ∧ l.length = n ∧ w.grownBy w' none

set_option maxHeartbeats 4000000 in
theorem bd_any (d : Int) (A : Option Addr) (n c : Nat) (xs : List Int) (f m : Int) (w : World) (h : IArg w A n c xs) (hf0 : -1000000 ≤ f) (hf1 : f ≤ 1000000) (hm0 : -1000000 ≤ m) (hm1 : m ≤ 1000000) :
    Calls Try.prog 28 #[.agg #[.int .i64 d, .slice A n c], .int .i64 f, .int .i64 m] w (BdTo w (doneN d xs f m) (doneL d xs f m) (doneB d xs f m)) := by
  have E0 := (Full.new w 25 #[.int .i64 d, .slice A n c]).alloc (.cells #[.int .i64 0, .slice none 0 0] 25)
  have R0 := Full.newAt (w := w.alloc (.cells #[.int .i64 d, .slice A n c] 25)) (t := 25) (cs := #[.int .i64 0, .slice none 0 0]) (H := w.heap.size + 1) (by simp)
  have h0 := (h.alloc (.cells #[.int .i64 d, .slice A n c] 25)).alloc (.cells #[.int .i64 0, .slice none 0 0] 25)
  have G0 := gr_alloc (gr_alloc (gr_refl w none) (.cells #[.int .i64 d, .slice A n c] 25)) (.cells #[.int .i64 0, .slice none 0 0] 25)
  obtain ⟨b, hb⟩ : ∃ b, barB d xs = b := ⟨_, rfl⟩
  obtain ⟨bf, hbf⟩ : ∃ b, inR f 0 99 = b := ⟨_, rfl⟩
  obtain ⟨bm, hbm⟩ : ∃ b, inR m 1 24 = b := ⟨_, rfl⟩
  have e1 := bv_is d A n c xs b _ h0 hb
  have ef := fun w => place_is f bf w hbf
  have e2 := fun w => many_is m bm w hbm
  have HB := hid hb
  have HBf := hid hbf
  have HBm := hid hbm
  have HT := hid (show doneB d xs f m = (b && (bf && (bm && decide (∀ x ∈ news f m.toNat, x ∈ xs)))) by rw [doneB, hb, hbf, hbm])
  have c0 := E0.cellAt 0 (v := .int .i64 d) rfl
  have c1 := E0.cellAt 1 (v := .slice A n c) rfl
  clear h hb hbf hbm
  obtain ⟨rb, hrb⟩ : ∃ rb, w.heap.size + 1 = rb := ⟨_, rfl⟩
  rw [hrb] at R0
  have hrb1 : w.heap.size < rb := by omega
  go_enter Try.func28, Try.ntmps28
  go_wp2_with fail
  clear hrb
  refine e1.mono ?_
  rintro e w1 ⟨rfl, hg1⟩
  have h1 := h0.grown0 hg1
  have E1 := E0.grown hg1 (by simp)
  have R1 := R0.grown hg1 (by simp)
  have G1 := gr_0 G0 hg1
  have hs1 := G1.size
  clear e1 h0 E0 R0 G0 hg1 c0 c1
  have r0 := R1.cellAt 0 (v := .int .i64 0) rfl
  have r1 := R1.cellAt 1 (v := .slice none 0 0) rfl
  have f0 := R1.free 0
  have f1 := R1.free 1
  have NO := hid (show doneB d xs f m = false → BdTo w (doneN d xs f m) (doneL d xs f m) (doneB d xs f m) (.returned (.tuple #[.agg #[.int .i64 0, .slice none 0 0], .bool false])) ((w1.setCell ⟨rb, 0, none⟩ (.int .i64 0)).setCell ⟨rb, 1, none⟩ (.slice none 0 0)) from fun hT => by
    obtain ⟨a1, a2⟩ := done_no hT
    rw [a1, a2, hT]
    exact ⟨none, 0, 0, rfl, Own.nil _, rfl, gr_put (gr_put G1 (by omega) _) (by omega) _⟩)
  cases b with
  | false =>
    have HF := hid (show doneB d xs f m = false by rw [HT.out]; rfl)
    go_wp2_with fail
    refine bodyPost_ret (v := .tuple #[.agg #[.int .i64 0, .slice none 0 0], .bool false]) ?_ rfl (NO.out HF.out)
    simp [results, Try.results28, go_sem, r0, r1]
  | true =>
    go_wp2_with fail
    refine (ef _).mono ?_
    rintro e w_ ⟨rfl, rfl⟩
    clear ef
    cases bf with
    | false =>
      have HF := hid (show doneB d xs f m = false by rw [HT.out]; rfl)
      go_wp2_with fail
      refine bodyPost_ret (v := .tuple #[.agg #[.int .i64 0, .slice none 0 0], .bool false]) ?_ rfl (NO.out HF.out)
      simp [results, Try.results28, go_sem, r0, r1]
    | true =>
      go_wp2_with fail
      refine (e2 _).mono ?_
      rintro e w_ ⟨rfl, rfl⟩
      clear e2
      cases bm with
      | false =>
        have HF := hid (show doneB d xs f m = false by rw [HT.out]; rfl)
        go_wp2_with fail
        refine bodyPost_ret (v := .tuple #[.agg #[.int .i64 0, .slice none 0 0], .bool false]) ?_ rfl (NO.out HF.out)
        simp [results, Try.results28, go_sem, r0, r1]
      | true =>
        have hmm : 1 ≤ m ∧ m ≤ 24 := by have := HBm.out; simpa [inR] using this
        have hff : 0 ≤ f ∧ f ≤ 99 := by have := HBf.out; simpa [inR] using this
        obtain ⟨hm, hm'⟩ := hmm
        obtain ⟨hf, hf'⟩ := hff
        obtain ⟨k, rfl⟩ := Int.eq_ofNat_of_zero_le (show 0 ≤ m by omega)
        have hnl := barB_len HB.out
        have hn := h1.len
        have hn100 : n ≤ 100 := by omega
        have O2 := Own.empty (e := 3) (s := 1) w1 (Nat.le_refl _)
        have E2 := E1.alloc (.cells #[] 3)
        have R2 := R1.alloc (.cells #[] 3)
        have h2 := h1.alloc (.cells #[] 3)
        have G2 := gr_alloc G1 (.cells #[] 3)
        have e3 := heapOf_any A n c xs _ h2.li h2.len h2.cap h2.max (by omega)
        have c1 := E2.cellAt 1 (v := .slice A n c) rfl
        have HN := hid h1.len
        clear NO HBm HBf HT hnl hn h1 f0 f1 r0 r1 E1 R1 G1
        go_wp2_with fail
        refine e3.mono ?_
        rintro e w2 ⟨hb, A2, c2, ys, rfl, hH, hp, hhf, hg2⟩
        have e4 := drain_any _ hb A2 n c2 ys w2 hH hhf (by omega)
        have hA2 := fun g hg => (hH.own.block (b := g) hg).1
        have hhb := hH.ge
        have E3 := E2.grown hg2 (by simp)
        have R3 := R2.grown hg2 (by simp)
        have G3 := gr_0 G2 hg2
        have O3 := O2.kept0 hg2
        have h3 := h2.grown0 hg2
        have hE1 := E2.lt
        have hR1 := R2.lt
        have hO1 := (O2.block (b := w1.heap.size) rfl).2
        have HP := hid hp
        clear e3 hH hp hhf E2 R2 G2 O2 h2 c1 hg2
        go_wp2_with fail
        refine e4.mono ?_
        rintro e w3 ⟨L, cL, zs, rfl, hO4, hl4, hso4, hp4, hT4⟩
        have E4 := E3.two hT4 (by simp; omega) (fun e => by have := hA2 _ e.symm; omega)
        have R4 := R3.two hT4 (by simp; omega) (fun e => by have := hA2 _ e.symm; omega)
        have G4 := hT4.gr G3 (fun g hg => by injection hg with hg; simp at hhb; omega) (fun g hg => by have := hA2 g hg; simp at this; omega)
        have O4 := O3.two hT4 (fun g hg => by injection hg with hg; simp; simp at hg hhb; omega) (fun g hg e => by have := hA2 _ e.symm; injection hg with hg; simp at this hg; omega)
        obtain rfl : zs = xs := sorted_perm hso4 (asc_sorted (barB_parts HB.out).2) (hp4.trans HP.out)
        have hw112 : w1.heap.size < w2.heap.size := (O3.block (b := w1.heap.size) rfl).2
        have hLb := fun g hg => (hO4.block (b := g) hg).1
        have hLc := hO4.cap
        have hLm := hO4.max
        unfold maxLen at hLm
        have hLi := hO4.lies
        have hLbk := fun g hg => (hO4.block (b := g) hg).2
        have hLn : ∀ g, blockOf (some (⟨w1.heap.size, 0, none⟩ : Addr)) = some g → some g ≠ blockOf L := fun g hg e => by
          have := hLb g e.symm; injection hg with hg; simp at hg; omega
        have hw12 : w.heap.size < w2.heap.size := by have := E3.lt; omega
        have HLb := hid hLb
        have HO4 := hid O4
        have HE4 := hid E4
        have HR4 := hid R4
        have HLi := hid hLi
        have HLn := hid hLn
        clear e4 hso4 hp4 hT4 E3 R3 G3 O3 h3 hA2 hO4 O4 E4 R4 hLi hLn
        go_wp2_with fail
        go_loopw [8, 31] (fun v i wr => ∃ (j q : Nat) (B : Option Addr) (cB : Nat), v = .slice B q cB ∧ i = .int .i64 (j : Int) ∧ j ≤ n ∧ (outs f k (zs.take j)).length = q ∧ Own wr w1.heap.size 3 1 B q cB (ints (outs f k (zs.take j))) ∧ Lies wr L (ints zs) ∧ (∀ g, blockOf B = some g → some g ≠ blockOf L) ∧ (∀ g, blockOf L = some g → g < wr.heap.size) ∧ Full wr w.heap.size 25 #[.int .i64 d, .slice A n c] ∧ Full wr rb 25 #[.int .i64 0, .slice none 0 0] ∧ w.grownBy wr none) (fun _ i _ => n - (intOf i).toNat)
        case atStart => exact ⟨0, 0, _, 0, rfl, rfl, by omega, rfl, HO4.out, HLi.out, HLn.out, (fun g hg => (hLbk g hg)), HE4.out, HR4.out, G4⟩
        case round =>
          clear HO4 HE4 HR4 HLi HLn G4
          obtain ⟨j, q, B, cB, rfl, rfl, hjn, hq, hO, hLi, hLn, hLl, hE, hR, hG⟩ := hrel
          have HQ := hid hq
          have hqj : q ≤ j := by rw [← hq]; exact outs_len_take zs j
          clear hq
          by_cases hlt : j < n
          · have hjl : j < zs.length := by rw [HN.out]; exact hlt
            obtain ⟨g, o, hA, _, hcell⟩ := hLi.open_ (by rw [ints_len]; omega)
            obtain rfl := hA
            have cx := intAt hcell hjl
            clear hcell
            have HYes := hid (outs_take_yes (f := f) (m := k) hjl)
            have HNo := hid (outs_take_no (f := f) (m := k) hjl)
            obtain ⟨x, hx⟩ : ∃ x, zs[j] = x := ⟨_, rfl⟩
            simp only [hx] at cx HYes HNo
            clear hx
            have b1 : (0 : Int) ≤ (j : Int) := by omega
            have b2 : (j : Int) < (n : Int) := by omega
            have i1 : IntKind.i64.wrap (f + (k : Int)) = f + k := IntWalk.i64_in _ (by omega)
            have hsw := hG.size
            have hgl := hLl g rfl
            have hgb := HLb.out g rfl
            have hs12 : w1.heap.size ≤ wr.heap.size := by omega
            rcases (by omega : (x < f ∨ (f ≤ x ∧ f + (k : Int) ≤ x)) ∨ (f ≤ x ∧ x < f + (k : Int))) with q1 | ⟨q1, q2⟩
            · have HY := hid (HYes.out (by omega))
              clear HYes HNo
              rcases q1 with q1 | ⟨q1, q2⟩
              · go_wp2_with (at_builtin; refine wpList_push _ rfl _ _ 23 rfl w1.heap.size 3 Try.underlying23 intInfo rfl (by omega) B q cB (ints (outs f k (zs.take j))) rfl (hO.alloc (.cells #[.int .i64 x] 3)) _ 1 #[.int .i64 x] rfl (Full.newAt (by simp)) rfl (by intro u hu; simp at hu; subst hu; rfl) (by omega) (by omega) (by simp; omega) ?_; intro A' c' wz hown hgz hbz)
                have hBb := fun b hb => (hO.block (b := b) hb).1
                have hzs := hgz.size
                simp at hzs
                have EZ := (hE.alloc (.cells #[.int .i64 x] 3)).grown hgz (fun e => hO.ne_full hE (by decide) _ e.symm rfl)
                have RZ := (hR.alloc (.cells #[.int .i64 x] 3)).grown hgz (fun e => hO.ne_full hR (by decide) _ e.symm rfl)
                have LZ : Lies wz (some ⟨g, o, none⟩) (ints zs) := (hLi.alloc (.cells #[.int .i64 x] 3)).grown hgz (fun b hb e => hLn b e.symm hb.symm)
                have GZ := gr_then (gr_alloc hG (.cells #[.int .i64 x] 3)) hgz (fun b hb => .inr (by have := hBb b hb; omega))
                have LN : ∀ b, blockOf A' = some b → some b ≠ blockOf (some (⟨g, o, none⟩ : Addr)) := fun b hb e => by
                  rcases hbz with e' | e'
                  · exact hLn b (e'.symm.trans hb) e
                  · have := hLl b e.symm
                    rw [hb] at e'
                    injection e' with e'
                    simp at e'
                    omega
                have HLZ := hid LZ
                have HLN := hid LN
                have HOZ := hid (show Own wz w1.heap.size 3 1 A' (q + 1) c' (ints (outs f k (zs.take (j + 1)))) by rw [HY.out, ints_app]; exact hown)
                clear hown hgz hbz hO hE hR hLi LZ LN hG
                go_wp2_with fail
                go_roundw
                case rel => exact ⟨j + 1, q + 1, A', c', by go_num, by go_num, by omega, by rw [HY.out, List.length_append, HQ.out]; rfl, HOZ.out, HLZ.out, HLN.out, fun b hb => by have := hLl b hb; omega, EZ, RZ, GZ⟩
                case measure => simp [intOf]; omega
              · go_wp2_with (at_builtin; refine wpList_push _ rfl _ _ 23 rfl w1.heap.size 3 Try.underlying23 intInfo rfl (by omega) B q cB (ints (outs f k (zs.take j))) rfl (hO.alloc (.cells #[.int .i64 x] 3)) _ 1 #[.int .i64 x] rfl (Full.newAt (by simp)) rfl (by intro u hu; simp at hu; subst hu; rfl) (by omega) (by omega) (by simp; omega) ?_; intro A' c' wz hown hgz hbz)
                have hBb := fun b hb => (hO.block (b := b) hb).1
                have hzs := hgz.size
                simp at hzs
                have EZ := (hE.alloc (.cells #[.int .i64 x] 3)).grown hgz (fun e => hO.ne_full hE (by decide) _ e.symm rfl)
                have RZ := (hR.alloc (.cells #[.int .i64 x] 3)).grown hgz (fun e => hO.ne_full hR (by decide) _ e.symm rfl)
                have LZ : Lies wz (some ⟨g, o, none⟩) (ints zs) := (hLi.alloc (.cells #[.int .i64 x] 3)).grown hgz (fun b hb e => hLn b e.symm hb.symm)
                have GZ := gr_then (gr_alloc hG (.cells #[.int .i64 x] 3)) hgz (fun b hb => .inr (by have := hBb b hb; omega))
                have LN : ∀ b, blockOf A' = some b → some b ≠ blockOf (some (⟨g, o, none⟩ : Addr)) := fun b hb e => by
                  rcases hbz with e' | e'
                  · exact hLn b (e'.symm.trans hb) e
                  · have := hLl b e.symm
                    rw [hb] at e'
                    injection e' with e'
                    simp at e'
                    omega
                have HLZ := hid LZ
                have HLN := hid LN
                have HOZ := hid (show Own wz w1.heap.size 3 1 A' (q + 1) c' (ints (outs f k (zs.take (j + 1)))) by rw [HY.out, ints_app]; exact hown)
                clear hown hgz hbz hO hE hR hLi LZ LN hG
                go_wp2_with fail
                go_roundw
                case rel => exact ⟨j + 1, q + 1, A', c', by go_num, by go_num, by omega, by rw [HY.out, List.length_append, HQ.out]; rfl, HOZ.out, HLZ.out, HLN.out, fun b hb => by have := hLl b hb; omega, EZ, RZ, GZ⟩
                case measure => simp [intOf]; omega
            · have HY := hid (HNo.out ⟨q1, q2⟩)
              clear HYes HNo
              have HO := hid hO
              have HLi := hid hLi
              clear hO hLi
              go_wp2_with fail
              go_roundw
              case rel => exact ⟨j + 1, q, B, cB, rfl, by go_num, by omega, by rw [HY.out]; exact HQ.out, by rw [HY.out]; exact HO.out, HLi.out, hLn, hLl, hE, hR, hG⟩
              case measure => simp [intOf]; omega
          · obtain rfl : j = n := by omega
            have htk : zs.take j = zs := List.take_of_length_le (by rw [HN.out]; exact Nat.le_refl _)
            rw [htk] at hO
            have HQ2 := hid (show (outs f k zs).length = q by have := HQ.out; rwa [htk] at this)
            have HDl := hid (done_len (f := f) (m := k) HB.out)
            have HTk := hid (show doneB d zs f (k : Int) = decide (∀ x ∈ news f k, x ∈ zs) by
              simp only [doneB, HB.out, inR_true hf hf', inR_true hm hm', Int.toNat_natCast, Bool.true_and])
            have c0 := hE.cellAt 0 (v := .int .i64 d) rfl
            have c1 := hE.cellAt 1 (v := .slice A j c) rfl
            have r0 := hR.cellAt 0 (v := .int .i64 0) rfl
            have r1 := hR.cellAt 1 (v := .slice none 0 0) rfl
            have f0 := hR.free 0
            have f1 := hR.free 1
            have i1 : IntKind.i64.wrap ((j : Int) - (k : Int)) = (j : Int) - k := IntWalk.i64_in _ (by omega)
            have hEl := hE.lt
            have hRl := hR.lt
            have O5 := ((hO.put hR (by decide) 0 (.int .i64 d)).put (hR.set 0 _) (by decide) 1 (.slice B q cB)).base_le (show w.heap.size ≤ w1.heap.size by omega)
            have HO5 := hid O5
            clear htk hO O5 hLi hLl hE hR
            rcases (by omega : (q : Int) ≠ (j : Int) - (k : Int) ∨ (q : Int) = (j : Int) - (k : Int)) with q1 | q1
            · have qd : ((q : Int) != (j : Int) - (k : Int)) = true := by simpa using q1
              have HF := hid (show doneB d zs f (k : Int) = false by
                rw [HTk.out, decide_eq_false_iff_not]
                intro e
                have := HDl.out.2 e
                rw [HQ2.out, HN.out] at this
                exact q1 this)
              have NO : BdTo w (doneN d zs f (k : Int)) (doneL d zs f (k : Int)) (doneB d zs f (k : Int)) (.returned (.tuple #[.agg #[.int .i64 0, .slice none 0 0], .bool false])) ((wr.setCell ⟨rb, 0, none⟩ (.int .i64 0)).setCell ⟨rb, 1, none⟩ (.slice none 0 0)) := by
                obtain ⟨a1, a2⟩ := done_no HF.out
                rw [a1, a2, HF.out]
                exact ⟨none, 0, 0, rfl, Own.nil _, rfl, gr_put (gr_put hG (by omega) _) (by omega) _⟩
              have HNO := hid NO
              clear NO q1
              go_wp2_with fail
              refine bodyPost_ret (v := .tuple #[.agg #[.int .i64 0, .slice none 0 0], .bool false]) ?_ rfl HNO.out
              simp [results, Try.results28, go_sem, r0, r1]
            · have qd : ((q : Int) != (j : Int) - (k : Int)) = false := by simpa using q1
              have HF := hid (show doneB d zs f (k : Int) = true by
                rw [HTk.out, decide_eq_true_eq]
                refine HDl.out.1 ?_
                rw [HQ2.out, HN.out]
                exact q1)
              clear q1
              go_wp2_with fail
              refine bodyPost_ret (v := .tuple #[.agg #[.int .i64 d, .slice B q cB], .bool true]) ?_ rfl ?_
              · simp [results, Try.results28, go_sem, r0, r1]
              · obtain ⟨y1, y2⟩ := done_yes HF.out
                rw [y1, y2, HF.out, Int.toNat_natCast]
                exact ⟨B, q, cB, rfl, HO5.out, HQ2.out, gr_put (gr_put hG (by omega) _) (by omega) _⟩
end Go.Proofs.Ytfcammfdengdbaa
