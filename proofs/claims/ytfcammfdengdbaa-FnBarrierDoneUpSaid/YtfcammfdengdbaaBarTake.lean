/- BarrierTake in impl. -/
import Derived.Test.YtfcammfdengdbaaBarUp
import Derived.Deep.DeepCutAuto
namespace Go.Proofs.Ytfcammfdengdbaa
open Go.RowKit

set_option maxHeartbeats 400000 in
theorem many_is (n : Int) (b : Bool) (w : World) (h : inR n 1 24 = b) : Calls Try.prog 38 #[.int .i64 n] w fun e w' => e = .returned (.bool b) ∧ w = w' := by
  subst h
  rcases (by omega : n < 1 ∨ (1 ≤ n ∧ n ≤ 24) ∨ (1 ≤ n ∧ 24 < n)) with h | ⟨h, h'⟩ | ⟨h, h'⟩
  · rw [inR_false (.inl h)]
    go_enter Try.func38, Try.ntmps38
    go_wp2
    go_ret
    exact ⟨rfl, rfl⟩
  · rw [inR_true h h']
    go_enter Try.func38, Try.ntmps38
    go_wp2
    go_ret
    exact ⟨rfl, rfl⟩
  · rw [inR_false (.inr h')]
    go_enter Try.func38, Try.ntmps38
    go_wp2
    go_ret
    exact ⟨ret_bool (by simp; omega), rfl⟩
set_option maxHeartbeats 400000 in
theorem place_is (n : Int) (b : Bool) (w : World) (h : inR n 0 99 = b) : Calls Try.prog 41 #[.int .i64 n] w fun e w' => e = .returned (.bool b) ∧ w = w' := by
  subst h
  rcases (by omega : n < 0 ∨ (0 ≤ n ∧ n ≤ 99) ∨ (0 ≤ n ∧ 99 < n)) with h | ⟨h, h'⟩ | ⟨h, h'⟩
  · rw [inR_false (.inl h)]
    go_enter Try.func41, Try.ntmps41
    go_wp2
    go_ret
    exact ⟨rfl, rfl⟩
  · rw [inR_true h h']
    go_enter Try.func41, Try.ntmps41
    go_wp2
    go_ret
    exact ⟨rfl, rfl⟩
  · rw [inR_false (.inr h')]
    go_enter Try.func41, Try.ntmps41
    go_wp2
    go_ret
    exact ⟨ret_bool (by simp; omega), rfl⟩

/-- The positions from d on. -/
def news (d : Int) (m : Nat) : List Int := (List.range m).map fun (i : Nat) => d + (i : Int)
theorem news_next (d : Int) (m : Nat) : news d (m + 1) = news d m ++ [d + (m : Int)] := by simp [news, List.range_succ]
theorem news_len (d : Int) (m : Nat) : (news d m).length = m := by simp [news]
theorem news_mem {d x : Int} {m : Nat} : x ∈ news d m ↔ d ≤ x ∧ x < d + m := by
  unfold news
  rw [List.mem_map]
  constructor
  · rintro ⟨i, hi, rfl⟩
    have := List.mem_range.1 hi
    omega
  · rintro ⟨h1, h2⟩
    exact ⟨(x - d).toNat, List.mem_range.2 (by omega), by omega⟩
theorem asc_news (d : Int) (m : Nat) (lo hi : Int) (h1 : lo < d) (h2 : d + m ≤ hi + 1) : asc lo hi (news d m) = true := by
  induction m with
  | zero => rfl
  | succ m ih =>
    rw [news_next, asc_app, ih (by omega)]
    have : lastOf lo (news d m) < d + (m : Int) := by
      cases m with
      | zero => simpa [news, lastOf] using h1
      | succ m => rw [news_next, lastOf_snoc]; omega
    simp only [asc, Bool.true_and, Bool.and_true, Bool.and_eq_true, decide_eq_true_eq]
    omega
theorem asc_hi {lo hi hi' : Int} {l : List Int} (h : asc lo hi l = true) (hh : hi ≤ hi') : asc lo hi' l = true := by
  induction l generalizing lo with
  | nil => rfl
  | cons x l ih =>
    obtain ⟨a, b, c⟩ := asc_head h
    simp only [asc, Bool.and_eq_true, decide_eq_true_eq]
    exact ⟨⟨a, by omega⟩, ih c⟩
theorem last_le {lo hi : Int} {l : List Int} (h : asc lo hi l = true) (hl : lo ≤ hi) : lastOf lo l ≤ hi := by
  induction l generalizing lo with
  | nil => exact hl
  | cons x l ih =>
    obtain ⟨_, b, c⟩ := asc_head h
    exact ih c b
/-- What was given out lies behind what is open. -/
theorem asc_take {d : Int} {xs : List Int} {m : Nat} (h : barB d xs = true) : asc (-1) (d + m - 1) (xs ++ news d m) = true := by
  obtain ⟨⟨h1, _⟩, h2⟩ := barB_parts h
  rw [asc_app, asc_hi h2 (by omega), asc_news d m _ _ (by have := last_le h2 (by omega); omega) (by omega)]
  rfl
def takeB (d : Int) (xs : List Int) (m : Int) : Bool := barB d xs && (inR m 1 24 && decide (d + m ≤ 100))
def takeN (d : Int) (xs : List Int) (m : Int) : Int := if takeB d xs m = true then d + m else 0
def takeL (d : Int) (xs : List Int) (m : Int) : List Int := if takeB d xs m = true then xs ++ news d m.toNat else []
def takeF (d : Int) (xs : List Int) (m : Int) : Int := if takeB d xs m = true then d else 0
theorem take_no {d m : Int} {xs : List Int} (h : takeB d xs m = false) : takeN d xs m = 0 ∧ takeL d xs m = [] ∧ takeF d xs m = 0 := by simp [takeN, takeL, takeF, h]
theorem take_yes {d m : Int} {xs : List Int} (h : takeB d xs m = true) : takeN d xs m = d + m ∧ takeL d xs m = xs ++ news d m.toNat ∧ takeF d xs m = d := by simp [takeN, takeL, takeF, h]

/-- What BarrierTake leaves. -/
def BtTo (w : World) (d : Int) (l : List Int) (f : Int) (b : Bool) (e : Ending) (w' : World) : Prop :=
  ∃ (A : Option Addr) (n c : Nat), e = .returned (.tuple #[.agg #[.int .i64 d, .slice A n c], .int .i64 f, .bool b]) ∧ Own w' w.heap.size 3 1 A n c (ints l) ∧ l.length = n ∧ w.grownBy w' none

set_option maxHeartbeats 4000000 in
theorem bt_any (d : Int) (A : Option Addr) (n c : Nat) (xs : List Int) (m : Int) (w : World) (h : IArg w A n c xs) (hd0 : -1000000 ≤ d) (hd1 : d ≤ 1000000) (hm0 : -1000000 ≤ m) (hm1 : m ≤ 1000000) :
    Calls Try.prog 24 #[.agg #[.int .i64 d, .slice A n c], .int .i64 m] w (BtTo w (takeN d xs m) (takeL d xs m) (takeF d xs m) (takeB d xs m)) := by
  have E0 := (Full.new w 25 #[.int .i64 d, .slice A n c]).alloc (.cells #[.int .i64 0, .slice none 0 0] 25)
  have R0 := Full.newAt (w := w.alloc (.cells #[.int .i64 d, .slice A n c] 25)) (t := 25) (cs := #[.int .i64 0, .slice none 0 0]) (H := w.heap.size + 1) (by simp)
  have h0 := (h.alloc (.cells #[.int .i64 d, .slice A n c] 25)).alloc (.cells #[.int .i64 0, .slice none 0 0] 25)
  have G0 := gr_alloc (gr_alloc (gr_refl w none) (.cells #[.int .i64 d, .slice A n c] 25)) (.cells #[.int .i64 0, .slice none 0 0] 25)
  obtain ⟨b, hb⟩ : ∃ b, barB d xs = b := ⟨_, rfl⟩
  obtain ⟨bm, hbm⟩ : ∃ b, inR m 1 24 = b := ⟨_, rfl⟩
  have e1 := bv_is d A n c xs b _ h0 hb
  have e2 := fun w => many_is m bm w hbm
  have HB := hid hb
  have HBm := hid hbm
  have HT := hid (show takeB d xs m = (b && (bm && decide (d + m ≤ 100))) by rw [takeB, hb, hbm])
  have c0 := E0.cellAt 0 (v := .int .i64 d) rfl
  have c1 := E0.cellAt 1 (v := .slice A n c) rfl
  clear h hb hbm
  obtain ⟨rb, hrb⟩ : ∃ rb, w.heap.size + 1 = rb := ⟨_, rfl⟩
  rw [hrb] at R0
  have hrb1 : w.heap.size < rb := by omega
  go_enter Try.func24, Try.ntmps24
  go_wp2_with fail
  clear hrb
  refine e1.mono ?_
  rintro e w1 ⟨rfl, hg1⟩
  have h1 := h0.grown0 hg1
  have E1 := E0.grown hg1 (by simp)
  have R1 := R0.grown hg1 (by simp)
  have G1 := gr_0 G0 hg1
  have hs1 := G1.size
  clear e1 h0 E0 R0 G0 hg1 c0 c1
  have r0 := R1.cellAt 0 (v := .int .i64 0) rfl
  have r1 := R1.cellAt 1 (v := .slice none 0 0) rfl
  have f0 := R1.free 0
  have f1 := R1.free 1
  have NO := hid (show takeB d xs m = false → BtTo w (takeN d xs m) (takeL d xs m) (takeF d xs m) (takeB d xs m) (.returned (.tuple #[.agg #[.int .i64 0, .slice none 0 0], .int .i64 0, .bool false])) ((w1.setCell ⟨rb, 0, none⟩ (.int .i64 0)).setCell ⟨rb, 1, none⟩ (.slice none 0 0)) from fun hT => by
    obtain ⟨a1, a2, a3⟩ := take_no hT
    rw [a1, a2, a3, hT]
    exact ⟨none, 0, 0, rfl, Own.nil _, rfl, gr_put (gr_put G1 (by omega) _) (by omega) _⟩)
  cases b with
  | false =>
    have HF := hid (show takeB d xs m = false by rw [HT.out]; rfl)
    go_wp2_with fail
    refine bodyPost_ret (v := .tuple #[.agg #[.int .i64 0, .slice none 0 0], .int .i64 0, .bool false]) ?_ rfl (NO.out HF.out)
    simp [results, Try.results24, go_sem, r0, r1]
  | true =>
    go_wp2_with fail
    refine (e2 _).mono ?_
    rintro e w_ ⟨rfl, rfl⟩
    clear e2
    cases bm with
    | false =>
      have HF := hid (show takeB d xs m = false by rw [HT.out]; rfl)
      go_wp2_with fail
      refine bodyPost_ret (v := .tuple #[.agg #[.int .i64 0, .slice none 0 0], .int .i64 0, .bool false]) ?_ rfl (NO.out HF.out)
      simp [results, Try.results24, go_sem, r0, r1]
    | true =>
      have c0 := E1.cellAt 0 (v := .int .i64 d) rfl
      have c1 := E1.cellAt 1 (v := .slice A n c) rfl
      have hdd := (barB_parts HB.out).1
      have hmm : 1 ≤ m ∧ m ≤ 24 := by have := HBm.out; simpa [inR] using this
      obtain ⟨hd, hd'⟩ := hdd
      obtain ⟨hm, hm'⟩ := hmm
      rcases (by omega : 100 < d + m ∨ d + m ≤ 100) with q | q
      · have HF := hid (show takeB d xs m = false by rw [HT.out, decide_eq_false (by omega : ¬ d + m ≤ 100)]; rfl)
        go_wp2_with fail
        refine bodyPost_ret (v := .tuple #[.agg #[.int .i64 0, .slice none 0 0], .int .i64 0, .bool false]) ?_ rfl (NO.out HF.out)
        simp [results, Try.results24, go_sem, r0, r1]
      · have HF := hid (show takeB d xs m = true by rw [HT.out, decide_eq_true q]; rfl)
        have HY := hid (take_yes HF.out)
        obtain ⟨k, rfl⟩ := Int.eq_ofNat_of_zero_le (show 0 ≤ m by omega)
        have hnl := barB_len HB.out
        have hn := h1.len
        have hn100 : n ≤ 100 := by omega
        have e3 := heapOf_any A n c xs w1 h1.li h1.len h1.cap h1.max (by omega)
        clear NO HBm HT hnl hn h1 f0 f1 r0 r1
        go_wp2_with fail
        refine e3.mono ?_
        rintro e w2 ⟨hb, A2, c2, ys, rfl, hH, hp, hf, hg2⟩
        have E2 := E1.grown hg2 (by simp)
        have R2 := R1.grown hg2 (by simp)
        have G2 := gr_0 G1 hg2
        have HP := hid (show ys.Perm (xs ++ news d 0) by simpa [news] using hp)
        have HF2 := hid hf
        have HH := hid hH
        have hB := hH.ge
        have hEl := E1.lt
        have hRl := R1.lt
        have hs2 := hg2.size
        clear e3 E1 R1 G1 hg2 hp hf hH c0 c1
        have c0 := E2.cellAt 0 (v := .int .i64 d) rfl
        have HE2 := hid E2
        have HR2 := hid R2
        clear E2 R2
        go_wp2_with fail
        go_loopw [8] (fun v wr => ∃ (j : Nat) (A' : Option Addr) (c' : Nat) (ys : List Int), v = .int .i64 (d + (j : Int)) ∧ j ≤ k ∧ Hp wr w1.heap.size hb A' (n + j) c' ys ∧ HeapFrom 0 (n + j) ys ∧ ys.Perm (xs ++ news d j) ∧ Full wr w.heap.size 25 #[.int .i64 d, .slice A n c] ∧ Full wr rb 25 #[.int .i64 0, .slice none 0 0] ∧ w.grownBy wr none) (fun v _ => (d + k - intOf v).toNat)
        case atStart => exact ⟨0, A2, c2, ys, by simp, by omega, HH.out, HF2.out, HP.out, HE2.out, HR2.out, G2⟩
        case round =>
          clear HH HF2 HP HE2 HR2 G2 c0
          obtain ⟨j, A', c', ys, rfl, hjk, hH, hf, hp, hE, hR, hG⟩ := hrel
          have c0 := hE.cellAt 0 (v := .int .i64 d) rfl
          have hAb := fun b hb => (hH.own.block (b := b) hb).1
          have HP := hid hp
          clear hp
          rcases (by omega : j < k ∨ j = k) with hlt | hlt
          · have d1 : decide (d + (j : Int) < d + (k : Int)) = true := by simp; omega
            have e4 := hpush_any w1.heap.size hb A' (n + j) c' ys (d + (j : Int)) wr hH hf (by omega)
            have HFo := hid hf
            clear hH hf
            go_wp2_with fail
            refine e4.mono ?_
            rintro e w3 ⟨A3, c3, zs, rfl, h3, hp3, hf3, hT3, hb3⟩
            have hE3 := hE.two hT3 (by simp; omega) (fun e => by have := hAb _ e.symm; omega)
            have hR3 := hR.two hT3 (by simp; omega) (fun e => by have := hAb _ e.symm; omega)
            have hG3 := hT3.gr hG (fun g hg => by injection hg with hg; omega) (fun g hg => by have := hAb g hg; omega)
            have HP3 := hid (show zs.Perm (xs ++ news d (j + 1)) by
              rw [news_next, ← List.append_assoc]
              exact hp3.trans (HP.out.append_right _))
            have HF3 := hid (hf3)
            clear e4 hE hR hG hT3 hp3 hf3 hb3 c0 hAb
            go_wp2_with fail
            go_roundw
            case rel => exact ⟨j + 1, A3, c3, zs, by first | rfl | (simp; omega) | (congr 1; omega), by omega, h3, HF3.out HFo.out, HP3.out, hE3, hR3, hG3⟩
            case measure => simp [intOf]; omega
          · subst hlt
            have d1 : decide (d + (j : Int) < d + (j : Int)) = false := by simp
            have i1 : IntKind.i64.wrap (d + (j : Int)) = d + j := IntWalk.i64_in _ (by omega)
            have HAs := hid (asc_sorted (asc_take (m := j) HB.out))
            have HH := hid hH
            have HF2 := hid hf
            have HE2 := hid hE
            have HR2 := hid hR
            have hwl := hE.lt
            have hrl := hR.lt
            have hAb2 := fun b hb => (hH.own.block (b := b) hb).1
            clear hH hf hE hR
            have nr1 : w.heap.size ≠ rb := by omega
            have nr2 : rb ≠ w.heap.size := by omega
            go_wp2_with fail
            go_region_held3 (fun w' => w'.cell? ⟨w.heap.size, 0, none⟩ = some (.int .i64 d)) (go_keep)
              ((go_at_call 40
                refine (drain_any w1.heap.size hb A' (n + j) c' ys _ (HH.out.kept0 (gr_drew (gr_refl wr none))) HF2.out (by omega)).mono ?_
                rintro e w4 ⟨L, cL, zs, rfl, hO4, hl4, hso4, hp4, hT4⟩
                have E4 := (HE2.out.drew).two hT4 (by simp; omega) (fun e => by have := hAb2 _ e.symm; omega)
                have R4 := (HR2.out.drew).two hT4 (by simp; omega) (fun e => by have := hAb2 _ e.symm; omega)
                have G4 := hT4.gr (gr_drew hG) (fun g hg => by injection hg with hg; omega) (fun g hg => by have := hAb2 g hg; omega)
                have HZ := hid (sorted_perm hso4 HAs.out (hp4.trans HP.out))
                have x0 := E4.cellAt 0 (v := .int .i64 d) rfl
                have r0 := R4.cellAt 0 (v := .int .i64 0) rfl
                have r1 := R4.cellAt 1 (v := .slice none 0 0) rfl
                have f0 := R4.free 0
                have f1 := R4.free 1))
            all_goals
              have hsw := hG.size
              have O5 := ((hO4.put R4 (by decide) 0 (.int .i64 (d + (j : Int)))).put (R4.set 0 _) (by decide) 1 (.slice L (n + j) cL)).base_le (show w.heap.size ≤ wr.drew.heap.size by simpa using hsw)
              have HL4 := hid hl4
              clear hso4 hp4 hT4 hl4 hO4
              go_wp2_with fail
              refine bodyPost_ret (v := .tuple #[.agg #[.int .i64 (d + (j : Int)), .slice L (n + j) cL], .int .i64 d, .bool true]) ?_ rfl ?_
              · simp [results, Try.results24, go_sem, r0, r1]
              · obtain ⟨y1, y2, y3⟩ := HY.out
                rw [y1, y2, y3, HF.out]
                refine ⟨L, n + j, cL, rfl, ?_, ?_, gr_put (gr_put G4 (by omega) _) (by omega) _⟩
                · rw [show ((j : Int)).toNat = j from Int.toNat_natCast j, ← HZ.out]; exact O5
                · rw [show ((j : Int)).toNat = j from Int.toNat_natCast j, ← HZ.out]; exact HL4.out
end Go.Proofs.Ytfcammfdengdbaa
