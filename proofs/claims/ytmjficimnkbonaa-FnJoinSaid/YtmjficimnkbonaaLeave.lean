/- A group without a member: l33Has, GroupLeave in spec and in impl. -/
import Derived.Test.YtmjficimnkbonaaGrp
import Derived.Test.YtmjficimnkbonaaOwnSet
import Derived.Test.YtmjficimnkbonaaApp
import Derived.Test.YtmjficimnkbonaaGrpTo
namespace Go.Proofs.Ytmjficimnkbonaa
open Go.RowKit

/-- Whether a text is among others. -/
def hasB (m : ByteArray) (ms : List ByteArray) : Bool := ms.any fun x => decide (x = m)
theorem hasB_iff {m : ByteArray} {ms : List ByteArray} : hasB m ms = true ↔ m ∈ ms := by
  simp only [hasB, List.any_eq_true, decide_eq_true_eq]
  exact ⟨fun ⟨x, hx, e⟩ => e ▸ hx, fun h => ⟨m, h, rfl⟩⟩
theorem hasB_no {m : ByteArray} {ms : List ByteArray} (h : m ∉ ms) : hasB m ms = false := by rw [Bool.eq_false_iff]; exact fun e => h (hasB_iff.1 e)
/-- The members but one. -/
def rest (m : ByteArray) (ms : List ByteArray) : List ByteArray := ms.filter fun x => decide (x ≠ m)
theorem rest_yes {m : ByteArray} {ms : List ByteArray} {k : Nat} (hk : k < ms.length) (h : ms[k] ≠ m) : rest m (ms.take (k + 1)) = rest m (ms.take k) ++ [ms[k]] := by
  unfold rest
  rw [List.take_succ_eq_append_getElem hk, List.filter_append]
  simp [h]
theorem rest_no {m : ByteArray} {ms : List ByteArray} {k : Nat} (hk : k < ms.length) (h : ms[k] = m) : rest m (ms.take (k + 1)) = rest m (ms.take k) := by
  unfold rest
  rw [List.take_succ_eq_append_getElem hk, List.filter_append]
  simp [h]
theorem rest_len (m : ByteArray) (ms : List ByteArray) (k : Nat) : (rest m (ms.take k)).length ≤ k := by
  have := List.length_filter_le (fun x => decide (x ≠ m)) (ms.take k)
  rw [List.length_take] at this
  unfold rest
  omega
theorem rest_eq {m : ByteArray} {ms : List ByteArray} : (rest m ms).length = ms.length ↔ m ∉ ms := by
  unfold rest
  rw [List.length_filter_eq_length_iff]
  constructor
  · intro h hm
    have := h m hm
    simp at this
  · intro h x hx
    simp only [ne_eq, decide_not, Bool.not_eq_eq_eq_not, Bool.not_true, decide_eq_false_iff_not]
    exact fun e => h (by rw [← e]; exact hx)
theorem rest_mem {m x : ByteArray} {ms : List ByteArray} (h : x ∈ rest m ms) : x ∈ ms := (List.mem_filter.1 h).1
noncomputable def leaveB (s : Int) (ms : List ByteArray) (m : ByteArray) : Bool := grpB s ms && (hasB m ms && grpB s (rest m ms))
noncomputable def leaveN (s : Int) (ms : List ByteArray) (m : ByteArray) : Int := if leaveB s ms m = true then s else 0
noncomputable def leaveL (s : Int) (ms : List ByteArray) (m : ByteArray) : List ByteArray := if leaveB s ms m = true then rest m ms else []
theorem leave_no {s : Int} {ms : List ByteArray} {m : ByteArray} (h : leaveB s ms m = false) : leaveN s ms m = 0 ∧ leaveL s ms m = [] := by simp [leaveN, leaveL, h]
theorem leave_yes {s : Int} {ms : List ByteArray} {m : ByteArray} (h : leaveB s ms m = true) : leaveN s ms m = s ∧ leaveL s ms m = rest m ms := by simp [leaveN, leaveL, h]
theorem leave_mem {s : Int} {ms : List ByteArray} {m x : ByteArray} (h : x ∈ leaveL s ms m) : x ∈ ms := by
  unfold leaveL at h
  split at h
  · exact rest_mem h
  · simp at h

/-- What GroupLeave leaves. -/
def GlTo (w : World) (s : Int) (l : List ByteArray) (b : Bool) (e : Ending) (w' : World) : Prop :=
  ∃ (A : Option Addr) (n c : Nat), e = .returned (.tuple #[.agg #[.int .i64 s, .slice A n c], .bool b]) ∧ Own w' w.heap.size 9 1 A n c (strs l) ∧ l.length = n ∧ w.grownBy w' none
theorem lies_lit1s (w : World) (v : Value) (t : TypeId) {H : Nat} (hH : w.heap.size = H) : Lies (w.alloc (.cells #[v] t)) (some ⟨H, 0, none⟩) [v] := by
  refine .inr ⟨H, 0, rfl, ?_⟩
  intro j u hj
  rw [Nat.zero_add]
  exact (Full.newAt hH).cellAt j (by simpa using hj)

set_option maxHeartbeats 1000000 in
theorem l33h_is (s : Int) (A : Option Addr) (n c : Nat) (ms : List ByteArray) (m : ByteArray) (b : Bool) (w : World) (h : SArg w A n c ms) (hb : hasB m ms = b) :
    Calls Try.prog 49 #[.agg #[.int .i64 s, .slice A n c], .string m] w fun e w' => e = .returned (.bool b) ∧ w.grownBy w' none := by
  have hli := h.li
  have hc := h.cap
  have hm := h.max
  unfold maxLen at hm
  have HN := hid h.len
  have HB := hid hb
  clear h hb
  have hL := hli.alloc (.cells #[.int .i64 s, .slice A n c] 25)
  have F0 := Full.new w 25 #[.int .i64 s, .slice A n c]
  have G0 := World.grownBy_alloc w (.cells #[.int .i64 s, .slice A n c] 25) none
  have c1 := F0.cellAt 1 (v := .slice A n c) rfl
  clear F0
  go_enter Try.func49, Try.ntmps49
  go_wp2_with fail
  go_loop [5] (fun i => ∃ k : Nat, i = .int .i64 k ∧ k ≤ n ∧ (∀ y ∈ ms.take k, y ≠ m)) (fun i => n - (intOf i).toNat)
  case atStart => exact ⟨0, rfl, by omega, by simp⟩
  case round =>
    obtain ⟨k, rfl, hkn, hno⟩ := hrel
    have HNo := hid hno
    clear hno
    by_cases hlt : k < n
    · have hkl : k < ms.length := by rw [HN.out]; omega
      obtain ⟨g, o, hA, hg, hcell⟩ := hL.open_ (by rw [strs_len]; omega)
      obtain rfl := hA
      have cx := strAt' hcell hkl
      clear hcell
      obtain ⟨y, hy⟩ : ∃ y, ms[k] = y := ⟨_, rfl⟩
      rw [hy] at cx
      have HY := hid hy
      clear hy
      obtain ⟨q, hq⟩ : ∃ q, (y.toList == m.toList) = q := ⟨_, rfl⟩
      have HQ := hid (show decide (y = m) = q by rw [← hq, beq_bytes])
      cases q with
      | true =>
        have HE := hid (show b = true by rw [← HB.out]; exact hasB_iff.2 (by rw [← of_decide_eq_true HQ.out, ← HY.out]; exact List.getElem_mem hkl))
        go_wp2_with fail
        go_ret
        exact ⟨ret_bool HE.out.symm, G0⟩
      | false =>
        have HE := hid (show ∀ z ∈ ms.take (k + 1), z ≠ m from fun z hz => by
          rw [List.take_succ_eq_append_getElem hkl] at hz
          rcases List.mem_append.1 hz with hz | hz
          · exact HNo.out z hz
          · rw [List.mem_singleton.1 hz, HY.out]; exact of_decide_eq_false HQ.out)
        go_wp2_with fail
        go_round
        case rel => exact ⟨k + 1, by go_num, by omega, HE.out⟩
        case measure => simp [intOf]; omega
    · have HE := hid (show b = false by
        rw [← HB.out]
        refine hasB_no fun hx => ?_
        exact HNo.out m (by rw [List.take_of_length_le (by rw [HN.out]; omega)]; exact hx) rfl)
      go_wp2_with fail
      go_ret
      exact ⟨ret_bool HE.out.symm, G0⟩

set_option maxHeartbeats 4000000 in
theorem sgl_any (s : Int) (A : Option Addr) (n c : Nat) (ms : List ByteArray) (m : ByteArray) (w : World) (h : SArg w A n c ms) :
    Calls Try.prog 33 #[.agg #[.int .i64 s, .slice A n c], .string m] w (GlTo w (leaveN s ms m) (leaveL s ms m) (leaveB s ms m)) := by
  have HAb := hid (show 0 < n → ∀ g, blockOf A = some g → g < w.heap.size from fun hn g hg => by
    obtain ⟨g', o, rfl, hlt, _⟩ := h.li.open_ (by rw [strs_len, h.len]; exact hn)
    injection hg with hg
    rw [← hg]; exact hlt)
  have E0 := (Full.new w 25 #[.int .i64 s, .slice A n c]).alloc (.cells #[.int .i64 0, .slice none 0 0] 25)
  have R0 := Full.newAt (w := w.alloc (.cells #[.int .i64 s, .slice A n c] 25)) (t := 25) (cs := #[.int .i64 0, .slice none 0 0]) (H := w.heap.size + 1) (by simp)
  have h0 := (h.alloc (.cells #[.int .i64 s, .slice A n c] 25)).alloc (.cells #[.int .i64 0, .slice none 0 0] 25)
  have G0 := gr_alloc (gr_alloc (gr_refl w none) (.cells #[.int .i64 s, .slice A n c] 25)) (.cells #[.int .i64 0, .slice none 0 0] 25)
  obtain ⟨b, hb⟩ : ∃ b, grpB s ms = b := ⟨_, rfl⟩
  obtain ⟨bh, hbh⟩ : ∃ b, hasB m ms = b := ⟨_, rfl⟩
  obtain ⟨br, hbr⟩ : ∃ b, grpB s (rest m ms) = b := ⟨_, rfl⟩
  have e1 := sgv_is s A n c ms b _ h0 hb
  have HB := hid hb
  have HBh := hid hbh
  have HBr := hid hbr
  have HT := hid (show leaveB s ms m = (b && (bh && br)) by rw [leaveB, hb, hbh, hbr])
  have c0 := E0.cellAt 0 (v := .int .i64 s) rfl
  have c1 := E0.cellAt 1 (v := .slice A n c) rfl
  clear h hb hbh hbr
  obtain ⟨rb, hrb⟩ : ∃ rb, w.heap.size + 1 = rb := ⟨_, rfl⟩
  rw [hrb] at R0
  have hrb1 : w.heap.size < rb := by omega
  go_enter Try.func33, Try.ntmps33
  go_wp2_with fail
  clear hrb
  refine e1.mono ?_
  rintro e w1 ⟨rfl, hg1⟩
  have h1 := h0.grown0 hg1
  have E1 := E0.grown hg1 (by simp)
  have R1 := R0.grown hg1 (by simp)
  have G1 := gr_0 G0 hg1
  have hs1 := G1.size
  clear e1 h0 E0 R0 G0 hg1 c0 c1
  cases b with
  | false =>
    have HF := hid (show leaveB s ms m = false by rw [HT.out]; rfl)
    have r0 := R1.cellAt 0 (v := .int .i64 0) rfl
    have r1 := R1.cellAt 1 (v := .slice none 0 0) rfl
    have f0 := R1.free 0
    have f1 := R1.free 1
    have NO := hid (show leaveB s ms m = false → GlTo w (leaveN s ms m) (leaveL s ms m) (leaveB s ms m) (.returned (.tuple #[.agg #[.int .i64 0, .slice none 0 0], .bool false])) ((w1.setCell ⟨rb, 0, none⟩ (.int .i64 0)).setCell ⟨rb, 1, none⟩ (.slice none 0 0)) from fun hT => by
      obtain ⟨a1, a2⟩ := leave_no hT
      rw [a1, a2, hT]
      exact ⟨none, 0, 0, rfl, Own.nil _, rfl, gr_put (gr_put G1 (by omega) _) (by omega) _⟩)
    go_wp2_with fail
    refine bodyPost_ret (v := .tuple #[.agg #[.int .i64 0, .slice none 0 0], .bool false]) ?_ rfl (NO.out HF.out)
    simp [results, Try.results33, go_sem, r0, r1]
  | true =>
    have e2 := l33h_is s A n c ms m bh _ h1 HBh.out
    have c0 := E1.cellAt 0 (v := .int .i64 s) rfl
    have c1 := E1.cellAt 1 (v := .slice A n c) rfl
    go_wp2_with fail
    refine e2.mono ?_
    rintro e w2 ⟨rfl, hg2⟩
    have h2 := h1.grown0 hg2
    have E2 := E1.grown hg2 (by simp)
    have R2 := R1.grown hg2 (by simp)
    have G2 := gr_0 G1 hg2
    clear e2 h1 E1 R1 G1 hg2 c0 c1
    cases bh with
    | false =>
      have HF := hid (show leaveB s ms m = false by rw [HT.out]; rfl)
      have r0 := R2.cellAt 0 (v := .int .i64 0) rfl
      have r1 := R2.cellAt 1 (v := .slice none 0 0) rfl
      have f0 := R2.free 0
      have f1 := R2.free 1
      have NO := hid (show leaveB s ms m = false → GlTo w (leaveN s ms m) (leaveL s ms m) (leaveB s ms m) (.returned (.tuple #[.agg #[.int .i64 0, .slice none 0 0], .bool false])) ((w2.setCell ⟨rb, 0, none⟩ (.int .i64 0)).setCell ⟨rb, 1, none⟩ (.slice none 0 0)) from fun hT => by
        obtain ⟨a1, a2⟩ := leave_no hT
        rw [a1, a2, hT]
        exact ⟨none, 0, 0, rfl, Own.nil _, rfl, gr_put (gr_put G2 (by omega) _) (by omega) _⟩)
      go_wp2_with fail
      refine bodyPost_ret (v := .tuple #[.agg #[.int .i64 0, .slice none 0 0], .bool false]) ?_ rfl (NO.out HF.out)
      simp [results, Try.results33, go_sem, r0, r1]
    | true =>
      obtain ⟨⟨hs1', hs8⟩, ⟨hn1, hn6⟩, _⟩ := grpB_iff.1 HB.out
      have hNl := h2.len
      have hn6' : n ≤ 6 := by omega
      have HN := hid h2.len
      have c0 := E2.cellAt 0 (v := .int .i64 s) rfl
      have I2 := (h2.alloc (.cells #[] 9)).alloc (.cells #[.int .i64 s, .slice (some ⟨w2.heap.size, 0, none⟩) 0 0] 25)
      have E3 := (E2.alloc (.cells #[] 9)).alloc (.cells #[.int .i64 s, .slice (some ⟨w2.heap.size, 0, none⟩) 0 0] 25)
      have R3 := (R2.alloc (.cells #[] 9)).alloc (.cells #[.int .i64 s, .slice (some ⟨w2.heap.size, 0, none⟩) 0 0] 25)
      have O3 := (Own.empty (e := 9) (s := 1) w2 (Nat.le_refl _)).alloc (.cells #[.int .i64 s, .slice (some ⟨w2.heap.size, 0, none⟩) 0 0] 25)
      have X3 := Full.newAt (w := w2.alloc (.cells #[] 9)) (t := 25) (cs := #[.int .i64 s, .slice (some ⟨w2.heap.size, 0, none⟩) 0 0]) (H := w2.heap.size + 1) (by simp)
      have G3 := gr_alloc (gr_alloc G2 (.cells #[] 9)) (.cells #[.int .i64 s, .slice (some ⟨w2.heap.size, 0, none⟩) 0 0] 25)
      have hs2 := G2.size
      have hE0 := E2.lt
      have hR0 := R2.lt
      have HI2 := hid I2
      have HE2 := hid E3
      have HR2 := hid R3
      have HO2 := hid O3
      have HX2 := hid X3
      clear hn1 hn6 hNl h2 E2 R2 I2 E3 R3 O3 X3 G2
      go_wp2_with fail
      clear c0
      go_loopw [7] (fun v wr => ∃ (i q : Nat) (B : Option Addr) (cB : Nat), v = .int .i64 (i : Int) ∧ i ≤ n ∧ (rest m (ms.take i)).length = q ∧ Own wr w2.heap.size 9 1 B q cB (strs (rest m (ms.take i))) ∧ Full wr (w2.heap.size + 1) 25 #[.int .i64 s, .slice B q cB] ∧ SArg wr A n c ms ∧ Full wr w.heap.size 25 #[.int .i64 s, .slice A n c] ∧ Full wr rb 25 #[.int .i64 0, .slice none 0 0] ∧ w.grownBy wr none) (fun v _ => n - (intOf v).toNat)
      case atStart => exact ⟨0, 0, _, 0, rfl, by omega, rfl, HO2.out, HX2.out, HI2.out, HE2.out, HR2.out, G3⟩
      case round =>
        clear HI2 HE2 HR2 HO2 HX2 G3
        obtain ⟨i, q, B, cB, rfl, hin, hq, hO, hX, hI, hE, hR, hG⟩ := hrel
        have HQ := hid hq
        have hqi : q ≤ i := by rw [← hq]; exact rest_len m ms i
        clear hq
        have c1 := hE.cellAt 1 (v := .slice A n c) rfl
        have hsw := hG.size
        have hXl := hX.lt
        by_cases hlt : i < n
        · have hil : i < ms.length := by rw [HN.out]; exact hlt
          obtain ⟨g, o, hA, _, hcell⟩ := hI.li.open_ (by rw [strs_len]; omega)
          have hgw := HAb.out (by omega) g (by rw [hA]; rfl)
          obtain rfl := hA
          have cx := strAt' hcell hil
          clear hcell
          have HYes := hid (rest_yes (m := m) hil)
          have HNo := hid (rest_no (m := m) hil)
          obtain ⟨x, hx⟩ : ∃ x, ms[i] = x := ⟨_, rfl⟩
          simp only [hx] at cx HYes HNo
          clear hx
          have b1 : (0 : Int) ≤ (i : Int) := by omega
          have b2 : (i : Int) < (n : Int) := by omega
          obtain ⟨qb, hqb⟩ : ∃ q, (x.toList == m.toList) = q := ⟨_, rfl⟩
          have HQb := hid (show decide (x = m) = qb by rw [← hqb, beq_bytes])
          cases qb with
          | false =>
            have HY := hid (HYes.out (of_decide_eq_false HQb.out))
            clear HYes HNo
            have hne := hO.ne_full hX (by decide)
            have hAb := fun b hb => (hO.block (b := b) hb)
            have x1 := hX.cellAt 1 (v := .slice B q cB) rfl
            have ne1 : w2.heap.size + 1 ≠ wr.heap.size := by omega
            have ne2 : wr.heap.size ≠ w2.heap.size + 1 := by omega
            go_wp2_with fail
            go_region_law
              ((refine step_app _ rfl (.tmp 37) (.tmp 43) 23 rfl w2.heap.size 9 Try.underlying23 strInfo rfl (by omega) B q cB (strs (rest m (ms.take i))) (by rfl) (hO.drew.alloc (.cells #[.string x] 9)) (some ⟨wr.heap.size, 0, none⟩) 1 1 [.string x] (by rfl) (lies_lit1s _ _ _ (by simp)) (by rfl) (by intro u hu; simp at hu; subst hu; rfl) (by omega) (by omega) (by simp; omega) ?_
                intro A' c' wz hown hgz hbz
                have Xz := (hX.drew.alloc (.cells #[.string x] 9)).grown hgz (fun e => hne _ e.symm rfl)
                have z1 := Xz.cellAt 1 (v := .slice B q cB) rfl
                have zf := Xz.free 1))
            all_goals
              have EZ := (hE.drew.alloc (.cells #[.string x] 9)).grown hgz (fun e => by have := (hAb _ e.symm).1; omega)
              have RZ := (hR.drew.alloc (.cells #[.string x] 9)).grown hgz (fun e => by have := (hAb _ e.symm).1; omega)
              have GZ := gr_then (gr_alloc (gr_drew hG) (.cells #[.string x] 9)) hgz (fun b hb => .inr (by have := (hAb b hb).1; omega))
              have LZ : Lies wz (some ⟨g, o, none⟩) (strs ms) := (Lies.alloc (hI.li.drew) (.cells #[.string x] 9)).grown hgz (fun b hb e => by have := (hAb _ e.symm).1; injection hb with hb; simp at hb; omega)
              have OZ : Own wz w2.heap.size 9 1 A' (q + 1) c' (strs (rest m (ms.take (i + 1)))) := by rw [HY.out, strs_app]; exact hown
              have X3 := Xz.set 1 (.slice A' (q + 1) c')
              have O3 := OZ.put Xz (by decide) 1 (.slice A' (q + 1) c')
              have E3 := EZ.far (p := ⟨w2.heap.size + 1, 1, none⟩) (by simp; omega) (.slice A' (q + 1) c')
              have R3 := RZ.far (p := ⟨w2.heap.size + 1, 1, none⟩) (by simp; omega) (.slice A' (q + 1) c')
              have L3 := LZ.setCell (p := ⟨w2.heap.size + 1, 1, none⟩) (fun b hb => by injection hb with hb; simp at hb; simp; omega) (.slice A' (q + 1) c')
              have G3 := gr_put (i := 1) (b := w2.heap.size + 1) GZ (by omega) (.slice A' (q + 1) c')
              have HO3 := hid O3
              have HX3 := hid X3
              have HI3 := hid (⟨L3, hI.len, hI.cap, hI.max, hI.sz⟩ : SArg _ (some ⟨g, o, none⟩) n c ms)
              clear hown hgz hbz hO hX hE hR OZ EZ RZ GZ LZ O3 X3 L3 Xz c1 cx x1
              go_wp2_with fail
              go_roundw
              case rel => exact ⟨i + 1, q + 1, A', c', by go_num, by omega, by rw [HY.out, List.length_append, HQ.out]; rfl, HO3.out, HX3.out, HI3.out, E3, R3, G3⟩
              case measure => simp [intOf]; omega
          | true =>
            have HY := hid (HNo.out (of_decide_eq_true HQb.out))
            have HO := hid hO
            have HI := hid hI
            have HX := hid hX
            clear HYes HNo hO hI hX
            go_wp2_with fail
            go_roundw
            case rel => exact ⟨i + 1, q, B, cB, by go_num, by omega, by rw [HY.out]; exact HQ.out, by rw [HY.out]; exact HO.out, HX.out, HI.out, hE, hR, hG⟩
            case measure => simp [intOf]; omega
        · obtain rfl : i = n := by omega
          have htk : ms.take i = ms := List.take_of_length_le (by rw [HN.out]; exact Nat.le_refl _)
          rw [htk] at hO
          have HQ2 := hid (show (rest m ms).length = q by have := HQ.out; rwa [htk] at this)
          have x0 := hX.cellAt 0 (v := .int .i64 s) rfl
          have x1 := hX.cellAt 1 (v := .slice B q cB) rfl
          have SZ := SArg.of_own hO HQ2.out (fun y hy => hI.sz y (rest_mem hy))
          have e3 := sgv_is s B q cB (rest m ms) br _ SZ HBr.out
          clear htk hI hE
          go_wp2_with fail
          refine e3.mono ?_
          rintro e w4 ⟨rfl, hg4⟩
          have X4 := hX.grown hg4 (by simp)
          have R4 := hR.grown hg4 (by simp)
          have O4 := hO.kept0 hg4
          have G4 := gr_0 hG hg4
          clear e3 hX hR hO hG hg4 x0 x1 SZ c1
          have r0 := R4.cellAt 0 (v := .int .i64 0) rfl
          have r1 := R4.cellAt 1 (v := .slice none 0 0) rfl
          have f0 := R4.free 0
          have f1 := R4.free 1
          cases br with
          | false =>
            have HF := hid (show leaveB s ms m = false by rw [HT.out]; rfl)
            have NO := hid (show leaveB s ms m = false → GlTo w (leaveN s ms m) (leaveL s ms m) (leaveB s ms m) (.returned (.tuple #[.agg #[.int .i64 0, .slice none 0 0], .bool false])) ((w4.setCell ⟨rb, 0, none⟩ (.int .i64 0)).setCell ⟨rb, 1, none⟩ (.slice none 0 0)) from fun hT => by
              obtain ⟨a1, a2⟩ := leave_no hT
              rw [a1, a2, hT]
              exact ⟨none, 0, 0, rfl, Own.nil _, rfl, gr_put (gr_put G4 (by omega) _) (by omega) _⟩)
            go_wp2_with fail
            refine bodyPost_ret (v := .tuple #[.agg #[.int .i64 0, .slice none 0 0], .bool false]) ?_ rfl (NO.out HF.out)
            simp [results, Try.results33, go_sem, r0, r1]
          | true =>
            have HF := hid (show leaveB s ms m = true by rw [HT.out]; rfl)
            have x0 := X4.cellAt 0 (v := .int .i64 s) rfl
            have x1 := X4.cellAt 1 (v := .slice B q cB) rfl
            have O5 := ((O4.put R4 (by decide) 0 (.int .i64 s)).put (R4.set 0 _) (by decide) 1 (.slice B q cB)).base_le (show w.heap.size ≤ w2.heap.size by omega)
            have HO5 := hid O5
            clear O4 O5
            go_wp2_with fail
            refine bodyPost_ret (v := .tuple #[.agg #[.int .i64 s, .slice B q cB], .bool true]) ?_ rfl ?_
            · simp [results, Try.results33, go_sem, r0, r1]
            · obtain ⟨y1, y2⟩ := leave_yes HF.out
              rw [y1, y2, HF.out]
              exact ⟨B, q, cB, rfl, HO5.out, HQ2.out, gr_put (gr_put G4 (by omega) _) (by omega) _⟩

set_option maxHeartbeats 4000000 in
theorem gl_any (s : Int) (A : Option Addr) (n c : Nat) (ms : List ByteArray) (m : ByteArray) (w : World) (h : SArg w A n c ms) :
    Calls Try.prog 34 #[.agg #[.int .i64 s, .slice A n c], .string m] w (GlTo w (leaveN s ms m) (leaveL s ms m) (leaveB s ms m)) := by
  have HAb := hid (show 0 < n → ∀ g, blockOf A = some g → g < w.heap.size from fun hn g hg => by
    obtain ⟨g', o, rfl, hlt, _⟩ := h.li.open_ (by rw [strs_len, h.len]; exact hn)
    injection hg with hg
    rw [← hg]; exact hlt)
  have E0 := (Full.new w 25 #[.int .i64 s, .slice A n c]).alloc (.cells #[.int .i64 0, .slice none 0 0] 25)
  have R0 := Full.newAt (w := w.alloc (.cells #[.int .i64 s, .slice A n c] 25)) (t := 25) (cs := #[.int .i64 0, .slice none 0 0]) (H := w.heap.size + 1) (by simp)
  have h0 := (h.alloc (.cells #[.int .i64 s, .slice A n c] 25)).alloc (.cells #[.int .i64 0, .slice none 0 0] 25)
  have G0 := gr_alloc (gr_alloc (gr_refl w none) (.cells #[.int .i64 s, .slice A n c] 25)) (.cells #[.int .i64 0, .slice none 0 0] 25)
  obtain ⟨b, hb⟩ : ∃ b, grpB s ms = b := ⟨_, rfl⟩
  obtain ⟨bh, hbh⟩ : ∃ b, hasB m ms = b := ⟨_, rfl⟩
  obtain ⟨br, hbr⟩ : ∃ b, grpB s (rest m ms) = b := ⟨_, rfl⟩
  have e1 := gv_is s A n c ms b _ h0 hb
  have HB := hid hb
  have HBh := hid hbh
  have HBr := hid hbr
  have HT := hid (show leaveB s ms m = (b && (bh && br)) by rw [leaveB, hb, hbh, hbr])
  have c0 := E0.cellAt 0 (v := .int .i64 s) rfl
  have c1 := E0.cellAt 1 (v := .slice A n c) rfl
  clear h hb hbh hbr
  obtain ⟨rb, hrb⟩ : ∃ rb, w.heap.size + 1 = rb := ⟨_, rfl⟩
  rw [hrb] at R0
  have hrb1 : w.heap.size < rb := by omega
  go_enter Try.func34, Try.ntmps34
  go_wp2_with fail
  clear hrb
  refine e1.mono ?_
  rintro e w1 ⟨rfl, hg1⟩
  have h1 := h0.grown0 hg1
  have E1 := E0.grown hg1 (by simp)
  have R1 := R0.grown hg1 (by simp)
  have G1 := gr_0 G0 hg1
  have hs1 := G1.size
  clear e1 h0 E0 R0 G0 hg1 c0 c1
  cases b with
  | false =>
    have HF := hid (show leaveB s ms m = false by rw [HT.out]; rfl)
    have r0 := R1.cellAt 0 (v := .int .i64 0) rfl
    have r1 := R1.cellAt 1 (v := .slice none 0 0) rfl
    have f0 := R1.free 0
    have f1 := R1.free 1
    have NO := hid (show leaveB s ms m = false → GlTo w (leaveN s ms m) (leaveL s ms m) (leaveB s ms m) (.returned (.tuple #[.agg #[.int .i64 0, .slice none 0 0], .bool false])) ((w1.setCell ⟨rb, 0, none⟩ (.int .i64 0)).setCell ⟨rb, 1, none⟩ (.slice none 0 0)) from fun hT => by
      obtain ⟨a1, a2⟩ := leave_no hT
      rw [a1, a2, hT]
      exact ⟨none, 0, 0, rfl, Own.nil _, rfl, gr_put (gr_put G1 (by omega) _) (by omega) _⟩)
    go_wp2_with fail
    refine bodyPost_ret (v := .tuple #[.agg #[.int .i64 0, .slice none 0 0], .bool false]) ?_ rfl (NO.out HF.out)
    simp [results, Try.results34, go_sem, r0, r1]
  | true =>
    obtain ⟨⟨hs1', hs8⟩, ⟨hn1, hn6⟩, _⟩ := grpB_iff.1 HB.out
    have hNl := h1.len
    have hn6' : n ≤ 6 := by omega
    have hn1' : 1 ≤ n := by omega
    have HN := hid h1.len
    have c1 := E1.cellAt 1 (v := .slice A n c) rfl
    have HI2 := hid (h1.alloc (.cells #[] 9))
    have HE2 := hid (E1.alloc (.cells #[] 9))
    have HR2 := hid (R1.alloc (.cells #[] 9))
    have HO2 := hid (Own.empty (e := 9) (s := 1) w1 (Nat.le_refl _))
    have G2 := gr_alloc G1 (.cells #[] 9)
    have hE0 := E1.lt
    have hR0 := R1.lt
    clear hn1 hn6 hNl h1 E1 R1
    go_wp2_with fail
    clear c1
    go_loopw [6, 18] (fun v i wr => ∃ (j q : Nat) (B : Option Addr) (cB : Nat), v = .slice B q cB ∧ i = .int .i64 (j : Int) ∧ j ≤ n ∧ (rest m (ms.take j)).length = q ∧ Own wr w1.heap.size 9 1 B q cB (strs (rest m (ms.take j))) ∧ SArg wr A n c ms ∧ Full wr w.heap.size 25 #[.int .i64 s, .slice A n c] ∧ Full wr rb 25 #[.int .i64 0, .slice none 0 0] ∧ w1.heap.size ≤ wr.heap.size ∧ w.grownBy wr none) (fun _ i _ => n - (intOf i).toNat)
    case atStart => exact ⟨0, 0, _, 0, rfl, rfl, by omega, rfl, HO2.out, HI2.out, HE2.out, HR2.out, by simp, G2⟩
    case round =>
      clear HI2 HE2 HR2 HO2 G2
      obtain ⟨j, q, B, cB, rfl, rfl, hjn, hq, hO, hI, hE, hR, hsw1, hG⟩ := hrel
      have HQ := hid hq
      have hqj : q ≤ j := by rw [← hq]; exact rest_len m ms j
      clear hq
      have hsw := hG.size
      by_cases hlt : j < n
      · have hjl : j < ms.length := by rw [HN.out]; exact hlt
        obtain ⟨g, o, hA, _, hcell⟩ := hI.li.open_ (by rw [strs_len]; omega)
        have hgw := HAb.out (by omega) g (by rw [hA]; rfl)
        obtain rfl := hA
        have cx := strAt' hcell hjl
        clear hcell
        have HYes := hid (rest_yes (m := m) hjl)
        have HNo := hid (rest_no (m := m) hjl)
        obtain ⟨x, hx⟩ : ∃ x, ms[j] = x := ⟨_, rfl⟩
        simp only [hx] at cx HYes HNo
        clear hx
        have b1 : (0 : Int) ≤ (j : Int) := by omega
        have b2 : (j : Int) < (n : Int) := by omega
        obtain ⟨qb, hqb⟩ : ∃ q, (x.toList == m.toList) = q := ⟨_, rfl⟩
        have HQb := hid (show decide (x = m) = qb by rw [← hqb, beq_bytes])
        cases qb with
        | false =>
          have HY := hid (HYes.out (of_decide_eq_false HQb.out))
          clear HYes HNo
          go_wp2_with (at_builtin; refine wpList_push _ rfl _ _ 23 rfl w1.heap.size 9 Try.underlying23 strInfo rfl (by omega) B q cB (strs (rest m (ms.take j))) rfl (hO.alloc (.cells #[.string x] 9)) _ 1 #[.string x] rfl (Full.newAt (by simp)) rfl (by intro u hu; simp at hu; subst hu; rfl) (by omega) (by omega) (by simp; omega) ?_; intro A' c' wz hown hgz hbz)
          have hBb := fun b hb => (hO.block (b := b) hb).1
          have hzs1 : w1.heap.size ≤ wz.heap.size := by have := hgz.size; simp at this; omega
          have EZ := (hE.alloc (.cells #[.string x] 9)).grown hgz (fun e => hO.ne_full hE (by decide) _ e.symm rfl)
          have RZ := (hR.alloc (.cells #[.string x] 9)).grown hgz (fun e => hO.ne_full hR (by decide) _ e.symm rfl)
          have LZ : Lies wz (some ⟨g, o, none⟩) (strs ms) := (hI.li.alloc (.cells #[.string x] 9)).grown hgz (fun b hb e => by have := hBb _ e.symm; injection hb with hb; simp at hb; omega)
          have GZ := gr_then (gr_alloc hG (.cells #[.string x] 9)) hgz (fun b hb => .inr (by have := hBb b hb; omega))
          have HIZ := hid (⟨LZ, hI.len, hI.cap, hI.max, hI.sz⟩ : SArg wz (some ⟨g, o, none⟩) n c ms)
          have HOZ := hid (show Own wz w1.heap.size 9 1 A' (q + 1) c' (strs (rest m (ms.take (j + 1)))) by rw [HY.out, strs_app]; exact hown)
          clear hown hgz hbz hO hE hR hI LZ hG
          go_wp2_with fail
          go_roundw
          case rel => exact ⟨j + 1, q + 1, A', c', by go_num, by go_num, by omega, by rw [HY.out, List.length_append, HQ.out]; rfl, HOZ.out, HIZ.out, EZ, RZ, hzs1, GZ⟩
          case measure => simp [intOf]; omega
        | true =>
          have HY := hid (HNo.out (of_decide_eq_true HQb.out))
          have HO := hid hO
          have HI := hid hI
          clear HYes HNo hO hI
          go_wp2_with fail
          go_roundw
          case rel => exact ⟨j + 1, q, B, cB, rfl, by go_num, by omega, by rw [HY.out]; exact HQ.out, by rw [HY.out]; exact HO.out, HI.out, hE, hR, hsw1, hG⟩
          case measure => simp [intOf]; omega
      · obtain rfl : j = n := by omega
        have htk : ms.take j = ms := List.take_of_length_le (by rw [HN.out]; exact Nat.le_refl _)
        rw [htk] at hO
        have HQ2 := hid (show (rest m ms).length = q by have := HQ.out; rwa [htk] at this)
        have HIff := hid (rest_eq (m := m) (ms := ms))
        have hOc := hO.cap
        have hOm := hO.max
        have c0 := hE.cellAt 0 (v := .int .i64 s) rfl
        have c1 := hE.cellAt 1 (v := .slice A j c) rfl
        have O4 := hO.alloc (.cells #[.int .i64 s, .slice B q cB] 25)
        have R4 := hR.alloc (.cells #[.int .i64 s, .slice B q cB] 25)
        have E4 := hE.alloc (.cells #[.int .i64 s, .slice B q cB] 25)
        have X4 := Full.new wr 25 #[.int .i64 s, .slice B q cB]
        have SZ := SArg.of_own O4 HQ2.out (fun y hy => hI.sz y (rest_mem hy))
        have G4 := gr_alloc hG (.cells #[.int .i64 s, .slice B q cB] 25)
        have e3 := gv_is s B q cB (rest m ms) br _ SZ HBr.out
        have hXw : w.heap.size ≤ wr.heap.size := hsw
        clear htk hI hE hO hR hG
        have hrbl := R4.lt
        have d1 := E4.cellAt 1 (v := .slice A j c) rfl
        have x0 := X4.cellAt 0 (v := .int .i64 s) rfl
        have x1 := X4.cellAt 1 (v := .slice B q cB) rfl
        have r0 := R4.cellAt 0 (v := .int .i64 0) rfl
        have r1 := R4.cellAt 1 (v := .slice none 0 0) rfl
        have f0 := R4.free 0
        have f1 := R4.free 1
        rcases (by omega : q = j ∨ q ≠ j) with hqe | hqe
        · have qd : ((q : Int) == (j : Int)) = true := by simp; omega
          have HF := hid (show leaveB s ms m = false by
            have := HIff.out.1 (by rw [HQ2.out, HN.out]; exact hqe)
            have hbf : bh = false := by rw [← HBh.out]; exact hasB_no this
            rw [HT.out, hbf]; rfl)
          have NO := hid (show leaveB s ms m = false → GlTo w (leaveN s ms m) (leaveL s ms m) (leaveB s ms m) (.returned (.tuple #[.agg #[.int .i64 0, .slice none 0 0], .bool false])) (((wr.alloc (.cells #[.int .i64 s, .slice B q cB] 25)).setCell ⟨rb, 0, none⟩ (.int .i64 0)).setCell ⟨rb, 1, none⟩ (.slice none 0 0)) from fun hT => by
            obtain ⟨a1, a2⟩ := leave_no hT
            rw [a1, a2, hT]
            exact ⟨none, 0, 0, rfl, Own.nil _, rfl, gr_put (gr_put G4 (by omega) _) (by omega) _⟩)
          have HQe := hid hqe
          clear hqe
          go_wp2_with fail
          refine bodyPost_ret (v := .tuple #[.agg #[.int .i64 0, .slice none 0 0], .bool false]) ?_ rfl (NO.out HF.out)
          simp [results, Try.results34, go_sem, r0, r1]
        · have qd : ((q : Int) == (j : Int)) = false := by simp; omega
          have HbT := hid (show bh = true by
            rw [← HBh.out]
            refine hasB_iff.2 (Classical.byContradiction fun hm => ?_)
            have := HIff.out.2 hm
            rw [HQ2.out, HN.out] at this
            exact hqe this)
          have HO4 := hid O4
          clear hqe O4 SZ
          go_wp2_with fail
          refine e3.mono ?_
          rintro e w5 ⟨rfl, hg5⟩
          have X5 := X4.grown hg5 (by simp)
          have R5 := R4.grown hg5 (by simp)
          have O5 := HO4.out.kept0 hg5
          have G5 := gr_0 G4 hg5
          clear e3 x0 x1 d1 r0 r1 f0 f1 X4 R4 E4 G4 hg5 c0 c1
          have r0 := R5.cellAt 0 (v := .int .i64 0) rfl
          have r1 := R5.cellAt 1 (v := .slice none 0 0) rfl
          have f0 := R5.free 0
          have f1 := R5.free 1
          cases br with
          | false =>
            have HF := hid (show leaveB s ms m = false by rw [HT.out, HbT.out]; rfl)
            have NO := hid (show leaveB s ms m = false → GlTo w (leaveN s ms m) (leaveL s ms m) (leaveB s ms m) (.returned (.tuple #[.agg #[.int .i64 0, .slice none 0 0], .bool false])) ((w5.setCell ⟨rb, 0, none⟩ (.int .i64 0)).setCell ⟨rb, 1, none⟩ (.slice none 0 0)) from fun hT => by
              obtain ⟨a1, a2⟩ := leave_no hT
              rw [a1, a2, hT]
              exact ⟨none, 0, 0, rfl, Own.nil _, rfl, gr_put (gr_put G5 (by omega) _) (by omega) _⟩)
            go_wp2_with fail
            refine bodyPost_ret (v := .tuple #[.agg #[.int .i64 0, .slice none 0 0], .bool false]) ?_ rfl (NO.out HF.out)
            simp [results, Try.results34, go_sem, r0, r1]
          | true =>
            have HF := hid (show leaveB s ms m = true by rw [HT.out, HbT.out]; rfl)
            have x0 := X5.cellAt 0 (v := .int .i64 s) rfl
            have x1 := X5.cellAt 1 (v := .slice B q cB) rfl
            have O6 := ((O5.put R5 (by decide) 0 (.int .i64 s)).put (R5.set 0 _) (by decide) 1 (.slice B q cB)).base_le (show w.heap.size ≤ w1.heap.size by omega)
            have HO6 := hid O6
            clear O5 O6
            go_wp2_with fail
            refine bodyPost_ret (v := .tuple #[.agg #[.int .i64 s, .slice B q cB], .bool true]) ?_ rfl ?_
            · simp [results, Try.results34, go_sem, r0, r1]
            · obtain ⟨y1, y2⟩ := leave_yes HF.out
              rw [y1, y2, HF.out]
              exact ⟨B, q, cB, rfl, HO6.out, HQ2.out, gr_put (gr_put G5 (by omega) _) (by omega) _⟩
end Go.Proofs.Ytmjficimnkbonaa
