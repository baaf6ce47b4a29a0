/- GroupShare, GroupMoves in impl and in spec. -/
import Derived.Test.YtmjficimnkbonaaGrpOwn
namespace Go.Proofs.Ytmjficimnkbonaa
open Go.RowKit

set_option maxHeartbeats 1000000 in
theorem pick58 (v1 v2 : Value) (s : Nat) (p : Nat → Bool) (w : World) (hs : s ≤ 8) (hp : Tells w 58 v1 v2 s p) :
    Calls Try.prog 57 #[.agg #[.int .i64 (s : Int)], .func (.func 58) #[] #[v1, v2]] w (IlTo w (picks s p)) := by
  have HP := hid hp
  have E0 := Full.new w 67 #[.int .i64 (s : Int)]
  have HO := hid (((Own.litAt (e := 3) (s := 1) (base := w.heap.size) (w.alloc (.cells #[.int .i64 (s : Int)] 67)) #[] 0 (by simp) (Nat.le_succ _) (by simp [maxLen]) rfl)))
  have G0 := gr_alloc (gr_alloc (gr_refl w none) (.cells #[.int .i64 (s : Int)] 67)) (.cells #[] 3)
  clear hp E0
  go_enter Try.func57, Try.ntmps57
  go_wp2_with fail
  go_loopw [5, 10] (fun v i wr => ∃ (k n : Nat) (A : Option Addr) (c : Nat), v = .slice A n c ∧ i = .int .i64 k ∧ k ≤ s ∧ (picks k p).length = n ∧ Own wr w.heap.size 3 1 A n c (ints (picks k p)) ∧ w.grownBy wr none) (fun _ i _ => s - (intOf i).toNat)
  case atStart => exact ⟨0, 0, _, 0, rfl, rfl, by omega, rfl, HO.out, G0⟩
  case round =>
    clear HO G0
    obtain ⟨k, n, A, c, rfl, rfl, hks, hn, hO, hG⟩ := hrel
    have hnk : n ≤ k := by rw [← hn]; exact picks_len k p
    have HN := hid hn
    clear hn
    by_cases hlt : k < s
    · obtain ⟨b, hb⟩ : ∃ b, p k = b := ⟨_, rfl⟩
      have e1 := HP.out k wr hlt hG
      rw [hb] at e1
      have HB := hid hb
      clear hb
      go_wp2_with fail
      refine e1.mono ?_
      rintro e w1 ⟨rfl, hg1⟩
      have O1 := hO.kept0 hg1
      have G1 := gr_0 hG hg1
      have hs1 := G1.size
      clear e1 hO hG hg1
      cases b with
      | false =>
        have HE := hid (picks_next_no HB.out)
        have HO1 := hid O1
        clear O1
        go_wp2_with fail
        go_roundw
        case rel => exact ⟨k + 1, n, A, c, rfl, by go_num, by omega, by rw [HE.out]; exact HN.out, by rw [HE.out]; exact HO1.out, G1⟩
        case measure => simp [intOf]; omega
      | true =>
        have HE := hid (picks_next_yes HB.out)
        go_wp2_with (at_builtin; refine wpList_push _ rfl _ _ 43 rfl w.heap.size 3 Try.underlying43 intInfo rfl (by omega) A n c (ints (picks k p)) rfl (O1.alloc (.cells #[.int .i64 (k : Int)] 3)) _ 1 #[.int .i64 (k : Int)] rfl (Full.newAt (by simp)) rfl (by intro u hu; simp at hu; subst hu; rfl) (by omega) (by omega) (by simp; omega) ?_; intro A' c' wz hown hgz _)
        have GZ := gr_then (gr_alloc G1 (.cells #[.int .i64 (k : Int)] 3)) hgz (fun b hb => .inr (O1.block hb).1)
        have HO1 := hid (show Own wz w.heap.size 3 1 A' (n + 1) c' (ints (picks (k + 1) p)) by rw [HE.out, ints_app]; exact hown)
        clear hown hgz O1 G1
        go_wp2_with fail
        go_roundw
        case rel => exact ⟨k + 1, n + 1, A', c', by go_num, by go_num, by omega, by rw [HE.out, List.length_append, HN.out]; rfl, HO1.out, GZ⟩
        case measure => simp [intOf]; omega
    · obtain rfl : k = s := by omega
      go_wp2_with fail
      go_ret
      exact ⟨A, n, c, rfl, hO, HN.out, hG⟩

set_option maxHeartbeats 1000000 in
theorem sh1_tells (s : Int) (A : Option Addr) (n c : Nat) (ms : List ByteArray) (m : ByteArray) (tb mb : Nat) (w : World) (h : SArg w A n c ms) (hn : 0 < n) (ht : Full w tb 69 #[.int .i64 s, .slice A n c]) (hm : Full w mb 9 #[.string m]) (k : Nat) (hk : k ≤ 8) :
    Tells w 61 (.pointer (some ⟨tb, 0, none⟩)) (.pointer (some ⟨mb, 0, none⟩)) k (fun i => decide (ownr ms i = m)) := by
  intro i w' hi hg
  have hH := hid (h.grown0 hg)
  have ht' := ht.grown hg (by simp)
  have hm' := hm.grown hg (by simp)
  have k0 := fun d os => cell_regrown (ht'.cellAt 0 (v := .int .i64 s) rfl) d os
  have k1 := fun d os => cell_regrown (ht'.cellAt 1 (v := .slice A n c) rfl) d os
  have k2 := fun d os => cell_regrown (hm'.cellAt 0 (v := .string m) rfl) d os
  have e1 := fun w h => owner_any s A n c ms i w h hn (by omega)
  obtain ⟨x, hx⟩ : ∃ x, ownr ms i = x := ⟨_, rfl⟩
  obtain ⟨b, hb⟩ : ∃ b, (x.toList == m.toList) = b := ⟨_, rfl⟩
  have HB := hid (show decide (ownr ms i = m) = b by rw [hx, ← hb, beq_bytes])
  rw [hx] at e1
  clear h ht hm hx hg ht' hm'
  go_enter Try.func61, Try.ntmps61
  go_wp2_with fail
  refine wp_region_quiet_below (by kernel_rfl) (by kernel_rfl) ?_
  repeat (first | go_big_quiet_step (((first | (go_at_call_of 59 (Value.slice A n c); refine Calls.regrown_of (v := .string x) ((e1 _ (hH.out.grown0 (gr_of_below (below_regrown _ _ _) none))).mono ?_); (rintro e w' ⟨he, hg⟩; exact ⟨he, gr_below hg⟩))))) | quiet_step (((first | (go_at_call_of 59 (Value.slice A n c); refine Calls.regrown_of (v := .string x) ((e1 _ (hH.out.grown0 (gr_of_below (below_regrown _ _ _) none))).mono ?_); (rintro e w' ⟨he, hg⟩; exact ⟨he, gr_below hg⟩))))))
  refine wpQuiet_nil ?_
  intro _ hw'
  obtain ⟨⟨dq, osq⟩, hw''⟩ := hw'
  subst hw''
  clear k0 k1 k2
  go_wp2_with fail
  go_ret
  exact ⟨ret_bool (by rw [HB.out]), gr_of_below (below_regrown _ _ _) none⟩

set_option maxHeartbeats 1000000 in
theorem mv1_tells (s r : Int) (A B : Option Addr) (n c m d : Nat) (ms ns : List ByteArray) (tb ub : Nat) (w : World) (h : SArg w A n c ms) (h2 : SArg w B m d ns) (hn : 0 < n) (hm : 0 < m) (ht : Full w tb 69 #[.int .i64 s, .slice A n c]) (hu : Full w ub 69 #[.int .i64 r, .slice B m d]) (k : Nat) (hk : k ≤ 8) :
    Tells w 58 (.pointer (some ⟨tb, 0, none⟩)) (.pointer (some ⟨ub, 0, none⟩)) k (fun i => decide (ownr ms i ≠ ownr ns i)) := by
  intro i w' hi hg
  have hH := hid (h.grown0 hg)
  have hH2 := hid (h2.grown0 hg)
  have ht' := ht.grown hg (by simp)
  have hu' := hu.grown hg (by simp)
  have k0 := fun d os => cell_regrown (ht'.cellAt 0 (v := .int .i64 s) rfl) d os
  have k1 := fun d os => cell_regrown (ht'.cellAt 1 (v := .slice A n c) rfl) d os
  have k2 := fun q os => cell_regrown (hu'.cellAt 0 (v := .int .i64 r) rfl) q os
  have k3 := fun q os => cell_regrown (hu'.cellAt 1 (v := .slice B m d) rfl) q os
  have e1 := fun w h => owner_any s A n c ms i w h hn (by omega)
  have e2 := fun w h => owner_any r B m d ns i w h hm (by omega)
  obtain ⟨x, hx⟩ : ∃ x, ownr ms i = x := ⟨_, rfl⟩
  obtain ⟨y, hy⟩ : ∃ y, ownr ns i = y := ⟨_, rfl⟩
  obtain ⟨b, hb⟩ : ∃ b, (x.toList == y.toList) = b := ⟨_, rfl⟩
  have HB := hid (show decide (ownr ms i ≠ ownr ns i) = !b by rw [hx, hy, ← hb, beq_bytes]; simp)
  rw [hx] at e1
  rw [hy] at e2
  clear h h2 ht hu hx hy hg ht' hu'
  go_enter Try.func58, Try.ntmps58
  go_wp2_with fail
  refine wp_region_quiet_below (by kernel_rfl) (by kernel_rfl) ?_
  repeat (first | go_big_quiet_step (((first | (go_at_call_of 59 (Value.slice A n c); refine Calls.regrown_of (v := .string x) ((e1 _ (hH.out.grown0 (gr_of_below (below_regrown _ _ _) none))).mono ?_); (rintro e w' ⟨he, hg⟩; exact ⟨he, gr_below hg⟩)) | (go_at_call_of 59 (Value.slice B m d); refine Calls.regrown_of (v := .string y) ((e2 _ (hH2.out.grown0 (gr_of_below (below_regrown _ _ _) none))).mono ?_); (rintro e w' ⟨he, hg⟩; exact ⟨he, gr_below hg⟩))))) | quiet_step (((first | (go_at_call_of 59 (Value.slice A n c); refine Calls.regrown_of (v := .string x) ((e1 _ (hH.out.grown0 (gr_of_below (below_regrown _ _ _) none))).mono ?_); (rintro e w' ⟨he, hg⟩; exact ⟨he, gr_below hg⟩)) | (go_at_call_of 59 (Value.slice B m d); refine Calls.regrown_of (v := .string y) ((e2 _ (hH2.out.grown0 (gr_of_below (below_regrown _ _ _) none))).mono ?_); (rintro e w' ⟨he, hg⟩; exact ⟨he, gr_below hg⟩))))))
  refine wpQuiet_nil ?_
  intro _ hw'
  obtain ⟨⟨dq, osq⟩, hw''⟩ := hw'
  subst hw''
  clear k0 k1 k2 k3
  go_wp2_with fail
  go_ret
  exact ⟨ret_bool (by rw [HB.out]), gr_of_below (below_regrown _ _ _) none⟩

/-- The stripes of a member. -/
noncomputable def shareOf (s : Int) (ms : List ByteArray) (m : ByteArray) : List Int := if grpB s ms = true then picks s.toNat (fun i => decide (ownr ms i = m)) else []
theorem shareOf_no {s : Int} {ms : List ByteArray} {m : ByteArray} (h : grpB s ms = false) : shareOf s ms m = [] := by simp [shareOf, h]
theorem shareOf_yes {s : Int} {ms : List ByteArray} {m : ByteArray} (h : grpB s ms = true) : shareOf s ms m = picks s.toNat (fun i => decide (ownr ms i = m)) := by simp [shareOf, h]
set_option maxHeartbeats 1000000 in
theorem gsh_any (s : Int) (A : Option Addr) (n c : Nat) (ms : List ByteArray) (m : ByteArray) (w : World) (h : SArg w A n c ms) :
    Calls Try.prog 29 #[.agg #[.int .i64 s, .slice A n c], .string m] w (IlTo w (shareOf s ms m)) := by
  have E0 := (Full.new w 25 #[.int .i64 s, .slice A n c]).alloc (.cells #[.string m] 9)
  have M0 := Full.newAt (w := w.alloc (.cells #[.int .i64 s, .slice A n c] 25)) (t := 9) (cs := #[.string m]) (H := w.heap.size + 1) (by simp)
  have h0 := (h.alloc (.cells #[.int .i64 s, .slice A n c] 25)).alloc (.cells #[.string m] 9)
  have G0 := gr_alloc (gr_alloc (gr_refl w none) (.cells #[.int .i64 s, .slice A n c] 25)) (.cells #[.string m] 9)
  obtain ⟨b, hb⟩ : ∃ b, grpB s ms = b := ⟨_, rfl⟩
  have e1 := gv_is s A n c ms b _ h0 hb
  have HB := hid hb
  have c0 := E0.cellAt 0 (v := .int .i64 s) rfl
  have c1 := E0.cellAt 1 (v := .slice A n c) rfl
  clear h hb
  go_enter Try.func29, Try.ntmps29
  go_wp2_with fail
  refine e1.mono ?_
  rintro e w1 ⟨rfl, hg1⟩
  have h1 := h0.grown0 hg1
  have E1 := E0.grown hg1 (by simp)
  have M1 := M0.grown hg1 (by simp)
  have G1 := gr_0 G0 hg1
  have hs1 := G1.size
  clear e1 h0 E0 M0 G0 hg1 c0 c1
  cases b with
  | false =>
    have HF := hid (shareOf_no (m := m) HB.out)
    go_wp2_with fail
    go_ret
    exact ⟨some ⟨w1.heap.size, 0, none⟩, 0, 0, rfl, by rw [HF.out]; exact Own.empty w1 hs1, by rw [HF.out]; rfl, gr_alloc G1 _⟩
  | true =>
    obtain ⟨⟨hs, hs8⟩, ⟨hn1, hn6⟩, _⟩ := grpB_iff.1 HB.out
    have hn : 0 < n := by have := h1.len; omega
    have HF := hid (shareOf_yes (m := m) HB.out)
    obtain ⟨k, rfl⟩ := Int.eq_ofNat_of_zero_le (show 0 ≤ s by omega)
    have e2 := teamOf_any (k : Int) A n c w1
    have c0 := E1.cellAt 0 (v := .int .i64 (k : Int)) rfl
    have c1 := E1.cellAt 1 (v := .slice A n c) rfl
    clear hn1 hn6 E1
    go_wp2_with fail
    refine e2.mono ?_
    rintro e w2 ⟨rfl, hg2⟩
    have T2 := Full.new w2 69 #[.int .i64 (k : Int), .slice A n c]
    have h2 := (h1.grown0 hg2).alloc (.cells #[.int .i64 (k : Int), .slice A n c] 69)
    have M2 := (M1.grown hg2 (by simp)).alloc (.cells #[.int .i64 (k : Int), .slice A n c] 69)
    have G2 := gr_alloc (gr_0 G1 hg2) (.cells #[.int .i64 (k : Int), .slice A n c] 69)
    have e3 := pick61 _ _ k _ _ (by omega) (sh1_tells (k : Int) A n c ms m w2.heap.size (w.heap.size + 1) _ h2 hn T2 M2 k (by omega))
    have hs2 := G2.size
    clear e2 h1 M1 hg2 c0 c1 T2 h2 M2
    go_wp2_with fail
    refine e3.mono ?_
    rintro e w3 ⟨L, nL, cL, rfl, hO, hl, hg3⟩
    have HL := hid hl
    clear e3 hl
    go_wp2_with fail
    go_ret
    exact ⟨L, nL, cL, rfl, by rw [HF.out]; exact hO.base_le hs2, by rw [HF.out]; exact HL.out, gr_0 G2 hg3⟩

set_option maxHeartbeats 1000000 in
theorem sgsh_any (s : Int) (A : Option Addr) (n c : Nat) (ms : List ByteArray) (m : ByteArray) (w : World) (h : SArg w A n c ms) :
    Calls Try.prog 30 #[.agg #[.int .i64 s, .slice A n c], .string m] w (IlTo w (shareOf s ms m)) := by
  obtain ⟨b, hb⟩ : ∃ b, grpB s ms = b := ⟨_, rfl⟩
  have HB := hid hb
  have h0 := (h.alloc (.cells #[.int .i64 s, .slice A n c] 25)).alloc (.cells #[] 3)
  have E0 := (Full.new w 25 #[.int .i64 s, .slice A n c]).alloc (.cells #[] 3)
  have O0 := Own.litAt (e := 3) (s := 1) (base := w.heap.size) (w.alloc (.cells #[.int .i64 s, .slice A n c] 25)) #[] 0 (H := w.heap.size + 1) (by simp) (Nat.le_succ _) (by simp [maxLen]) rfl
  have G0 := gr_alloc (gr_alloc (gr_refl w none) (.cells #[.int .i64 s, .slice A n c] 25)) (.cells #[] 3)
  have e1 := fun w h => sgv_is s A n c ms b w h hb
  have HS := hid (show s ≤ 8 ∨ b = false from by
    cases b with
    | false => exact .inr rfl
    | true => exact .inl (grpB_iff.1 hb).1.2)
  have HSt := hid (show b = true → 0 < n ∧ 0 ≤ s ∧ s ≤ 8 from fun e => by
    rw [e] at hb
    have := grpB_iff.1 hb
    have hl := h.len
    exact ⟨by have := this.2.1.1; omega, by have := this.1; omega, this.1.2⟩)
  have HAb := hid (show b = true → ∀ g, blockOf A = some g → g < w.heap.size from fun e g hg => by
    have hn := (HSt.out e).1
    obtain ⟨g', o, rfl, hlt, _⟩ := h.li.open_ (by rw [strs_len, h.len]; exact hn)
    injection hg with hg
    rw [← hg]; exact hlt)
  have HH0 := hid h0
  have HE0 := hid E0
  have HO0 := hid O0
  clear h hb h0 E0 O0
  go_enter Try.func30, Try.ntmps30
  go_wp2_with fail
  go_loopw [5, 6] (fun v i wr => ∃ (k q : Nat) (L : Option Addr) (cL : Nat), v = .slice L q cL ∧ i = .int .i64 k ∧ k ≤ s.toNat ∧ (0 < k → b = true) ∧ (picks k (fun i => decide (ownr ms i = m))).length = q ∧ Own wr w.heap.size 3 1 L q cL (ints (picks k (fun i => decide (ownr ms i = m)))) ∧ SArg wr A n c ms ∧ Full wr w.heap.size 25 #[.int .i64 s, .slice A n c] ∧ w.grownBy wr none) (fun _ i _ => s.toNat - (intOf i).toNat)
  case atStart => exact ⟨0, 0, _, 0, rfl, rfl, by omega, by omega, rfl, HO0.out, HH0.out, HE0.out, G0⟩
  case round =>
    clear HH0 HE0 HO0 G0
    obtain ⟨k, q, L, cL, rfl, rfl, hks, hkb, hq, hO, hA, hE, hG⟩ := hrel
    have HQ := hid hq
    have HKb := hid hkb
    have hqk : q ≤ k := by rw [← hq]; exact picks_len k _
    have c0 := hE.cellAt 0 (v := .int .i64 s) rfl
    have c1 := hE.cellAt 1 (v := .slice A n c) rfl
    clear hq hkb
    rcases (by omega : (k : Int) < s ∨ s ≤ (k : Int)) with hlt | hlt
    · have d1 : decide ((k : Int) < s) = true := by simpa using hlt
      have e1' := e1 wr hA
      go_wp2_with fail
      refine e1'.mono ?_
      rintro e w1 ⟨rfl, hg1⟩
      have O1 := hO.kept0 hg1
      have A1 := hA.grown0 hg1
      have E1 := hE.grown hg1 (by simp)
      have G1 := gr_0 hG hg1
      have hs1 := G1.size
      clear e1' hO hA hE hG hg1 c0 c1
      cases b with
      | false =>
        have hk0 : k = 0 := by
          rcases Nat.eq_zero_or_pos k with e | e
          · exact e
          · exact absurd (HKb.out e) (by simp)
        subst hk0
        have HF := hid (shareOf_no (m := m) HB.out)
        have HO1 := hid O1
        clear O1
        go_wp2_with fail
        go_ret
        exact ⟨L, q, cL, rfl, by rw [HF.out]; exact HO1.out, by rw [HF.out]; exact HQ.out, G1⟩
      | true =>
        obtain ⟨hn, hs0, hs8⟩ := HSt.out rfl
        obtain ⟨x, hx⟩ : ∃ x, ownr ms k = x := ⟨_, rfl⟩
        obtain ⟨b2, hb2⟩ : ∃ b, (x.toList == m.toList) = b := ⟨_, rfl⟩
        have HB2 := hid (show decide (ownr ms k = m) = b2 by rw [hx, ← hb2, beq_bytes])
        have e2 := l33_any s A n c ms k w1 A1 hn (by omega)
        rw [hx] at e2
        have c0 := E1.cellAt 0 (v := .int .i64 s) rfl
        have c1 := E1.cellAt 1 (v := .slice A n c) rfl
        clear hx
        go_wp2_with fail
        refine e2.mono ?_
        rintro e w2 ⟨rfl, hg2⟩
        have O2 := O1.kept0 hg2
        have A2 := A1.grown0 hg2
        have E2 := E1.grown hg2 (by simp)
        have G2 := gr_0 G1 hg2
        have hs2 := G2.size
        clear e2 O1 A1 E1 G1 hg2 c0 c1
        cases b2 with
        | false =>
          have HE := hid (picks_next_no (p := fun i => decide (ownr ms i = m)) HB2.out)
          have HO2 := hid O2
          clear O2
          go_wp2_with fail
          go_roundw
          case rel => exact ⟨k + 1, q, L, cL, rfl, by go_num, by omega, fun _ => (by first | rfl | trivial), by rw [HE.out]; exact HQ.out, by rw [HE.out]; exact HO2.out, A2, E2, G2⟩
          case measure => simp [intOf]; omega
        | true =>
          have HE := hid (picks_next_yes (p := fun i => decide (ownr ms i = m)) HB2.out)
          go_wp2_with (at_builtin; refine wpList_push _ rfl _ _ 43 rfl w.heap.size 3 Try.underlying43 intInfo rfl (by omega) L q cL (ints (picks k (fun i => decide (ownr ms i = m)))) rfl (O2.alloc (.cells #[.int .i64 (k : Int)] 3)) _ 1 #[.int .i64 (k : Int)] rfl (Full.newAt (by simp)) rfl (by intro u hu; simp at hu; subst hu; rfl) (by omega) (by omega) (by simp; omega) ?_; intro A' c' wz hown hgz _)
          have hLb := fun b hb => (O2.block (b := b) hb).1
          have hLe := O2.ne_full E2 (by decide)
          have EZ := (E2.alloc (.cells #[.int .i64 (k : Int)] 3)).grown hgz (fun e => hLe _ e.symm rfl)
          have GZ := gr_then (gr_alloc G2 (.cells #[.int .i64 (k : Int)] 3)) hgz (fun b hb => .inr (hLb b hb))
          have AZ : SArg wz A n c ms := ⟨(A2.li.alloc (.cells #[.int .i64 (k : Int)] 3)).grown hgz (fun b hb e => by
            have i1 := HAb.out (by first | rfl | trivial) b hb
            have i2 := hLb b e.symm
            omega), A2.len, A2.cap, A2.max, A2.sz⟩
          have HO1 := hid (show Own wz w.heap.size 3 1 A' (q + 1) c' (ints (picks (k + 1) (fun i => decide (ownr ms i = m)))) by rw [HE.out, ints_app]; exact hown)
          clear hown hgz O2 G2 A2 E2
          go_wp2_with fail
          go_roundw
          case rel => exact ⟨k + 1, q + 1, A', c', by go_num, by go_num, by omega, fun _ => (by first | rfl | trivial), by rw [HE.out, List.length_append, HQ.out]; rfl, HO1.out, AZ, EZ, GZ⟩
          case measure => simp [intOf]; omega
    · have d1 : decide ((k : Int) < s) = false := by simp; omega
      have HF := hid (show shareOf s ms m = picks k (fun i => decide (ownr ms i = m)) by
        cases hb : b with
        | true => rw [shareOf_yes (HB.out.trans hb)]; congr 1; omega
        | false =>
          rw [shareOf_no (HB.out.trans hb)]
          have : k = 0 := by
            rcases Nat.eq_zero_or_pos k with e | e
            · exact e
            · have := HKb.out e; rw [hb] at this; cases this
          subst this
          rfl)
      go_wp2_with fail
      go_ret
      exact ⟨L, q, cL, rfl, by rw [HF.out]; exact hO, by rw [HF.out]; exact HQ.out, hG⟩
end Go.Proofs.Ytmjficimnkbonaa
