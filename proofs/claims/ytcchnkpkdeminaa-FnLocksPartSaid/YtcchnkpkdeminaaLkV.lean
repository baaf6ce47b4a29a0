/- Locks: what is valid, in impl and in spec; whether two lists of locks tell the same. -/
import Derived.Test.YtcchnkpkdeminaaLockLaw
import Derived.Test.YtcchnkpkdeminaaIn
import Derived.BigQuiet
import Derived.Deep.QuietTactic
import Derived.Deep.RegionHeld3
namespace Go.Proofs.Ytcchnkpkdeminaa
open Go.RowKit

theorem lkLen (x : Lk) : x.cells.length = 2 := rfl
theorem lk_cells_one (l : List Lk) : ∀ u ∈ l.flatMap Lk.cells, u.oneCell' = true := by
  intro u hu
  obtain ⟨x, _, h⟩ := List.mem_flatMap.1 hu
  simp [Lk.cells] at h
  rcases h with rfl | rfl <;> rfl
/-- The cells of a lock of a list. -/
theorem lkAt {w : World} {g o : Nat} {l : List Lk} {k : Nat} (hcell : ∀ j u, (l.flatMap Lk.cells)[j]? = some u → w.cell? ⟨g, o + j, none⟩ = some u) (hk : k < l.length) :
    w.cell? ⟨g, o + k * 2, none⟩ = some (.int .i64 l[k].s) ∧ w.cell? ⟨g, o + k * 2 + 1, none⟩ = some (.int .i64 l[k].o) := by
  have h := fun j (hj : j < 2) => flat_at Lk.cells 2 (fun _ => rfl) l k j hk hj
  exact ⟨hcell _ _ (h 0 (by omega)), hcell _ _ (h 1 (by omega))⟩
theorem lastL_ge {lo : Int} {l : List Lk} (h : lkA lo l = true) : lo ≤ lastL lo l := by
  induction l generalizing lo with
  | nil => exact Int.le_refl _
  | cons x l ih =>
    obtain ⟨h1, _, _, _, h5⟩ := lkA_head h
    have := ih h5
    rw [lastL]; omega

set_option maxHeartbeats 400000 in
theorem ov_is (n : Int) (b : Bool) (w : World) (h : inR n 1 99 = b) :
    Calls Try.prog 29 #[.int .i64 n] w fun e w' => e = .returned (.bool b) ∧ w = w' := by
  subst h
  rcases (by omega : n < 1 ∨ (1 ≤ n ∧ n ≤ 99) ∨ (1 ≤ n ∧ 99 < n)) with hA | ⟨hA, hB⟩ | ⟨hA, hB⟩
  · rw [inR_false (.inl hA)]
    go_enter Try.func29, Try.ntmps29
    go_wp2
    go_ret
    exact ⟨rfl, rfl⟩
  · rw [inR_true hA hB]
    go_enter Try.func29, Try.ntmps29
    go_wp2
    go_ret
    exact ⟨ret_bool (by simp <;> omega), rfl⟩
  · rw [inR_false (.inr hB)]
    go_enter Try.func29, Try.ntmps29
    go_wp2
    go_ret
    exact ⟨ret_bool (by simp <;> omega), rfl⟩

set_option maxHeartbeats 2000000 in
theorem lkv_is (A : Option Addr) (n c : Nat) (l : List Lk) (b : Bool) (w : World) (h : Lies w A (l.flatMap Lk.cells)) (hn : l.length = n) (hc : n ≤ c) (hm : c ≤ maxLen) (hb : lkA (-1) l = b) :
    Calls Try.prog 13 #[.slice A n c] w fun e w' => e = .returned (.bool b) ∧ w.grownBy w' none := by
  unfold maxLen at hm
  have HN := hid hn
  have HB := hid hb
  clear hn hb
  go_enter Try.func13, Try.ntmps13
  go_wp2_with fail
  go_loopw [3, 8] (fun v i wr => ∃ k : Nat, i = .int .i64 k ∧ v = .int .i64 (lastL (-1) (l.take k)) ∧ k ≤ n ∧ lkA (-1) (l.take k) = true ∧ w.grownBy wr none) (fun _ i _ => n - (intOf i).toNat)
  case atStart => exact ⟨0, rfl, rfl, by omega, rfl, gr_refl _ _⟩
  case round =>
    obtain ⟨k, rfl, rfl, hkn, hok, hgr⟩ := hrel
    have HO := hid hok
    clear hok
    by_cases hlt : k < n
    · have hkl : k < l.length := by rw [HN.out]; exact hlt
      obtain ⟨g, o, rfl, hg, hcell⟩ := h.open_ (by rw [flat_len Lk.cells 2 (fun _ => rfl)]; omega)
      obtain ⟨ca, cb⟩ := lkAt hcell hkl
      replace ca := hgr.cell ca (by simp)
      replace cb := hgr.cell cb (by simp)
      have HNx := hid (fun q1 q2 q3 => lkA_next hkl HO.out q1 q2 q3)
      have HNo := hid (lkA_not (lo := -1) hkl)
      have HT := hid (lastL_take (-1) l k hkl)
      obtain ⟨z, hz⟩ : ∃ z, l[k] = z := ⟨_, rfl⟩
      obtain ⟨v, hv⟩ : ∃ v, lastL (-1) (l.take k) = v := ⟨_, rfl⟩
      rw [hz] at ca cb HNx HNo HT
      rw [hv] at HNx HNo ⊢
      obtain ⟨s, ow⟩ := z
      simp only [] at ca cb HNx HNo HT
      clear hz hv hcell
      rcases (by omega : s ≤ v ∨ (v < s ∧ 8 ≤ s) ∨ (v < s ∧ s ≤ 7)) with q | ⟨q, q'⟩ | ⟨q, q'⟩
      · have HF := hid (HNo.out (.inl q))
        clear HNx HNo
        go_wp2_with fail
        go_ret
        exact ⟨ret_bool (by rw [← HB.out, HF.out]), gr_alloc hgr _⟩
      · have HF := hid (HNo.out (.inr (.inl (by omega))))
        clear HNx HNo
        go_wp2_with fail
        go_ret
        exact ⟨ret_bool (by rw [← HB.out, HF.out]), gr_alloc hgr _⟩
      · rcases (by omega : (ow < 1 ∨ 99 < ow) ∨ (1 ≤ ow ∧ ow ≤ 99)) with r | ⟨r, r'⟩
        · have e1 := fun w => ov_is ow false w (inR_false r)
          have HF := hid (HNo.out (.inr (.inr (by omega))))
          clear HNx HNo r
          go_wp2_with fail
          refine (e1 _).mono ?_
          rintro e w1 ⟨rfl, rfl⟩
          go_wp2_with fail
          go_ret
          exact ⟨ret_bool (by rw [← HB.out, HF.out]), gr_alloc hgr _⟩
        · have e1 := fun w => ov_is ow true w (inR_true r r')
          have HF := hid (HNx.out q q' ⟨r, r'⟩)
          clear HNx HNo
          go_wp2_with fail
          refine (e1 _).mono ?_
          rintro e w1 ⟨rfl, rfl⟩
          go_wp2_with fail
          go_roundw
          case rel => exact ⟨k + 1, by go_num, by rw [HT.out], by omega, HF.out, gr_alloc hgr _⟩
          case measure => simp [intOf]; omega
    · obtain rfl : k = n := by omega
      have HF := hid (lkA_all (by rw [HN.out]; exact HO.out))
      go_wp2_with fail
      go_ret
      exact ⟨ret_bool (by rw [← HB.out, HF.out]), hgr⟩

set_option maxHeartbeats 2000000 in
theorem slkv_is (A : Option Addr) (n c : Nat) (l : List Lk) (b : Bool) (w : World) (h : Lies w A (l.flatMap Lk.cells)) (hn : l.length = n) (hc : n ≤ c) (hm : c ≤ maxLen) (hb : lkA (-1) l = b) :
    Calls Try.prog 14 #[.slice A n c] w fun e w' => e = .returned (.bool b) ∧ w.grownBy w' none := by
  unfold maxLen at hm
  have HN := hid hn
  have HB := hid hb
  clear hn hb
  go_enter Try.func14, Try.ntmps14
  go_wp2_with fail
  go_loopw [3] (fun i wr => ∃ k : Nat, i = .int .i64 k ∧ k ≤ n ∧ lkA (-1) (l.take k) = true ∧ w.grownBy wr none) (fun i _ => n - (intOf i).toNat)
  case atStart => exact ⟨0, rfl, by omega, rfl, gr_refl _ _⟩
  case round =>
    obtain ⟨k, rfl, hkn, hok, hgr⟩ := hrel
    have hlg := lastL_ge hok
    have HO := hid hok
    clear hok
    by_cases hlt : k < n
    · have hkl : k < l.length := by rw [HN.out]; exact hlt
      obtain ⟨g, o, rfl, hg, hcell⟩ := h.open_ (by rw [flat_len Lk.cells 2 (fun _ => rfl)]; omega)
      obtain ⟨ca, cb⟩ := lkAt hcell hkl
      replace ca := hgr.cell ca (by simp)
      replace cb := hgr.cell cb (by simp)
      have HNx := hid (fun q1 q2 q3 => lkA_next hkl HO.out q1 q2 q3)
      have HNo := hid (lkA_not (lo := -1) hkl)
      have b1 : (0 : Int) ≤ (k : Int) := by omega
      have b2 : (k : Int) < (n : Int) := by omega
      have hprev : (k = 0 ∧ lastL (-1) (l.take k) = -1) ∨ (∃ y : Int, 0 < k ∧ lastL (-1) (l.take k) = y ∧ wr.cell? ⟨g, o + (k - 1) * 2, none⟩ = some (.int .i64 y)) := by
        rcases Nat.eq_zero_or_pos k with q | q
        · exact .inl ⟨q, by rw [q]; rfl⟩
        · have hk1 : k - 1 < l.length := by omega
          have := lastL_take (-1) l (k - 1) hk1
          rw [show k - 1 + 1 = k by omega] at this
          exact .inr ⟨_, q, this, hgr.cell (lkAt hcell hk1).1 (by simp)⟩
      obtain ⟨z, hz⟩ : ∃ z, l[k] = z := ⟨_, rfl⟩
      rw [hz] at ca cb HNx HNo
      obtain ⟨s, ow⟩ := z
      simp only [] at ca cb HNx HNo
      clear hz hcell
      rcases (by omega : (s < 0 ∨ 7 < s) ∨ (0 ≤ s ∧ s ≤ 7)) with r1 | ⟨r1, r1'⟩
      · have e1 := fun w => in_q s 0 7 false w (inR_false r1)
        have HF := hid (HNo.out (by omega))
        clear HNx HNo r1 hprev hlg
        go_wp2_with fail
        go_quiet ((first | (go_at_call_of 30 (Value.int IntKind.i64 7); exact Calls.quiet_of_same (e1 _))))
        go_wp2_with fail
        go_ret
        exact ⟨ret_bool (by rw [← HB.out, HF.out]), gr_drewN hgr _⟩
      have e1 := fun w => in_q s 0 7 true w (inR_true r1 r1')
      rcases (by omega : (ow < 1 ∨ 99 < ow) ∨ (1 ≤ ow ∧ ow ≤ 99)) with r2 | ⟨r2, r2'⟩
      · have e2 := fun w => in_q ow 1 99 false w (inR_false r2)
        have HF := hid (HNo.out (.inr (.inr (by omega))))
        clear HNx HNo r2 hprev hlg
        go_wp2_with fail
        go_quiet ((first | (go_at_call_of 30 (Value.int IntKind.i64 7); exact Calls.quiet_of_same (e1 _)) | (go_at_call_of 30 (Value.int IntKind.i64 99); exact Calls.quiet_of_same (e2 _))))
        go_wp2_with fail
        go_ret
        exact ⟨ret_bool (by rw [← HB.out, HF.out]), gr_drewN hgr _⟩
      have e2 := fun w => in_q ow 1 99 true w (inR_true r2 r2')
      rcases hprev with ⟨hk0, hp⟩ | ⟨y, hk0, hp, cy⟩
      · have HF := hid (HNx.out (by omega) r1' ⟨r2, r2'⟩)
        have hk' : decide (0 < k) = false := by simp; omega
        clear HNx HNo hp hlg hk0
        go_wp2_with fail
        go_quiet ((first | (go_at_call_of 30 (Value.int IntKind.i64 7); exact Calls.quiet_of_same (e1 _)) | (go_at_call_of 30 (Value.int IntKind.i64 99); exact Calls.quiet_of_same (e2 _))))
        go_wp2_with fail
        go_roundw
        case rel => exact ⟨k + 1, by go_num, by omega, HF.out, gr_drewN hgr _⟩
        case measure => simp [intOf]; omega
      · have hk' : decide (0 < k) = true := by simp; omega
        have b3 : (0 : Int) ≤ (k : Int) - 1 := by omega
        have b4 : (k : Int) - 1 < (n : Int) := by omega
        have b5 : ((k : Int) - 1).toNat = k - 1 := by omega
        rcases (by omega : s ≤ y ∨ y < s) with r3 | r3
        · have HF := hid (HNo.out (.inl (by omega)))
          have hcmp : decide (s ≤ y) = true := by simpa using r3
          clear HNx HNo hp hlg hk0
          go_wp2_with fail
          go_quiet ((first | (go_at_call_of 30 (Value.int IntKind.i64 7); exact Calls.quiet_of_same (e1 _)) | (go_at_call_of 30 (Value.int IntKind.i64 99); exact Calls.quiet_of_same (e2 _))))
          go_wp2_with fail
          go_ret
          exact ⟨ret_bool (by rw [← HB.out, HF.out]), gr_drewN hgr _⟩
        · have HF := hid (HNx.out (by omega) r1' ⟨r2, r2'⟩)
          have hcmp : decide (s ≤ y) = false := by simp; omega
          clear HNx HNo hp hlg hk0
          go_wp2_with fail
          go_quiet ((first | (go_at_call_of 30 (Value.int IntKind.i64 7); exact Calls.quiet_of_same (e1 _)) | (go_at_call_of 30 (Value.int IntKind.i64 99); exact Calls.quiet_of_same (e2 _))))
          go_wp2_with fail
          go_roundw
          case rel => exact ⟨k + 1, by go_num, by omega, HF.out, gr_drewN hgr _⟩
          case measure => simp [intOf]; omega
    · obtain rfl : k = n := by omega
      have HF := hid (lkA_all (by rw [HN.out]; exact HO.out))
      go_wp2_with fail
      go_ret
      exact ⟨ret_bool (by rw [← HB.out, HF.out]), hgr⟩

theorem lk_take_next {xs ys : List Lk} {k : Nat} (h : xs.take k = ys.take k) (h1 : k < xs.length) (h2 : k < ys.length) (h3 : xs[k] = ys[k]) : xs.take (k + 1) = ys.take (k + 1) := by
  rw [List.take_succ_eq_append_getElem h1, List.take_succ_eq_append_getElem h2, h, h3]

/-- Two lists that tell the same. -/
theorem sl_same (A B : Option Addr) (n m cA cB : Nat) (xs : List Lk) (w : World) (hA : Lies w A (xs.flatMap Lk.cells)) (hB : Lies w B (xs.flatMap Lk.cells)) (hn : xs.length = n) (hm : xs.length = m) (hcA : n ≤ cA) (hMA : cA ≤ maxLen) (hcB : m ≤ cB) (hMB : cB ≤ maxLen) :
    Calls Try.prog 18 #[.slice A n cA, .slice B m cB] w fun e w' => e = .returned (.bool true) ∧ w.grownBy w' none := by
  unfold maxLen at hMA hMB
  obtain rfl : n = m := hn.symm.trans hm
  have HN := hid hn
  clear hn hm
  go_enter Try.func18, Try.ntmps18
  go_wp2_with fail
  go_loopw [5] (fun i wr => ∃ k : Nat, i = .int .i64 k ∧ k ≤ n ∧ w.grownBy wr none) (fun i _ => n - (intOf i).toNat)
  case atStart => exact ⟨0, rfl, by omega, gr_refl _ _⟩
  case round =>
    obtain ⟨k, rfl, hkn, hgr⟩ := hrel
    by_cases hlt : k < n
    · have hk1 : k < xs.length := by rw [HN.out]; exact hlt
      obtain ⟨g, o, rfl, hg, hc1⟩ := hA.open_ (by rw [flat_len Lk.cells 2 (fun _ => rfl)]; omega)
      obtain ⟨g', o', rfl, hg', hc2⟩ := hB.open_ (by rw [flat_len Lk.cells 2 (fun _ => rfl)]; omega)
      obtain ⟨ca, cb⟩ := lkAt hc1 hk1
      obtain ⟨da, db⟩ := lkAt hc2 hk1
      replace ca := hgr.cell ca (by simp)
      replace cb := hgr.cell cb (by simp)
      replace da := hgr.cell da (by simp)
      replace db := hgr.cell db (by simp)
      obtain ⟨z, hz⟩ : ∃ z, xs[k] = z := ⟨_, rfl⟩
      rw [hz] at ca cb da db
      obtain ⟨s, ow⟩ := z
      simp only [] at ca cb da db
      have b1 : (0 : Int) ≤ (k : Int) := by omega
      have b2 : (k : Int) < (n : Int) := by omega
      clear hz hc1 hc2
      go_wp2_with fail
      go_quiet (fail)
      go_wp2_with fail
      go_roundw
      case rel => exact ⟨k + 1, by go_num, by omega, gr_drewN hgr _⟩
      case measure => simp [intOf]; omega
    · go_wp2_with fail
      go_ret
      exact ⟨rfl, hgr⟩
end Go.Proofs.Ytcchnkpkdeminaa
