/- Marks in entries: the exact laws write them into results and look whether they are still there. -/
import Derived.Test.YtnjbpeojadbclaaDoorEntTo
import Derived.Test.YtnjbpeojadbclaaDoorMarkT
import Derived.Lib.QuietBelow
import Derived.BigQuiet
import Derived.Deep.QuietTactic
namespace Go.Proofs.YtnjbpeojadbclaaDoor
open Go.RowKit

theorem mt_at (x : Int) (k : Nat) (w : World) (hk : k ≤ 100000000) (hx : x = (k : Int)) :
    Calls Tryd.prog 22 #[.int .i64 x] w fun e w' => e = .returned (.string (mtxt k)) ∧ w.grownBy w' none := by
  subst hx
  exact mt_any k w hk
/-- A mark entry. -/
def mkEn (k j : Nat) : En := ⟨mtxt (k + 4 * j), ⟨((k + 4 * j + 1 : Nat) : Int), mtxt (k + 4 * j + 2), ((k + 4 * j + 3 : Nat) : Int)⟩⟩
def marksE (k n : Nat) : List En := (List.range n).map fun i => mkEn k i
theorem marksE_next (k n : Nat) : marksE k (n + 1) = marksE k n ++ [mkEn k n] := by simp [marksE, List.range_succ]
theorem marksE_len (k n : Nat) : (marksE k n).length = n := by simp [marksE]
theorem marksE_at (k n j : Nat) (h : j < (marksE k n).length) : (marksE k n)[j] = mkEn k j := by simp [marksE]
def MarkTo (w : World) (base : Nat) (A : Option Addr) (n c k : Nat) (e : Ending) (w' : World) : Prop :=
  e = .returned (.int .i64 ((k + 4 * n : Nat) : Int)) ∧ Own w' base 42 4 A n c (ecells (marksE k n)) ∧ w.grownBy w' (blockOf A)
theorem elies_open {w : World} {A : Option Addr} {es : List En} (h : Lies w A (ecells es)) (hn : 0 < es.length) : ∃ g o, A = some ⟨g, o, none⟩ ∧ g < w.heap.size ∧ ∀ i (hi : i < es.length), ∀ w' : World, w.grownBy w' none →
    w'.cell? ⟨g, o + i * 4, none⟩ = some (.string es[i].nm) ∧ w'.cell? ⟨g, o + i * 4 + 1, none⟩ = some (.int .i64 es[i].ev.id) ∧ w'.cell? ⟨g, o + i * 4 + 2, none⟩ = some (.string es[i].ev.kind) ∧ w'.cell? ⟨g, o + i * 4 + 3, none⟩ = some (.int .i64 es[i].ev.data) := by
  obtain ⟨g, o, hA, hlt, hc⟩ := h.open_ (by rw [ecells_len]; omega)
  refine ⟨g, o, hA, hlt, fun i hi w' hg => ?_⟩
  have q := fun j (hj : j < 4) => flat_at En.cells 4 (fun _ => rfl) es i j hi hj
  exact ⟨hg.cell (hc _ _ (q 0 (by omega))) (by simp), hg.cell (a := ⟨g, o + i * 4 + 1, none⟩) (by rw [Nat.add_assoc]; exact hc _ _ (q 1 (by omega))) (by simp),
    hg.cell (a := ⟨g, o + i * 4 + 2, none⟩) (by rw [Nat.add_assoc]; exact hc _ _ (q 2 (by omega))) (by simp), hg.cell (a := ⟨g, o + i * 4 + 3, none⟩) (by rw [Nat.add_assoc]; exact hc _ _ (q 3 (by omega))) (by simp)⟩

set_option maxHeartbeats 2000000 in
theorem marks_any (base : Nat) (A : Option Addr) (n c k : Nat) (xs : List Value) (w : World) (h : Own w base 42 4 A n c xs) (hn : n ≤ 10000000) (hk : k ≤ 20000000) :
    Calls Tryd.prog 10 #[.slice A n c, .int .i64 (k : Int)] w (MarkTo w base A n c k) := by
  have hcap := h.cap
  have hmax := h.max
  unfold maxLen at hmax
  have HO := hid h
  have HL := hid (show xs.length = n * 4 by have := h.len; omega)
  clear h
  go_enter Tryd.func10, Tryd.ntmps10
  go_wp2_with fail
  go_loopw [1, 5] (fun kv iv wr => ∃ (j m : Nat) (ys : List Value), kv = .int .i64 (m : Int) ∧ m = k + 4 * j ∧ iv = .int .i64 (j : Int) ∧ j ≤ n ∧ ys.length = n * 4 ∧ ys.take (j * 4) = ecells (marksE k j) ∧ Own wr base 42 4 A n c ys ∧ w.grownBy wr (blockOf A)) (fun _ iv _ => n - (intOf iv).toNat)
  case atStart => exact ⟨0, k, xs, rfl, by omega, rfl, by omega, HL.out, by simp [marksE, ecells], HO.out, gr_refl _ _⟩
  case round =>
    clear HO HL
    obtain ⟨j, m, ys, rfl, hm, rfl, hjn, hyl, hyt, hO, hG⟩ := hrel
    have HYl := hid hyl
    have HYt := hid hyt
    have HM := hid hm
    have hmb : m ≤ 60000000 := by omega
    clear hyl hyt
    by_cases hlt : j < n
    · obtain ⟨g, cur, rfl, hbg, FA, hcA⟩ := hO.open_ (by omega)
      have e1 := mt_at (m : Int) m wr (by omega) rfl
      have HE2 := hid (fun x w (hx : x = ((m + 2 : Nat) : Int)) => mt_at x (m + 2) w (by omega) hx)
      have b1 : (0 : Int) ≤ (j : Int) := by omega
      have b2 : (j : Int) < (n : Int) := by omega
      have HOj := hid hO
      clear hcA FA hO hm
      obtain ⟨t1, ht1⟩ : ∃ t, mtxt m = t := ⟨_, rfl⟩
      obtain ⟨t2, ht2⟩ : ∃ t, mtxt (m + 2) = t := ⟨_, rfl⟩
      rw [ht1] at e1
      rw [ht2] at HE2
      have HT1 := hid ht1
      have HT2 := hid ht2
      clear ht1 ht2
      go_wp2_with fail
      refine e1.mono ?_
      rintro e w1 ⟨rfl, hg1⟩
      have O1 := HOj.out.kept0 hg1
      have G1 := gr_0 hG hg1
      obtain ⟨g', cur', hge, _, FB, hcB⟩ := O1.open_ (by omega)
      injection hge with hge
      injection hge with hge
      subst hge
      have hx4 : j * 4 + 3 < ys.length := by rw [HYl.out]; omega
      have f0 := FB.free (j * 4)
      have f1 := FB.free (j * 4 + 1)
      obtain ⟨v0, d0⟩ : ∃ v, w1.cell? ⟨g, j * 4, none⟩ = some v := ⟨_, hcB _ _ (List.getElem?_eq_getElem (by omega))⟩
      obtain ⟨v1, d1⟩ : ∃ v, w1.cell? ⟨g, j * 4 + 1, none⟩ = some v := ⟨_, hcB _ _ (List.getElem?_eq_getElem (by omega))⟩
      have O2 := hid ((O1.set (j * 4) (.string t1)).set (j * 4 + 1) (.int .i64 ((m : Int) + 1)))
      have G2 := gr_set (p := ⟨g, j * 4 + 1, none⟩) (gr_set (p := ⟨g, j * 4, none⟩) G1 (.inl rfl) (.string t1)) (.inl rfl) (.int .i64 ((m : Int) + 1))
      have HX4 := hid hx4
      clear e1 hG hg1 O1 G1 hcB FB hx4
      go_wp2_with fail
      refine (HE2.out _ _ (by omega)).mono ?_
      rintro e w2 ⟨rfl, hg2⟩
      have O3 := O2.out.kept0 hg2
      have G3 := gr_0 G2 hg2
      obtain ⟨g', cur', hge, _, FB, hcB⟩ := O3.open_ (by omega)
      injection hge with hge
      injection hge with hge
      subst hge
      have hx4 := HX4.out
      have f2 := FB.free (j * 4 + 2)
      have f3 := FB.free (j * 4 + 3)
      obtain ⟨v2, d2⟩ : ∃ v, w2.cell? ⟨g, j * 4 + 2, none⟩ = some v := ⟨_, hcB _ _ (List.getElem?_eq_getElem (by rw [List.length_set, List.length_set]; omega))⟩
      obtain ⟨v3, d3⟩ : ∃ v, w2.cell? ⟨g, j * 4 + 3, none⟩ = some v := ⟨_, hcB _ _ (List.getElem?_eq_getElem (by rw [List.length_set, List.length_set]; omega))⟩
      have O4 := hid ((O3.set (j * 4 + 2) (.string t2)).set (j * 4 + 3) (.int .i64 ((m : Int) + 1 + 1 + 1)))
      have G4 := gr_set (p := ⟨g, j * 4 + 3, none⟩) (gr_set (p := ⟨g, j * 4 + 2, none⟩) G3 (.inl rfl) (.string t2)) (.inl rfl) (.int .i64 ((m : Int) + 1 + 1 + 1))
      have HT := hid (show (((((ys.set (j * 4) (.string t1)).set (j * 4 + 1) (.int .i64 ((m : Int) + 1))).set (j * 4 + 2) (.string t2)).set (j * 4 + 3) (.int .i64 ((m : Int) + 1 + 1 + 1))).take ((j + 1) * 4) = ecells (marksE k (j + 1))) by
        have h := set4_take (x := mkEn k j) HYt.out hx4
        rw [marksE_next, ← h, set4, mkEn]
        simp only []
        rw [← HM.out, HT1.out, HT2.out, show ((m + 1 : Nat) : Int) = (m : Int) + 1 by omega, show ((m + 3 : Nat) : Int) = (m : Int) + 1 + 1 + 1 by omega])
      clear hg2 O3 G3 hcB FB hx4 O2 G2 HE2
      go_wp2_with fail
      go_roundw
      case rel => exact ⟨j + 1, m + 4, _, by first | rfl | (congr 1; omega) | (congr 1; simp; omega), by have := HM.out; omega, by go_num, by omega, by simp only [List.length_set]; exact HYl.out, HT.out, O4.out, G4⟩
      case measure => simp [intOf]; omega
    · obtain rfl : j = n := by omega
      have HE := hid (show ys = ecells (marksE k j) by rw [← HYt.out, List.take_of_length_le (by rw [HYl.out]; exact Nat.le_refl _)])
      go_wp2_with fail
      go_ret
      exact ⟨by obtain rfl := HM.out; first | rfl | (simp; done), by rw [← HE.out]; exact hO, hG⟩

set_option maxHeartbeats 2000000 in
theorem helds_any (A : Option Addr) (n c k : Nat) (w : World) (h : Lies w A (ecells (marksE k n))) (hc : n ≤ c) (hm : c ≤ maxLen) (hn : n ≤ 10000000) (hk : k ≤ 20000000) :
    Calls Tryd.prog 11 #[.slice A n c, .int .i64 (k : Int)] w fun e w' => e = .returned (.int .i64 ((k + 4 * n : Nat) : Int)) ∧ w.grownBy w' none := by
  unfold maxLen at hm
  have H := hid h
  clear h
  go_enter Tryd.func11, Tryd.ntmps11
  go_wp2_with fail
  go_loopw [1, 5] (fun kv iv wr => ∃ j m : Nat, kv = .int .i64 (m : Int) ∧ m = k + 4 * j ∧ iv = .int .i64 (j : Int) ∧ j ≤ n ∧ w.grownBy wr none) (fun _ iv _ => n - (intOf iv).toNat)
  case atStart => exact ⟨0, k, rfl, by omega, rfl, by omega, gr_refl _ _⟩
  case round =>
    obtain ⟨j, m, rfl, hmk, rfl, hjn, hG⟩ := hrel
    by_cases hlt : j < n
    · have hjl : j < (marksE k n).length := by rw [marksE_len]; exact hlt
      obtain ⟨g, o, rfl, hg, hcell⟩ := elies_open H.out (by rw [marksE_len]; omega)
      have hcj := fun w2 (hg2 : wr.grownBy w2 none) => hcell j hjl w2 (gr_0 hG hg2)
      rw [marksE_at] at hcj
      simp only [mkEn] at hcj
      rw [← hmk] at hcj
      have hmb : m ≤ 60000000 := by omega
      have HE1 := hid (fun x w (hx : x = (m : Int)) => mt_at x m w (by omega) hx)
      have HE2 := hid (fun x w (hx : x = ((m + 2 : Nat) : Int)) => mt_at x (m + 2) w (by omega) hx)
      obtain ⟨t1, ht1⟩ : ∃ t, mtxt m = t := ⟨_, rfl⟩
      obtain ⟨t2, ht2⟩ : ∃ t, mtxt (m + 2) = t := ⟨_, rfl⟩
      rw [ht1] at HE1 hcj
      rw [ht2] at HE2 hcj
      rw [show ((m + 1 : Nat) : Int) = (m : Int) + 1 by omega, show ((m + 3 : Nat) : Int) = (m : Int) + 1 + 1 + 1 by omega] at hcj
      have HC := hid hcj
      have HMk := hid hmk
      have c0 := (HC.out wr (gr_refl _ _)).1
      have k0 := fun d os => cell_regrown c0 d os
      have b1 : (0 : Int) ≤ (j : Int) := by omega
      have b2 : (j : Int) < (n : Int) := by omega
      have q1 : (t1.toList == t1.toList) = true := by simp
      have q2 : (t2.toList == t2.toList) = true := by simp
      have q3 : (((m : Int) + 1) != ((m : Int) + 1)) = false := by simp
      have q4 : (((m : Int) + 1 + 1 + 1) != ((m : Int) + 1 + 1 + 1)) = false := by simp
      clear hcell hcj c0 ht1 ht2 hmk
      go_wp2_with fail
      refine wp_region_quiet_below (by kernel_rfl) (by kernel_rfl) ?_
      repeat (first | go_big_quiet_step ((go_at_call 22; refine Calls.regrown_of (v := .string t1) ((HE1.out _ _ rfl).mono ?_); (rintro e w' ⟨he, hg⟩; exact ⟨he, gr_below hg⟩))) | quiet_step ((go_at_call 22; refine Calls.regrown_of (v := .string t1) ((HE1.out _ _ rfl).mono ?_); (rintro e w' ⟨he, hg⟩; exact ⟨he, gr_below hg⟩))))
      refine wpQuiet_nil ?_
      intro w2 hw2
      have G2 : wr.grownBy w2 none := by
        obtain ⟨⟨dq, osq⟩, hq⟩ := hw2
        subst hq
        exact gr_of_below (below_regrown _ _ _) none
      have c1 := (HC.out w2 G2).2.1
      have c2 := (HC.out w2 G2).2.2.1
      have k2 := fun d os => cell_regrown c2 d os
      clear hw2 k0 c2
      go_wp2_with fail
      refine wp_region_quiet_below (by kernel_rfl) (by kernel_rfl) ?_
      repeat (first | go_big_quiet_step ((go_at_call 22; refine Calls.regrown_of (v := .string t2) ((HE2.out _ _ (by omega)).mono ?_); (rintro e w' ⟨he, hg⟩; exact ⟨he, gr_below hg⟩))) | quiet_step ((go_at_call 22; refine Calls.regrown_of (v := .string t2) ((HE2.out _ _ (by omega)).mono ?_); (rintro e w' ⟨he, hg⟩; exact ⟨he, gr_below hg⟩))))
      refine wpQuiet_nil ?_
      intro w3 hw3
      have G3 : w2.grownBy w3 none := by
        obtain ⟨⟨dq, osq⟩, hq⟩ := hw3
        subst hq
        exact gr_of_below (below_regrown _ _ _) none
      have c3 := (HC.out w3 (gr_0 G2 G3)).2.2.2
      clear hw3 k2 c1
      go_wp2_with fail
      go_roundw
      case rel => exact ⟨j + 1, m + 4, by first | rfl | (congr 1; omega) | (congr 1; simp; omega), by have := HMk.out; omega, by go_num, by omega, gr_0 hG (gr_0 G2 G3)⟩
      case measure => simp [intOf]; omega
    · obtain rfl : j = n := by omega
      have HM := hid hmk
      clear hmk
      go_wp2_with fail
      go_ret
      exact ⟨by obtain rfl := HM.out; first | rfl | (simp; done), hG⟩
end Go.Proofs.YtnjbpeojadbclaaDoor
