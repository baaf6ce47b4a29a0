/- Totals: what is valid; whether two lists tell the same. -/
import Derived.Test.YtokhkgimmijoaaaTotLaw
import Derived.Test.YtokhkgimmijoaaaIn
import Derived.Lib.QuietBelow
import Derived.BigQuiet
import Derived.Deep.QuietTactic
namespace Go.Proofs.Ytokhkgimmijoaaa
open Go.RowKit

theorem tot_one (l : List Tot) : ∀ u ∈ l.flatMap Tot.cells, u.oneCell' = true := by
  intro u hu
  obtain ⟨x, _, h⟩ := List.mem_flatMap.1 hu
  simp [Tot.cells] at h
  rcases h with rfl | rfl | rfl <;> rfl
/-- The cells of a total of a list. -/
theorem totAt {w : World} {g o : Nat} {l : List Tot} {k : Nat} (hcell : ∀ j u, (l.flatMap Tot.cells)[j]? = some u → w.cell? ⟨g, o + j, none⟩ = some u) (hk : k < l.length) :
    w.cell? ⟨g, o + k * 3, none⟩ = some (.string l[k].c) ∧ w.cell? ⟨g, o + k * 3 + 1, none⟩ = some (.int .i64 l[k].m) ∧ w.cell? ⟨g, o + k * 3 + 2, none⟩ = some (.int .i64 l[k].s) := by
  have h := fun j (hj : j < 3) => flat_at Tot.cells 3 (fun _ => rfl) l k j hk hj
  exact ⟨hcell _ _ (h 0 (by omega)), hcell _ _ (h 1 (by omega)), hcell _ _ (h 2 (by omega))⟩
theorem totB_c {x : Tot} (h : wordB x.c = false) : totB x = false := by simp [totB, h]
theorem totB_m {x : Tot} (h : x.m < 1 ∨ 99 < x.m) : totB x = false := by
  rw [totB, decide_eq_false (by omega : ¬ (1 ≤ x.m ∧ x.m ≤ 99))]; simp
theorem totB_s {x : Tot} (h : x.s < 0 ∨ x.m * 999 < x.s) : totB x = false := by
  rw [totB, decide_eq_false (by omega : ¬ (0 ≤ x.s ∧ x.s ≤ x.m * 999))]; simp
theorem totB_yes {x : Tot} (h : wordB x.c = true) (h1 : 1 ≤ x.m) (h2 : x.m ≤ 99) (h3 : 0 ≤ x.s) (h4 : x.s ≤ x.m * 999) : totB x = true := by
  rw [totB, h, decide_eq_true ⟨h1, h2⟩, decide_eq_true ⟨h3, h4⟩]; rfl

set_option maxHeartbeats 1000000 in
theorem tv_any (c : ByteArray) (m s : Int) (w : World) (hs : c.size ≤ maxLen) :
    Calls Try.prog 19 #[.agg #[.string c, .int .i64 m, .int .i64 s]] w fun e w' => e = .returned (.bool (totB ⟨c, m, s⟩)) ∧ w.grownBy w' none := by
  obtain ⟨b, hb⟩ : ∃ b, wordB c = b := ⟨_, rfl⟩
  have e1 := fun w => word_is c b w hs hb
  have HB := hid hb
  clear hb hs
  cases b with
  | false =>
    rw [totB_c HB.out]
    go_enter Try.func19, Try.ntmps19
    go_wp2_with fail
    refine (e1 _).mono ?_
    rintro e w_ ⟨rfl, rfl⟩
    go_wp2_with fail
    go_ret
    exact ⟨rfl, World.grownBy_alloc w _ none⟩
  | true =>
    rcases (by omega : m < 1 ∨ 99 < m ∨ (1 ≤ m ∧ m ≤ 99 ∧ s < 0) ∨ (1 ≤ m ∧ m ≤ 99 ∧ 0 ≤ s ∧ m * 999 < s) ∨ (1 ≤ m ∧ m ≤ 99 ∧ 0 ≤ s ∧ s ≤ m * 999)) with q | q | ⟨q, q2, q3⟩ | ⟨q, q2, q3, q4⟩ | ⟨q, q2, q3, q4⟩
    · rw [totB_m (.inl q)]
      go_enter Try.func19, Try.ntmps19
      go_wp2_with fail
      refine (e1 _).mono ?_
      rintro e w_ ⟨rfl, rfl⟩
      go_wp2_with fail
      go_ret
      exact ⟨rfl, World.grownBy_alloc w _ none⟩
    · rw [totB_m (.inr q)]
      go_enter Try.func19, Try.ntmps19
      go_wp2_with fail
      refine (e1 _).mono ?_
      rintro e w_ ⟨rfl, rfl⟩
      go_wp2_with fail
      go_ret
      exact ⟨rfl, World.grownBy_alloc w _ none⟩
    · rw [totB_s (.inl q3)]
      go_enter Try.func19, Try.ntmps19
      go_wp2_with fail
      refine (e1 _).mono ?_
      rintro e w_ ⟨rfl, rfl⟩
      go_wp2_with fail
      go_ret
      exact ⟨ret_bool (by simp <;> omega), World.grownBy_alloc w _ none⟩
    · rw [totB_s (.inr q4)]
      go_enter Try.func19, Try.ntmps19
      go_wp2_with fail
      refine (e1 _).mono ?_
      rintro e w_ ⟨rfl, rfl⟩
      go_wp2_with fail
      go_ret
      exact ⟨ret_bool (by simp <;> omega), World.grownBy_alloc w _ none⟩
    · rw [totB_yes HB.out q q2 q3 q4]
      go_enter Try.func19, Try.ntmps19
      go_wp2_with fail
      refine (e1 _).mono ?_
      rintro e w_ ⟨rfl, rfl⟩
      go_wp2_with fail
      go_ret
      exact ⟨ret_bool (by simp <;> omega), World.grownBy_alloc w _ none⟩
theorem tv_is (c : ByteArray) (m s : Int) (b : Bool) (w : World) (hs : c.size ≤ maxLen) (h : totB ⟨c, m, s⟩ = b) :
    Calls Try.prog 19 #[.agg #[.string c, .int .i64 m, .int .i64 s]] w fun e w' => e = .returned (.bool b) ∧ w.grownBy w' none := h ▸ tv_any c m s w hs

set_option maxHeartbeats 2000000 in
/-- Two lists that tell the same. -/
theorem st_same (A B : Option Addr) (n m cA cB : Nat) (xs : List Tot) (w : World) (hA : Lies w A (xs.flatMap Tot.cells)) (hB : Lies w B (xs.flatMap Tot.cells)) (hn : xs.length = n) (hm : xs.length = m) (hcA : n ≤ cA) (hMA : cA ≤ maxLen) (hcB : m ≤ cB) (hMB : cB ≤ maxLen) :
    Calls Try.prog 16 #[.slice A n cA, .slice B m cB] w fun e w' => e = .returned (.bool true) ∧ w.grownBy w' none := by
  unfold maxLen at hMA hMB
  obtain rfl : n = m := hn.symm.trans hm
  have HN := hid hn
  clear hn hm
  go_enter Try.func16, Try.ntmps16
  go_wp2_with fail
  go_loopw [5] (fun i wr => ∃ k : Nat, i = .int .i64 k ∧ k ≤ n ∧ w.grownBy wr none) (fun i _ => n - (intOf i).toNat)
  case atStart => exact ⟨0, rfl, by omega, gr_refl _ _⟩
  case round =>
    obtain ⟨k, rfl, hkn, hgr⟩ := hrel
    by_cases hlt : k < n
    · have hk1 : k < xs.length := by rw [HN.out]; exact hlt
      obtain ⟨g, o, rfl, hg, hc1⟩ := hA.open_ (by rw [flat_len Tot.cells 3 (fun _ => rfl)]; omega)
      obtain ⟨g', o', rfl, hg', hc2⟩ := hB.open_ (by rw [flat_len Tot.cells 3 (fun _ => rfl)]; omega)
      obtain ⟨ca, cb, cc⟩ := totAt hc1 hk1
      obtain ⟨da, db, dc⟩ := totAt hc2 hk1
      replace ca := hgr.cell ca (by simp)
      replace cb := hgr.cell cb (by simp)
      replace cc := hgr.cell cc (by simp)
      replace da := hgr.cell da (by simp)
      replace db := hgr.cell db (by simp)
      replace dc := hgr.cell dc (by simp)
      obtain ⟨z, hz⟩ : ∃ z, xs[k] = z := ⟨_, rfl⟩
      rw [hz] at ca cb cc da db dc
      obtain ⟨c, tm, ts⟩ := z
      simp only [] at ca cb cc da db dc
      have b1 : (0 : Int) ≤ (k : Int) := by omega
      have b2 : (k : Int) < (n : Int) := by omega
      clear hz hc1 hc2
      go_wp2_with fail
      go_quiet (fail)
      go_wp2_with fail
      go_roundw
      case rel => exact ⟨k + 1, by go_num, by omega, gr_drewN hgr _⟩
      case measure => simp [intOf]; omega
    · go_wp2_with fail
      go_ret
      exact ⟨rfl, hgr⟩
end Go.Proofs.Ytokhkgimmijoaaa
