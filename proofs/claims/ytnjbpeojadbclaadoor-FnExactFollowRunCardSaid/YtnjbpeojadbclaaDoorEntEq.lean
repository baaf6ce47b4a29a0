/- Two equal slices of entries: laws.eqEntryS says so. -/
import Derived.Test.YtnjbpeojadbclaaDoorEntTo
namespace Go.Proofs.YtnjbpeojadbclaaDoor
open Go.RowKit

set_option maxHeartbeats 1000000 in
theorem eqv_same (i : Int) (k : ByteArray) (d : Int) (w : World) :
    Calls Tryd.prog 34 #[.agg #[.int .i64 i, .string k, .int .i64 d], .agg #[.int .i64 i, .string k, .int .i64 d]] w fun e w' => e = .returned (.bool true) ∧ w.grownBy w' none := by
  have G0 := gr_alloc (gr_alloc (gr_refl w none) (.cells #[.int .i64 i, .string k, .int .i64 d] 40)) (.cells #[.int .i64 i, .string k, .int .i64 d] 40)
  have q1 : (i != i) = false := by simp
  have q2 : (k.toList == k.toList) = true := by simp
  have q3 : (d != d) = false := by simp
  go_enter Tryd.func34, Tryd.ntmps34
  go_wp2_with fail
  go_ret
  exact ⟨rfl, G0⟩

set_option maxHeartbeats 1000000 in
theorem eqn_same (nm : ByteArray) (i : Int) (k : ByteArray) (d : Int) (w : World) :
    Calls Tryd.prog 21 #[.agg #[.string nm, .int .i64 i, .string k, .int .i64 d], .agg #[.string nm, .int .i64 i, .string k, .int .i64 d]] w fun e w' => e = .returned (.bool true) ∧ w.grownBy w' none := by
  have G0 := gr_alloc (gr_alloc (gr_refl w none) (.cells #[.string nm, .int .i64 i, .string k, .int .i64 d] 42)) (.cells #[.string nm, .int .i64 i, .string k, .int .i64 d] 42)
  have q2 : (nm.toList == nm.toList) = true := by simp
  have e1 := fun w => eqv_same i k d w
  go_enter Tryd.func21, Tryd.ntmps21
  go_wp2_with fail
  refine (e1 _).mono ?_
  rintro e w1 ⟨rfl, hg⟩
  have G1 := gr_0 G0 hg
  clear e1 hg
  go_wp2_with fail
  go_ret
  exact ⟨rfl, G1⟩

set_option maxHeartbeats 2000000 in
theorem eqs_same (A B : Option Addr) (n c m d : Nat) (xs : List En) (w : World) (hA : EArg w A n c xs) (hB : EArg w B m d xs) :
    Calls Tryd.prog 9 #[.slice A n c, .slice B m d] w fun e w' => e = .returned (.bool true) ∧ w.grownBy w' none := by
  have hMA := hA.max
  have hMB := hB.max
  have hcA := hA.cap
  have hcB := hB.cap
  unfold maxLen at hMA hMB
  obtain rfl : n = m := by rw [← hA.len, ← hB.len]
  have HA := hid hA
  have HB := hid hB
  clear hA hB
  go_enter Tryd.func9, Tryd.ntmps9
  go_wp2_with fail
  go_loopw [5] (fun i wr => ∃ k : Nat, i = .int .i64 k ∧ k ≤ n ∧ w.grownBy wr none) (fun i _ => n - (intOf i).toNat)
  case atStart => exact ⟨0, rfl, by omega, gr_refl _ _⟩
  case round =>
    obtain ⟨k, rfl, hkn, hgr⟩ := hrel
    by_cases hlt : k < n
    · have hk1 : k < xs.length := by rw [HA.out.len]; exact hlt
      obtain ⟨g, o, hAe, hg, hc1⟩ := HA.out.open_ (by omega)
      obtain ⟨g', o', hBe, hg', hc2⟩ := HB.out.open_ (by omega)
      have ca := fun w2 (hg2 : wr.grownBy w2 none) => (hc1 k hk1 w2 (gr_0 hgr hg2)).1
      have cb := fun w2 (hg2 : wr.grownBy w2 none) => (hc1 k hk1 w2 (gr_0 hgr hg2)).2.1
      have cc := fun w2 (hg2 : wr.grownBy w2 none) => (hc1 k hk1 w2 (gr_0 hgr hg2)).2.2.1
      have cd := fun w2 (hg2 : wr.grownBy w2 none) => (hc1 k hk1 w2 (gr_0 hgr hg2)).2.2.2
      have da := fun w2 (hg2 : wr.grownBy w2 none) => (hc2 k hk1 w2 (gr_0 hgr hg2)).1
      have db := fun w2 (hg2 : wr.grownBy w2 none) => (hc2 k hk1 w2 (gr_0 hgr hg2)).2.1
      have dc := fun w2 (hg2 : wr.grownBy w2 none) => (hc2 k hk1 w2 (gr_0 hgr hg2)).2.2.1
      have dd := fun w2 (hg2 : wr.grownBy w2 none) => (hc2 k hk1 w2 (gr_0 hgr hg2)).2.2.2
      obtain ⟨z, hz⟩ : ∃ z, xs[k] = z := ⟨_, rfl⟩
      rw [hz] at ca cb cc cd da db dc dd
      obtain ⟨nm, i, kd, dt⟩ := z
      simp only [] at ca cb cc cd da db dc dd
      have HE1 := hid (fun w2 => eqn_same nm i kd dt w2)
      subst hAe hBe
      have b1 : (0 : Int) ≤ (k : Int) := by omega
      have b2 : (k : Int) < (n : Int) := by omega
      clear hz hc1 hc2
      go_wp2_with fail
      go_region_held3 (fun w' => wr.grownBy w' none) (((repeat (first | (with_reducible assumption) | (with_reducible exact gr_refl _ _) | (with_reducible refine gr_alloc ?_ _) | (with_reducible refine gr_drew ?_))); (first | done | fail "left")))
        (first
          | (go_at_call 21
             refine (HE1.out _).mono ?_
             rintro e w2 ⟨rfl, hg2⟩
             have G2 : wr.grownBy w2 none := gr_0 (show wr.grownBy _ none by ((repeat (first | (with_reducible assumption) | (with_reducible exact gr_refl _ _) | (with_reducible refine gr_alloc ?_ _) | (with_reducible refine gr_drew ?_))); (first | done | fail "left"))) hg2
             clear hg2))
      all_goals
        go_wp2_with fail
        go_roundw
        case rel => exact ⟨k + 1, by go_num, by omega, gr_0 hgr (show wr.grownBy _ none by ((repeat (first | (with_reducible assumption) | (with_reducible exact gr_refl _ _) | (with_reducible refine gr_alloc ?_ _) | (with_reducible refine gr_drew ?_))); (first | done | fail "left")))⟩
        case measure => simp [intOf]; omega
    · go_wp2_with fail
      go_ret
      exact ⟨rfl, hgr⟩
end Go.Proofs.YtnjbpeojadbclaaDoor
