import Derived.Test.YtnjbpeojadbclaaDoorRun
namespace Go.Proofs.YtnjbpeojadbclaaDoor
open Go.RowKit

set_option maxHeartbeats 2000000 in
theorem piece_is (A : Option Addr) (n cA m k : Nat) (xs : List En) (w : World) (h : EArg w A n cA xs) (hm : m ≤ n) (hk : k ≤ 99) (hn : n ≤ 1000) :
    Calls Tryd.prog 26 #[.slice A n cA, .int .i64 (m : Int), .int .i64 (k : Int)] w fun e w' => ∃ (A4 : Option Addr) (c4 : Nat), e = .returned (.slice A4 (min (m + k) n - m) c4) ∧ Own w' w.heap.size 42 4 A4 (min (m + k) n - m) c4 (ecells ((xs.take (min (m + k) n)).drop m)) ∧ w.grownBy w' none := by
  have hc := h.cap
  have hx := h.max
  unfold maxLen at hx
  have q1 : min (m : Int) (n : Int) = (m : Int) := by omega
  have q2 : min ((m : Int) + (k : Int)) (n : Int) = ((min (m + k) n : Nat) : Int) := by omega
  obtain ⟨j, hj⟩ : ∃ j, min (m + k) n = j := ⟨_, rfl⟩
  rw [hj] at q2
  rw [hj]
  have j1 : m ≤ j := by omega
  have j2 : j ≤ n := by omega
  obtain ⟨D, hD⟩ : ∃ D, (if cA = m then A else Option.map (fun x => x.add (m * 4)) A) = D := ⟨_, rfl⟩
  have HTk := h.take j2
  have LT0 : Lies w D (ecells ((xs.take j).drop m)) := by
    rw [← hD, ecells, ← flat_drop En.cells 4 (fun _ => rfl)]
    exact HTk.li.cutN (by rw [ecells_len, HTk.len]) HTk.cap
  have LT := LT0.grown0 (World.grownBy_alloc w (.cells #[] 42) none)
  have hlen : (ecells ((xs.take j).drop m)).length = (j - m) * 4 := by rw [ecells_len, List.length_drop, HTk.len]
  have O3 := Own.empty (e := 42) (s := 4) (base := w.heap.size) w (Nat.le_refl _)
  have HLen := hid hlen
  have HO3 := hid O3
  have HLT := hid LT
  clear HTk LT0 LT O3 hlen h hj
  go_enter Tryd.func26, Tryd.ntmps26
  go_wp2_with (at_builtin; refine wpList_app _ rfl _ _ 24 rfl w.heap.size 42 Tryd.underlying24 entInfo rfl (by omega) (some ⟨w.heap.size, 0, none⟩) 0 0 [] rfl HO3.out D (j - m) (cA - m) (ecells ((xs.take j).drop m)) rfl HLT.out HLen.out (ecells_one _) (by omega) (by omega) (by simp) ?_; intro A5 c5 w5 hown5 hg5 _)
  have G5 := gr_then (World.grownBy_alloc w (.cells #[] 42) none) hg5 (fun g hg => .inr (by injection hg with hg; rw [← hg]; exact Nat.le_refl _))
  rw [Nat.zero_add, List.nil_append] at hown5
  try rw [Nat.zero_add]
  go_ret
  exact ⟨A5, c5, rfl, hown5, G5⟩
end Go.Proofs.YtnjbpeojadbclaaDoor
