/- The walk of FnFoldSplit. -/
import Derived.Test.YtigcmdbialbadaaFoldFn2
namespace Go.Proofs.Ytigcmdbialbadaa
open Go.RowKit

set_option maxRecDepth 100000 in
set_option maxHeartbeats 2000000 in
theorem foldSplit_walk (A : Option Addr) (n c : Nat) (zs : List Int) (Am : Option Addr) (nm cm : Nat) (zsm : List Int) (w : World) (h : Code w A n c zs) (h2 : Code w Am nm cm zsm) :
    Calls Try.prog 5 #[.slice A n c, .slice Am nm cm] w fun e w' => e = .returned (.bool true) ∧ w.grownBy w' none := by
  have hc := h.cap
  have hm := h.max
  have hc2 := h2.cap
  have hm2 := h2.max
  unfold maxLen at hm hm2
  by_cases h1 : n > 1048576
  · go_enter Try.func5, Try.ntmps5
    go_wp2
    go_ret
    exact ⟨rfl, gr_refl _ _⟩
  by_cases h3 : nm > 1048576
  · go_enter Try.func5, Try.ntmps5
    go_wp2
    go_ret
    exact ⟨rfl, gr_refl _ _⟩
  go_enter Try.func5, Try.ntmps5
  go_wp2_with fail
  refine (dfo_any A n c zs _ h).mono ?_
  rintro e w1 ⟨B, N, C, l, rfl, hO, hl, hN, hsm, hg1⟩
  have hC := hO.cap
  have hCm := hO.max
  have hks : ∀ x ∈ l, x.kind.size ≤ maxLen := fun x hx => by have := (hsm x hx).kind; simp only [maxLen]; omega
  obtain ⟨b, hb⟩ : ∃ b, foB fd0 l = b := ⟨_, rfl⟩
  obtain ⟨y, hy⟩ : ∃ y, foV fd0 l = y := ⟨_, rfl⟩
  obtain ⟨v, s, t⟩ := y
  have e1 := fun w hL => of_fold B N C l w hL hl hC hCm hks
  have e2 := fun w hL => sof_fold B N C l w hL hl hC hCm hks
  simp only [hb, hy] at e1 e2
  have HL := hid hl
  have HB := hid hb
  have HY := hid hy
  have HK := hid hks
  have hB := hid (fun b hb => (hO.block (b := b) hb).2)
  have L1 := hO.lies
  clear hl hb hy hks hO hsm
  unfold maxLen at hCm
  go_wp2_with fail
  refine (e1 _ L1).mono ?_
  rintro e w2 ⟨rfl, hg2⟩
  have L2 := L1.grown0 hg2
  have G2 := gr_0 hg1 hg2
  clear hg2
  have P2 := Full.new w2 24 #[.int .i64 v, .int .i64 s, .string t]
  have L2b := L2.alloc (.cells #[.int .i64 v, .int .i64 s, .string t] 24)
  have G2b := gr_alloc G2 (.cells #[.int .i64 v, .int .i64 s, .string t] 24)
  go_wp2_with fail
  refine (e2 _ L2b).mono ?_
  rintro e w3 ⟨rfl, hg3⟩
  have L3 := L2b.grown0 hg3
  have G3 := gr_0 G2b hg3
  have P3 := P2.grown hg3 (by simp)
  clear hg3
  have Q3 := Full.new w3 24 #[.int .i64 v, .int .i64 s, .string t]
  have L3b := L3.alloc (.cells #[.int .i64 v, .int .i64 s, .string t] 24)
  have G3b := gr_alloc G3 (.cells #[.int .i64 v, .int .i64 s, .string t] 24)
  have P3b := P3.alloc (.cells #[.int .i64 v, .int .i64 s, .string t] 24)
  clear e1 e2
  have pc0 := P3b.cellAt 0 rfl
  have pc1 := P3b.cellAt 1 rfl
  have pc2 := P3b.cellAt 2 rfl
  cases b with
  | false =>
    go_wp2_with fail
    go_ret
    first | exact ⟨rfl, G3b⟩ | exact ⟨ret_bool (by simp), G3b⟩
  | true =>
    obtain ⟨p1, p2, p3⟩ := foB_parts HB.out
    have hF : foldF fd0 l = ⟨v, s, t⟩ := by rw [← foV_yes HB.out]; exact HY.out
    have hev := (evsB_all p2).2
    have hv := foldF_v fd0 l
    rw [hF, HL.out] at hv
    simp only [fd0] at hv
    rw [hF] at p3
    have P1 := hid p1
    have P2 := hid p2
    have P3 := hid (show fdB v s t = true from p3)
    have HF := hid hF
    have HE := hid hev
    clear p1 p2 p3 hF hev
    obtain ⟨k, hk, hkN⟩ : ∃ k : Nat, (nm : Int) % ((N : Int) + 1) = (k : Int) ∧ k ≤ N := ⟨nm % (N + 1), by simp, by have := Nat.mod_lt nm (show N + 1 > 0 by omega); omega⟩
    have ht1 : evsB (l.take k) = true ∧ evsB (l.drop k) = true := by
      have h := P2.out
      simp only [evsB, Bool.and_eq_true, decide_eq_true_eq, List.all_eq_true] at h ⊢
      have h24 := h.1.1
      refine ⟨⟨⟨by rw [List.length_take]; omega, fun x hx => h.1.2 x (List.mem_of_mem_take hx)⟩, ?_⟩, ⟨⟨by rw [List.length_drop]; omega, fun x hx => h.1.2 x (List.mem_of_mem_drop hx)⟩, ?_⟩⟩
      · rw [List.map_take]; exact h.2.sublist (List.take_sublist _ _)
      · rw [List.map_drop]; exact h.2.sublist (List.drop_sublist _ _)
    obtain ⟨ht1, ht2⟩ := ht1
    have hlt : (l.take k).length = k := by rw [List.length_take, HL.out]; omega
    have hld : (l.drop k).length = N - k := by rw [List.length_drop, HL.out]
    have hb1 : foB fd0 (l.take k) = true := by rw [fo0_B]; exact ht1
    obtain ⟨z, hz⟩ : ∃ z, foldF fd0 (l.take k) = z := ⟨_, rfl⟩
    have hv1 : foV fd0 (l.take k) = z := (foV_yes hb1).trans hz
    have hap := foldF_app fd0 (l.take k) (l.drop k)
    rw [List.take_append_drop, hz, HF.out] at hap
    have hok1 := (foB_parts hb1).2.2
    rw [hz] at hok1
    have hb2 : foB z (l.drop k) = true := by
      rw [foB, hok1, ht2, ← hap]; exact P1.out ▸ P3.out
    have hv2 : foV z (l.drop k) = ⟨v, s, t⟩ := (foV_yes hb2).trans hap.symm
    have hzt : z.t.size ≤ maxLen := by
      rcases Nat.eq_zero_or_pos (l.take k).length with h0 | h0
      · have h1 : l.take k = [] := List.eq_nil_of_length_eq_zero h0
        rw [h1] at hz
        rw [← hz]; decide
      · have := foldF_t fd0 h0
        rw [hz] at this
        rw [this]
        exact HK.out _ (List.mem_of_mem_take (List.getElem_mem _))
    obtain ⟨zv, zs, zt⟩ := z
    have e3 := fun w (hL : Lies w B (l.flatMap Ev.cells)) => of_fold B k C (l.take k) w (by rw [← flat_take Ev.cells 3 (fun _ => rfl)]; exact hL.take _) hlt (by omega) (by unfold maxLen; exact hCm) (fun x hx => HK.out x (List.mem_of_mem_take hx))
    have e4 := fun D c' w (hL : Lies w D ((l.drop k).flatMap Ev.cells)) hc hm => fo_any zv zs zt D (N - k) c' (l.drop k) w hL hld hc hm hzt (fun x hx => HK.out x (List.mem_of_mem_drop hx))
    simp only [hb1, hv1] at e3
    simp only [hb2, hv2] at e4
    have HFL := hid (flat_drop Ev.cells 3 (fun _ => rfl) l k)
    clear hb1 hv1 hb2 hv2 hap hok1 hz hzt ht1 ht2 hlt hld hv
    go_wp2_with fail
    refine (e3 _ L3b).mono ?_
    rintro e w4 ⟨rfl, hg4⟩
    have L4 := L3b.grown0 hg4
    have G4 := gr_0 G3b hg4
    have P4 := P3b.grown hg4 (by simp)
    have Q4 := Q3.grown hg4 (by simp)
    clear hg4
    have Z4 := Full.new w4 24 #[.int .i64 zv, .int .i64 zs, .string zt]
    have L4b := L4.alloc (.cells #[.int .i64 zv, .int .i64 zs, .string zt] 24)
    have G4b := gr_alloc G4 (.cells #[.int .i64 zv, .int .i64 zs, .string zt] 24)
    have P4b := P4.alloc (.cells #[.int .i64 zv, .int .i64 zs, .string zt] 24)
    have pc0 := P4b.cellAt 0 rfl
    have pc1 := P4b.cellAt 1 rfl
    have pc2 := P4b.cellAt 2 rfl
    have zc0 := Z4.cellAt 0 rfl
    have zc1 := Z4.cellAt 1 rfl
    have zc2 := Z4.cellAt 2 rfl
    go_wp2_with fail
    have hsz := G4b.size
    simp at hsz
    have hlx : (l.flatMap Ev.cells).length = N * 3 := by rw [flat_len Ev.cells 3 (fun _ => rfl), HL.out]
    have HLX := hid hlx
    have hzl := Z4.lt
    have hpl := P4b.lt
    simp at hpl
    have zn := World.new_ne _ _ zc0
    have zns := zn.symm
    have pn := World.new_ne _ _ pc0
    have pns := pn.symm
    clear hlx e3
    rcases Decidable.em (C = k) with hCk | hCk
    · go_region_held3 (fun w' => w'.cell? ⟨w4.heap.size, 0, none⟩ = some (.int .i64 zv) ∧ w'.cell? ⟨w4.heap.size, 1, none⟩ = some (.int .i64 zs) ∧ w'.cell? ⟨w4.heap.size, 2, none⟩ = some (.string zt)) (go_keep)
        (first
          | (go_at_call 15
             refine (e4 B 0 _ ?_ ?_ ?_).mono ?_
             · rw [← HFL.out]
               have q := (Lies.cutN (s := 3) (k := k) L4b HLX.out (show N ≤ C by omega)).drew
               rw [if_pos hCk] at q
               exact q
             · omega
             · unfold maxLen; omega
             rintro e w9 ⟨rfl, hg9⟩
             have Z9 := Z4.drew.grown hg9 (by simp)
             have P9 := P4b.drew.grown hg9 (by simp)
             have G9 := gr_0 (gr_drew G4b) hg9
             have zc0 := Z9.cellAt 0 rfl
             have zc1 := Z9.cellAt 1 rfl
             have zc2 := Z9.cellAt 2 rfl
             have pc0 := P9.cellAt 0 rfl
             have pc1 := P9.cellAt 1 rfl
             have pc2 := P9.cellAt 2 rfl
             have hp9 := P9.lt
             have pn9 : w9.heap.size ≠ w2.heap.size := by omega
             have pn9s := pn9.symm)
          | (go_at_call 15
             refine (e4 B 0 _ ?_ ?_ ?_).mono ?_
             · rw [← HFL.out]
               have q := (Lies.cutN (s := 3) (k := k) (L4b.alloc (.cells #[.int .i64 0, .int .i64 0, .string ⟨#[]⟩] 24)) HLX.out (show N ≤ C by omega)).drew
               rw [if_pos hCk] at q
               exact q
             · omega
             · unfold maxLen; omega
             rintro e w9 ⟨rfl, hg9⟩
             have Z9 := (Z4.alloc (.cells #[.int .i64 0, .int .i64 0, .string ⟨#[]⟩] 24)).drew.grown hg9 (by simp)
             have P9 := (P4b.alloc (.cells #[.int .i64 0, .int .i64 0, .string ⟨#[]⟩] 24)).drew.grown hg9 (by simp)
             have G9 := gr_0 (gr_drew (gr_alloc G4b (.cells #[.int .i64 0, .int .i64 0, .string ⟨#[]⟩] 24))) hg9
             have zc0 := Z9.cellAt 0 rfl
             have zc1 := Z9.cellAt 1 rfl
             have zc2 := Z9.cellAt 2 rfl
             have pc0 := P9.cellAt 0 rfl
             have pc1 := P9.cellAt 1 rfl
             have pc2 := P9.cellAt 2 rfl
             have hp9 := P9.lt
             have pn9 : w9.heap.size ≠ w2.heap.size := by omega
             have pn9s := pn9.symm
             have X9 := (Full.newAt (w := w4.alloc (.cells #[.int .i64 zv, .int .i64 zs, .string zt] 24)) (t := 24) (cs := #[.int .i64 0, .int .i64 0, .string ⟨#[]⟩]) (H := w4.heap.size + 1) (by simp)).drew.grown hg9 (by simp)
             have xc0 := X9.cellAt 0 rfl
             have xc1 := X9.cellAt 1 rfl
             have xc2 := X9.cellAt 2 rfl
             have xf0 := X9.free 0
             have xf1 := X9.free 1
             have xf2 := X9.free 2
             have xn : w4.heap.size + 1 ≠ w2.heap.size := by omega
             have xns := xn.symm))
      all_goals
        go_wp2_with fail
        go_ret
        first | exact ⟨rfl, by repeat (first | exact G9 | refine gr_put ?_ (by omega) _ | refine gr_alloc ?_ _)⟩ | exact ⟨ret_bool (by simp), by repeat (first | exact G9 | refine gr_put ?_ (by omega) _ | refine gr_alloc ?_ _)⟩
    · go_region_held3 (fun w' => w'.cell? ⟨w4.heap.size, 0, none⟩ = some (.int .i64 zv) ∧ w'.cell? ⟨w4.heap.size, 1, none⟩ = some (.int .i64 zs) ∧ w'.cell? ⟨w4.heap.size, 2, none⟩ = some (.string zt)) (go_keep)
        (first
          | (go_at_call 15
             refine (e4 (Option.map (fun x => x.add (k * 3)) B) (C - k) _ ?_ ?_ ?_).mono ?_
             · rw [← HFL.out]
               have q := (Lies.cutN (s := 3) (k := k) L4b HLX.out (show N ≤ C by omega)).drew
               rw [if_neg hCk] at q
               exact q
             · omega
             · unfold maxLen; omega
             rintro e w9 ⟨rfl, hg9⟩
             have Z9 := Z4.drew.grown hg9 (by simp)
             have P9 := P4b.drew.grown hg9 (by simp)
             have G9 := gr_0 (gr_drew G4b) hg9
             have zc0 := Z9.cellAt 0 rfl
             have zc1 := Z9.cellAt 1 rfl
             have zc2 := Z9.cellAt 2 rfl
             have pc0 := P9.cellAt 0 rfl
             have pc1 := P9.cellAt 1 rfl
             have pc2 := P9.cellAt 2 rfl
             have hp9 := P9.lt
             have pn9 : w9.heap.size ≠ w2.heap.size := by omega
             have pn9s := pn9.symm)
          | (go_at_call 15
             refine (e4 (Option.map (fun x => x.add (k * 3)) B) (C - k) _ ?_ ?_ ?_).mono ?_
             · rw [← HFL.out]
               have q := (Lies.cutN (s := 3) (k := k) (L4b.alloc (.cells #[.int .i64 0, .int .i64 0, .string ⟨#[]⟩] 24)) HLX.out (show N ≤ C by omega)).drew
               rw [if_neg hCk] at q
               exact q
             · omega
             · unfold maxLen; omega
             rintro e w9 ⟨rfl, hg9⟩
             have Z9 := (Z4.alloc (.cells #[.int .i64 0, .int .i64 0, .string ⟨#[]⟩] 24)).drew.grown hg9 (by simp)
             have P9 := (P4b.alloc (.cells #[.int .i64 0, .int .i64 0, .string ⟨#[]⟩] 24)).drew.grown hg9 (by simp)
             have G9 := gr_0 (gr_drew (gr_alloc G4b (.cells #[.int .i64 0, .int .i64 0, .string ⟨#[]⟩] 24))) hg9
             have zc0 := Z9.cellAt 0 rfl
             have zc1 := Z9.cellAt 1 rfl
             have zc2 := Z9.cellAt 2 rfl
             have pc0 := P9.cellAt 0 rfl
             have pc1 := P9.cellAt 1 rfl
             have pc2 := P9.cellAt 2 rfl
             have hp9 := P9.lt
             have pn9 : w9.heap.size ≠ w2.heap.size := by omega
             have pn9s := pn9.symm
             have X9 := (Full.newAt (w := w4.alloc (.cells #[.int .i64 zv, .int .i64 zs, .string zt] 24)) (t := 24) (cs := #[.int .i64 0, .int .i64 0, .string ⟨#[]⟩]) (H := w4.heap.size + 1) (by simp)).drew.grown hg9 (by simp)
             have xc0 := X9.cellAt 0 rfl
             have xc1 := X9.cellAt 1 rfl
             have xc2 := X9.cellAt 2 rfl
             have xf0 := X9.free 0
             have xf1 := X9.free 1
             have xf2 := X9.free 2
             have xn : w4.heap.size + 1 ≠ w2.heap.size := by omega
             have xns := xn.symm))
      all_goals
        go_wp2_with fail
        go_ret
        first | exact ⟨rfl, by repeat (first | exact G9 | refine gr_put ?_ (by omega) _ | refine gr_alloc ?_ _)⟩ | exact ⟨ret_bool (by simp), by repeat (first | exact G9 | refine gr_put ?_ (by omega) _ | refine gr_alloc ?_ _)⟩

end Go.Proofs.Ytigcmdbialbadaa
