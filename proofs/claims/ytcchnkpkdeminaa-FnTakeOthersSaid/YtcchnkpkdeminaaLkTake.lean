/- LocksTake in impl. -/
import Derived.Test.YtcchnkpkdeminaaLkFree
namespace Go.Proofs.Ytcchnkpkdeminaa
open Go.RowKit

noncomputable def tkV (l : List Lk) (o : Int) (xs : List Int) : List Lk := if freeB l o xs then takeL l o xs else []
def TkTo (w : World) (l : List Lk) (b : Bool) (e : Ending) (w' : World) : Prop :=
  ∃ (A : Option Addr) (m c : Nat), e = .returned (.tuple #[.slice A m c, .bool b]) ∧ Own w' w.heap.size 32 2 A m c (l.flatMap Lk.cells) ∧ l.length = m ∧ m ≤ 8 ∧ w.grownBy w' none
theorem heldT_zero (l : List Lk) (o : Int) : heldT l o [] = ownerOf l := by funext s; simp [heldT]
theorem heldT_next {l : List Lk} {o : Int} {xs : List Int} {k : Nat} (h : k < xs.length) : heldT l o (xs.take (k + 1)) = fun t => if t = xs[k] then o else heldT l o (xs.take k) t := by
  funext t
  have hm : ∀ s, s ∈ xs.take (k + 1) ↔ s ∈ xs.take k ∨ s = xs[k] := fun s => by
    rw [List.take_succ_eq_append_getElem h, List.mem_append, List.mem_singleton]
  simp only [heldT, hm]
  by_cases q : t = xs[k]
  · rw [if_pos (.inr q), if_pos q]
  · rw [if_neg q]
    by_cases r : t ∈ xs.take k
    · rw [if_pos (.inl r), if_pos r]
    · rw [if_neg (fun e => e.elim r q), if_neg r]
structure TkAt (w : World) (b : Nat) (l : List Lk) (o : Int) (xs : List Int) (k : Nat) (wr : World) : Prop where
  var : Full wr b 48 (hc (heldT l o (xs.take k)))
  gr : w.grownBy wr none

set_option maxHeartbeats 2000000 in
theorem tk_any (A : Option Addr) (n c : Nat) (l : List Lk) (o : Int) (D : Option Addr) (m d : Nat) (xs : List Int) (w : World) (h : Lies w A (l.flatMap Lk.cells)) (hn : l.length = n) (hc_ : n ≤ c) (hm : c ≤ maxLen) (hD : Lies w D (ints xs)) (hxn : xs.length = m) (hdc : m ≤ d) (hdm : d ≤ maxLen) :
    Calls Try.prog 24 #[.slice A n c, .int .i64 o, .slice D m d] w (TkTo w (tkV l o xs) (freeB l o xs)) := by
  obtain ⟨b, hb⟩ : ∃ b, freeB l o xs = b := ⟨_, rfl⟩
  have e1 := fun w hL hD1 => lf_any A n c l o D m d xs w hL hn hc_ hm hD1 hxn hdc hdm
  rw [hb] at e1 ⊢
  have e2 := fun w hL hv => ho_any A n c l w hL hn hc_ hm hv
  have HB := hid hb
  have HX := hid hxn
  clear hb hn hxn
  unfold maxLen at hm hdm
  go_enter Try.func24, Try.ntmps24
  go_wp2_with fail
  refine (e1 _ h hD).mono ?_
  rintro e w1 ⟨rfl, hg1⟩
  have L1 := h.grown0 hg1
  have D1 := hD.grown0 hg1
  clear e1
  cases b with
  | false =>
    go_wp2_with fail
    go_ret2
    exact ⟨_, _, _, rfl, by rw [tkV, HB.out]; exact (Own.empty w1 (Nat.le_refl _)).base_le hg1.size, by rw [tkV, HB.out]; rfl, by omega, gr_alloc hg1 _⟩
  | true =>
    have hps := freeB_parts HB.out
    obtain ⟨p1, p2, p3, p4⟩ := hps
    have HXs := hid (fun x hx => asc_mem p3 x hx)
    have HV := hid (show locksOf (heldT l o xs) = tkV l o xs by
      rw [tkV, HB.out]
      exact held_take p1 p2 (fun s hs => by have := HXs.out s hs; omega))
    have HP1 := hid p1
    clear p1 p2 p3 p4
    go_wp2_with fail
    refine (e2 _ L1 HP1.out).mono ?_
    rintro e w2 ⟨rfl, hg2⟩
    have G2 := gr_0 hg1 hg2
    have D2 := D1.grown0 hg2
    unfold hc
    have V0 : TkAt w w2.heap.size l o xs 0 (w2.alloc (.cells #[.int .i64 (ownerOf l 0), .int .i64 (ownerOf l 1), .int .i64 (ownerOf l 2), .int .i64 (ownerOf l 3), .int .i64 (ownerOf l 4), .int .i64 (ownerOf l 5), .int .i64 (ownerOf l 6), .int .i64 (ownerOf l 7)] 48)) := ⟨by rw [List.take_zero, heldT_zero]; exact Full.new _ _ _, gr_alloc G2 _⟩
    have HV0 := hid V0
    have hw2 := G2.size
    have D3 := hD
    clear V0 hg1 hg2 e2 G2 D2 D1 L1
    go_wp2_with fail
    go_loopw [21] (fun i wr => ∃ k : Nat, i = .int .i64 k ∧ k ≤ m ∧ TkAt w w2.heap.size l o xs k wr) (fun i _ => m - (intOf i).toNat)
    case atStart => exact ⟨0, rfl, by omega, HV0.out⟩
    case round =>
      clear HV0
      obtain ⟨k, rfl, hkm, hat⟩ := hrel
      have V := hat.var
      have Gr := hat.gr
      by_cases hlt : k < m
      · have hkl : k < xs.length := by rw [HX.out]; exact hlt
        have D4 := D3.grown0 Gr
        obtain ⟨g, ofs, rfl, hg, hcell⟩ := D4.open_ (by rw [ints_len]; omega)
        have cx := intAt hcell hkl
        have HNx := hid (heldT_next (l := l) (o := o) hkl)
        have hb := HXs.out _ (List.getElem_mem hkl)
        obtain ⟨x, hx⟩ : ∃ x, xs[k] = x := ⟨_, rfl⟩
        rw [hx] at cx HNx hb
        clear hx hcell
        obtain ⟨hb0, hb1⟩ := hb
        obtain ⟨sn, rfl⟩ : ∃ sn : Nat, x = (sn : Int) := ⟨x.toNat, by omega⟩
        have hs8 : sn < 8 := by omega
        have HS8 := hid (hc_set (heldT l o (xs.take k)) hs8 o)
        have vc := V.cellAt sn (hc_at _ hs8)
        have vf := V.free sn
        have b0 : (0 : Int) ≤ (sn : Int) := by omega
        have b1 : (sn : Int) < 8 := by omega
        clear hat hb0 hb1
        go_wp2_with fail
        go_roundw
        case rel => exact ⟨k + 1, by go_num, by omega, by rw [HNx.out, ← HS8.out]; exact V.set sn _, gr_put Gr hw2 _⟩
        case measure => simp [intOf]; omega
      · obtain rfl : k = m := by omega
        rw [List.take_of_length_le (by rw [HX.out]; omega)] at V
        obtain ⟨hh, hhh⟩ : ∃ hh, heldT l o xs = hh := ⟨_, rfl⟩
        rw [hhh] at V
        have HH := hid hhh
        clear hhh hat
        have vc0 := V.cellAt 0 (v := .int .i64 (hh 0)) rfl
        have vc1 := V.cellAt 1 (v := .int .i64 (hh 1)) rfl
        have vc2 := V.cellAt 2 (v := .int .i64 (hh 2)) rfl
        have vc3 := V.cellAt 3 (v := .int .i64 (hh 3)) rfl
        have vc4 := V.cellAt 4 (v := .int .i64 (hh 4)) rfl
        have vc5 := V.cellAt 5 (v := .int .i64 (hh 5)) rfl
        have vc6 := V.cellAt 6 (v := .int .i64 (hh 6)) rfl
        have vc7 := V.cellAt 7 (v := .int .i64 (hh 7)) rfl
        go_wp2_with fail
        refine (lo_any hh _).mono ?_
        rintro e w4 ⟨A4, m4, c4, rfl, hO4, hl4, hm4, hg4⟩
        have HE := hid (show locksOf hh = tkV l o xs by rw [← HV.out, ← HH.out])
        go_wp2_with fail
        go_ret2
        exact ⟨A4, m4, c4, rfl, by rw [← HE.out]; exact hO4.base_le Gr.size, by rw [← HE.out]; exact hl4, hm4, gr_0 Gr hg4⟩
end Go.Proofs.Ytcchnkpkdeminaa
