/- The locks of who holds what; LocksGive in impl and in spec. -/
import Derived.Test.YtcchnkpkdeminaaLkHold
namespace Go.Proofs.Ytcchnkpkdeminaa
open Go.RowKit

theorem hc_index (h : Int → Int) {k : Nat} (hk : k < 8) : ∀ w, (Instr.index 48 (.agg #[.int .i64 (h 0), .int .i64 (h 1), .int .i64 (h 2), .int .i64 (h 3), .int .i64 (h 4), .int .i64 (h 5), .int .i64 (h 6), .int .i64 (h 7)]) (.int .i64 (k : Int))).run Try.prog w = .ok (.int .i64 (h (k : Int))) w := by
  rcases (by omega : k = 0 ∨ k = 1 ∨ k = 2 ∨ k = 3 ∨ k = 4 ∨ k = 5 ∨ k = 6 ∨ k = 7) with rfl | rfl | rfl | rfl | rfl | rfl | rfl | rfl <;> exact fun _ => by kernel_rfl
def LoTo (w : World) (l : List Lk) (e : Ending) (w' : World) : Prop :=
  ∃ (A : Option Addr) (m c : Nat), e = .returned (.slice A m c) ∧ Own w' w.heap.size 32 2 A m c (l.flatMap Lk.cells) ∧ l.length = m ∧ m ≤ 8 ∧ w.grownBy w' none
structure LoAt (w : World) (h : Int → Int) (k m : Nat) (A : Option Addr) (c : Nat) (wr : World) : Prop where
  own : Own wr w.heap.size 32 2 A m c ((locksFrom h k 0).flatMap Lk.cells)
  len : (locksFrom h k 0).length = m
  le : m ≤ k
  gr : w.grownBy wr none

set_option maxHeartbeats 2000000 in
theorem lo_any (h : Int → Int) (w : World) :
    Calls Try.prog 32 #[.agg (hc h)] w (LoTo w (locksOf h)) := by
  have O0 := (Own.empty (base := w.heap.size + 1) (e := 32) (s := 2) (w.alloc (.cells #[.int .i64 (h 0), .int .i64 (h 1), .int .i64 (h 2), .int .i64 (h 3), .int .i64 (h 4), .int .i64 (h 5), .int .i64 (h 6), .int .i64 (h 7)] 48)) (by simp)).base_le (show w.heap.size ≤ w.heap.size + 1 by omega)
  simp only [World.size_alloc] at O0
  have L0 : LoAt w h 0 0 (some ⟨w.heap.size + 1, 0, none⟩) 0 ((w.alloc (.cells #[.int .i64 (h 0), .int .i64 (h 1), .int .i64 (h 2), .int .i64 (h 3), .int .i64 (h 4), .int .i64 (h 5), .int .i64 (h 6), .int .i64 (h 7)] 48)).alloc (.cells #[] 32)) := ⟨O0, rfl, Nat.le_refl _, gr_alloc (gr_alloc (gr_refl w none) _) _⟩
  have HL0 := hid L0
  have HIx := hid (fun k hk => hc_index h (k := k) hk)
  clear L0 O0
  unfold hc
  go_enter Try.func32, Try.ntmps32
  go_wp2_with fail
  go_loopw [3, 8] (fun v i wr => ∃ (k m : Nat) (A : Option Addr) (c : Nat), i = .int .i64 k ∧ v = .slice A m c ∧ k ≤ 8 ∧ LoAt w h k m A c wr) (fun _ i _ => 8 - (intOf i).toNat)
  case atStart => exact ⟨0, 0, _, _, rfl, rfl, by omega, HL0.out⟩
  case round =>
    clear HL0
    obtain ⟨k, m, A, c, rfl, rfl, hk8, hat⟩ := hrel
    have hle := hat.le
    have O1 := hat.own
    have G1 := hat.gr
    by_cases hlt : k < 8
    · have hix := HIx.out k hlt
      have hsn := locksFrom_snoc h k 0
      simp only [Int.zero_add] at hsn
      obtain ⟨x, hx⟩ : ∃ x, h (k : Int) = x := ⟨_, rfl⟩
      rw [hx] at hix hsn
      have HLen := hid hat.len
      rcases (by omega : x = 0 ∨ x ≠ 0) with q | q
      · have hxz : (x != 0) = false := by simp [q]
        rw [if_pos q, List.append_nil] at hsn
        have HS := hid hsn
        clear hsn hx q
        have ST : LoAt w h (k + 1) m A c wr := ⟨by rw [HS.out]; exact O1, by rw [HS.out]; exact HLen.out, by omega, G1⟩
        clear hat
        go_wp2_with fail
        go_roundw
        case rel => exact ⟨k + 1, m, A, c, by go_num, rfl, by omega, ST⟩
        case measure => simp [intOf]; omega
      · have hxz : (x != 0) = true := by simp [q]
        rw [if_neg q] at hsn
        have HS := hid hsn
        clear hsn hx q hat
        go_wp2_with (at_builtin; refine wpList_push _ rfl _ _ 23 rfl w.heap.size 32 Try.underlying23 lkInfo rfl (by omega) A m c ((locksFrom h k 0).flatMap Lk.cells) rfl (O1.alloc (.cells #[.int .i64 (k : Int), .int .i64 x] 32)) _ 1 #[.int .i64 (k : Int), .int .i64 x] rfl (Full.newAt (by simp)) rfl (by intro u hu; simp at hu; rcases hu with rfl | rfl <;> rfl) (by omega) (by omega) (Nat.le_trans G1.size (World.grownBy_alloc _ _ none).size) ?_; intro A' c' wz hown hgz _)
        have ST : LoAt w h (k + 1) (m + 1) A' c' wz := by
          refine ⟨?_, ?_, by omega, gr_then (gr_alloc G1 _) hgz (fun b hb => .inr (O1.block hb).1)⟩
          · rw [HS.out, List.flatMap_append]
            exact hown
          · rw [HS.out, List.length_append, HLen.out]; rfl
        clear hown hgz
        go_wp2_with fail
        go_roundw
        case rel => exact ⟨k + 1, m + 1, A', c', by go_num, by go_num, by omega, ST⟩
        case measure => simp [intOf]; omega
    · obtain rfl : k = 8 := by omega
      have HLen := hid hat.len
      clear hat
      go_wp2_with fail
      go_ret
      exact ⟨A, m, c, rfl, O1, HLen.out, hle, G1⟩

def hgv (l : List Lk) (o : Int) (k : Nat) (t : Int) : Int := if t < (k : Int) ∧ ownerOf l t = o then 0 else ownerOf l t
theorem hgv_next {l : List Lk} {o : Int} {k : Nat} : hgv l o (k + 1) = fun t => if t = (k : Int) ∧ ownerOf l t = o then 0 else hgv l o k t := by
  funext t
  simp only [hgv]
  by_cases q : t = (k : Int)
  · subst q
    by_cases r : ownerOf l (k : Int) = o
    · rw [if_pos ⟨by omega, r⟩, if_pos ⟨rfl, r⟩]
    · rw [if_neg (fun h => r h.2), if_neg (fun h => r h.2), if_neg (fun h => r h.2)]
  · rw [if_neg (show ¬ (t = (k : Int) ∧ _) from fun h => q h.1)]
    by_cases r : t < (k : Int) ∧ ownerOf l t = o
    · rw [if_pos r, if_pos ⟨by omega, r.2⟩]
    · rw [if_neg r, if_neg (fun h => r ⟨by omega, h.2⟩)]
theorem give_eq {l : List Lk} {o : Int} (h : lkA (-1) l = true) : locksOf (hgv l o 8) = giveL l o := by
  refine locks_eq (fun s => ?_) (give_valid h o) fun s h0 h1 => ?_
  · rw [hgv]
    split
    · exact .inl rfl
    · rcases own_range h s with q | q
      · exact .inl q
      · exact .inr q.2.2
  · rw [own_give h, hgv]
    by_cases r : ownerOf l s = o
    · rw [if_pos ⟨by omega, r⟩, if_pos r]
    · rw [if_neg (fun h => r h.2), if_neg r]
theorem hgv_zero {l : List Lk} {o : Int} (h : lkA (-1) l = true) : hgv l o 0 = ownerOf l := by
  funext t
  simp only [hgv]
  split
  · rename_i q
    exact (own_low h (by have := q.1; omega)).symm
  · rfl
noncomputable def gvV (l : List Lk) (o : Int) : List Lk := if lkA (-1) l then giveL l o else []
structure GvAt (w : World) (b : Nat) (l : List Lk) (o : Int) (k : Nat) (wr : World) : Prop where
  var : Full wr b 48 (hc (hgv l o k))
  gr : w.grownBy wr none

set_option maxHeartbeats 2000000 in
theorem gv_any (A : Option Addr) (n c : Nat) (l : List Lk) (o : Int) (w : World) (h : Lies w A (l.flatMap Lk.cells)) (hn : l.length = n) (hc_ : n ≤ c) (hm : c ≤ maxLen) :
    Calls Try.prog 16 #[.slice A n c, .int .i64 o] w (LoTo w (gvV l o)) := by
  obtain ⟨b, hb⟩ : ∃ b, lkA (-1) l = b := ⟨_, rfl⟩
  have e1 := fun w hL => lkv_is A n c l b w hL hn hc_ hm hb
  have e2 := fun w hL hv => ho_any A n c l w hL hn hc_ hm hv
  have HB := hid hb
  have HIx := hid (fun k hk => hc_index (ownerOf l) (k := k) hk)
  clear hb hn
  unfold maxLen at hm
  go_enter Try.func16, Try.ntmps16
  go_wp2_with fail
  refine (e1 _ h).mono ?_
  rintro e w1 ⟨rfl, hg1⟩
  have L1 := h.grown0 hg1
  cases b with
  | false =>
    go_wp2_with fail
    go_ret
    exact ⟨_, _, _, rfl, by rw [gvV, HB.out]; exact (Own.empty w1 (Nat.le_refl _)).base_le hg1.size, by rw [gvV, HB.out]; rfl, by omega, gr_alloc hg1 _⟩
  | true =>
    have HV := hid (show gvV l o = giveL l o by rw [gvV, HB.out]; rfl)
    go_wp2_with fail
    refine (e2 _ L1 HB.out).mono ?_
    rintro e w2 ⟨rfl, hg2⟩
    have G2 := gr_0 hg1 hg2
    unfold hc
    have V0 : GvAt w w2.heap.size l o 0 (w2.alloc (.cells #[.int .i64 (ownerOf l 0), .int .i64 (ownerOf l 1), .int .i64 (ownerOf l 2), .int .i64 (ownerOf l 3), .int .i64 (ownerOf l 4), .int .i64 (ownerOf l 5), .int .i64 (ownerOf l 6), .int .i64 (ownerOf l 7)] 48)) := ⟨by rw [hgv_zero HB.out]; exact Full.new _ _ _, gr_alloc G2 _⟩
    have HV0 := hid V0
    have hw2 := G2.size
    clear V0 hg1 hg2 e1 e2
    go_wp2_with fail
    go_loopw [15] (fun i wr => ∃ k : Nat, i = .int .i64 k ∧ k ≤ 8 ∧ GvAt w w2.heap.size l o k wr) (fun i _ => 8 - (intOf i).toNat)
    case atStart => exact ⟨0, rfl, by omega, HV0.out⟩
    case round =>
      clear HV0
      obtain ⟨k, rfl, hk8, hat⟩ := hrel
      have V := hat.var
      have Gr := hat.gr
      by_cases hlt : k < 8
      · have hix := HIx.out k hlt
        have HNx := hid (hgv_next (l := l) (o := o) (k := k))
        have HS8 := hid (hc_set (hgv l o k) hlt 0)
        have vc := V.cellAt k (hc_at _ hlt)
        have vf := V.free k
        obtain ⟨x, hx⟩ : ∃ x, ownerOf l (k : Int) = x := ⟨_, rfl⟩
        rw [hx] at hix
        have HX := hid hx
        have b0 : (0 : Int) ≤ (k : Int) := by omega
        have b1 : (k : Int) < 8 := by omega
        clear hx hat
        rcases (by omega : x = o ∨ x ≠ o) with q | q
        · have hxo : (x == o) = true := by simp [q]
          have HQ := hid q
          clear q
          go_wp2_with fail
          go_roundw
          case rel =>
            refine ⟨k + 1, by go_num, by omega, ?_, gr_put Gr hw2 _⟩
            have e : hgv l o (k + 1) = fun t => if t = (k : Int) then 0 else hgv l o k t := by
              rw [HNx.out]; funext t
              by_cases r : t = (k : Int)
              · rw [if_pos r, if_pos ⟨r, by rw [r, HX.out]; exact HQ.out⟩]
              · rw [if_neg r, if_neg (fun h => r h.1)]
            rw [e, ← HS8.out]
            exact V.set k _
          case measure => simp [intOf]; omega
        · have hxo : (x == o) = false := by simp [q]
          have HQ := hid q
          clear q
          go_wp2_with fail
          go_roundw
          case rel =>
            refine ⟨k + 1, by go_num, by omega, ?_, Gr⟩
            have e : hgv l o (k + 1) = hgv l o k := by
              rw [HNx.out]; funext t
              by_cases r : t = (k : Int)
              · rw [if_neg (fun h => HQ.out (by rw [← HX.out, ← r]; exact h.2))]
              · rw [if_neg (fun h => r h.1)]
            rw [e]
            exact V
          case measure => simp [intOf]; omega
      · obtain rfl : k = 8 := by omega
        obtain ⟨hh, hhh⟩ : ∃ hh, hgv l o 8 = hh := ⟨_, rfl⟩
        rw [hhh] at V
        have HH := hid hhh
        clear hhh hat
        have vc0 := V.cellAt 0 (v := .int .i64 (hh 0)) rfl
        have vc1 := V.cellAt 1 (v := .int .i64 (hh 1)) rfl
        have vc2 := V.cellAt 2 (v := .int .i64 (hh 2)) rfl
        have vc3 := V.cellAt 3 (v := .int .i64 (hh 3)) rfl
        have vc4 := V.cellAt 4 (v := .int .i64 (hh 4)) rfl
        have vc5 := V.cellAt 5 (v := .int .i64 (hh 5)) rfl
        have vc6 := V.cellAt 6 (v := .int .i64 (hh 6)) rfl
        have vc7 := V.cellAt 7 (v := .int .i64 (hh 7)) rfl
        go_wp2_with fail
        refine (lo_any hh _).mono ?_
        rintro e w4 ⟨A4, m4, c4, rfl, hO4, hl4, hm4, hg4⟩
        have HE := hid (show locksOf hh = gvV l o by rw [HV.out, ← HH.out]; exact give_eq HB.out)
        go_wp2_with fail
        go_ret
        exact ⟨A4, m4, c4, rfl, by rw [← HE.out]; exact hO4.base_le Gr.size, by rw [← HE.out]; exact hl4, hm4, gr_0 Gr hg4⟩

structure SgAt (w : World) (l : List Lk) (o : Int) (k m : Nat) (A : Option Addr) (c : Nat) (wr : World) : Prop where
  own : Own wr w.heap.size 32 2 A m c ((giveL (l.take k) o).flatMap Lk.cells)
  len : (giveL (l.take k) o).length = m
  le : m ≤ k
  gr : w.grownBy wr none
theorem giveL_next {l : List Lk} {o : Int} {k : Nat} (h : k < l.length) : giveL (l.take (k + 1)) o = giveL (l.take k) o ++ (if l[k].o = o then [] else [l[k]]) := by
  rw [giveL, List.take_succ_eq_append_getElem h, List.filter_append, List.filter_cons]
  by_cases q : l[k].o = o
  · rw [if_neg (by simp [q]), if_pos q]; rfl
  · rw [if_pos (by simp [q]), if_neg q]; rfl

set_option maxHeartbeats 2000000 in
theorem sgv_any (A : Option Addr) (n c : Nat) (l : List Lk) (o : Int) (w : World) (h : Lies w A (l.flatMap Lk.cells)) (hn : l.length = n) (hc_ : n ≤ c) (hm : c ≤ maxLen) :
    Calls Try.prog 17 #[.slice A n c, .int .i64 o] w (LoTo w (gvV l o)) := by
  obtain ⟨b, hb⟩ : ∃ b, lkA (-1) l = b := ⟨_, rfl⟩
  have e1 := fun w hL => slkv_is A n c l b w hL hn hc_ hm hb
  have HB := hid hb
  have HN := hid hn
  clear hb hn
  unfold maxLen at hm
  have S0 : SgAt w l o 0 0 (some ⟨w.heap.size, 0, none⟩) 0 (w.alloc (.cells #[] 32)) := ⟨Own.empty w (Nat.le_refl _), rfl, Nat.le_refl _, gr_alloc (gr_refl w none) _⟩
  have HS0 := hid S0
  clear S0
  go_enter Try.func17, Try.ntmps17
  go_wp2_with fail
  go_loopw [5, 6] (fun v i wr => ∃ (k m : Nat) (A' : Option Addr) (c' : Nat), i = .int .i64 k ∧ v = .slice A' m c' ∧ k ≤ n ∧ (k = 0 ∨ b = true) ∧ SgAt w l o k m A' c' wr) (fun _ i _ => n - (intOf i).toNat)
  case atStart => exact ⟨0, 0, _, _, rfl, rfl, by omega, .inl rfl, HS0.out⟩
  case round =>
    clear HS0
    obtain ⟨k, m, A', c', rfl, rfl, hkn, hkb, hat⟩ := hrel
    have hle := hat.le
    have O1 := hat.own
    have G1 := hat.gr
    have HLen := hid hat.len
    have L1 := h.grown0 G1
    by_cases hlt : k < n
    · have hkl : k < l.length := by rw [HN.out]; exact hlt
      clear hat
      go_wp2_with fail
      refine (e1 _ L1).mono ?_
      rintro e w2 ⟨rfl, hg2⟩
      have G2 := gr_0 G1 hg2
      have O2 := O1.kept0 hg2
      cases b with
      | false =>
        obtain rfl : k = 0 := hkb.resolve_right (by simp)
        have HV := hid (show gvV l o = giveL (l.take 0) o by rw [gvV, HB.out]; rfl)
        go_wp2_with fail
        go_ret
        exact ⟨A', m, c', rfl, by rw [HV.out]; exact O2, by rw [HV.out]; exact HLen.out, by omega, G2⟩
      | true =>
        obtain ⟨g, ofs, rfl, hg, hcell⟩ := h.open_ (by rw [flat_len Lk.cells 2 (fun _ => rfl)]; omega)
        obtain ⟨ca, cb⟩ := lkAt hcell hkl
        replace ca := G2.cell ca (by simp)
        replace cb := G2.cell cb (by simp)
        have hnx := giveL_next (l := l) (o := o) hkl
        obtain ⟨z, hz⟩ : ∃ z, l[k] = z := ⟨_, rfl⟩
        rw [hz] at ca cb hnx
        obtain ⟨s, ow⟩ := z
        simp only [] at ca cb hnx
        clear hz hcell
        have hn8 := lkA_len HB.out (by omega)
        rw [HN.out] at hn8
        rcases (by omega : ow = o ∨ ow ≠ o) with q | q
        · have hq : (ow != o) = false := by simp [q]
          rw [if_pos q, List.append_nil] at hnx
          have HX := hid hnx
          clear hnx q
          go_wp2_with fail
          go_roundw
          case rel => exact ⟨k + 1, m, A', c', by go_num, rfl, by omega, .inr (by trivial), ⟨by rw [HX.out]; exact O2, by rw [HX.out]; exact HLen.out, by omega, G2⟩⟩
          case measure => simp [intOf]; omega
        · have hq : (ow != o) = true := by simp [q]
          rw [if_neg q] at hnx
          have HX := hid hnx
          clear hnx q
          go_wp2_with (at_builtin; refine wpList_push _ rfl _ _ 23 rfl w.heap.size 32 Try.underlying23 lkInfo rfl (by omega) A' m c' ((giveL (l.take k) o).flatMap Lk.cells) rfl (O2.alloc (.cells #[.int .i64 s, .int .i64 ow] 32)) _ 1 #[.int .i64 s, .int .i64 ow] rfl (Full.newAt (by simp)) rfl (by intro u hu; simp at hu; rcases hu with rfl | rfl <;> rfl) (by omega) (by omega) (Nat.le_trans G2.size (World.grownBy_alloc _ _ none).size) ?_; intro A2 c2 wz hown hgz _)
          have ST : SgAt w l o (k + 1) (m + 1) A2 c2 wz := by
            refine ⟨?_, ?_, by omega, gr_then (gr_alloc G2 _) hgz (fun b hb => .inr (O2.block hb).1)⟩
            · rw [HX.out, List.flatMap_append]
              exact hown
            · rw [HX.out, List.length_append, HLen.out]; rfl
          clear hown hgz
          go_wp2_with fail
          go_roundw
          case rel => exact ⟨k + 1, m + 1, A2, c2, by go_num, by go_num, by omega, .inr (by trivial), ST⟩
          case measure => simp [intOf]; omega
    · obtain rfl : k = n := by omega
      have HV := hid (show gvV l o = giveL (l.take k) o by
        rw [List.take_of_length_le (by rw [HN.out]; omega), gvV]
        rcases hkb with q | q
        · have : l = [] := List.eq_nil_of_length_eq_zero (by rw [HN.out]; exact q)
          subst this
          split <;> rfl
        · rw [HB.out, q]; rfl)
      have hm8 : m ≤ 8 := by
        rcases hkb with q | q
        · omega
        · have hn8 := lkA_len (HB.out.trans q) (by omega)
          rw [HN.out] at hn8
          omega
      clear hat hkb
      go_wp2_with fail
      go_ret
      exact ⟨A', m, c', rfl, by rw [HV.out]; exact O1, by rw [HV.out]; exact HLen.out, hm8, G1⟩

end Go.Proofs.Ytcchnkpkdeminaa
