/- Who holds the stripes: an array of eight. -/
import Derived.Test.YtcchnkpkdeminaaLkDraw
namespace Go.Proofs.Ytcchnkpkdeminaa
open Go.RowKit

def hc (h : Int → Int) : Array Value := #[.int .i64 (h 0), .int .i64 (h 1), .int .i64 (h 2), .int .i64 (h 3), .int .i64 (h 4), .int .i64 (h 5), .int .i64 (h 6), .int .i64 (h 7)]
theorem hc_at (h : Int → Int) {k : Nat} (hk : k < 8) : (hc h)[k]? = some (.int .i64 (h (k : Int))) := by
  rcases (by omega : k = 0 ∨ k = 1 ∨ k = 2 ∨ k = 3 ∨ k = 4 ∨ k = 5 ∨ k = 6 ∨ k = 7) with rfl | rfl | rfl | rfl | rfl | rfl | rfl | rfl <;> rfl
theorem hc_set (h : Int → Int) {k : Nat} (hk : k < 8) (v : Int) : (hc h).setIfInBounds k (.int .i64 v) = hc (fun t => if t = (k : Int) then v else h t) := by
  rcases (by omega : k = 0 ∨ k = 1 ∨ k = 2 ∨ k = 3 ∨ k = 4 ∨ k = 5 ∨ k = 6 ∨ k = 7) with rfl | rfl | rfl | rfl | rfl | rfl | rfl | rfl <;> rfl
theorem own_snoc {l : List Lk} {x : Lk} (h : lkA (-1) (l ++ [x]) = true) : ownerOf (l ++ [x]) = fun t => if t = x.s then x.o else ownerOf l t := by
  funext t
  have hx := own_mem h (x := x) (by simp)
  rw [lkA_app, Bool.and_eq_true] at h
  by_cases q : t = x.s
  · rw [if_pos q, q, hx]
  · rw [if_neg q]
    clear hx h
    induction l with
    | nil => show (if x.s = t then x.o else 0) = 0; rw [if_neg (fun e => q e.symm)]
    | cons y l ih => rw [List.cons_append, ownerOf, ownerOf, ih]
structure HoAt (w : World) (l : List Lk) (k : Nat) (wr : World) : Prop where
  var : Full wr (w.heap.size + 1) 48 (hc (ownerOf (l.take k)))
  res : Full wr w.heap.size 48 (hc fun _ => 0)
  gr : w.grownBy wr none

set_option maxHeartbeats 2000000 in
theorem ho_any (A : Option Addr) (n c : Nat) (l : List Lk) (w : World) (h : Lies w A (l.flatMap Lk.cells)) (hn : l.length = n) (hc_ : n ≤ c) (hm : c ≤ maxLen) (hv : lkA (-1) l = true) :
    Calls Try.prog 31 #[.slice A n c] w fun e w' => e = .returned (.agg (hc (ownerOf l))) ∧ w.grownBy w' none := by
  unfold maxLen at hm
  have HN := hid hn
  have HV := hid hv
  have H0 : HoAt w l 0 ((w.alloc (.cells #[.int .i64 0, .int .i64 0, .int .i64 0, .int .i64 0, .int .i64 0, .int .i64 0, .int .i64 0, .int .i64 0] 48)).alloc (.cells #[.int .i64 0, .int .i64 0, .int .i64 0, .int .i64 0, .int .i64 0, .int .i64 0, .int .i64 0, .int .i64 0] 48)) := ⟨Full.newAt (by simp), (Full.new w _ _).alloc _, gr_alloc (gr_alloc (gr_refl w none) _) _⟩
  have HH0 := hid H0
  clear H0 hn hv
  go_enter Try.func31, Try.ntmps31
  go_wp2_with fail
  go_loopw [8] (fun i wr => ∃ k : Nat, i = .int .i64 k ∧ k ≤ n ∧ HoAt w l k wr) (fun i _ => n - (intOf i).toNat)
  case atStart => exact ⟨0, rfl, by omega, HH0.out⟩
  case round =>
    clear HH0
    obtain ⟨k, rfl, hkn, hat⟩ := hrel
    have hgr := hat.gr
    have V := hat.var
    have R := hat.res
    have hvl := V.lt
    by_cases hlt : k < n
    · have hkl : k < l.length := by rw [HN.out]; exact hlt
      obtain ⟨g, o, rfl, hg, hcell⟩ := h.open_ (by rw [flat_len Lk.cells 2 (fun _ => rfl)]; omega)
      obtain ⟨ca, cb⟩ := lkAt hcell hkl
      replace ca := hgr.cell ca (by simp)
      replace cb := hgr.cell cb (by simp)
      have hb := lkA_mem HV.out _ (List.getElem_mem hkl)
      have hsn : ownerOf (l.take (k + 1)) = fun t => if t = l[k].s then l[k].o else ownerOf (l.take k) t := by
        rw [List.take_succ_eq_append_getElem hkl]
        refine own_snoc ?_
        rw [← List.take_succ_eq_append_getElem hkl]
        have := HV.out
        rw [← List.take_append_drop (k + 1) l, lkA_app, Bool.and_eq_true] at this
        exact this.1
      obtain ⟨z, hz⟩ : ∃ z, l[k] = z := ⟨_, rfl⟩
      rw [hz] at ca cb hb hsn
      obtain ⟨s, ow⟩ := z
      simp only [] at ca cb hb hsn
      obtain ⟨hb0, hb1, hb2, hb3⟩ := hb
      obtain ⟨sn, rfl⟩ : ∃ sn : Nat, s = (sn : Int) := ⟨s.toNat, by omega⟩
      have HSn := hid hsn
      have hs8 : sn < 8 := by omega
      have hs0 : (0 : Int) ≤ (sn : Int) := by omega
      have hs1 : (sn : Int) < 8 := by omega
      have vc := V.cellAt sn (hc_at _ hs8)
      have vf := V.free sn
      have HS8 := hid (hc_set (ownerOf (l.take k)) hs8 ow)
      have ne1 : wr.heap.size ≠ w.heap.size + 1 := by omega
      have ne2 := ne1.symm
      clear hz hcell hsn hat
      go_wp2_with fail
      go_roundw
      case rel => exact ⟨k + 1, by go_num, by omega, by rw [HSn.out, ← HS8.out]; exact (V.set sn _).alloc _, (R.far (p := ⟨w.heap.size + 1, sn, none⟩) (by simp) _).alloc _, gr_alloc (gr_put hgr (by omega) _) _⟩
      case measure => simp [intOf]; omega
    · obtain rfl : k = n := by omega
      have hF : l.take k = l := List.take_of_length_le (by rw [HN.out]; omega)
      rw [hF] at V
      obtain ⟨hh, hhh⟩ : ∃ hh, ownerOf l = hh := ⟨_, rfl⟩
      rw [hhh] at V
      have HH := hid hhh
      clear hF hhh hat
      have vc0 := V.cellAt 0 (v := .int .i64 (hh 0)) rfl
      have rc0 := R.cellAt 0 (v := .int .i64 0) rfl
      have rf0 := R.free 0
      have vc1 := V.cellAt 1 (v := .int .i64 (hh 1)) rfl
      have rc1 := R.cellAt 1 (v := .int .i64 0) rfl
      have rf1 := R.free 1
      have vc2 := V.cellAt 2 (v := .int .i64 (hh 2)) rfl
      have rc2 := R.cellAt 2 (v := .int .i64 0) rfl
      have rf2 := R.free 2
      have vc3 := V.cellAt 3 (v := .int .i64 (hh 3)) rfl
      have rc3 := R.cellAt 3 (v := .int .i64 0) rfl
      have rf3 := R.free 3
      have vc4 := V.cellAt 4 (v := .int .i64 (hh 4)) rfl
      have rc4 := R.cellAt 4 (v := .int .i64 0) rfl
      have rf4 := R.free 4
      have vc5 := V.cellAt 5 (v := .int .i64 (hh 5)) rfl
      have rc5 := R.cellAt 5 (v := .int .i64 0) rfl
      have rf5 := R.free 5
      have vc6 := V.cellAt 6 (v := .int .i64 (hh 6)) rfl
      have rc6 := R.cellAt 6 (v := .int .i64 0) rfl
      have rf6 := R.free 6
      have vc7 := V.cellAt 7 (v := .int .i64 (hh 7)) rfl
      have rc7 := R.cellAt 7 (v := .int .i64 0) rfl
      have rf7 := R.free 7
      go_wp2_with fail
      refine bodyPost_ret (v := .agg (hc hh)) ?_ rfl ⟨by rw [HH.out], (gr_put (gr_put (gr_put (gr_put (gr_put (gr_put (gr_put (gr_put hgr (by omega) _) (by omega) _) (by omega) _) (by omega) _) (by omega) _) (by omega) _) (by omega) _) (by omega) _)⟩
      simp [results, Try.results31, go_sem, hc, rc0, rc1, rc2, rc3, rc4, rc5, rc6, rc7]

end Go.Proofs.Ytcchnkpkdeminaa
