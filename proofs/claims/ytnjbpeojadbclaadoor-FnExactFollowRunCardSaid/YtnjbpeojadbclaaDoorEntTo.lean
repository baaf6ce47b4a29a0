/- What the exact laws do with entries: their bulk, a copy of them, whether two lists are equal. -/
import Derived.Test.YtnjbpeojadbclaaDoorEnt
import Derived.Test.YtnjbpeojadbclaaDoorOwnSet
import Derived.Test.YtnjbpeojadbclaaDoorApp
import Derived.Laws.MakeOwn
import Derived.Deep.RegionHeld3
namespace Go.Proofs.YtnjbpeojadbclaaDoor
open Go.RowKit

/-- What a count of bulk leaves. -/
def SzTo (w : World) (n : Nat) (left : Int) (e : Ending) (w' : World) : Prop :=
  ∃ r : Int, e = .returned (.int .i64 r) ∧ -1 ≤ r ∧ (r ≤ left ∨ r = -1) ∧ (0 ≤ r → (n : Int) ≤ left) ∧ w.grownBy w' none

set_option maxHeartbeats 1000000 in
theorem szv_any (i : Int) (k : ByteArray) (d : Int) (left : Int) (w : World) (hk : k.size ≤ maxLen) (h0 : 0 ≤ left) (h1 : left ≤ 1048576) :
    Calls Tryd.prog 27 #[.agg #[.int .i64 i, .string k, .int .i64 d], .int .i64 left] w (SzTo w 0 left) := by
  unfold maxLen at hk
  have G0 := gr_alloc (gr_refl w none) (.cells #[.int .i64 i, .string k, .int .i64 d] 35)
  rcases (by omega : left - (k.size : Int) < 0 ∨ 0 ≤ left - (k.size : Int)) with q | q
  · go_enter Tryd.func27, Tryd.ntmps27
    go_wp2_with fail
    go_ret
    exact ⟨-1, rfl, by omega, .inr rfl, by omega, G0⟩
  · go_enter Tryd.func27, Tryd.ntmps27
    go_wp2_with fail
    go_ret
    exact ⟨left - k.size, rfl, by omega, .inl (by omega), fun _ => by omega, G0⟩

set_option maxHeartbeats 1000000 in
theorem sze_any (nm : ByteArray) (i : Int) (k : ByteArray) (d : Int) (left : Int) (w : World) (hn : nm.size ≤ maxLen) (hk : k.size ≤ maxLen) (h0 : 0 ≤ left) (h1 : left ≤ 1048576) :
    Calls Tryd.prog 14 #[.agg #[.string nm, .int .i64 i, .string k, .int .i64 d], .int .i64 left] w (SzTo w 0 left) := by
  have G0 := gr_alloc (gr_refl w none) (.cells #[.string nm, .int .i64 i, .string k, .int .i64 d] 37)
  have e1 := fun left w h0 h1 => szv_any i k d left w hk h0 h1
  unfold maxLen at hn
  rcases (by omega : left - (nm.size : Int) < 0 ∨ 0 ≤ left - (nm.size : Int)) with q | q
  · clear e1
    go_enter Tryd.func14, Tryd.ntmps14
    go_wp2_with fail
    go_ret
    exact ⟨-1, rfl, by omega, .inr rfl, by omega, G0⟩
  · have e2 := fun w => e1 (left - nm.size) w q (by omega)
    clear e1
    go_enter Tryd.func14, Tryd.ntmps14
    go_wp2_with fail
    refine (e2 _).mono ?_
    rintro e w1 ⟨r, rfl, r1, r2, _, hg1⟩
    have G1 := gr_0 G0 hg1
    clear e2 hg1
    rcases (by omega : r < 0 ∨ 0 ≤ r) with q2 | q2
    · go_wp2_with fail
      go_ret
      exact ⟨-1, rfl, by omega, .inr rfl, by omega, G1⟩
    · have q3 : r ≤ left := by rcases r2 with h | h <;> omega
      go_wp2_with fail
      go_ret
      exact ⟨r, rfl, by omega, .inl q3, fun _ => by omega, G1⟩

set_option maxHeartbeats 1000000 in
theorem szes_any (A : Option Addr) (n c : Nat) (es : List En) (left : Int) (w : World) (h : EArg w A n c es) (h0 : 0 ≤ left) (h1 : left ≤ 1048576) :
    Calls Tryd.prog 5 #[.slice A n c, .int .i64 left] w (SzTo w n left) := by
  have hc := h.cap
  have hm := h.max
  unfold maxLen at hm
  have HN := hid h.len
  have HA := hid h
  clear h
  rcases (by omega : left - (n : Int) < 0 ∨ (n : Int) ≤ left) with q | q
  · go_enter Tryd.func5, Tryd.ntmps5
    go_wp2_with fail
    go_ret
    exact ⟨-1, rfl, by omega, .inr rfl, by omega, gr_refl _ _⟩
  · go_enter Tryd.func5, Tryd.ntmps5
    go_wp2_with fail
    go_loopw [1, 5] (fun lv i wr => ∃ (k : Nat) (r : Int), i = .int .i64 k ∧ lv = .int .i64 r ∧ k ≤ n ∧ 0 ≤ r ∧ r ≤ left ∧ w.grownBy wr none) (fun _ i _ => n - (intOf i).toNat)
    case atStart => exact ⟨0, left - n, rfl, rfl, by omega, by omega, by omega, gr_refl _ _⟩
    case round =>
      obtain ⟨k, r, rfl, rfl, hkn, hr0, hr1, hgr⟩ := hrel
      by_cases hlt : k < n
      · have hkl : k < es.length := by rw [HN.out]; exact hlt
        obtain ⟨g, o, hAe, hg, hcells⟩ := HA.out.open_ (by omega)
        have cc := hcells k hkl wr hgr
        have hok := HA.out.ok _ (List.getElem_mem hkl)
        obtain ⟨x, hx⟩ : ∃ x, es[k] = x := ⟨_, rfl⟩
        rw [hx] at cc hok
        obtain ⟨nm, ei, ek, ed⟩ := x
        have o1 := hok.nm
        have o2 := hok.kind
        simp only [] at cc o1 o2
        obtain ⟨c0, c1, c2, c3⟩ := cc
        have e1 := sze_any nm ei ek ed r wr o1 o2 hr0 (by omega)
        have b1 : (0 : Int) ≤ (k : Int) := by omega
        have b2 : (k : Int) < (n : Int) := by omega
        subst hAe
        clear hx hcells hok o1 o2
        go_wp2_with fail
        refine e1.mono ?_
        rintro e w1 ⟨r2, rfl, r21, r22, _, hg1⟩
        have G1 := gr_0 hgr hg1
        clear e1 hg1
        rcases (by omega : r2 < 0 ∨ 0 ≤ r2) with q2 | q2
        · go_wp2_with fail
          go_ret
          exact ⟨-1, rfl, by omega, .inr rfl, by omega, G1⟩
        · have q3 : r2 ≤ left := by rcases r22 with h | h <;> omega
          go_wp2_with fail
          go_roundw
          case rel => exact ⟨k + 1, r2, by go_num, rfl, by omega, q2, q3, G1⟩
          case measure => simp [intOf]; omega
      · go_wp2_with fail
        go_ret
        exact ⟨r, rfl, by omega, .inl hr1, fun _ => by omega, hgr⟩

set_option maxHeartbeats 1000000 in
theorem tev_any (i : Int) (k : ByteArray) (d : Int) (w : World) :
    Calls Tryd.prog 30 #[.agg #[.int .i64 i, .string k, .int .i64 d]] w fun e w' => e = .returned (.agg #[.int .i64 i, .string k, .int .i64 d]) ∧ w.grownBy w' none := by
  have G0 := gr_alloc (gr_alloc (gr_alloc (gr_refl w none) (.cells #[.int .i64 i, .string k, .int .i64 d] 35)) (.cells #[.int .i64 0, .string ⟨#[]⟩, .int .i64 0] 40)) (.cells #[.int .i64 i, .string k, .int .i64 d] 40)
  have R0 := (Full.newAt (w := w.alloc (.cells #[.int .i64 i, .string k, .int .i64 d] 35)) (t := 40) (cs := #[.int .i64 0, .string ⟨#[]⟩, .int .i64 0]) (H := w.heap.size + 1) (by simp)).alloc (.cells #[.int .i64 i, .string k, .int .i64 d] 40)
  have f0 := R0.free 0
  have f1 := R0.free 1
  have f2 := R0.free 2
  have r0 := R0.cellAt 0 rfl
  have r1 := R0.cellAt 1 rfl
  have r2 := R0.cellAt 2 rfl
  go_enter Tryd.func30, Tryd.ntmps30
  go_wp2_with fail
  refine bodyPost_ret (v := .agg #[.int .i64 i, .string k, .int .i64 d]) ?_ rfl ?_
  · simp [results, Tryd.results30, go_sem, r0, r1, r2]
  · exact ⟨rfl, gr_alloc (gr_alloc (gr_alloc (gr_refl w none) _) _) _⟩

set_option maxHeartbeats 1000000 in
theorem ten_any (nm : ByteArray) (i : Int) (k : ByteArray) (d : Int) (w : World) :
    Calls Tryd.prog 17 #[.agg #[.string nm, .int .i64 i, .string k, .int .i64 d]] w fun e w' => e = .returned (.agg #[.string nm, .int .i64 i, .string k, .int .i64 d]) ∧ w.grownBy w' none := by
  have e1 := fun w => tev_any i k d w
  have G0 := gr_alloc (gr_alloc (gr_alloc (gr_refl w none) (.cells #[.string nm, .int .i64 i, .string k, .int .i64 d] 37)) (.cells #[.string ⟨#[]⟩, .int .i64 0, .string ⟨#[]⟩, .int .i64 0] 42)) (.cells #[.string nm, .int .i64 0, .string ⟨#[]⟩, .int .i64 0] 42)
  have R0 := (Full.newAt (w := w.alloc (.cells #[.string nm, .int .i64 i, .string k, .int .i64 d] 37)) (t := 42) (cs := #[.string ⟨#[]⟩, .int .i64 0, .string ⟨#[]⟩, .int .i64 0]) (H := w.heap.size + 1) (by simp)).alloc (.cells #[.string nm, .int .i64 0, .string ⟨#[]⟩, .int .i64 0] 42)
  have B0 := Full.newAt (w := (w.alloc (.cells #[.string nm, .int .i64 i, .string k, .int .i64 d] 37)).alloc (.cells #[.string ⟨#[]⟩, .int .i64 0, .string ⟨#[]⟩, .int .i64 0] 42)) (t := 42) (cs := #[.string nm, .int .i64 0, .string ⟨#[]⟩, .int .i64 0]) (H := w.heap.size + 1 + 1) (by simp)
  go_enter Tryd.func17, Tryd.ntmps17
  go_wp2_with fail
  refine (e1 _).mono ?_
  rintro e w1 ⟨rfl, hg1⟩
  have R1 := R0.grown hg1 (by simp)
  have B1 := B0.grown hg1 (by simp)
  have G1 := gr_0 G0 hg1
  have r0 := R1.cellAt 0 rfl
  have r1 := R1.cellAt 1 rfl
  have r2 := R1.cellAt 2 rfl
  have r3 := R1.cellAt 3 rfl
  have f0 := R1.free 0
  have f1 := R1.free 1
  have f2 := R1.free 2
  have f3 := R1.free 3
  have u0 := B1.cellAt 0 rfl
  have u1 := B1.cellAt 1 rfl
  have u2 := B1.cellAt 2 rfl
  have u3 := B1.cellAt 3 rfl
  have v0 := B1.free 0
  have v1 := B1.free 1
  have v2 := B1.free 2
  have v3 := B1.free 3
  clear e1 R1 B1 R0 B0 G0
  go_wp2_with fail
  refine bodyPost_ret (v := .agg #[.string nm, .int .i64 i, .string k, .int .i64 d]) ?_ rfl ?_
  · simp [results, Tryd.results17, go_sem, r0, r1, r2, r3]
  · exact ⟨rfl, gr_put (gr_put (gr_put (gr_put (gr_put (gr_put (gr_put G1 (by omega) _) (by omega) _) (by omega) _) (by omega) _) (by omega) _) (by omega) _) (by omega) _⟩

theorem take_set_step {xs l : List Value} {v : Value} {j : Nat} (h : xs.take j = l) (hj : j < xs.length) : (xs.set j v).take (j + 1) = l ++ [v] := by
  rw [List.take_succ_eq_append_getElem (by rw [List.length_set]; exact hj), List.take_set_of_le (Nat.le_refl j), h, List.getElem_set_self]
/-- Four cells written at a place. -/
def set4 (xs : List Value) (j : Nat) (a b c d : Value) : List Value := (((xs.set j a).set (j + 1) b).set (j + 2) c).set (j + 3) d
theorem set4_len (xs : List Value) (j : Nat) (a b c d : Value) : (set4 xs j a b c d).length = xs.length := by simp [set4]
theorem set4_take {xs : List Value} {es : List En} {x : En} {k : Nat} (h : xs.take (k * 4) = ecells es) (hk : k * 4 + 3 < xs.length) :
    (set4 xs (k * 4) (.string x.nm) (.int .i64 x.ev.id) (.string x.ev.kind) (.int .i64 x.ev.data)).take ((k + 1) * 4) = ecells (es ++ [x]) := by
  have h1 := take_set_step (v := .string x.nm) h (by omega)
  have h2 := take_set_step (v := .int .i64 x.ev.id) h1 (by rw [List.length_set]; omega)
  have h3 := take_set_step (v := .string x.ev.kind) h2 (by rw [List.length_set, List.length_set]; omega)
  have h4 := take_set_step (v := .int .i64 x.ev.data) h3 (by rw [List.length_set, List.length_set, List.length_set]; omega)
  rw [show (k + 1) * 4 = k * 4 + 1 + 1 + 1 + 1 by omega, ecells_app]
  refine h4.trans ?_
  simp [ecells, En.cells]
theorem Own.set4 {w : World} {base : Nat} {e : TypeId} {s n c g : Nat} {xs : List Value} (h : Own w base e s (some ⟨g, 0, none⟩) n c xs) (j : Nat) (u0 u1 u2 u3 : Value) :
    Own ((((w.setCell ⟨g, j, none⟩ u0).setCell ⟨g, j + 1, none⟩ u1).setCell ⟨g, j + 2, none⟩ u2).setCell ⟨g, j + 3, none⟩ u3) base e s (some ⟨g, 0, none⟩) n c (set4 xs j u0 u1 u2 u3) :=
  (((h.set j u0).set (j + 1) u1).set (j + 2) u2).set (j + 3) u3

/-- What a copy of a slice of entries leaves. -/
def ToTo (w : World) (es : List En) (n : Nat) (e : Ending) (w' : World) : Prop :=
  ∃ g : Nat, e = .returned (.slice (some ⟨g, 0, none⟩) n n) ∧ Own w' w.heap.size 42 4 (some ⟨g, 0, none⟩) n n (ecells es) ∧ w.grownBy w' none
theorem entInfo2 : (Tryd.prog.info? 42).map (fun i => (i.zero, i.size, i.bytes)) = some (some (.agg #[.string ⟨#[]⟩, .int .i64 0, .string ⟨#[]⟩, .int .i64 0]), 4, 48) := by kernel_rfl

set_option maxHeartbeats 2000000 in
theorem toes_any (A : Option Addr) (n c : Nat) (es : List En) (w : World) (h : EArg w A n c es) (hle : n ≤ 1048576) :
    Calls Tryd.prog 7 #[.slice A n c] w (ToTo w es n) := by
  have hc := h.cap
  have hm := h.max
  unfold maxLen at hm
  have HN := hid h.len
  have HA := hid h
  obtain ⟨i0, hi, hz0, hz1, hz2⟩ := info_parts entInfo2
  have hmk := run_make (P := Tryd.prog) w 24 42 i0 _ Tryd.underlying24 hi hz0 .i64 .i64 n n (by omega) (by omega) (by rw [hz2]; omega) (by omega)
  rw [hz1] at hmk
  simp only [Int.toNat_natCast] at hmk
  have hcs := size_madeCells (Value.agg #[.string ⟨#[]⟩, .int .i64 0, .string ⟨#[]⟩, .int .i64 0]).cells (n * 4)
  obtain ⟨cs, hcs'⟩ : ∃ cs, madeCells (Value.agg #[.string ⟨#[]⟩, .int .i64 0, .string ⟨#[]⟩, .int .i64 0]).cells (n * 4) = cs := ⟨_, rfl⟩
  rw [hcs'] at hmk hcs
  have O0 := Own.lit (e := 42) (s := 4) w cs n (Nat.le_refl _) (by simp only [maxLen]; omega) hcs
  have HO0 := hid O0
  have HXs := hid (show cs.toList.length = n * 4 by simpa using hcs)
  clear hcs' hcs O0 hi hz0 hz1 hz2 i0 h
  go_enter Tryd.func7, Tryd.ntmps7
  go_wp2_with fail
  clear hmk
  go_loopw [4] (fun i wr => ∃ (k : Nat) (xs : List Value), i = .int .i64 (k : Int) ∧ k ≤ n ∧ xs.length = n * 4 ∧ xs.take (k * 4) = ecells (es.take k) ∧ Own wr w.heap.size 42 4 (some ⟨w.heap.size, 0, none⟩) n n xs ∧ w.grownBy wr none) (fun i _ => n - (intOf i).toNat)
  case atStart => exact ⟨0, cs.toList, rfl, by omega, HXs.out, by simp [ecells], HO0.out, World.grownBy_alloc w _ none⟩
  case round =>
    clear HO0 HXs
    obtain ⟨k, xs, rfl, hkn, hxl, hcp, hO, hgr⟩ := hrel
    have HXl := hid hxl
    have HCp := hid hcp
    clear hxl hcp
    by_cases hlt : k < n
    · have hkl : k < es.length := by rw [HN.out]; exact hlt
      obtain ⟨g, o, hAe, hg, hcells⟩ := HA.out.open_ (by omega)
      have cc := hcells k hkl wr hgr
      have HTk := hid (List.take_succ_eq_append_getElem hkl)
      obtain ⟨x, hx⟩ : ∃ x, es[k] = x := ⟨_, rfl⟩
      rw [hx] at cc HTk
      obtain ⟨nm, ei, ek, ed⟩ := x
      simp only [] at cc
      obtain ⟨c0, c1, c2, c3⟩ := cc
      have e1 := ten_any nm ei ek ed wr
      have b1 : (0 : Int) ≤ (k : Int) := by omega
      have b2 : (k : Int) < (n : Int) := by omega
      have hne : g ≠ w.heap.size := by omega
      have HOw := hid hO
      subst hAe
      clear hx hcells hO
      go_wp2_with fail
      refine e1.mono ?_
      rintro e w1 ⟨rfl, hg1⟩
      have G1 := gr_0 hgr hg1
      have O1 := HOw.out.kept0 hg1
      obtain ⟨gA, cur, hgA, _, FA, hcA⟩ := O1.open_ (by omega)
      injection hgA with hgA
      injection hgA with hgA
      subst hgA
      have hx4 : k * 4 + 3 < xs.length := by rw [HXl.out]; omega
      have f0 := FA.free (k * 4)
      have f1 := FA.free (k * 4 + 1)
      have f2 := FA.free (k * 4 + 2)
      have f3 := FA.free (k * 4 + 3)
      obtain ⟨v0, d0⟩ : ∃ v, w1.cell? ⟨w.heap.size, k * 4, none⟩ = some v := ⟨_, hcA _ _ (List.getElem?_eq_getElem (by omega))⟩
      obtain ⟨v1, d1⟩ : ∃ v, w1.cell? ⟨w.heap.size, k * 4 + 1, none⟩ = some v := ⟨_, hcA _ _ (List.getElem?_eq_getElem (by omega))⟩
      obtain ⟨v2, d2⟩ : ∃ v, w1.cell? ⟨w.heap.size, k * 4 + 2, none⟩ = some v := ⟨_, hcA _ _ (List.getElem?_eq_getElem (by omega))⟩
      obtain ⟨v3, d3⟩ : ∃ v, w1.cell? ⟨w.heap.size, k * 4 + 3, none⟩ = some v := ⟨_, hcA _ _ (List.getElem?_eq_getElem (by omega))⟩
      have HO2 := hid (O1.set4 (k * 4) (.string nm) (.int .i64 ei) (.string ek) (.int .i64 ed))
      have HNx := hid (show (set4 xs (k * 4) (.string nm) (.int .i64 ei) (.string ek) (.int .i64 ed)).take ((k + 1) * 4) = ecells (es.take (k + 1)) by rw [HTk.out]; exact set4_take (x := ⟨nm, ⟨ei, ek, ed⟩⟩) HCp.out hx4)
      clear e1 hg1 O1 hcA FA hx4
      go_wp2_with fail
      go_roundw
      case rel => exact ⟨k + 1, set4 xs (k * 4) (.string nm) (.int .i64 ei) (.string ek) (.int .i64 ed), by go_num, by omega, by rw [set4_len]; exact HXl.out, HNx.out, HO2.out, gr_put (gr_put (gr_put (gr_put G1 (Nat.le_refl _) _) (Nat.le_refl _) _) (Nat.le_refl _) _) (Nat.le_refl _) _⟩
      case measure => simp [intOf]; omega
    · obtain rfl : n = k := by omega
      have HF := hid (show xs = ecells es by
        have h1 := HCp.out
        rwa [List.take_of_length_le (by rw [HXl.out]; omega), List.take_of_length_le (by rw [HN.out]; omega)] at h1)
      go_wp2_with fail
      go_ret
      exact ⟨w.heap.size, rfl, by rw [← HF.out]; exact hO, hgr⟩
end Go.Proofs.YtnjbpeojadbclaaDoor
