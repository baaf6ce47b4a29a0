/- What the exact laws do with a group: its bulk, a copy of it, whether two are equal. -/
import Derived.Test.YtmjficimnkbonaaStrs
import Derived.Test.YtmjficimnkbonaaOwnSet
import Derived.Test.YtmjficimnkbonaaApp
import Derived.Laws.MakeOwn
namespace Go.Proofs.Ytmjficimnkbonaa
open Go.RowKit

theorem strInfo : (Try.prog.info? 9).map (fun i => (i.zero, i.size, i.bytes)) = some (some (.string ⟨#[]⟩), 1, 16) := by kernel_rfl

/-- What a count of bulk leaves. -/
def SzTo (w : World) (n : Nat) (left : Int) (e : Ending) (w' : World) : Prop :=
  ∃ r : Int, e = .returned (.int .i64 r) ∧ -1 ≤ r ∧ (r ≤ left ∨ r = -1) ∧ (0 ≤ r → (n : Int) ≤ left) ∧ w.grownBy w' none

set_option maxHeartbeats 1000000 in
theorem szs_any (A : Option Addr) (n c : Nat) (ms : List ByteArray) (left : Int) (w : World) (h : SArg w A n c ms) (h0 : 0 ≤ left) (h1 : left ≤ 1048576) :
    Calls Try.prog 53 #[.slice A n c, .int .i64 left] w (SzTo w n left) := by
  obtain ⟨hli, hn, hc, hm, hsz⟩ := h
  unfold maxLen at hm
  have HN := hid hn
  have HSz := hid hsz
  clear hn hsz
  rcases (by omega : left - (n : Int) < 0 ∨ (n : Int) ≤ left) with q | q
  · go_enter Try.func53, Try.ntmps53
    go_wp2_with fail
    go_ret
    exact ⟨-1, rfl, by omega, .inr rfl, by omega, gr_refl _ _⟩
  · go_enter Try.func53, Try.ntmps53
    go_wp2_with fail
    go_loopw [1, 5] (fun lv i wr => ∃ (k : Nat) (r : Int), i = .int .i64 k ∧ lv = .int .i64 r ∧ k ≤ n ∧ 0 ≤ r ∧ r ≤ left ∧ w.grownBy wr none) (fun _ i _ => n - (intOf i).toNat)
    case atStart => exact ⟨0, left - n, rfl, rfl, by omega, by omega, by omega, gr_refl _ _⟩
    case round =>
      obtain ⟨k, r, rfl, rfl, hkn, hr0, hr1, hgr⟩ := hrel
      by_cases hlt : k < n
      · have hkl : k < ms.length := by rw [HN.out]; exact hlt
        obtain ⟨g, o, rfl, hg, hcell⟩ := hli.open_ (by rw [strs_len]; omega)
        have ca := hgr.cell (strAt' hcell hkl) (by simp)
        have hz := HSz.out _ (List.getElem_mem hkl)
        obtain ⟨s, hs⟩ : ∃ s, ms[k] = s := ⟨_, rfl⟩
        rw [hs] at ca hz
        unfold maxLen at hz
        have b1 : (0 : Int) ≤ (k : Int) := by omega
        have b2 : (k : Int) < (n : Int) := by omega
        clear hs hcell
        rcases (by omega : r - (s.size : Int) < 0 ∨ 0 ≤ r - (s.size : Int)) with q | q
        · go_wp2_with fail
          go_ret
          exact ⟨-1, rfl, by omega, .inr rfl, by omega, hgr⟩
        · go_wp2_with fail
          go_roundw
          case rel => exact ⟨k + 1, r - s.size, by go_num, rfl, by omega, q, by omega, hgr⟩
          case measure => simp [intOf]; omega
      · go_wp2_with fail
        go_ret
        exact ⟨r, rfl, by omega, .inl hr1, fun _ => by omega, hgr⟩

/-- What a copy of a slice of texts leaves. -/
def ToTo (w : World) (ms : List ByteArray) (n : Nat) (e : Ending) (w' : World) : Prop :=
  ∃ g : Nat, e = .returned (.slice (some ⟨g, 0, none⟩) n n) ∧ Own w' w.heap.size 9 1 (some ⟨g, 0, none⟩) n n (strs ms) ∧ w.grownBy w' none

def CopyTo (ms : List ByteArray) (k : Nat) (xs : List Value) : Prop := xs.take k = strs (ms.take k)
theorem copy_next {ms : List ByteArray} {k : Nat} {xs : List Value} (h : CopyTo ms k xs) (hk : k < ms.length) (hx : k < xs.length) : CopyTo ms (k + 1) (xs.set k (.string ms[k])) := by
  unfold CopyTo at *
  rw [List.take_succ_eq_append_getElem (by rw [List.length_set]; exact hx), List.take_set_of_le (Nat.le_refl k), h, List.getElem_set_self, List.take_succ_eq_append_getElem hk, strs_app]
  rfl
theorem copy_all {ms : List ByteArray} {k : Nat} {xs : List Value} (h : CopyTo ms k xs) (hk : ms.length ≤ k) (hx : xs.length ≤ k) : xs = strs ms := by
  unfold CopyTo at h
  rwa [List.take_of_length_le hx, List.take_of_length_le hk] at h

set_option maxHeartbeats 1000000 in
theorem tos_any (A : Option Addr) (n c : Nat) (ms : List ByteArray) (w : World) (h : SArg w A n c ms) (hle : n ≤ 1048576) :
    Calls Try.prog 54 #[.slice A n c] w (ToTo w ms n) := by
  obtain ⟨hli, hn, hc, hm, hsz⟩ := h
  unfold maxLen at hm
  have HN := hid hn
  obtain ⟨i0, hi, hz0, hz1, hz2⟩ := info_parts strInfo
  have hmk := run_make (P := Try.prog) w 23 9 i0 _ Try.underlying23 hi hz0 .i64 .i64 n n (by omega) (by omega) (by rw [hz2]; omega) (by omega)
  rw [hz1] at hmk
  simp only [Int.toNat_natCast, Nat.mul_one] at hmk
  have hcs := size_madeCells (Value.string ⟨#[]⟩).cells n
  obtain ⟨cs, hcs'⟩ : ∃ cs, madeCells (Value.string ⟨#[]⟩).cells n = cs := ⟨_, rfl⟩
  rw [hcs'] at hmk hcs
  have O0 := Own.lit (e := 9) (s := 1) w cs n (Nat.le_refl _) (by simp only [maxLen]; omega) (by rw [hcs, Nat.mul_one])
  have HO0 := hid O0
  have HXs := hid (show cs.toList.length = n by simpa using hcs)
  clear hcs' hcs O0 hi hz0 hz1 hz2 i0 hn hsz
  go_enter Try.func54, Try.ntmps54
  go_wp2_with fail
  clear hmk
  go_loopw [4] (fun i wr => ∃ (k : Nat) (xs : List Value), i = .int .i64 k ∧ k ≤ n ∧ xs.length = n ∧ CopyTo ms k xs ∧ Own wr w.heap.size 9 1 (some ⟨w.heap.size, 0, none⟩) n n xs ∧ w.grownBy wr none) (fun i _ => n - (intOf i).toNat)
  case atStart => exact ⟨0, cs.toList, rfl, by omega, HXs.out, by simp [CopyTo, strs], HO0.out, World.grownBy_alloc w _ none⟩
  case round =>
    clear HO0 HXs
    obtain ⟨k, xs, rfl, hkn, hxl, hcp, hO, hgr⟩ := hrel
    have HXl := hid hxl
    have HCp := hid hcp
    clear hxl hcp
    by_cases hlt : k < n
    · have hkl : k < ms.length := by rw [HN.out]; exact hlt
      obtain ⟨g, o, rfl, hg, hcell⟩ := hli.open_ (by rw [strs_len]; omega)
      have ca := hgr.cell (strAt' hcell hkl) (by simp)
      have HNx := hid (copy_next HCp.out hkl (by rw [HXl.out]; exact hlt))
      obtain ⟨gA, cur, hgA, _, FA, hcA⟩ := hO.open_ (by omega)
      injection hgA with hgA
      injection hgA with hgA
      subst hgA
      have fa := FA.free k
      have cx : ∃ v, wr.cell? ⟨w.heap.size, k, none⟩ = some v := ⟨_, hcA k _ (List.getElem?_eq_getElem (by rw [HXl.out]; exact hlt))⟩
      obtain ⟨v, cx⟩ := cx
      obtain ⟨s, hs⟩ : ∃ s, ms[k] = s := ⟨_, rfl⟩
      rw [hs] at ca HNx
      have b1 : (0 : Int) ≤ (k : Int) := by omega
      have b2 : (k : Int) < (n : Int) := by omega
      have HO := hid (hO.set k (.string s))
      have hne : g ≠ w.heap.size := by omega
      clear hs hcell hcA FA
      go_wp2_with fail
      go_roundw
      case rel => exact ⟨k + 1, xs.set k (.string s), by go_num, by omega, by rw [List.length_set]; exact HXl.out, HNx.out, HO.out, gr_put hgr (Nat.le_refl _) _⟩
      case measure => simp [intOf]; omega
    · have HF := hid (copy_all HCp.out (by rw [HN.out]; omega) (by rw [HXl.out]; omega))
      go_wp2_with fail
      go_ret
      exact ⟨w.heap.size, rfl, by rw [← HF.out]; exact hO, hgr⟩

set_option maxHeartbeats 1000000 in
theorem szg_any (s : Int) (A : Option Addr) (n c : Nat) (ms : List ByteArray) (left : Int) (w : World) (h : SArg w A n c ms) (h0 : 0 ≤ left) (h1 : left ≤ 1048576) :
    Calls Try.prog 22 #[.agg #[.int .i64 s, .slice A n c], .int .i64 left] w (SzTo w n left) := by
  have e1 := szs_any A n c ms left (w.alloc (.cells #[.int .i64 s, .slice A n c] 35)) (h.alloc _) h0 h1
  have G0 := World.grownBy_alloc w (.cells #[.int .i64 s, .slice A n c] 35) none
  clear h
  go_enter Try.func22, Try.ntmps22
  go_wp2_with fail
  refine e1.mono ?_
  rintro e w1 ⟨r, rfl, h2, h3, h4, hg⟩
  clear e1
  have G1 := gr_0 G0 hg
  rcases (by omega : r < 0 ∨ 0 ≤ r) with q | q
  · go_wp2_with fail
    go_ret
    exact ⟨-1, rfl, by omega, .inr rfl, by omega, G1⟩
  · go_wp2_with fail
    go_ret
    exact ⟨r, rfl, by omega, h3, h4, G1⟩

/-- What a copy of a group leaves. -/
def TgTo (w : World) (s : Int) (ms : List ByteArray) (n : Nat) (e : Ending) (w' : World) : Prop :=
  ∃ g : Nat, e = .returned (.agg #[.int .i64 s, .slice (some ⟨g, 0, none⟩) n n]) ∧ Own w' w.heap.size 9 1 (some ⟨g, 0, none⟩) n n (strs ms) ∧ w.grownBy w' none

set_option maxHeartbeats 1000000 in
theorem tg_any (s : Int) (A : Option Addr) (n c : Nat) (ms : List ByteArray) (w : World) (h : SArg w A n c ms) (hle : n ≤ 1048576) :
    Calls Try.prog 23 #[.agg #[.int .i64 s, .slice A n c]] w (TgTo w s ms n) := by
  have G0 := gr_alloc (gr_alloc (gr_alloc (gr_refl w none) (.cells #[.int .i64 s, .slice A n c] 35)) (.cells #[.int .i64 0, .slice none 0 0] 25)) (.cells #[.int .i64 s, .slice none 0 0] 25)
  have e1 := tos_any A n c ms (((w.alloc (.cells #[.int .i64 s, .slice A n c] 35)).alloc (.cells #[.int .i64 0, .slice none 0 0] 25)).alloc (.cells #[.int .i64 s, .slice none 0 0] 25)) (((h.alloc _).alloc _).alloc _) hle
  have R0 := (Full.newAt (w := w.alloc (.cells #[.int .i64 s, .slice A n c] 35)) (t := 25) (cs := #[.int .i64 0, .slice none 0 0]) (H := w.heap.size + 1) (by simp)).alloc (.cells #[.int .i64 s, .slice none 0 0] 25)
  have B0 := Full.newAt (w := (w.alloc (.cells #[.int .i64 s, .slice A n c] 35)).alloc (.cells #[.int .i64 0, .slice none 0 0] 25)) (t := 25) (cs := #[.int .i64 s, .slice none 0 0]) (H := w.heap.size + 1 + 1) (by simp)
  have hb0 : w.heap.size ≤ (((w.alloc (.cells #[.int .i64 s, .slice A n c] 35)).alloc (.cells #[.int .i64 0, .slice none 0 0] 25)).alloc (.cells #[.int .i64 s, .slice none 0 0] 25)).heap.size := G0.size
  clear h
  go_enter Try.func23, Try.ntmps23
  go_wp2_with fail
  refine e1.mono ?_
  rintro e w1 ⟨g, rfl, hO, hg⟩
  have R1 := R0.grown hg (by simp)
  have B1 := B0.grown hg (by simp)
  have hg2 := (hO.block (b := g) rfl)
  have r0 := R1.cellAt 0 rfl
  have r1 := R1.cellAt 1 rfl
  have f0 := R1.free 0
  have f1 := R1.free 1
  have u0 := B1.cellAt 0 rfl
  have u1 := B1.cellAt 1 rfl
  have v0 := B1.free 0
  have v1 := B1.free 1
  have G1 := gr_0 G0 hg
  have B2 := B1.set 1 (.slice (some ⟨g, 0, none⟩) n n)
  have R2 := R1.far (p := ⟨w.heap.size + 1 + 1, 1, none⟩) (by simp) (.slice (some ⟨g, 0, none⟩) n n)
  have O2 := hO.put B1 (by decide) 1 (.slice (some ⟨g, 0, none⟩) n n)
  have O3 := O2.put R2 (by decide) 0 (.int .i64 s)
  have O4 := O3.put (R2.set 0 (.int .i64 s)) (by decide) 1 (.slice (some ⟨g, 0, none⟩) n n)
  go_wp2_with fail
  refine bodyPost_ret (v := .agg #[.int .i64 s, .slice (some ⟨g, 0, none⟩) n n]) ?_ rfl ?_
  · simp [results, Try.results23, go_sem, r0, r1]
  · exact ⟨g, rfl, O4.base_le hb0, gr_put (gr_put (gr_put G1 (by omega) _) (by omega) _) (by omega) _⟩

set_option maxHeartbeats 1000000 in
theorem eg_is (s t : Int) (A B : Option Addr) (n m cA cB : Nat) (xs ys : List ByteArray) (b : Bool) (w : World) (sA : SArg w A n cA xs) (sB : SArg w B m cB ys) (hb : decide (s = t ∧ xs = ys) = b) :
    Calls Try.prog 24 #[.agg #[.int .i64 s, .slice A n cA], .agg #[.int .i64 t, .slice B m cB]] w fun e w' => e = .returned (.bool b) ∧ w.grownBy w' none := by
  have G0 := gr_alloc (gr_alloc (gr_refl w none) (.cells #[.int .i64 s, .slice A n cA] 25)) (.cells #[.int .i64 t, .slice B m cB] 25)
  obtain ⟨b2, hb2⟩ : ∃ b2, decide (xs = ys) = b2 := ⟨_, rfl⟩
  have e1 := es_is A B n m cA cB xs ys b2 ((w.alloc (.cells #[.int .i64 s, .slice A n cA] 25)).alloc (.cells #[.int .i64 t, .slice B m cB] 25)) ((sA.alloc _).alloc _) ((sB.alloc _).alloc _) hb2
  have HB := hid hb
  have HB2 := hid hb2
  clear hb hb2 sA sB
  by_cases q : s = t
  · subst q
    have HF := hid (show b = b2 by rw [← HB.out, ← HB2.out]; simp)
    go_enter Try.func24, Try.ntmps24
    go_wp2_with fail
    refine e1.mono ?_
    rintro e w1 ⟨rfl, hg⟩
    have G1 := gr_0 G0 hg
    clear e1
    cases b2
    · go_wp2_with fail
      go_ret
      exact ⟨ret_bool HF.out.symm, G1⟩
    · go_wp2_with fail
      go_ret
      exact ⟨ret_bool HF.out.symm, G1⟩
  · have q' : (s != t) = true := by simpa using q
    have HF := hid (show b = false by rw [← HB.out]; exact decide_eq_false (fun e => q e.1))
    clear q e1
    go_enter Try.func24, Try.ntmps24
    go_wp2_with fail
    go_ret
    exact ⟨ret_bool HF.out.symm, G0⟩
end Go.Proofs.Ytmjficimnkbonaa
