/- GroupJoin in spec: l4Put; sameGroup. -/
import Derived.Test.YtmjficimnkbonaaJoinLaw
import Derived.Test.YtmjficimnkbonaaStrs
import Derived.Deep.DeepCutAuto
namespace Go.Proofs.Ytmjficimnkbonaa
open Go.RowKit

/-- What is there behind i members: x is laid once its place is passed. -/
def putTo (x : ByteArray) (ms : List ByteArray) (i : Nat) : List ByteArray := if i ≤ posOf x ms then ms.take i else ms.take (posOf x ms) ++ x :: (ms.take i).drop (posOf x ms)
theorem putTo_zero (x : ByteArray) (ms : List ByteArray) : putTo x ms 0 = [] := by simp [putTo]
theorem putTo_before {x : ByteArray} {ms : List ByteArray} {i : Nat} (h : i < posOf x ms) (hi : i < ms.length) : putTo x ms (i + 1) = putTo x ms i ++ [ms[i]] := by
  rw [putTo, if_pos (by omega), putTo, if_pos (by omega), List.take_succ_eq_append_getElem hi]
theorem putTo_at {x : ByteArray} {ms : List ByteArray} {i : Nat} (h : i = posOf x ms) (hi : i < ms.length) : putTo x ms (i + 1) = (putTo x ms i ++ [x]) ++ [ms[i]] := by
  subst h
  rw [putTo, if_neg (by omega), putTo, if_pos (Nat.le_refl _), List.append_assoc, List.take_succ_eq_append_getElem hi, List.drop_append, List.drop_of_length_le (by rw [List.length_take]; omega), List.length_take,
    show posOf x ms - min (posOf x ms) ms.length = 0 by omega]
  rfl
theorem putTo_behind {x : ByteArray} {ms : List ByteArray} {i : Nat} (h : posOf x ms < i) (hi : i < ms.length) : putTo x ms (i + 1) = putTo x ms i ++ [ms[i]] := by
  rw [putTo, if_neg (by omega), putTo, if_neg (by omega), List.take_succ_eq_append_getElem hi, List.drop_append_of_le_length (by rw [List.length_take]; omega), List.append_assoc]
  rfl
theorem putTo_all {x : ByteArray} {ms : List ByteArray} (h : posOf x ms < ms.length) : putTo x ms ms.length = putIn x ms := by
  rw [putTo, if_neg (by omega), List.take_length]
  rfl
theorem putTo_end {x : ByteArray} {ms : List ByteArray} (h : posOf x ms = ms.length) : putTo x ms ms.length ++ [x] = putIn x ms := by
  rw [putTo, if_pos (by omega), putIn, h, List.take_length, List.drop_length]
theorem putTo_len (x : ByteArray) (ms : List ByteArray) (i : Nat) : (putTo x ms i).length ≤ i + 1 := by
  unfold putTo
  split
  · rw [List.length_take]; omega
  · simp
    omega

/-- Texts of its own. -/
def SlTo (w : World) (l : List ByteArray) (e : Ending) (w' : World) : Prop :=
  ∃ (A : Option Addr) (n c : Nat), e = .returned (.slice A n c) ∧ Own w' w.heap.size 9 1 A n c (strs l) ∧ l.length = n ∧ w.grownBy w' none

set_option maxHeartbeats 4000000 in
theorem l4_any (A : Option Addr) (n c : Nat) (ms : List ByteArray) (x : ByteArray) (w : World) (h : SArg w A n c ms) (h0 : 0 < n) (hn : n ≤ 100) (hs : ascS ms) (hx : hasB x ms = false) :
    Calls Try.prog 50 #[.slice A n c, .string x] w (SlTo w (putIn x ms)) := by
  have hli := h.li
  have HN := hid h.len
  have hc := h.cap
  have hm := h.max
  unfold maxLen at hm
  have HX := hid (show ∀ (i : Nat) (hi : i < ms.length), (ms[i].toList == x.toList) = false from fun i hi => by
    rw [beq_bytes]
    refine decide_eq_false fun e => ?_
    rw [hasB_iff.2 (show x ∈ ms by rw [← e]; exact List.getElem_mem hi)] at hx
    cases hx)
  have HGe := hid (fun (i : Nat) (hp : posOf x ms ≤ i) (hi : i < ms.length) => pos_ge hs hp hi)
  have HLt := hid (fun (i : Nat) (hp : i < posOf x ms) (hi : i < ms.length) => pos_lt x ms hp hi)
  have HO0 := hid (Own.empty (e := 9) (s := 1) w (Nat.le_refl _))
  have G0 := World.grownBy_alloc w (.cells #[] 9) none
  have hpl := pos_le x ms
  have HPl := hid hpl
  obtain ⟨p, hp⟩ : ∃ p, posOf x ms = p := ⟨_, rfl⟩
  have HP := hid hp
  obtain ⟨gA, oA, hAe, hgA, hcell⟩ := hli.open_ (by rw [strs_len, HN.out]; exact h0)
  subst hAe
  have HLi := hid (hli.alloc (.cells #[] 9))
  clear h hx hs hpl hp hcell hli
  go_enter Try.func50, Try.ntmps50
  go_wp2_with fail
  go_loopw [5, 6, 7] (fun v dv iv wr => ∃ (i q : Nat) (B : Option Addr) (cB : Nat), v = .slice B q cB ∧ dv = .bool (decide (p < i)) ∧ iv = .int .i64 (i : Int) ∧ i ≤ n ∧ (putTo x ms i).length = q ∧ Own wr w.heap.size 9 1 B q cB (strs (putTo x ms i)) ∧ Lies wr (some ⟨gA, oA, none⟩) (strs ms) ∧ w.grownBy wr none) (fun _ _ iv _ => n - (intOf iv).toNat)
  case atStart => exact ⟨0, 0, _, 0, rfl, by first | rfl | simp, rfl, by omega, by rw [putTo_zero]; rfl, by rw [putTo_zero]; exact HO0.out, HLi.out, G0⟩
  case round =>
    clear HO0 G0 HLi
    obtain ⟨i, q, B, cB, rfl, rfl, rfl, hin, hq, hO, hL, hG⟩ := hrel
    have HQ := hid hq
    have hqi : q ≤ i + 1 := by rw [← hq]; exact putTo_len x ms i
    have hsw := hG.size
    clear hq
    by_cases hlt : i < n
    · have hil : i < ms.length := by rw [HN.out]; exact hlt
      obtain ⟨g, o, hA, _, hcell⟩ := hL.open_ (by rw [strs_len]; omega)
      injection hA with hA
      injection hA with hA1 hA2
      subst hA1 hA2
      have cx := strAt' hcell hil
      have qx := HX.out i hil
      have HBe := hid (fun (h : i < posOf x ms) => putTo_before h hil)
      have HAt := hid (fun (h : i = posOf x ms) => putTo_at h hil)
      have HBh := hid (fun (h : posOf x ms < i) => putTo_behind h hil)
      have HG := hid (fun h => HGe.out i h hil)
      have HL2 := hid (fun h => HLt.out i h hil)
      obtain ⟨y, hy⟩ : ∃ y, ms[i] = y := ⟨_, rfl⟩
      simp only [hy] at cx qx HBe HAt HBh HG HL2
      clear hy hcell
      have b1 : (0 : Int) ≤ (i : Int) := by omega
      have b2 : (i : Int) < (n : Int) := by omega
      rcases (by omega : i < p ∨ i = p ∨ p < i) with hc1 | hc1 | hc1
      · have HE := hid (HBe.out (by rw [HP.out]; exact hc1))
        have hls := HL2.out (by rw [HP.out]; exact hc1)
        obtain ⟨l1, l2⟩ := sl_le' hls
        have l3 : Op.bytesLess y.toList x.toList = true := hls
        have dd : decide (p < i) = false := by simp; omega
        have dn : decide (p < i + 1) = false := by simp; omega
        clear HBe HAt HBh HG HL2 hls
        go_wp2_with (at_builtin; refine wpList_push _ rfl _ _ 23 rfl w.heap.size 9 Try.underlying23 strInfo rfl (by omega) B q cB (strs (putTo x ms i)) rfl (hO.alloc (.cells #[.string y] 9)) _ 1 #[.string y] rfl (Full.newAt (by simp)) rfl (by intro u hu; simp at hu; subst hu; rfl) (by omega) (by omega) (by simp; omega) ?_; intro A' c' wz hown hgz hbz)
        have hBb := fun b hb => (hO.block (b := b) hb).1
        have HLZ := hid ((hL.alloc (.cells #[.string y] 9)).grown hgz (fun b hb e => by have := hBb _ e.symm; injection hb with hb; simp at hb; omega))
        have GZ := gr_then (gr_alloc hG (.cells #[.string y] 9)) hgz (fun b hb => .inr (hBb b hb))
        have HOZ := hid (show Own wz w.heap.size 9 1 A' (q + 1) c' (strs (putTo x ms (i + 1))) by rw [HE.out, strs_app]; exact hown)
        clear hown hgz hbz hO hL hG
        go_wp2_with fail
        go_roundw
        case rel => exact ⟨i + 1, q + 1, A', c', by go_num, by rw [dn], by go_num, by omega, by rw [HE.out, List.length_append, HQ.out]; rfl, HOZ.out, HLZ.out, GZ⟩
        case measure => simp [intOf]; omega
      · have HE := hid (HAt.out (by rw [HP.out]; exact hc1))
        have hge := HG.out (by rw [HP.out]; omega)
        have dd : decide (p < i) = false := by simp; omega
        have dn : decide (p < i + 1) = true := by simp; omega
        have hg1 : Op.bytesLess y.toList x.toList = false := hge
        clear HBe HAt HBh HG HL2 hge hc1
        go_wp2_with (first | (at_builtin; refine wpList_push _ rfl _ _ 23 rfl w.heap.size 9 Try.underlying23 strInfo rfl (by omega) B q cB (strs (putTo x ms i)) rfl (hO.alloc (.cells #[.string x] 9)) _ 1 #[.string x] rfl (Full.newAt (by simp)) rfl (by intro u hu; simp at hu; subst hu; rfl) (by omega) (by omega) (by simp; omega) ?_; intro A' c' wz hown hgz hbz; have hBb := fun b hb => (hO.block (b := b) hb).1; have LZ : Lies wz (some ⟨gA, oA, none⟩) (strs ms) := (hL.alloc (.cells #[.string x] 9)).grown hgz (fun b hb e => by have := hBb _ e.symm; injection hb with hb; simp at hb; omega); have GZ := gr_then (gr_alloc hG (.cells #[.string x] 9)) hgz (fun b hb => .inr (hBb b hb)); have hzs := hgz.size; (try simp at hzs); have cy := hgz.cell (a := ⟨gA, oA + i, none⟩) ((World.grownBy_alloc wr (.cells #[.string x] 9) none).cell cx (by simp)) (fun e => by have := hBb _ e.symm; simp at this; omega)) | (at_builtin; refine wpList_push _ rfl _ _ 23 rfl w.heap.size 9 Try.underlying23 strInfo rfl (by omega) A' (q + 1) c' (strs (putTo x ms i) ++ [.string x]) rfl (hown.alloc (.cells #[.string y] 9)) _ 1 #[.string y] rfl (Full.newAt (by simp)) rfl (by intro u hu; simp at hu; subst hu; rfl) (by omega) (by omega) (by simp; omega) ?_; intro A'' c'' wy hown2 hgz2 hbz2))
        have hBb2 := fun b hb => (hown.block (b := b) hb).1
        have HLZ := hid ((LZ.alloc (.cells #[.string y] 9)).grown hgz2 (fun b hb e => by have := hBb2 _ e.symm; injection hb with hb; simp at hb; omega))
        have GZ2 := gr_then (gr_alloc GZ (.cells #[.string y] 9)) hgz2 (fun b hb => .inr (hBb2 b hb))
        have HOZ := hid (show Own wy w.heap.size 9 1 A'' (q + 1 + 1) c'' (strs (putTo x ms (i + 1))) by rw [HE.out, strs_app, strs_app]; exact hown2)
        clear hown hown2 hgz2 hbz2 LZ GZ cy
        go_wp2_with fail
        go_roundw
        case rel => exact ⟨i + 1, q + 1 + 1, A'', c'', by go_num, by rw [dn], by go_num, by omega, by rw [HE.out, List.length_append, List.length_append, HQ.out]; rfl, HOZ.out, HLZ.out, GZ2⟩
        case measure => simp [intOf]; omega
      · have HE := hid (HBh.out (by rw [HP.out]; exact hc1))
        have dd : decide (p < i) = true := by simpa using hc1
        have dn : decide (p < i + 1) = true := by simp; omega
        clear HBe HAt HBh HG HL2
        go_wp2_with (at_builtin; refine wpList_push _ rfl _ _ 23 rfl w.heap.size 9 Try.underlying23 strInfo rfl (by omega) B q cB (strs (putTo x ms i)) rfl (hO.alloc (.cells #[.string y] 9)) _ 1 #[.string y] rfl (Full.newAt (by simp)) rfl (by intro u hu; simp at hu; subst hu; rfl) (by omega) (by omega) (by simp; omega) ?_; intro A' c' wz hown hgz hbz)
        have hBb := fun b hb => (hO.block (b := b) hb).1
        have HLZ := hid ((hL.alloc (.cells #[.string y] 9)).grown hgz (fun b hb e => by have := hBb _ e.symm; injection hb with hb; simp at hb; omega))
        have GZ := gr_then (gr_alloc hG (.cells #[.string y] 9)) hgz (fun b hb => .inr (hBb b hb))
        have HOZ := hid (show Own wz w.heap.size 9 1 A' (q + 1) c' (strs (putTo x ms (i + 1))) by rw [HE.out, strs_app]; exact hown)
        clear hown hgz hbz hO hL hG
        go_wp2_with fail
        go_roundw
        case rel => exact ⟨i + 1, q + 1, A', c', by go_num, by rw [dn], by go_num, by omega, by rw [HE.out, List.length_append, HQ.out]; rfl, HOZ.out, HLZ.out, GZ⟩
        case measure => simp [intOf]; omega
    · obtain rfl : i = n := by omega
      rcases (by have := HPl.out; rw [HP.out, HN.out] at this; omega : p < i ∨ p = i) with hc1 | hc1
      · have dd : decide (p < i) = true := by simpa using hc1
        have HE := hid (show putTo x ms i = putIn x ms by have := putTo_all (x := x) (ms := ms) (by rw [HP.out, HN.out]; exact hc1); rwa [HN.out] at this)
        go_wp2_with fail
        go_ret
        exact ⟨B, q, cB, rfl, by rw [← HE.out]; exact hO, by rw [← HE.out]; exact HQ.out, hG⟩
      · have dd : decide (p < i) = false := by simp; omega
        have HE := hid (show putTo x ms i ++ [x] = putIn x ms by have := putTo_end (x := x) (ms := ms) (by rw [HP.out, HN.out]; exact hc1); rwa [HN.out] at this)
        clear hc1
        go_wp2_with (at_builtin; refine wpList_push _ rfl _ _ 23 rfl w.heap.size 9 Try.underlying23 strInfo rfl (by omega) B q cB (strs (putTo x ms i)) rfl (hO.alloc (.cells #[.string x] 9)) _ 1 #[.string x] rfl (Full.newAt (by simp)) rfl (by intro u hu; simp at hu; subst hu; rfl) (by omega) (by omega) (by simp; omega) ?_; intro A' c' wz hown hgz hbz)
        have GZ := gr_then (gr_alloc hG (.cells #[.string x] 9)) hgz (fun b hb => .inr (hO.block hb).1)
        have HOZ := hid (show Own wz w.heap.size 9 1 A' (q + 1) c' (strs (putIn x ms)) by rw [← HE.out, strs_app]; exact hown)
        clear hown hgz hbz hO hL hG
        go_wp2_with fail
        go_ret
        exact ⟨A', q + 1, c', rfl, HOZ.out, by rw [← HE.out, List.length_append, HQ.out]; rfl, GZ⟩

set_option maxHeartbeats 400000 in
theorem sgp_is (s t : Int) (A B : Option Addr) (n m cA cB : Nat) (xs ys : List ByteArray) (b : Bool) (w : World) (hA : SArg w A n cA xs) (hB : SArg w B m cB ys) (hb : decide (s = t ∧ xs = ys) = b) :
    Calls Try.prog 17 #[.agg #[.int .i64 s, .slice A n cA], .agg #[.int .i64 t, .slice B m cB]] w fun e w' => e = .returned (.bool b) ∧ w.grownBy w' none := by
  have G0 := gr_alloc (gr_alloc (gr_refl w none) (.cells #[.int .i64 s, .slice A n cA] 25)) (.cells #[.int .i64 t, .slice B m cB] 25)
  obtain ⟨b2, hb2⟩ : ∃ b2, decide (xs = ys) = b2 := ⟨_, rfl⟩
  have hA' := (hA.alloc (.cells #[.int .i64 s, .slice A n cA] 25)).alloc (.cells #[.int .i64 t, .slice B m cB] 25)
  have hB' := (hB.alloc (.cells #[.int .i64 s, .slice A n cA] 25)).alloc (.cells #[.int .i64 t, .slice B m cB] 25)
  have e1 := st_is A B n m cA cB xs ys b2 _ hA' hB' hb2
  have HB := hid hb
  have HB2 := hid hb2
  clear hb hb2 hA hB hA' hB'
  by_cases q : s = t
  · subst q
    have HF := hid (show b = b2 by rw [← HB.out, ← HB2.out]; simp)
    go_enter Try.func17, Try.ntmps17
    go_wp2_with fail
    refine e1.mono ?_
    rintro e w1 ⟨rfl, hg⟩
    have G1 := gr_0 G0 hg
    clear e1
    go_wp2_with fail
    go_ret
    exact ⟨ret_bool HF.out.symm, G1⟩
  · have q' : (s == t) = false := by simpa using q
    have HF := hid (show b = false by rw [← HB.out]; exact decide_eq_false (fun e => q e.1))
    clear q e1
    go_enter Try.func17, Try.ntmps17
    go_wp2_with fail
    go_ret
    exact ⟨ret_bool HF.out.symm, G0⟩
end Go.Proofs.Ytmjficimnkbonaa
