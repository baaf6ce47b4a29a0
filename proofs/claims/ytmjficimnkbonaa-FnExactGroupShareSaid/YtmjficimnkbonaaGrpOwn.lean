/- The member of a stripe; the stripes of a member: in impl and in spec. -/
import Derived.Test.YtmjficimnkbonaaGrp
import Derived.Test.YtmjficimnkbonaaInts
import Derived.Test.YtmjficimnkbonaaApp
import Derived.Lib.QuietBelow
namespace Go.Proofs.Ytmjficimnkbonaa
open Go.RowKit

def ownr (ms : List ByteArray) (i : Nat) : ByteArray := ms.getD (i % ms.length) ⟨#[]⟩
def picks (s : Nat) (p : Nat → Bool) : List Int := ((List.range s).filter p).map fun (i : Nat) => (i : Int)
theorem picks_next_yes {k : Nat} {p : Nat → Bool} (h : p k = true) : picks (k + 1) p = picks k p ++ [(k : Int)] := by
  simp [picks, List.range_succ, h]
theorem picks_next_no {k : Nat} {p : Nat → Bool} (h : p k = false) : picks (k + 1) p = picks k p := by
  simp [picks, List.range_succ, h]
theorem picks_len (k : Nat) (p : Nat → Bool) : (picks k p).length ≤ k := by
  have := List.length_filter_le p (List.range k)
  simpa [picks] using this

theorem ownr_at {ms : List ByteArray} {i j : Nat} (hj : i % ms.length = j) (h : j < ms.length) : ownr ms i = ms[j] := by
  subst hj
  simp [ownr, List.getD_eq_getElem?_getD, h]

set_option maxHeartbeats 400000 in
theorem l33_any (s : Int) (A : Option Addr) (n c : Nat) (ms : List ByteArray) (i : Nat) (w : World) (h : SArg w A n c ms) (hn : 0 < n) (hi : i ≤ 1000) :
    Calls Try.prog 60 #[.agg #[.int .i64 s, .slice A n c], .int .i64 (i : Int)] w fun e w' => e = .returned (.string (ownr ms i)) ∧ w.grownBy w' none := by
  obtain ⟨hli, hl, hc, hm, _⟩ := h
  unfold maxLen at hm
  obtain ⟨j, hj⟩ : ∃ j, i % n = j := ⟨_, rfl⟩
  have hjn : j < n := by rw [← hj]; exact Nat.mod_lt _ hn
  have hL := hli.alloc (.cells #[.int .i64 s, .slice A n c] 25)
  obtain ⟨g, o, rfl, _, hcell⟩ := hL.open_ (by rw [strs_len]; omega)
  have cx := strAt' hcell (k := j) (by rw [hl]; exact hjn)
  have HO := hid (ownr_at (ms := ms) (i := i) (j := j) (by rw [hl]; exact hj) (by rw [hl]; exact hjn))
  obtain ⟨x, hx⟩ : ∃ x, ms[j]'(by rw [hl]; exact hjn) = x := ⟨_, rfl⟩
  rw [hx] at cx HO
  have q1 : (i : Int).tmod (n : Int) = (j : Int) := by rw [← hj]; simp [Int.tmod]
  have q2 : (i : Int) % (n : Int) = (j : Int) := by rw [← hj]; simp
  have b1 : (0 : Int) ≤ (j : Int) := by omega
  have b2 : (j : Int) < (n : Int) := by omega
  have b3 : ((n : Int) == 0) = false := by simp; omega
  have G0 := World.grownBy_alloc w (.cells #[.int .i64 s, .slice (some ⟨g, o, none⟩) n c] 25) none
  clear hx hcell hj hl hli hL
  go_enter Try.func60, Try.ntmps60
  go_wp2_with fail
  go_quiet (fail)
  go_wp2_with fail
  go_ret
  exact ⟨by rw [HO.out]; rfl, gr_drewN G0 _⟩
set_option maxHeartbeats 400000 in
theorem owner_any (s : Int) (A : Option Addr) (n c : Nat) (ms : List ByteArray) (i : Nat) (w : World) (h : SArg w A n c ms) (hn : 0 < n) (hi : i ≤ 1000) :
    Calls Try.prog 59 #[.agg #[.int .i64 s, .slice A n c], .int .i64 (i : Int)] w fun e w' => e = .returned (.string (ownr ms i)) ∧ w.grownBy w' none := by
  obtain ⟨hli, hl, hc, hm, _⟩ := h
  unfold maxLen at hm
  obtain ⟨j, hj⟩ : ∃ j, i % n = j := ⟨_, rfl⟩
  have hjn : j < n := by rw [← hj]; exact Nat.mod_lt _ hn
  have hL := hli.alloc (.cells #[.int .i64 s, .slice A n c] 69)
  obtain ⟨g, o, rfl, _, hcell⟩ := hL.open_ (by rw [strs_len]; omega)
  have cx := strAt' hcell (k := j) (by rw [hl]; exact hjn)
  have HO := hid (ownr_at (ms := ms) (i := i) (j := j) (by rw [hl]; exact hj) (by rw [hl]; exact hjn))
  obtain ⟨x, hx⟩ : ∃ x, ms[j]'(by rw [hl]; exact hjn) = x := ⟨_, rfl⟩
  rw [hx] at cx HO
  have q1 : (i : Int).tmod (n : Int) = (j : Int) := by rw [← hj]; simp [Int.tmod]
  have q2 : (i : Int) % (n : Int) = (j : Int) := by rw [← hj]; simp
  have b1 : (0 : Int) ≤ (j : Int) := by omega
  have b2 : (j : Int) < (n : Int) := by omega
  have b3 : ((n : Int) == 0) = false := by simp; omega
  have G0 := World.grownBy_alloc w (.cells #[.int .i64 s, .slice (some ⟨g, o, none⟩) n c] 69) none
  clear hx hcell hj hl hli hL
  go_enter Try.func59, Try.ntmps59
  go_wp2_with fail
  go_quiet (fail)
  go_wp2_with fail
  go_ret
  exact ⟨by rw [HO.out]; rfl, gr_drewN G0 _⟩

set_option maxHeartbeats 400000 in
theorem teamOf_any (s : Int) (A : Option Addr) (n c : Nat) (w : World) :
    Calls Try.prog 56 #[.agg #[.int .i64 s, .slice A n c]] w fun e w' => e = .returned (.agg #[.int .i64 s, .slice A n c]) ∧ w.grownBy w' none := by
  have G0 := gr_alloc (gr_alloc (gr_refl w none) (.cells #[.int .i64 s, .slice A n c] 25)) (.cells #[.int .i64 s, .slice A n c] 69)
  have R0 := Full.newAt (w := w.alloc (.cells #[.int .i64 s, .slice A n c] 25)) (t := 69) (cs := #[.int .i64 s, .slice A n c]) (H := w.heap.size + 1) (by simp)
  have x0 := R0.cellAt 0 (v := .int .i64 s) rfl
  have x1 := R0.cellAt 1 (v := .slice A n c) rfl
  clear R0
  go_enter Try.func56, Try.ntmps56
  go_wp2_with fail
  refine bodyPost_ret (v := .agg #[.int .i64 s, .slice A n c]) ?_ rfl ⟨rfl, G0⟩
  simp [results, Try.results56, go_sem, x0, x1]

/-- A predicate of stripes that a function tells, wherever only new memory has come. -/
def Tells (w : World) (F : Nat) (v1 v2 : Value) (s : Nat) (p : Nat → Bool) : Prop :=
  ∀ (i : Nat) (w' : World), i < s → w.grownBy w' none → Calls Try.prog F #[.int .i64 (i : Int), v1, v2] w' fun e w'' => e = .returned (.bool (p i)) ∧ w'.grownBy w'' none

/-- A list of ints of its own. -/
def IlTo (w : World) (l : List Int) (e : Ending) (w' : World) : Prop :=
  ∃ (A : Option Addr) (n c : Nat), e = .returned (.slice A n c) ∧ Own w' w.heap.size 3 1 A n c (ints l) ∧ l.length = n ∧ w.grownBy w' none

set_option maxHeartbeats 1000000 in
theorem pick61 (v1 v2 : Value) (s : Nat) (p : Nat → Bool) (w : World) (hs : s ≤ 8) (hp : Tells w 61 v1 v2 s p) :
    Calls Try.prog 57 #[.agg #[.int .i64 (s : Int)], .func (.func 61) #[] #[v1, v2]] w (IlTo w (picks s p)) := by
  have HP := hid hp
  have E0 := Full.new w 67 #[.int .i64 (s : Int)]
  have HO := hid (((Own.litAt (e := 3) (s := 1) (base := w.heap.size) (w.alloc (.cells #[.int .i64 (s : Int)] 67)) #[] 0 (by simp) (Nat.le_succ _) (by simp [maxLen]) rfl)))
  have G0 := gr_alloc (gr_alloc (gr_refl w none) (.cells #[.int .i64 (s : Int)] 67)) (.cells #[] 3)
  clear hp E0
  go_enter Try.func57, Try.ntmps57
  go_wp2_with fail
  go_loopw [5, 10] (fun v i wr => ∃ (k n : Nat) (A : Option Addr) (c : Nat), v = .slice A n c ∧ i = .int .i64 k ∧ k ≤ s ∧ (picks k p).length = n ∧ Own wr w.heap.size 3 1 A n c (ints (picks k p)) ∧ w.grownBy wr none) (fun _ i _ => s - (intOf i).toNat)
  case atStart => exact ⟨0, 0, _, 0, rfl, rfl, by omega, rfl, HO.out, G0⟩
  case round =>
    clear HO G0
    obtain ⟨k, n, A, c, rfl, rfl, hks, hn, hO, hG⟩ := hrel
    have hnk : n ≤ k := by rw [← hn]; exact picks_len k p
    have HN := hid hn
    clear hn
    by_cases hlt : k < s
    · obtain ⟨b, hb⟩ : ∃ b, p k = b := ⟨_, rfl⟩
      have e1 := HP.out k wr hlt hG
      rw [hb] at e1
      have HB := hid hb
      clear hb
      go_wp2_with fail
      refine e1.mono ?_
      rintro e w1 ⟨rfl, hg1⟩
      have O1 := hO.kept0 hg1
      have G1 := gr_0 hG hg1
      have hs1 := G1.size
      clear e1 hO hG hg1
      cases b with
      | false =>
        have HE := hid (picks_next_no HB.out)
        have HO1 := hid O1
        clear O1
        go_wp2_with fail
        go_roundw
        case rel => exact ⟨k + 1, n, A, c, rfl, by go_num, by omega, by rw [HE.out]; exact HN.out, by rw [HE.out]; exact HO1.out, G1⟩
        case measure => simp [intOf]; omega
      | true =>
        have HE := hid (picks_next_yes HB.out)
        go_wp2_with (at_builtin; refine wpList_push _ rfl _ _ 43 rfl w.heap.size 3 Try.underlying43 intInfo rfl (by omega) A n c (ints (picks k p)) rfl (O1.alloc (.cells #[.int .i64 (k : Int)] 3)) _ 1 #[.int .i64 (k : Int)] rfl (Full.newAt (by simp)) rfl (by intro u hu; simp at hu; subst hu; rfl) (by omega) (by omega) (by simp; omega) ?_; intro A' c' wz hown hgz _)
        have GZ := gr_then (gr_alloc G1 (.cells #[.int .i64 (k : Int)] 3)) hgz (fun b hb => .inr (O1.block hb).1)
        have HO1 := hid (show Own wz w.heap.size 3 1 A' (n + 1) c' (ints (picks (k + 1) p)) by rw [HE.out, ints_app]; exact hown)
        clear hown hgz O1 G1
        go_wp2_with fail
        go_roundw
        case rel => exact ⟨k + 1, n + 1, A', c', by go_num, by go_num, by omega, by rw [HE.out, List.length_append, HN.out]; rfl, HO1.out, GZ⟩
        case measure => simp [intOf]; omega
    · obtain rfl : k = s := by omega
      go_wp2_with fail
      go_ret
      exact ⟨A, n, c, rfl, hO, HN.out, hG⟩
end Go.Proofs.Ytmjficimnkbonaa
