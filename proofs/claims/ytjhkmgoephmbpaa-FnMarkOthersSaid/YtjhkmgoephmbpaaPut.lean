/- l11Put: an ascending list with a further number. -/
import Derived.Test.YtjhkmgoephmbpaaMarkLaw
namespace Go.Proofs.Ytjhkmgoephmbpaa
open Go.RowKit

theorem insA_mid {x y : Int} {l : List Int} (h : ∀ z ∈ l, z < x) (hy : x < y) : insA x (l ++ [y]) = (l ++ [x]) ++ [y] := by
  induction l with
  | nil => simp [insA, hy]
  | cons z r ih =>
    have := h z (by simp)
    rw [List.cons_append, insA, if_neg (by omega), ih (fun u hu => h u (by simp [hu]))]
    rfl

structure LpNo (w : World) (xs : List Int) (x : Int) (k : Nat) (A : Option Addr) (c : Nat) (wr : World) : Prop where
  own : Own wr w.heap.size 3 1 A k c (ints (xs.take k))
  lt : ∀ y ∈ xs.take k, y < x
  gr : w.grownBy wr none
structure LpYes (w : World) (xs : List Int) (x : Int) (k : Nat) (A : Option Addr) (c : Nat) (wr : World) : Prop where
  own : Own wr w.heap.size 3 1 A (k + 1) c (ints (insA x (xs.take k)))
  gt : ∃ y ∈ xs.take k, x < y
  gr : w.grownBy wr none

set_option maxHeartbeats 2000000 in
theorem lp_any (A0 : Option Addr) (n c0 : Nat) (xs : List Int) (x : Int) (w : World) (h : Lies w A0 (ints xs)) (hn : xs.length = n) (hc : n ≤ c0) (hm : c0 ≤ maxLen) (hn1 : n ≤ 1000) (hx : x ∉ xs) :
    Calls Try.prog 36 #[.slice A0 n c0, .int .i64 x] w fun e w' => ∃ A c, e = .returned (.slice A (n + 1) c) ∧ Own w' w.heap.size 3 1 A (n + 1) c (ints (insA x xs)) ∧ w.grownBy w' none := by
  unfold maxLen at hm
  have HN := hid hn
  have HX := hid hx
  clear hn hx
  go_enter Try.func36, Try.ntmps36
  go_wp2_with fail
  go_loopw [5, 6, 7] (fun v b i wr => ∃ (k : Nat) (A : Option Addr) (c : Nat), i = .int .i64 k ∧ k ≤ n ∧ ((b = .bool false ∧ v = .slice A k c ∧ LpNo w xs x k A c wr) ∨ (b = .bool true ∧ v = .slice A (k + 1) c ∧ LpYes w xs x k A c wr))) (fun _ _ i _ => n - (intOf i).toNat)
  case atStart => exact ⟨0, _, _, rfl, by omega, .inl ⟨rfl, rfl, by rw [List.take_zero]; exact Own.empty w (Nat.le_refl _), by simp, gr_alloc (gr_refl _ _) _⟩⟩
  case round =>
    obtain ⟨k, A, c, rfl, hkn, hat⟩ := hrel
    by_cases hlt : k < n
    · have hkl : k < xs.length := by rw [HN.out]; exact hlt
      obtain ⟨g, o, rfl, hg, hcell⟩ := h.open_ (by rw [ints_len]; omega)
      have cy0 := intAt hcell hkl
      have hmem : xs[k] ∈ xs := List.getElem_mem hkl
      obtain ⟨y, hy⟩ : ∃ y, xs[k] = y := ⟨_, rfl⟩
      rw [hy] at cy0 hmem
      have hne : y ≠ x := fun e => HX.out (e ▸ hmem)
      have hne' : (y != x) = true := by simpa using hne
      have HT := hid ((List.take_succ_eq_append_getElem hkl).trans (by rw [hy]))
      have b1 : (0 : Int) ≤ (k : Int) := by omega
      have b2 : (k : Int) < (n : Int) := by omega
      clear hcell hmem hy
      rcases hat with ⟨rfl, rfl, hat⟩ | ⟨rfl, rfl, hat⟩
      · have O1 := hat.own
        have G1 := hat.gr
        have cy := G1.cell cy0 (by simp)
        have hgw := G1.size
        rcases (by omega : y < x ∨ x < y) with q | q
        · have HQ := hid (show ∀ z ∈ xs.take (k + 1), z < x by
            rw [HT.out]; intro z hz
            rcases List.mem_append.1 hz with hz | hz
            · exact hat.lt z hz
            · simp at hz; omega)
          clear hne
          go_wp2_with (at_builtin; refine wpList_push _ rfl _ _ 23 rfl w.heap.size 3 Try.underlying23 intInfo rfl (by omega) A k c (ints (xs.take k)) rfl (O1.alloc (.cells #[.int .i64 y] 3)) _ 1 #[.int .i64 y] rfl (Full.newAt (by simp)) rfl (by intro u hu; simp at hu; subst hu; rfl) (by omega) (by omega) (Nat.le_trans G1.size (World.grownBy_alloc _ _ none).size) ?_; intro A' c' wz hown hgz _)
          have ST : LpNo w xs x (k + 1) A' c' wz := by
            refine ⟨?_, HQ.out, gr_then (gr_alloc G1 _) hgz (fun b hb => .inr (O1.block hb).1)⟩
            rw [HT.out, ints_app]
            exact hown
          clear hown hgz hat
          go_wp2_with fail
          go_roundw
          case rel => exact ⟨k + 1, A', c', by go_num, by omega, .inl ⟨rfl, rfl, ST⟩⟩
          case measure => simp [intOf]; omega
        · have HQ := hid (show insA x (xs.take (k + 1)) = (xs.take k ++ [x]) ++ [y] by rw [HT.out]; exact insA_mid hat.lt q)
          have HG := hid (show ∃ z ∈ xs.take (k + 1), x < z by rw [HT.out]; exact ⟨y, by simp, q⟩)
          clear hne
          go_wp2_with (first | (at_builtin; refine wpList_push _ rfl _ _ 23 rfl w.heap.size 3 Try.underlying23 intInfo rfl (by omega) A k c (ints (xs.take k)) rfl (O1.alloc (.cells #[.int .i64 x] 3)) _ 1 #[.int .i64 x] rfl (Full.newAt (by simp)) rfl (by intro u hu; simp at hu; subst hu; rfl) (by omega) (by omega) (Nat.le_trans G1.size (World.grownBy_alloc _ _ none).size) ?_; intro A' c' wz hown hgz _; have G2 := gr_then (gr_alloc G1 (.cells #[.int .i64 x] 3)) hgz (fun b hb => .inr (O1.block hb).1); have cz := G2.cell cy0 (by simp)) | (at_builtin; refine wpList_push _ rfl _ _ 23 rfl w.heap.size 3 Try.underlying23 intInfo rfl (by omega) A' (k + 1) c' (ints (xs.take k) ++ [.int .i64 x]) rfl (hown.alloc (.cells #[.int .i64 y] 3)) _ 1 #[.int .i64 y] rfl (Full.newAt (by simp)) rfl (by intro u hu; simp at hu; subst hu; rfl) (by omega) (by omega) (Nat.le_trans G2.size (World.grownBy_alloc _ _ none).size) ?_; intro A2 c2 wy hown2 hgy _))
          clear hgz hat
          have ST : LpYes w xs x (k + 1) A2 c2 wy := by
            refine ⟨?_, HG.out, gr_then (gr_alloc G2 _) hgy (fun b hb => .inr (hown.block hb).1)⟩
            rw [HQ.out, ints_app, ints_app]
            exact hown2
          clear hown hown2 hgy
          go_wp2_with fail
          go_roundw
          case rel => exact ⟨k + 1, A2, c2, by go_num, by omega, .inr ⟨rfl, by first | rfl | simp, ST⟩⟩
          case measure => simp [intOf]; omega
      · have O1 := hat.own
        have G1 := hat.gr
        have cy := G1.cell cy0 (by simp)
        have HQ := hid (show insA x (xs.take (k + 1)) = insA x (xs.take k) ++ [y] by rw [HT.out]; exact insA_app hat.gt)
        have HG := hid (show ∃ z ∈ xs.take (k + 1), x < z by
          rw [HT.out]
          obtain ⟨z, hz, hlt⟩ := hat.gt
          exact ⟨z, by simp [hz], hlt⟩)
        clear hne
        go_wp2_with (at_builtin; refine wpList_push _ rfl _ _ 23 rfl w.heap.size 3 Try.underlying23 intInfo rfl (by omega) A (k + 1) c (ints (insA x (xs.take k))) rfl (O1.alloc (.cells #[.int .i64 y] 3)) _ 1 #[.int .i64 y] rfl (Full.newAt (by simp)) rfl (by intro u hu; simp at hu; subst hu; rfl) (by omega) (by omega) (Nat.le_trans G1.size (World.grownBy_alloc _ _ none).size) ?_; intro A' c' wz hown hgz _)
        have ST : LpYes w xs x (k + 1) A' c' wz := by
          refine ⟨?_, HG.out, gr_then (gr_alloc G1 _) hgz (fun b hb => .inr (O1.block hb).1)⟩
          rw [HQ.out, ints_app]
          exact hown
        clear hown hgz hat
        go_wp2_with fail
        go_roundw
        case rel => exact ⟨k + 1, A', c', by go_num, by omega, .inr ⟨rfl, by first | rfl | simp, ST⟩⟩
        case measure => simp [intOf]; omega
    · obtain rfl : k = n := by omega
      have HT := hid (show xs.take k = xs from List.take_of_length_le (by rw [HN.out]; omega))
      rcases hat with ⟨rfl, rfl, hat⟩ | ⟨rfl, rfl, hat⟩
      · have O1 := hat.own
        have G1 := hat.gr
        have HQ := hid (show insA x xs = xs.take k ++ [x] by rw [HT.out]; exact insA_end (fun z hz => by have := hat.lt z (by rw [HT.out]; exact hz); omega))
        go_wp2_with (at_builtin; refine wpList_push _ rfl _ _ 23 rfl w.heap.size 3 Try.underlying23 intInfo rfl (by omega) A k c (ints (xs.take k)) rfl (O1.alloc (.cells #[.int .i64 x] 3)) _ 1 #[.int .i64 x] rfl (Full.newAt (by simp)) rfl (by intro u hu; simp at hu; subst hu; rfl) (by omega) (by omega) (Nat.le_trans G1.size (World.grownBy_alloc _ _ none).size) ?_; intro A' c' wz hown hgz _)
        have G2 := gr_then (gr_alloc G1 _) hgz (fun b hb => .inr (O1.block hb).1)
        clear hgz hat
        go_wp2_with fail
        go_ret
        exact ⟨A', c', rfl, by rw [HQ.out, ints_app]; exact hown, G2⟩
      · have O1 := hat.own
        have G1 := hat.gr
        rw [HT.out] at O1
        clear hat
        go_wp2_with fail
        go_ret
        exact ⟨A, c, rfl, O1, G1⟩
end Go.Proofs.Ytjhkmgoephmbpaa
