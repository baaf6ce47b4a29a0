/- Drawn locks and stripes. -/
import Derived.Test.YtcchnkpkdeminaaLkV
import Derived.Test.YtcchnkpkdeminaaPick
namespace Go.Proofs.Ytcchnkpkdeminaa
open Go.RowKit

theorem lkInfo : (Try.prog.info? 32).map (fun i => (i.zero, i.size, i.bytes)) = some (some (.agg #[.int .i64 0, .int .i64 0]), 2, 16) := by kernel_rfl
/-- A store into a cell of the slice's own. -/
theorem Own.set {w : World} {base : Nat} {e : TypeId} {s n c g : Nat} {xs : List Value} (h : Own w base e s (some ⟨g, 0, none⟩) n c xs) (i : Nat) (u : Value) : Own (w.setCell ⟨g, i, none⟩ u) base e s (some ⟨g, 0, none⟩) n c (xs.set i u) := by
  refine ⟨by rw [List.length_set]; exact h.1, ?_⟩
  rcases h.2 with ⟨hv, _⟩ | ⟨g', cap, cur, hv, hb, hh, h1, h2, h3, h4⟩
  · cases hv
  · injection hv with e1 _ e3
    injection e1 with e1
    injection e1 with e1
    subst e1 e3
    exact .inr ⟨g, c, cur.setIfInBounds i u, rfl, hb, heap_setCell_same w g i cur e u hh, h1, h2, by simpa using h3, by rw [Array.toList_setIfInBounds, List.take_set, h4]⟩
/-- The block of a slice that is not empty. -/
theorem Own.open_ {w : World} {base : Nat} {e : TypeId} {s n c : Nat} {A : Option Addr} {xs : List Value} (h : Own w base e s A n c xs) (hn : 0 < n) : ∃ g cur, A = some ⟨g, 0, none⟩ ∧ base ≤ g ∧ Full w g e cur ∧ ∀ j u, xs[j]? = some u → w.cell? ⟨g, j, none⟩ = some u := by
  have hl := h.lies
  rcases h.2 with ⟨_, h0⟩ | ⟨g, cap, cur, hv, hb, hh, _, _, _, h4⟩
  · omega
  · injection hv with e1 _ e3
    refine ⟨g, cur, e1, hb, hh, fun j u hu => ?_⟩
    have := World.ownsRow.cells h (g := g) (by rw [e1]; rfl) j u hu
    have ha : (⟨g, 0, none⟩ : Addr).add j = ⟨g, j, none⟩ := by
      unfold Addr.add
      split
      · subst_vars; rfl
      · simp
    rwa [ha] at this
theorem flat_set {α : Type} (f : α → List Value) (s : Nat) (hf : ∀ x, (f x).length = s) (l : List α) (i j : Nat) (hi : i < l.length) (hj : j < s) (v : Value) (x : α) (hx : f x = (f l[i]).set j v) : (l.flatMap f).set (i * s + j) v = (l.set i x).flatMap f := by
  induction l generalizing i with
  | nil => simp at hi
  | cons y l ih =>
    cases i with
    | zero =>
      rw [Nat.zero_mul, Nat.zero_add, List.flatMap_cons, List.set_append_left _ _ (by rw [hf]; exact hj), List.set_cons_zero, List.flatMap_cons, hx]
      rfl
    | succ i =>
      rw [List.flatMap_cons, List.set_append_right _ _ (by rw [hf, Nat.add_mul]; omega), hf, show (i + 1) * s + j - s = i * s + j by rw [Nat.add_mul]; omega, List.set_cons_succ, List.flatMap_cons]
      congr 1
      exact ih i (by simpa using hi) hx
structure LkSmall (l : List Lk) : Prop where
  len : l.length ≤ 8
  mem : ∀ x ∈ l, -1 ≤ x.s ∧ x.s ≤ 9 ∧ 0 ≤ x.o ∧ x.o ≤ 100
/-- Drawn locks out of a reader. -/
def LksRdEnds (T : TypeId) (w : World) (B g m : Nat) (e : Ending) (w' : World) : Prop :=
  ∃ (A : Option Addr) (n c : Nat) (l : List Lk), e = .returned (.slice A n c) ∧ Own w' w.heap.size 32 2 A n c (l.flatMap Lk.cells) ∧ l.length = n ∧ LkSmall l ∧ Rd T w' B g m ∧ w.grownBy w' (some g)
structure LsAt (w : World) (B g m k n : Nat) (l : List Lk) (A : Option Addr) (c : Nat) (wr : World) : Prop where
  le : n ≤ k
  len : l.length = n
  own : Own wr w.heap.size 32 2 A n c (l.flatMap Lk.cells)
  small : ∀ x ∈ l, -1 ≤ x.s ∧ x.s ≤ 9 ∧ 0 ≤ x.o ∧ x.o ≤ 100
  rd : Rd 55 wr B g (m + 30 - 2 * k)
  gr : w.grownBy wr (some g)

set_option maxHeartbeats 2000000 in
theorem lks91_any (B g m : Nat) (w : World) (h : Rd 55 w B g (m + 30)) :
    Calls Try.prog 27 #[.pointer (some ⟨g, 0, none⟩)] w (LksRdEnds 55 w B g m) := by
  have hlt := h.lt
  have hge := h.ge
  have L0 : LsAt w B g m 0 0 [] (some ⟨w.heap.size, 0, none⟩) 0 (w.alloc (.cells #[] 32)) := ⟨by omega, rfl, Own.empty w (Nat.le_refl _), by simp, h.alloc _, gr_alloc (gr_refl w _) _⟩
  have HL0 := hid L0
  clear L0
  go_enter Try.func27, Try.ntmps27
  go_wp2_with fail
  go_loopw [3, 4] (fun v i wr => ∃ (k n : Nat) (l : List Lk) (A : Option Addr) (c : Nat), i = .int .i64 k ∧ v = .slice A n c ∧ k ≤ 8 ∧ LsAt w B g m k n l A c wr) (fun _ i _ => 8 - (intOf i).toNat)
  case atStart => exact ⟨0, 0, [], _, _, rfl, rfl, by omega, HL0.out⟩
  case round =>
    clear HL0
    obtain ⟨k, n, l, A, c, rfl, rfl, hk8, hat⟩ := hrel
    have hle := hat.le
    have hsz := hat.gr.size
    by_cases hlt2 : k < 8
    · go_wp2_with fail
      refine (pick_any B g (m + 29 - 2 * k) 3 _ (hat.rd.less (by omega)) (by omega) (by omega)).mono ?_
      rintro e w1 ⟨k1, rfl, hk11, hk12, R1, hg1⟩
      have hk13 := hk12 (by omega)
      clear hk12
      have O1 := hat.own.past hg1 hlt
      have G1 := gr_trans hat.gr hg1
      rcases (by omega : k1 < 1 ∨ 1 ≤ k1) with q | q
      · go_wp2_with fail
        refine (pick_any B g (m + 28 - 2 * k) 3 _ (R1.less (by omega)) (by omega) (by omega)).mono ?_
        rintro e w2 ⟨k2, rfl, hk21, hk22, R2, hg2⟩
        have hk23 := hk22 (by omega)
        clear hk22
        have O2 := O1.past hg2 hlt
        have G2 := gr_trans G1 hg2
        clear hg1 hg2
        go_wp2_with (at_builtin; refine wpList_push _ rfl _ _ 23 rfl w.heap.size 32 Try.underlying23 lkInfo rfl (by omega) A n c (l.flatMap Lk.cells) rfl (O2.alloc (.cells #[.int .i64 (k : Int), .int .i64 (1 + (k2 : Int))] 32)) _ 1 #[.int .i64 (k : Int), .int .i64 (1 + (k2 : Int))] rfl (Full.newAt (by simp)) rfl (by intro u hu; simp at hu; rcases hu with rfl | rfl <;> rfl) (by omega) (by omega) (Nat.le_trans G2.size (World.grownBy_alloc _ _ none).size) ?_; intro A' c' wz hown hgz _)
        have ST : LsAt w B g m (k + 1) (n + 1) (l ++ [⟨(k : Int), 1 + (k2 : Int)⟩]) A' c' wz := by
          refine ⟨by omega, by simp [hat.len], by simpa [Lk.cells] using hown, ?_, ((R2.alloc _).grown hgz (fun b hb => by have := (O2.block hb).1; exact ⟨by omega, by omega⟩)).less (by omega), gr_then (gr_alloc G2 _) hgz (fun b hb => .inr (O2.block hb).1)⟩
          intro x hx
          rcases List.mem_append.1 hx with hx | hx
          · exact hat.small x hx
          · simp at hx
            subst hx
            exact ⟨by simp only []; omega, by simp only []; omega, by simp only []; omega, by simp only []; omega⟩
        clear hown hgz hat
        go_wp2_with fail
        go_roundw
        case rel => exact ⟨k + 1, n + 1, _, A', c', by go_num, by go_num, by omega, ST⟩
        case measure => simp [intOf]; omega
      · have ST : LsAt w B g m (k + 1) n l A c w1 := ⟨by omega, hat.len, O1, hat.small, R1.less (by omega), G1⟩
        clear hg1 hat
        go_wp2_with fail
        go_roundw
        case rel => exact ⟨k + 1, n, _, A, c, by go_num, rfl, by omega, ST⟩
        case measure => simp [intOf]; omega
    · obtain rfl : k = 8 := by omega
      have hlen := hat.len
      rcases (by omega : n = 0 ∨ 0 < n) with h0 | h0
      · have hz : decide (0 < n) = false := by simp; omega
        have HLn := hid hlen
        clear hlen h0
        go_wp2_with fail
        go_ret
        exact ⟨A, n, c, l, rfl, hat.own, HLn.out, ⟨by rw [HLn.out]; omega, hat.small⟩, hat.rd.less (by omega), hat.gr⟩
      have hz : decide (0 < n) = true := by simpa using h0
      go_wp2_with fail
      refine (pick_any B g (m + 10) 24 _ (hat.rd.less (by omega)) (by omega) (by omega)).mono ?_
      rintro e w1 ⟨k1, rfl, hk11, hk12, R1, hg1⟩
      have hk13 := hk12 (by omega)
      clear hk12
      have O1 := hat.own.past hg1 hlt
      have G1 := gr_trans hat.gr hg1
      have HLn := hid hlen
      have HS := hid hat.small
      clear hlen hg1 hat
      rcases (by omega : 1 ≤ k1 ∨ k1 < 1) with q | q
      · go_wp2_with fail
        go_ret
        exact ⟨A, n, c, l, rfl, O1, HLn.out, ⟨by rw [HLn.out]; omega, HS.out⟩, R1.less (by omega), G1⟩
      · go_wp2_with fail
        refine (pick_any B g (m + 9) _ _ (R1.less (by omega)) (by omega) (by omega)).mono ?_
        rintro e w2 ⟨k2, rfl, hk21, hk22, R2, hg2⟩
        have hk23 := hk22 (by omega)
        clear hk22
        have O2 := O1.past hg2 hlt
        have G2 := gr_trans G1 hg2
        clear hg2
        go_wp2_with fail
        refine (pick_any B g m 3 _ ((R2.alloc _).less (by omega)) (by omega) (by omega)).mono ?_
        rintro e w3 ⟨k3, rfl, hk31, hk32, R3, hg3⟩
        have hk33 := hk32 (by omega)
        clear hk32
        have O3 := (O2.alloc _).past hg3 hlt
        have G3 := gr_trans (gr_alloc G2 _) hg3
        obtain ⟨x, hx, hxc⟩ := ((Full.new w2 3 (([0, 99, 100] : List Int).map (Value.int .i64)).toArray).grown hg3 (by intro e; injection e with e; have := R2.lt; omega)).intAt (k := k3) (by show k3 < 3; omega)
        have hx0 : 0 ≤ x ∧ x ≤ 100 := by simp at hx; omega
        obtain ⟨hx0, hx1⟩ := hx0
        have hkl : k2 < l.length := by rw [HLn.out]; omega
        obtain ⟨gA, cur, rfl, hgA, FA, hcell⟩ := O3.open_ h0
        have hfl := fun j (hj : j < 2) => flat_at Lk.cells 2 (fun _ => rfl) l k2 j hkl hj
        have cb := hcell _ _ (hfl 1 (by omega))
        have fb := FA.free (k2 * 2 + 1)
        have b1 : (0 : Int) ≤ (k2 : Int) := by omega
        have b2 : (k2 : Int) < (n : Int) := by omega
        have hFS := flat_set Lk.cells 2 (fun _ => rfl) l k2 1 hkl (by omega) (.int .i64 x) ⟨(l[k2]).s, x⟩ rfl
        have HFS := hid hFS
        clear hx hg3 hcell hFS hfl
        go_wp2_with fail
        go_ret
        refine ⟨some ⟨gA, 0, none⟩, n, c, l.set k2 ⟨(l[k2]).s, x⟩, rfl, ?_, by rw [List.length_set]; exact HLn.out, ⟨by rw [List.length_set, HLn.out]; omega, ?_⟩, R3.set (R3.ne_full FA (by decide)) (by omega) _ _, gr_put G3 hgA _⟩
        · rw [← HFS.out]
          exact O3.set _ _
        · intro y hy
          rcases List.mem_or_eq_of_mem_set hy with hy | rfl
          · exact HS.out y hy
          · have := HS.out _ (List.getElem_mem hkl)
            exact ⟨this.1, this.2.1, hx0, hx1⟩

/-- Drawn stripes out of a reader. -/
def SsRdEnds (T : TypeId) (w : World) (B g m : Nat) (e : Ending) (w' : World) : Prop :=
  ∃ (A : Option Addr) (n c : Nat) (xs : List Int), e = .returned (.slice A n c) ∧ Own w' w.heap.size 3 1 A n c (ints xs) ∧ xs.length = n ∧ n ≤ 9 ∧ (∀ x ∈ xs, -1 ≤ x ∧ x ≤ 8) ∧ Rd T w' B g m ∧ w.grownBy w' (some g)
structure SsAt (w : World) (B g m k n : Nat) (xs : List Int) (A : Option Addr) (c : Nat) (wr : World) : Prop where
  le : n ≤ k
  len : xs.length = n
  own : Own wr w.heap.size 3 1 A n c (ints xs)
  small : ∀ x ∈ xs, -1 ≤ x ∧ x ≤ 8
  rd : Rd 55 wr B g (m + 30 - 2 * k)
  gr : w.grownBy wr (some g)
theorem small_snoc {xs : List Int} {x : Int} (h : ∀ y ∈ xs, -1 ≤ y ∧ y ≤ 8) (hx : -1 ≤ x ∧ x ≤ 8) : ∀ y ∈ xs ++ [x], -1 ≤ y ∧ y ≤ 8 := by
  intro y hy
  rcases List.mem_append.1 hy with hy | hy
  · exact h y hy
  · simp at hy; rw [hy]; exact hx

set_option maxHeartbeats 2000000 in
theorem ss91_any (B g m : Nat) (w : World) (h : Rd 55 w B g (m + 30)) :
    Calls Try.prog 33 #[.pointer (some ⟨g, 0, none⟩)] w (SsRdEnds 55 w B g m) := by
  have hlt := h.lt
  have hge := h.ge
  have L0 : SsAt w B g m 0 0 [] (some ⟨w.heap.size, 0, none⟩) 0 (w.alloc (.cells #[] 3)) := ⟨by omega, rfl, Own.empty w (Nat.le_refl _), by simp, h.alloc _, gr_alloc (gr_refl w _) _⟩
  have HL0 := hid L0
  clear L0
  go_enter Try.func33, Try.ntmps33
  go_wp2_with fail
  go_loopw [3, 4] (fun v i wr => ∃ (k n : Nat) (xs : List Int) (A : Option Addr) (c : Nat), i = .int .i64 k ∧ v = .slice A n c ∧ k ≤ 8 ∧ SsAt w B g m k n xs A c wr) (fun _ i _ => 8 - (intOf i).toNat)
  case atStart => exact ⟨0, 0, [], _, _, rfl, rfl, by omega, HL0.out⟩
  case round =>
    clear HL0
    obtain ⟨k, n, xs, A, c, rfl, rfl, hk8, hat⟩ := hrel
    have hle := hat.le
    have hsz := hat.gr.size
    by_cases hlt2 : k < 8
    · go_wp2_with fail
      refine (pick_any B g (m + 29 - 2 * k) 5 _ (hat.rd.less (by omega)) (by omega) (by omega)).mono ?_
      rintro e w1 ⟨k1, rfl, hk11, hk12, R1, hg1⟩
      have hk13 := hk12 (by omega)
      clear hk12
      have O1 := hat.own.past hg1 hlt
      have G1 := gr_trans hat.gr hg1
      rcases (by omega : k1 < 1 ∨ 1 ≤ k1) with q | q
      · clear hg1
        go_wp2_with (at_builtin; refine wpList_push _ rfl _ _ 34 rfl w.heap.size 3 Try.underlying34 intInfo rfl (by omega) A n c (ints xs) rfl (O1.alloc (.cells #[.int .i64 (k : Int)] 3)) _ 1 #[.int .i64 (k : Int)] rfl (Full.newAt (by simp)) rfl (by intro u hu; simp at hu; subst hu; rfl) (by omega) (by omega) (Nat.le_trans G1.size (World.grownBy_alloc _ _ none).size) ?_; intro A' c' wz hown hgz _)
        have ST : SsAt w B g m (k + 1) (n + 1) (xs ++ [(k : Int)]) A' c' wz := by
          refine ⟨by omega, by simp [hat.len], by rw [ints_app]; exact hown, small_snoc hat.small (by omega), ((R1.alloc _).grown hgz (fun b hb => by have := (O1.block hb).1; exact ⟨by omega, by omega⟩)).less (by omega), gr_then (gr_alloc G1 _) hgz (fun b hb => .inr (O1.block hb).1)⟩
        clear hown hgz hat
        go_wp2_with fail
        go_roundw
        case rel => exact ⟨k + 1, n + 1, _, A', c', by go_num, by go_num, by omega, ST⟩
        case measure => simp [intOf]; omega
      · have ST : SsAt w B g m (k + 1) n xs A c w1 := ⟨by omega, hat.len, O1, hat.small, R1.less (by omega), G1⟩
        clear hg1 hat
        go_wp2_with fail
        go_roundw
        case rel => exact ⟨k + 1, n, _, A, c, by go_num, rfl, by omega, ST⟩
        case measure => simp [intOf]; omega
    · obtain rfl : k = 8 := by omega
      have hlen := hat.len
      rcases (by omega : n = 0 ∨ 0 < n) with h0 | h0
      · have hz : decide (0 < n) = false := by simp; omega
        have HLn := hid hlen
        clear hlen h0
        go_wp2_with fail
        go_ret
        exact ⟨A, n, c, xs, rfl, hat.own, HLn.out, by omega, hat.small, hat.rd.less (by omega), hat.gr⟩
      have hz : decide (0 < n) = true := by simpa using h0
      go_wp2_with fail
      refine (pick_any B g (m + 10) 24 _ (hat.rd.less (by omega)) (by omega) (by omega)).mono ?_
      rintro e w1 ⟨k1, rfl, hk11, hk12, R1, hg1⟩
      have hk13 := hk12 (by omega)
      clear hk12
      have O1 := hat.own.past hg1 hlt
      have G1 := gr_trans hat.gr hg1
      have HLn := hid hlen
      have HS := hid hat.small
      clear hlen hg1 hat
      rcases (by omega : 1 ≤ k1 ∨ k1 < 1) with q | q
      · go_wp2_with fail
        go_ret
        exact ⟨A, n, c, xs, rfl, O1, HLn.out, by omega, HS.out, R1.less (by omega), G1⟩
      · go_wp2_with fail
        refine (pick_any B g m 3 _ ((R1.alloc _).less (by omega)) (by omega) (by omega)).mono ?_
        rintro e w3 ⟨k3, rfl, hk31, hk32, R3, hg3⟩
        have hk33 := hk32 (by omega)
        clear hk32
        have O3 := (O1.alloc _).past hg3 hlt
        have G3 := gr_trans (gr_alloc G1 _) hg3
        obtain ⟨x, hx, hxc⟩ := ((Full.new w1 3 (([-1, 8, 0] : List Int).map (Value.int .i64)).toArray).grown hg3 (by intro e; injection e with e; have := R1.lt; omega)).intAt (k := k3) (by show k3 < 3; omega)
        have hx0 : -1 ≤ x ∧ x ≤ 8 := by simp at hx; omega
        have HX := hid hx0
        clear hx hg3 hx0
        go_wp2_with (at_builtin; refine wpList_push _ rfl _ _ 34 rfl w.heap.size 3 Try.underlying34 intInfo rfl (by omega) A n c (ints xs) rfl (O3.alloc (.cells #[.int .i64 x] 3)) _ 1 #[.int .i64 x] rfl (Full.newAt (by simp)) rfl (by intro u hu; simp at hu; subst hu; rfl) (by omega) (by omega) (Nat.le_trans G3.size (World.grownBy_alloc _ _ none).size) ?_; intro A' c' wz hown hgz _)
        have GZ := gr_then (gr_alloc G3 _) hgz (fun b hb => .inr (O3.block hb).1)
        have RZ := (R3.alloc _).grown hgz (fun b hb => by have := (O3.block hb).1; exact ⟨by omega, by omega⟩)
        clear hgz
        go_wp2_with fail
        go_ret
        exact ⟨A', n + 1, c', xs ++ [x], by first | rfl | simp, by rw [ints_app]; exact hown, by simp [HLn.out], by omega, small_snoc HS.out HX.out, RZ, GZ⟩

/-- Drawn locks of their own, and an owner. -/
def LgEnds (w : World) (e : Ending) (w' : World) : Prop :=
  ∃ (A : Option Addr) (n c : Nat) (l : List Lk) (o : Int), e = .returned (.tuple #[.slice A n c, .int .i64 o]) ∧ Own w' w.heap.size 32 2 A n c (l.flatMap Lk.cells) ∧ l.length = n ∧ LkSmall l ∧ 1 ≤ o ∧ o ≤ 4 ∧ w.grownBy w' none
def LfEnds (w : World) (e : Ending) (w' : World) : Prop :=
  ∃ (A : Option Addr) (n c : Nat) (l : List Lk) (o : Int) (D : Option Addr) (m d : Nat) (xs : List Int), e = .returned (.tuple #[.slice A n c, .int .i64 o, .slice D m d]) ∧ Own w' w.heap.size 32 2 A n c (l.flatMap Lk.cells) ∧ l.length = n ∧ LkSmall l ∧ -10 ≤ o ∧ o ≤ 4 ∧
    Own w' w.heap.size 3 1 D m d (ints xs) ∧ xs.length = m ∧ m ≤ 9 ∧ (∀ x ∈ xs, -1 ≤ x ∧ x ≤ 8) ∧ w.grownBy w' none

set_option maxHeartbeats 1000000 in
theorem dlg_any (A : Option Addr) (n c : Nat) (zs : List Int) (w : World) (h : Code w A n c zs) :
    Calls Try.prog 15 #[.slice A n c] w (LgEnds w) := by
  go_enter Try.func15, Try.ntmps15
  go_wp2_with fail
  refine (open_any A n c zs _ h).mono ?_
  rintro e w1 ⟨g, rfl, hr1, hg1⟩
  have hB := hr1.ge
  go_wp2_with fail
  refine (lks91_any _ g 90000 _ (hr1.less (by omega))).mono ?_
  rintro e w2 ⟨A2, n2, c2, l, rfl, hO, hl, hsm, hr2, hg2⟩
  have G2 := gr_new hg1 hg2 hB
  have hlt := hr1.lt
  go_wp2_with fail
  refine (pick_any _ g 80000 4 _ (hr2.less (by omega)) (by omega) (by omega)).mono ?_
  rintro e w3 ⟨k, rfl, hk1, hk2, hr3, hg3⟩
  have hk3 := hk2 (by omega)
  go_wp2_with fail
  go_ret2
  exact ⟨A2, n2, c2, l, _, rfl, (hO.past hg3 hlt).base_le hg1.size, hl, hsm, by omega, by omega, gr_new G2 hg3 hB⟩

set_option maxHeartbeats 1000000 in
theorem dlf_any (A : Option Addr) (n c : Nat) (zs : List Int) (w : World) (h : Code w A n c zs) :
    Calls Try.prog 19 #[.slice A n c] w (LfEnds w) := by
  go_enter Try.func19, Try.ntmps19
  go_wp2_with fail
  refine (open_any A n c zs _ h).mono ?_
  rintro e w1 ⟨g, rfl, hr1, hg1⟩
  have hB := hr1.ge
  go_wp2_with fail
  refine (lks91_any _ g 90000 _ (hr1.less (by omega))).mono ?_
  rintro e w2 ⟨A2, n2, c2, l, rfl, hO, hl, hsm, hr2, hg2⟩
  have G2 := gr_new hg1 hg2 hB
  have hlt := hr1.lt
  go_wp2_with fail
  refine (pick_any _ g 80000 4 _ (hr2.less (by omega)) (by omega) (by omega)).mono ?_
  rintro e w3 ⟨k, rfl, hk1, hk2, hr3, hg3⟩
  have hk3 := hk2 (by omega)
  have G3 := gr_new G2 hg3 hB
  go_wp2_with fail
  refine (pick_any _ g 70000 30 _ (hr3.less (by omega)) (by omega) (by omega)).mono ?_
  rintro e w4 ⟨k4, rfl, hk41, hk42, hr4, hg4⟩
  have hk43 := hk42 (by omega)
  have G4 := gr_new G3 hg4 hB
  go_wp2_with fail
  refine (ss91_any _ g 60000 _ (hr4.less (by omega))).mono ?_
  rintro e w5 ⟨D, m, d, xs, rfl, hO5, hl5, hm5, hs5, hr5, hg5⟩
  have hsz4 := G4.size
  go_wp2_with fail
  go_ret3
  exact ⟨A2, n2, c2, l, _, D, m, d, xs, rfl, (((hO.past hg3 hlt).past hg4 hlt).past hg5 hlt).base_le hg1.size, hl, hsm, by omega, by omega, hO5.base_le hsz4, hl5, hm5, hs5, gr_new G4 hg5 hB⟩

set_option maxHeartbeats 1000000 in
theorem dlt_any (A : Option Addr) (n c : Nat) (zs : List Int) (w : World) (h : Code w A n c zs) :
    Calls Try.prog 23 #[.slice A n c] w (LfEnds w) := by
  go_enter Try.func23, Try.ntmps23
  go_wp2_with fail
  refine (dlf_any A n c zs _ h).mono ?_
  rintro e w1 ⟨A2, n2, c2, l, o, D, m, d, xs, rfl, h1, h2, h3, h4, h5, h6, h7, h8, h9, h10⟩
  have H2 := hid h2
  have H7 := hid h7
  clear h2 h7
  go_wp2_with fail
  go_ret3
  exact ⟨A2, n2, c2, l, o, D, m, d, xs, rfl, h1, H2.out, h3, h4, h5, h6, H7.out, h8, h9, h10⟩

end Go.Proofs.Ytcchnkpkdeminaa
