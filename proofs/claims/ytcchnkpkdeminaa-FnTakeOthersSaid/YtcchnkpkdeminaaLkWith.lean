/- l11With, LocksTake in spec. -/
import Derived.Test.YtcchnkpkdeminaaSlkFree
import Derived.Test.YtcchnkpkdeminaaLkTake
import Derived.Test.YtcchnkpkdeminaaApp
namespace Go.Proofs.Ytcchnkpkdeminaa
open Go.RowKit

theorem ins_lt {x y : Lk} {r : List Lk} (h : ∀ z ∈ r, z.s < x.s) : insL x (r ++ [y]) = r ++ (if x.s ≤ y.s then (if y.s = x.s then [x] else [x, y]) else [y, x]) := by
  induction r with
  | nil => rw [List.nil_append, List.nil_append, insL]; split <;> rfl
  | cons z r ih =>
    have := h z (by simp)
    rw [List.cons_append, insL, if_neg (by omega), ih (fun z hz => h z (by simp [hz])), List.cons_append]
theorem lkA_mono {l : List Lk} {k : Nat} (h : lkA (-1) l = true) (hk : k < l.length) : ∀ z ∈ l.take k, z.s < l[k].s := by
  have e : l = l.take k ++ (l[k] :: l.drop (k + 1)) := by
    rw [← List.drop_eq_getElem_cons hk, List.take_append_drop]
  rw [e, lkA_app, Bool.and_eq_true] at h
  have h2 := (lkA_head h.2).1
  intro z hz
  have : ∀ (lo : Int) (r : List Lk), lkA lo r = true → ∀ z ∈ r, z.s ≤ lastL lo r := by
    intro lo r
    induction r generalizing lo with
    | nil => simp
    | cons y r ih =>
      intro hr z hz
      obtain ⟨a1, _, _, _, a5⟩ := lkA_head hr
      rcases List.mem_cons.1 hz with rfl | hz
      · exact lastL_ge a5
      · exact ih _ a5 z hz
  have := this _ _ h.1 z hz
  omega
/-- What was put so far. -/
def wOut (l : List Lk) (x : Lk) (k : Nat) (dn : Bool) (out : List Lk) : Prop :=
  (dn = false ∧ out = l.take k ∧ ∀ z ∈ l.take k, z.s < x.s) ∨ (dn = true ∧ out = insL x (l.take k) ∧ ∃ z ∈ l.take k, x.s ≤ z.s)
theorem wOut_lt {l : List Lk} {x : Lk} {k : Nat} {out : List Lk} (hk : k < l.length) (h : wOut l x k false out) (hx : l[k].s < x.s) : wOut l x (k + 1) false (out ++ [l[k]]) := by
  rcases h with ⟨_, h1, h2⟩ | ⟨h, _⟩
  · refine .inl ⟨rfl, by rw [List.take_succ_eq_append_getElem hk, h1], ?_⟩
    rw [List.take_succ_eq_append_getElem hk]
    intro z hz
    rcases List.mem_append.1 hz with hz | hz
    · exact h2 z hz
    · simp at hz; rw [hz]; exact hx
  · cases h
theorem wOut_eq {l : List Lk} {x : Lk} {k : Nat} {out : List Lk} (hk : k < l.length) (h : wOut l x k false out) (hx : l[k].s = x.s) : wOut l x (k + 1) true (out ++ [x]) := by
  rcases h with ⟨_, h1, h2⟩ | ⟨h, _⟩
  · refine .inr ⟨rfl, ?_, l[k], ?_, by omega⟩
    · rw [List.take_succ_eq_append_getElem hk, ins_lt h2, if_pos (by omega), if_pos hx, h1]
    · rw [List.take_succ_eq_append_getElem hk]; exact List.mem_append_right _ (List.mem_singleton.2 rfl)
  · cases h
theorem wOut_gt {l : List Lk} {x : Lk} {k : Nat} {out : List Lk} (hk : k < l.length) (h : wOut l x k false out) (hx : x.s < l[k].s) : wOut l x (k + 1) true (out ++ [x] ++ [l[k]]) := by
  rcases h with ⟨_, h1, h2⟩ | ⟨h, _⟩
  · refine .inr ⟨rfl, ?_, l[k], ?_, by omega⟩
    · rw [List.take_succ_eq_append_getElem hk, ins_lt h2, if_pos (by omega), if_neg (by omega), h1, List.append_assoc]; rfl
    · rw [List.take_succ_eq_append_getElem hk]; exact List.mem_append_right _ (List.mem_singleton.2 rfl)
  · cases h
theorem wOut_dn {l : List Lk} {x : Lk} {k : Nat} {out : List Lk} (hk : k < l.length) (h : wOut l x k true out) : wOut l x (k + 1) true (out ++ [l[k]]) := by
  rcases h with ⟨h, _⟩ | ⟨_, h1, h2⟩
  · cases h
  · refine .inr ⟨rfl, ?_, ?_⟩
    · rw [List.take_succ_eq_append_getElem hk, ins_app h2, h1]
    · obtain ⟨z, hz, hz2⟩ := h2
      rw [List.take_succ_eq_append_getElem hk]
      exact ⟨z, List.mem_append_left _ hz, hz2⟩
theorem wOut_dn_lt {l : List Lk} {x : Lk} {k : Nat} {out : List Lk} (hv : lkA (-1) l = true) (hk : k < l.length) (h : wOut l x k true out) : x.s < l[k].s := by
  rcases h with ⟨h, _⟩ | ⟨_, h1, z, hz, hz2⟩
  · cases h
  · have := lkA_mono hv hk z hz
    omega
theorem wOut_end {l : List Lk} {x : Lk} {k : Nat} {out : List Lk} (hk : l.length ≤ k) : (wOut l x k false out → out ++ [x] = insL x l) ∧ (wOut l x k true out → out = insL x l) := by
  unfold wOut
  rw [List.take_of_length_le hk]
  refine ⟨fun h => ?_, fun h => ?_⟩
  · rcases h with ⟨_, h1, h2⟩ | ⟨h, _⟩
    · rw [h1, ins_end h2]
    · cases h
  · rcases h with ⟨h, _⟩ | ⟨_, h1, _⟩
    · cases h
    · exact h1
structure WiAt (w : World) (l : List Lk) (x : Lk) (k : Nat) (dn : Bool) (m : Nat) (A : Option Addr) (c : Nat) (out : List Lk) (wr : World) : Prop where
  own : Own wr (w.heap.size + 1) 32 2 A m c (out.flatMap Lk.cells)
  len : out.length = m
  le : m ≤ k + 1
  box : Full wr w.heap.size 32 #[.int .i64 x.s, .int .i64 x.o]
  gr : w.grownBy wr none
  out : wOut l x k dn out
def WiTo (w : World) (l : List Lk) (e : Ending) (w' : World) : Prop :=
  ∃ (A : Option Addr) (m c : Nat), e = .returned (.slice A m c) ∧ Own w' w.heap.size 32 2 A m c (l.flatMap Lk.cells) ∧ l.length = m ∧ w.grownBy w' none

set_option maxHeartbeats 2000000 in
theorem wi_any (B : Option Addr) (n d : Nat) (l : List Lk) (x : Lk) (w : World) (h : Lies w B (l.flatMap Lk.cells)) (hn : l.length = n) (hc_ : n ≤ d) (hm : d ≤ maxLen) (hv : lkA (-1) l = true) :
    Calls Try.prog 36 #[.slice B n d, .agg #[.int .i64 x.s, .int .i64 x.o]] w (WiTo w (insL x l)) := by
  obtain ⟨xs, xo⟩ := x
  have HN := hid hn
  have HV := hid hv
  have h8 := lkA_len hv (by omega)
  rw [hn] at h8
  clear hn hv
  unfold maxLen at hm
  have W0 : WiAt w l ⟨xs, xo⟩ 0 false 0 (some ⟨w.heap.size + 1, 0, none⟩) 0 [] ((w.alloc (.cells #[.int .i64 xs, .int .i64 xo] 32)).alloc (.cells #[] 32)) := by
    have O0 := Own.empty (base := w.heap.size + 1) (e := 32) (s := 2) (w.alloc (.cells #[.int .i64 xs, .int .i64 xo] 32)) (by simp)
    simp only [World.size_alloc] at O0
    exact ⟨O0, rfl, by omega, (Full.new w _ _).alloc _, gr_alloc (gr_alloc (gr_refl w none) _) _, .inl ⟨rfl, rfl, by simp⟩⟩
  have HW0 := hid W0
  clear W0
  go_enter Try.func36, Try.ntmps36
  go_wp2_with fail
  go_loopw [5, 6, 7] (fun v dv i wr => ∃ (k m : Nat) (A : Option Addr) (c : Nat) (dn : Bool) (out : List Lk), i = .int .i64 k ∧ dv = .bool dn ∧ v = .slice A m c ∧ k ≤ n ∧ WiAt w l ⟨xs, xo⟩ k dn m A c out wr) (fun _ _ i _ => n - (intOf i).toNat)
  case atStart => exact ⟨0, 0, _, _, false, [], rfl, rfl, rfl, by omega, HW0.out⟩
  case round =>
    clear HW0
    obtain ⟨k, m, A, c, dn, out, rfl, rfl, rfl, hkn, hat⟩ := hrel
    have O := hat.own
    have V := hat.box
    have G := hat.gr
    have hle := hat.le
    have HLn := hid hat.len
    have HOut := hid hat.out
    clear hat
    have x0 := V.cellAt 0 rfl
    have x1 := V.cellAt 1 rfl
    by_cases hlt : k < n
    · have hkl : k < l.length := by rw [HN.out]; exact hlt
      obtain ⟨g, ofs, rfl, hg, hcell⟩ := h.open_ (by rw [flat_len Lk.cells 2 (fun _ => rfl), HN.out]; omega)
      obtain ⟨ca0, cb0⟩ := lkAt hcell hkl
      have ca := G.cell ca0 (by simp)
      have cb := G.cell cb0 (by simp)
      have b1 : (0 : Int) ≤ (k : Int) := by omega
      have b2 : (k : Int) < (n : Int) := by omega
      clear hcell
      cases dn with
      | false =>
        have hle2 : m ≤ k := by
          rcases HOut.out with ⟨_, e1, _⟩ | ⟨e, _⟩
          · rw [← HLn.out, e1, List.length_take]; omega
          · cases e
        have H1 := hid (fun q => wOut_lt hkl HOut.out q)
        have H2 := hid (fun q => wOut_eq hkl HOut.out q)
        have H3 := hid (fun q => wOut_gt hkl HOut.out q)
        obtain ⟨z, hz⟩ : ∃ z, l[k] = z := ⟨_, rfl⟩
        simp only [hz] at ca ca0 cb cb0 H1 H2 H3
        clear hz
        obtain ⟨ys, yo⟩ := z
        simp only [] at ca ca0 cb cb0 H1 H2 H3
        rcases (by omega : ys < xs ∨ ys = xs ∨ xs < ys) with q | q | q
        · have hcmp : decide (xs ≤ ys) = false := by simp; omega
          have hne : (ys != xs) = true := by simp; omega
          have HO := hid (H1.out q)
          clear H1 H2 H3 q
          go_wp2_with fail
          go_quiet (fail)
          go_wp2_with fail
          go_quiet (fail)
          go_wp2_with (at_builtin; refine wpList_push _ rfl _ _ 23 rfl (w.heap.size + 1) 32 Try.underlying23 lkInfo rfl (by omega) A m c (out.flatMap Lk.cells) rfl (by first | exact Own.alloc O _ | exact Own.alloc (Own.drewN O _) _ | exact Own.alloc (Own.drewN (Own.drewN O _) _) _) _ 1 #[.int .i64 ys, .int .i64 yo] rfl (Full.newAt (by simp)) rfl (by intro u hu; simp at hu; rcases hu with rfl | rfl <;> rfl) (by omega) (by omega) (by have := Full.lt V; simp; omega) ?_; intro A1 c1 wz hown1 hgz1 _)
          have G1 : w.grownBy wz none := by first | exact gr_then (gr_alloc G _) hgz1 (fun b hb => .inr (by have := (Own.block O hb).1; omega)) | exact gr_then (gr_alloc (gr_drewN G _) _) hgz1 (fun b hb => .inr (by have := (Own.block O hb).1; omega)) | exact gr_then (gr_alloc (gr_drewN (gr_drewN G _) _) _) hgz1 (fun b hb => .inr (by have := (Own.block O hb).1; omega))
          have V1 : Full wz w.heap.size 32 #[.int .i64 xs, .int .i64 xo] := by first | exact (Full.alloc V _).grown hgz1 (by intro e; have := (Own.block O e.symm).1; omega) | exact (Full.alloc (Full.drewN V _) _).grown hgz1 (by intro e; have := (Own.block O e.symm).1; omega) | exact (Full.alloc (Full.drewN (Full.drewN V _) _) _).grown hgz1 (by intro e; have := (Own.block O e.symm).1; omega)
          have ST : WiAt w l ⟨xs, xo⟩ (k + 1) false (m + 1) A1 c1 (out ++ [⟨ys, yo⟩]) wz := ⟨by rw [List.flatMap_append]; exact hown1, by rw [List.length_append, HLn.out]; rfl, by omega, V1, G1, HO.out⟩
          clear hown1 hgz1
          go_wp2_with fail
          go_roundw
          case rel => exact ⟨k + 1, m + 1, A1, c1, false, _, by go_num, rfl, by go_num, by omega, ST⟩
          case measure => simp [intOf]; omega
        · have hcmp : decide (xs ≤ ys) = true := by simp; omega
          have hne : (ys != xs) = false := by simp [q]
          have HO := hid (H2.out q)
          clear H1 H2 H3 q
          go_wp2_with fail
          go_quiet (fail)
          go_wp2_with (at_builtin; refine wpList_push _ rfl _ _ 23 rfl (w.heap.size + 1) 32 Try.underlying23 lkInfo rfl (by omega) A m c (out.flatMap Lk.cells) rfl (by first | exact Own.alloc O _ | exact Own.alloc (Own.drewN O _) _ | exact Own.alloc (Own.drewN (Own.drewN O _) _) _) _ 1 #[.int .i64 xs, .int .i64 xo] rfl (Full.newAt (by simp)) rfl (by intro u hu; simp at hu; rcases hu with rfl | rfl <;> rfl) (by omega) (by omega) (by have := Full.lt V; simp; omega) ?_; intro A1 c1 wz hown1 hgz1 _)
          have G1 : w.grownBy wz none := by first | exact gr_then (gr_alloc G _) hgz1 (fun b hb => .inr (by have := (Own.block O hb).1; omega)) | exact gr_then (gr_alloc (gr_drewN G _) _) hgz1 (fun b hb => .inr (by have := (Own.block O hb).1; omega)) | exact gr_then (gr_alloc (gr_drewN (gr_drewN G _) _) _) hgz1 (fun b hb => .inr (by have := (Own.block O hb).1; omega))
          have V1 : Full wz w.heap.size 32 #[.int .i64 xs, .int .i64 xo] := by first | exact (Full.alloc V _).grown hgz1 (by intro e; have := (Own.block O e.symm).1; omega) | exact (Full.alloc (Full.drewN V _) _).grown hgz1 (by intro e; have := (Own.block O e.symm).1; omega) | exact (Full.alloc (Full.drewN (Full.drewN V _) _) _).grown hgz1 (by intro e; have := (Own.block O e.symm).1; omega)
          have ST : WiAt w l ⟨xs, xo⟩ (k + 1) true (m + 1) A1 c1 (out ++ [⟨xs, xo⟩]) wz := ⟨by rw [List.flatMap_append]; exact hown1, by rw [List.length_append, HLn.out]; rfl, by omega, V1, G1, HO.out⟩
          clear hown1 hgz1
          have y0 := V1.cellAt 0 rfl
          have da := G1.cell ca0 (by simp)
          go_wp2_with fail
          go_quiet (fail)
          go_wp2_with fail
          have ST2 : ∀ j, WiAt w l ⟨xs, xo⟩ (k + 1) true (m + 1) A1 c1 (out ++ [⟨xs, xo⟩]) (wz.drewN j) := fun j => ⟨ST.own, ST.len, ST.le, ST.box, gr_drewN ST.gr _, ST.out⟩
          go_roundw
          case rel => exact ⟨k + 1, m + 1, A1, c1, true, _, by go_num, rfl, by go_num, by omega, ST2 _⟩
          case measure => simp [intOf]; omega
        · have hcmp : decide (xs ≤ ys) = true := by simp; omega
          have hne : (ys != xs) = true := by simp; omega
          have HO := hid (H3.out q)
          clear H1 H2 H3 q
          go_wp2_with fail
          go_quiet (fail)
          go_wp2_with (at_builtin; refine wpList_push _ rfl _ _ 23 rfl (w.heap.size + 1) 32 Try.underlying23 lkInfo rfl (by omega) A m c (out.flatMap Lk.cells) rfl (by first | exact Own.alloc O _ | exact Own.alloc (Own.drewN O _) _ | exact Own.alloc (Own.drewN (Own.drewN O _) _) _) _ 1 #[.int .i64 xs, .int .i64 xo] rfl (Full.newAt (by simp)) rfl (by intro u hu; simp at hu; rcases hu with rfl | rfl <;> rfl) (by omega) (by omega) (by have := Full.lt V; simp; omega) ?_; intro A1 c1 wz hown1 hgz1 _)
          have G1 : w.grownBy wz none := by first | exact gr_then (gr_alloc G _) hgz1 (fun b hb => .inr (by have := (Own.block O hb).1; omega)) | exact gr_then (gr_alloc (gr_drewN G _) _) hgz1 (fun b hb => .inr (by have := (Own.block O hb).1; omega)) | exact gr_then (gr_alloc (gr_drewN (gr_drewN G _) _) _) hgz1 (fun b hb => .inr (by have := (Own.block O hb).1; omega))
          have V1 : Full wz w.heap.size 32 #[.int .i64 xs, .int .i64 xo] := by first | exact (Full.alloc V _).grown hgz1 (by intro e; have := (Own.block O e.symm).1; omega) | exact (Full.alloc (Full.drewN V _) _).grown hgz1 (by intro e; have := (Own.block O e.symm).1; omega) | exact (Full.alloc (Full.drewN (Full.drewN V _) _) _).grown hgz1 (by intro e; have := (Own.block O e.symm).1; omega)
          clear hgz1
          have y0 := V1.cellAt 0 rfl
          have y1 := V1.cellAt 1 rfl
          have da := G1.cell ca0 (by simp)
          have db := G1.cell cb0 (by simp)
          go_wp2_with fail
          go_quiet (fail)
          go_wp2_with (at_builtin; refine wpList_push _ rfl _ _ 23 rfl (w.heap.size + 1) 32 Try.underlying23 lkInfo rfl (by omega) A1 (m + 1) c1 ((out.flatMap Lk.cells) ++ [.int .i64 xs, .int .i64 xo]) rfl (by first | exact Own.alloc hown1 _ | exact Own.alloc (Own.drewN hown1 _) _ | exact Own.alloc (Own.drewN (Own.drewN hown1 _) _) _) _ 1 #[.int .i64 ys, .int .i64 yo] rfl (Full.newAt (by simp)) rfl (by intro u hu; simp at hu; rcases hu with rfl | rfl <;> rfl) (by omega) (by omega) (by have := Full.lt V1; simp; omega) ?_; intro A2 c2 wy hown2 hgz2 _)
          have G2 : w.grownBy wy none := by first | exact gr_then (gr_alloc G1 _) hgz2 (fun b hb => .inr (by have := (Own.block hown1 hb).1; omega)) | exact gr_then (gr_alloc (gr_drewN G1 _) _) hgz2 (fun b hb => .inr (by have := (Own.block hown1 hb).1; omega)) | exact gr_then (gr_alloc (gr_drewN (gr_drewN G1 _) _) _) hgz2 (fun b hb => .inr (by have := (Own.block hown1 hb).1; omega))
          have V2 : Full wy w.heap.size 32 #[.int .i64 xs, .int .i64 xo] := by first | exact (Full.alloc V1 _).grown hgz2 (by intro e; have := (Own.block hown1 e.symm).1; omega) | exact (Full.alloc (Full.drewN V1 _) _).grown hgz2 (by intro e; have := (Own.block hown1 e.symm).1; omega) | exact (Full.alloc (Full.drewN (Full.drewN V1 _) _) _).grown hgz2 (by intro e; have := (Own.block hown1 e.symm).1; omega)
          have ST : WiAt w l ⟨xs, xo⟩ (k + 1) true (m + 2) A2 c2 (out ++ [⟨xs, xo⟩] ++ [⟨ys, yo⟩]) wy := ⟨by rw [List.flatMap_append, List.flatMap_append]; exact hown2, by rw [List.length_append, List.length_append, HLn.out]; rfl, by omega, V2, G2, HO.out⟩
          clear hown2 hgz2
          go_wp2_with fail
          go_roundw
          case rel => exact ⟨k + 1, m + 2, A2, c2, true, _, by go_num, rfl, by go_num, by omega, ST⟩
          case measure => simp [intOf]; omega
      | true =>
        have H1 := hid (wOut_dn hkl HOut.out)
        have H2 := wOut_dn_lt HV.out hkl HOut.out
        obtain ⟨z, hz⟩ : ∃ z, l[k] = z := ⟨_, rfl⟩
        simp only [hz] at ca ca0 cb cb0 H1 H2
        clear hz
        obtain ⟨ys, yo⟩ := z
        simp only [] at ca ca0 cb cb0 H2
        have hne : (ys != xs) = true := by simp; omega
        clear H2
        go_wp2_with fail
        go_quiet (fail)
        go_wp2_with fail
        go_quiet (fail)
        go_wp2_with (at_builtin; refine wpList_push _ rfl _ _ 23 rfl (w.heap.size + 1) 32 Try.underlying23 lkInfo rfl (by omega) A m c (out.flatMap Lk.cells) rfl (by first | exact Own.alloc O _ | exact Own.alloc (Own.drewN O _) _ | exact Own.alloc (Own.drewN (Own.drewN O _) _) _) _ 1 #[.int .i64 ys, .int .i64 yo] rfl (Full.newAt (by simp)) rfl (by intro u hu; simp at hu; rcases hu with rfl | rfl <;> rfl) (by omega) (by omega) (by have := Full.lt V; simp; omega) ?_; intro A1 c1 wz hown1 hgz1 _)
        have G1 : w.grownBy wz none := by first | exact gr_then (gr_alloc G _) hgz1 (fun b hb => .inr (by have := (Own.block O hb).1; omega)) | exact gr_then (gr_alloc (gr_drewN G _) _) hgz1 (fun b hb => .inr (by have := (Own.block O hb).1; omega)) | exact gr_then (gr_alloc (gr_drewN (gr_drewN G _) _) _) hgz1 (fun b hb => .inr (by have := (Own.block O hb).1; omega))
        have V1 : Full wz w.heap.size 32 #[.int .i64 xs, .int .i64 xo] := by first | exact (Full.alloc V _).grown hgz1 (by intro e; have := (Own.block O e.symm).1; omega) | exact (Full.alloc (Full.drewN V _) _).grown hgz1 (by intro e; have := (Own.block O e.symm).1; omega) | exact (Full.alloc (Full.drewN (Full.drewN V _) _) _).grown hgz1 (by intro e; have := (Own.block O e.symm).1; omega)
        have ST : WiAt w l ⟨xs, xo⟩ (k + 1) true (m + 1) A1 c1 (out ++ [⟨ys, yo⟩]) wz := ⟨by rw [List.flatMap_append]; exact hown1, by rw [List.length_append, HLn.out]; rfl, by omega, V1, G1, H1.out⟩
        clear hown1 hgz1
        go_wp2_with fail
        go_roundw
        case rel => exact ⟨k + 1, m + 1, A1, c1, true, _, by go_num, rfl, by go_num, by omega, ST⟩
        case measure => simp [intOf]; omega
    · obtain rfl : k = n := by omega
      have HE := hid (wOut_end (x := ⟨xs, xo⟩) (out := out) (show l.length ≤ k by rw [HN.out]; omega))
      cases dn with
      | false =>
        go_wp2_with (at_builtin; refine wpList_push _ rfl _ _ 23 rfl (w.heap.size + 1) 32 Try.underlying23 lkInfo rfl (by omega) A m c (out.flatMap Lk.cells) rfl (by first | exact Own.alloc O _ | exact Own.alloc (Own.drewN O _) _ | exact Own.alloc (Own.drewN (Own.drewN O _) _) _) _ 1 #[.int .i64 xs, .int .i64 xo] rfl (Full.newAt (by simp)) rfl (by intro u hu; simp at hu; rcases hu with rfl | rfl <;> rfl) (by omega) (by omega) (by have := Full.lt V; simp; omega) ?_; intro A1 c1 wz hown1 hgz1 _)
        have G1 : w.grownBy wz none := by first | exact gr_then (gr_alloc G _) hgz1 (fun b hb => .inr (by have := (Own.block O hb).1; omega)) | exact gr_then (gr_alloc (gr_drewN G _) _) hgz1 (fun b hb => .inr (by have := (Own.block O hb).1; omega)) | exact gr_then (gr_alloc (gr_drewN (gr_drewN G _) _) _) hgz1 (fun b hb => .inr (by have := (Own.block O hb).1; omega))
        have V1 : Full wz w.heap.size 32 #[.int .i64 xs, .int .i64 xo] := by first | exact (Full.alloc V _).grown hgz1 (by intro e; have := (Own.block O e.symm).1; omega) | exact (Full.alloc (Full.drewN V _) _).grown hgz1 (by intro e; have := (Own.block O e.symm).1; omega) | exact (Full.alloc (Full.drewN (Full.drewN V _) _) _).grown hgz1 (by intro e; have := (Own.block O e.symm).1; omega)
        have hl : (insL ⟨xs, xo⟩ l).length = m + 1 := by rw [← HE.out.1 HOut.out, List.length_append, HLn.out]; rfl
        have ho : Own wz (w.heap.size + 1) 32 2 A1 (m + 1) c1 ((insL ⟨xs, xo⟩ l).flatMap Lk.cells) := by rw [← HE.out.1 HOut.out, List.flatMap_append]; exact hown1
        clear hown1 hgz1
        go_wp2_with fail
        go_ret
        exact ⟨A1, m + 1, c1, rfl, ho.base_le (by omega), hl, G1⟩
      | true =>
        go_wp2_with fail
        go_ret
        exact ⟨A, m, c, rfl, by rw [← HE.out.2 HOut.out]; exact O.base_le (by omega), by rw [← HE.out.2 HOut.out]; exact HLn.out, G⟩

structure StAt (w : World) (l : List Lk) (o : Int) (xs : List Int) (k m : Nat) (A : Option Addr) (c : Nat) (wr : World) : Prop where
  own : Own wr w.heap.size 32 2 A m c ((takeL l o (xs.take k)).flatMap Lk.cells)
  len : (takeL l o (xs.take k)).length = m
  gr : w.grownBy wr none

set_option maxHeartbeats 2000000 in
theorem stk_any (A : Option Addr) (n c : Nat) (l : List Lk) (o : Int) (D : Option Addr) (m d : Nat) (xs : List Int) (w : World) (h : Lies w A (l.flatMap Lk.cells)) (hn : l.length = n) (hc_ : n ≤ c) (hm : c ≤ maxLen) (hD : Lies w D (ints xs)) (hxn : xs.length = m) (hdc : m ≤ d) (hdm : d ≤ maxLen) :
    Calls Try.prog 25 #[.slice A n c, .int .i64 o, .slice D m d] w (TkTo w (tkV l o xs) (freeB l o xs)) := by
  obtain ⟨b, hb⟩ : ∃ b, freeB l o xs = b := ⟨_, rfl⟩
  have e1 := fun w hL hD1 => slf_any A n c l o D m d xs w hL hn hc_ hm hD1 hxn hdc hdm
  rw [hb] at e1 ⊢
  have HB := hid hb
  have HX := hid hxn
  have HN := hid hn
  clear hb hn hxn
  unfold maxLen at hm hdm
  go_enter Try.func25, Try.ntmps25
  go_wp2_with fail
  refine (e1 _ h hD).mono ?_
  rintro e w1 ⟨rfl, hg1⟩
  have L1 := h.grown0 hg1
  clear e1
  cases b with
  | false =>
    go_wp2_with fail
    go_ret2
    exact ⟨_, _, _, rfl, by rw [tkV, HB.out]; exact (Own.empty w1 (Nat.le_refl _)).base_le hg1.size, by rw [tkV, HB.out]; rfl, by omega, gr_alloc hg1 _⟩
  | true =>
    obtain ⟨p1, p2, p3, p4⟩ := freeB_parts HB.out
    have HT := hid (fun (k : Nat) => take_valid p1 p2 (xs.take k) (fun s hs => by have := asc_mem p3 s (List.mem_of_mem_take hs); omega))
    have hn8 := lkA_len p1 (by omega)
    rw [HN.out] at hn8
    have OE := Own.empty (base := w.heap.size) (e := 32) (s := 2) w1 hg1.size
    have hsz := hg1.size
    clear p1 p2 p3 p4
    go_wp2_with (at_builtin; refine wpList_app _ rfl _ _ 23 rfl w.heap.size 32 Try.underlying23 lkInfo rfl (by omega) (some ⟨w1.heap.size, 0, none⟩) 0 0 [] rfl OE A n c (l.flatMap Lk.cells) rfl (L1.alloc _) (by rw [flat_len Lk.cells 2 (fun _ => rfl), HN.out]) (lk_cells_one l) (by omega) (by omega) (by simp; omega) ?_; intro A1 c1 wz hown hgz _)
    have GZ := gr_then (gr_alloc hg1 _) hgz (fun b hb => .inr (OE.block hb).1)
    have ST : StAt w l o xs 0 n A1 c1 wz := ⟨by rw [Nat.zero_add] at hown; exact hown, HN.out, GZ⟩
    have HST := hid ST
    clear hown hgz GZ OE ST L1
    go_wp2_with fail
    go_loopw [8, 9] (fun v i wr => ∃ (k q : Nat) (A : Option Addr) (c : Nat), i = .int .i64 k ∧ v = .slice A q c ∧ k ≤ m ∧ StAt w l o xs k q A c wr) (fun _ i _ => m - (intOf i).toNat)
    case atStart => exact ⟨0, n, _, _, rfl, rfl, by omega, HST.out⟩
    case round =>
      clear HST
      obtain ⟨k, q, A2, c2, rfl, rfl, hkm, hat⟩ := hrel
      have O := hat.own
      have G := hat.gr
      have hq := hat.len
      have hv := (HT.out k).1
      have hq8 := lkA_len hv (by omega)
      rw [hq] at hq8
      have HQ := hid hq
      have HVv := hid hv
      clear hat hq hv
      by_cases hlt : k < m
      · have hkl : k < xs.length := by rw [HX.out]; exact hlt
        have D2 := hD.grown0 G
        obtain ⟨g, ofs, rfl, hg, hcell⟩ := D2.open_ (by rw [ints_len]; omega)
        have cx := intAt hcell hkl
        have HNx := hid (show takeL l o (xs.take (k + 1)) = insL ⟨xs[k], o⟩ (takeL l o (xs.take k)) by rw [List.take_succ_eq_append_getElem hkl, takeL_snoc])
        obtain ⟨x, hx⟩ : ∃ x, xs[k] = x := ⟨_, rfl⟩
        rw [hx] at cx HNx
        have hcap := O.cap
        have hmx := O.max
        have e5 := fun w hL => wi_any A2 q c2 (takeL l o (xs.take k)) ⟨x, o⟩ w hL HQ.out hcap hmx HVv.out
        have OL := O.lies
        have b1 : (0 : Int) ≤ (k : Int) := by omega
        have b2 : (k : Int) < (m : Int) := by omega
        clear hx hcell
        unfold maxLen at hmx
        go_wp2_with fail
        refine (e5 _ OL).mono ?_
        rintro e w5 ⟨A3, q3, c3, rfl, hO3, hl3, hg3⟩
        have ST : StAt w l o xs (k + 1) q3 A3 c3 w5 := ⟨by rw [HNx.out]; exact hO3.base_le G.size, by rw [HNx.out]; exact hl3, gr_0 G hg3⟩
        clear hO3 hl3 hg3
        go_wp2_with fail
        go_roundw
        case rel => exact ⟨k + 1, q3, A3, c3, by go_num, rfl, by omega, ST⟩
        case measure => simp [intOf]; omega
      · obtain rfl : k = m := by omega
        have HF := hid (show takeL l o (xs.take k) = tkV l o xs by rw [List.take_of_length_le (by rw [HX.out]; omega), tkV, HB.out]; rfl)
        go_wp2_with fail
        go_ret2
        exact ⟨A2, q, c2, rfl, by rw [← HF.out]; exact O, by rw [← HF.out]; exact HQ.out, by omega, G⟩

end Go.Proofs.Ytcchnkpkdeminaa
