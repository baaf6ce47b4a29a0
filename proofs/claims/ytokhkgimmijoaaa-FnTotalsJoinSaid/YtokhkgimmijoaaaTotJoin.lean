/- TotalsJoin in impl and in spec, DrawTotalsJoin. -/
import Derived.Test.YtokhkgimmijoaaaTotPut
namespace Go.Proofs.Ytokhkgimmijoaaa
open Go.RowKit

noncomputable def tjB (la lb : List Tot) : Bool := totsB la && (totsB lb && totsB (mergeT la lb))
noncomputable def tjV (la lb : List Tot) : List Tot := if tjB la lb = true then mergeT la lb else []
theorem tjV_no {la lb : List Tot} (h : tjB la lb = false) : tjV la lb = [] := by simp [tjV, h]
theorem tjV_yes {la lb : List Tot} (h : tjB la lb = true) : tjV la lb = mergeT la lb := by simp [tjV, h]
theorem totsB_pos {l : List Tot} (h : totsB l = true) : ∀ x ∈ l, 1 ≤ x.m := fun x hx => (totB_parts ((totsB_iff.1 h).2.1 x hx)).2.1.1
theorem totsB_bnd {l : List Tot} (h : totsB l = true) : Bnd 100000 l := fun x hx => by
  obtain ⟨_, h1, h2⟩ := totB_parts ((totsB_iff.1 h).2.1 x hx)
  omega
theorem ins_len (t : Tot) (l : List Tot) : (insT t l).length ≤ l.length + 1 := by
  induction l with
  | nil => simp [insT]
  | cons y l ih =>
    rw [insT]
    split
    · simp
    · split
      · simp
      · simpa using ih
/-- One after another, so far. -/
def foldTo (la lb : List Tot) (k : Nat) : List Tot := (lb.take k).foldl (fun l t => insT t l) la
theorem foldTo_next {la lb : List Tot} {k : Nat} (hk : k < lb.length) : foldTo la lb (k + 1) = insT lb[k] (foldTo la lb k) := by
  rw [foldTo, List.take_succ_eq_append_getElem hk, List.foldl_append]; rfl
theorem foldTo_all {la lb : List Tot} (ha : totsB la = true) (hb : totsB lb = true) {k : Nat} (hk : lb.length ≤ k) : foldTo la lb k = mergeT la lb := by
  rw [foldTo, List.take_of_length_le hk]
  exact merge_fold (totsB_iff.1 ha).2.2 (totsB_iff.1 hb).2.2 (totsB_pos ha) (totsB_pos hb)
structure FoldAt (la lb : List Tot) (k : Nat) : Prop where
  asc : ascT (foldTo la lb k)
  bnd : Bnd (100000 * (k + 1)) (foldTo la lb k)
  len : (foldTo la lb k).length ≤ 24 + k
theorem foldAt_zero {la : List Tot} (lb : List Tot) (ha : totsB la = true) : FoldAt la lb 0 := by
  refine ⟨(totsB_iff.1 ha).2.2, ?_, (totsB_iff.1 ha).1⟩
  have := totsB_bnd ha
  simpa [foldTo] using this
theorem foldAt_next {la lb : List Tot} {k : Nat} (h : FoldAt la lb k) (hk : k < lb.length) (hb : Bnd 100000 [lb[k]]) : FoldAt la lb (k + 1) := by
  obtain ⟨h1, h2, h3⟩ := h
  refine ⟨by rw [foldTo_next hk]; exact ins_asc h1, ?_, by rw [foldTo_next hk]; have := ins_len lb[k] (foldTo la lb k); omega⟩
  rw [foldTo_next hk]
  have := ins_bnd h2 hb (by omega) (by omega)
  intro x hx
  have := this x hx
  omega
theorem merge_size {la lb : List Tot} {q : Nat} (ha : ∀ x ∈ la, x.c.size ≤ q) (hb : ∀ x ∈ lb, x.c.size ≤ q) : ∀ x ∈ mergeT la lb, x.c.size ≤ q := by
  intro x hx
  rcases merge_mem hx with ⟨y, hy, e⟩ | ⟨y, hy, e⟩
  · rw [e]; exact ha y hy
  · rw [e]; exact hb y hy
theorem merge_len {la lb : List Tot} (ha : totsB la = true) (hb : totsB lb = true) : (mergeT la lb).length ≤ la.length + lb.length :=
  (merge_props (totsB_iff.1 ha).2.2 (totsB_iff.1 hb).2.2 (totsB_pos ha) (totsB_pos hb)).2.2.1

/-- What TotalsJoin leaves. -/
def TjTo (w : World) (l : List Tot) (b : Bool) (e : Ending) (w' : World) : Prop :=
  ∃ (A : Option Addr) (n c : Nat), e = .returned (.tuple #[.slice A n c, .bool b]) ∧ Own w' w.heap.size 30 3 A n c (l.flatMap Tot.cells) ∧ l.length = n ∧ w.grownBy w' none

/-- An argument: totals that lie in what was there. -/
structure TArg (w : World) (A : Option Addr) (n c : Nat) (l : List Tot) : Prop where
  li : Lies w A (l.flatMap Tot.cells)
  len : l.length = n
  cap : n ≤ c
  max : c ≤ maxLen
  blk : ∀ g, blockOf A = some g → g < w.heap.size
  sz : ∀ x ∈ l, x.c.size ≤ maxLen
theorem TArg.grown0 {w w' : World} {A : Option Addr} {n c : Nat} {l : List Tot} (h : TArg w A n c l) (hg : w.grownBy w' none) : TArg w' A n c l :=
  ⟨h.li.grown0 hg, h.len, h.cap, h.max, fun g hb => Nat.lt_of_lt_of_le (h.blk g hb) hg.size, h.sz⟩
theorem TArg.of_own {w : World} {base : Nat} {A : Option Addr} {n c : Nat} {l : List Tot} (h : Own w base 30 3 A n c (l.flatMap Tot.cells)) (hl : l.length = n) (hs : ∀ x ∈ l, x.c.size ≤ maxLen) : TArg w A n c l :=
  ⟨h.lies, hl, h.cap, h.max, fun g hg => (h.block hg).2, hs⟩
theorem targ_valid {w : World} {A : Option Addr} {n c : Nat} {l : List Tot} (h : TArg w A n c l) (b : Bool) (hb : totsB l = b) :
    Calls Try.prog 8 #[.slice A n c] w fun e w' => e = .returned (.bool b) ∧ w.grownBy w' none := tsv_is A n c l b w h.li h.len h.cap h.max h.sz hb
theorem targ_svalid {w : World} {A : Option Addr} {n c : Nat} {l : List Tot} (h : TArg w A n c l) (b : Bool) (hb : totsB l = b) :
    Calls Try.prog 9 #[.slice A n c] w fun e w' => e = .returned (.bool b) ∧ w.grownBy w' none := stsv_is A n c l b w h.li h.len h.cap h.max h.sz hb
theorem own_empty (w : World) (w0 : World) (h : w0.heap.size ≤ w.heap.size) : Own (w.alloc (.cells #[] 30)) w0.heap.size 30 3 (some ⟨w.heap.size, 0, none⟩) 0 0 (([] : List Tot).flatMap Tot.cells) := Own.empty w h

set_option maxHeartbeats 1000000 in
theorem tj_any (A : Option Addr) (n cA : Nat) (la : List Tot) (B : Option Addr) (m cB : Nat) (lb : List Tot) (w : World) (hA : TArg w A n cA la) (hB : TArg w B m cB lb) :
    Calls Try.prog 14 #[.slice A n cA, .slice B m cB] w (TjTo w (tjV la lb) (tjB la lb)) := by
  obtain ⟨b1, hb1⟩ : ∃ b, totsB la = b := ⟨_, rfl⟩
  obtain ⟨b2, hb2⟩ : ∃ b, totsB lb = b := ⟨_, rfl⟩
  obtain ⟨b3, hb3⟩ : ∃ b, totsB (mergeT la lb) = b := ⟨_, rfl⟩
  have e1 := fun w h => targ_valid (w := w) (A := A) (n := n) (c := cA) (l := la) h b1 hb1
  have e2 := fun w h => targ_valid (w := w) (A := B) (n := m) (c := cB) (l := lb) h b2 hb2
  have e4 := fun w A n c h => targ_valid (w := w) (A := A) (n := n) (c := c) (l := mergeT la lb) h b3 hb3
  have HJ := hid (show tjB la lb = (b1 && (b2 && b3)) by rw [tjB, hb1, hb2, hb3])
  have H1 := hid hb1
  have H2 := hid hb2
  clear hb1 hb2 hb3
  go_enter Try.func14, Try.ntmps14
  go_wp2_with fail
  refine (e1 _ hA).mono ?_
  rintro e w1 ⟨rfl, hg1⟩
  have hA1 := hA.grown0 hg1
  have hB1 := hB.grown0 hg1
  clear e1 hA hB
  cases b1 with
  | false =>
    have HF := hid (show tjB la lb = false by rw [HJ.out]; rfl)
    have hs := hg1.size
    go_wp2_with fail
    go_ret2
    exact ⟨some ⟨w1.heap.size, 0, none⟩, 0, 0, by rw [HF.out]; rfl, by rw [tjV_no HF.out]; exact own_empty w1 w hs, by rw [tjV_no HF.out]; rfl, gr_alloc hg1 _⟩
  | true =>
    go_wp2_with fail
    refine (e2 _ hB1).mono ?_
    rintro e w2 ⟨rfl, hg2⟩
    have hA2 := hA1.grown0 hg2
    have hB2 := hB1.grown0 hg2
    have G2 := gr_0 hg1 hg2
    clear e2 hA1 hB1 hg1 hg2
    have hs := G2.size
    cases b2 with
    | false =>
      have HF := hid (show tjB la lb = false by rw [HJ.out]; rfl)
      go_wp2_with fail
      go_ret2
      exact ⟨some ⟨w2.heap.size, 0, none⟩, 0, 0, by rw [HF.out]; rfl, by rw [tjV_no HF.out]; exact own_empty w2 w hs, by rw [tjV_no HF.out]; rfl, gr_alloc G2 _⟩
    | true =>
      have oa := (totsB_iff.1 H1.out)
      have ob := (totsB_iff.1 H2.out)
      have e3 := joined_any A n cA la B m cB lb w2 hA2.li hA2.len hA2.cap hA2.max hA2.blk oa.2.1 hB2.li hB2.len hB2.cap hB2.max hB2.blk ob.2.1 (by have := hA2.len; have := hB2.len; have := oa.1; have := ob.1; omega)
      have HSz := hid (merge_size hA2.sz hB2.sz)
      have HLn := hid (merge_len H1.out H2.out)
      clear oa ob hA2 hB2
      go_wp2_with fail
      refine e3.mono ?_
      rintro e w3 ⟨L, nL, cL, rfl, hO, hl, hg3⟩
      have hT := TArg.of_own hO hl HSz.out
      have G3 := gr_0 G2 hg3
      have HL := hid hl
      clear e3 hl hg3
      go_wp2_with fail
      refine (e4 _ _ _ _ hT).mono ?_
      rintro e w4 ⟨rfl, hg4⟩
      have hO4 := hO.kept0 hg4
      have G4 := gr_0 G3 hg4
      have hs4 := G4.size
      clear e4 hT hg4 hO
      cases b3 with
      | false =>
        have HF := hid (show tjB la lb = false by rw [HJ.out]; rfl)
        go_wp2_with fail
        go_ret2
        exact ⟨some ⟨w4.heap.size, 0, none⟩, 0, 0, by rw [HF.out]; rfl, by rw [tjV_no HF.out]; exact own_empty w4 w hs4, by rw [tjV_no HF.out]; rfl, gr_alloc G4 _⟩
      | true =>
        have HF := hid (show tjB la lb = true by rw [HJ.out]; rfl)
        go_wp2_with fail
        go_ret2
        exact ⟨L, nL, cL, by rw [HF.out]; rfl, by rw [tjV_yes HF.out]; exact hO4.base_le hs, by rw [tjV_yes HF.out]; exact HL.out, G4⟩

set_option maxHeartbeats 1000000 in
theorem stj_any (A : Option Addr) (n cA : Nat) (la : List Tot) (B : Option Addr) (m cB : Nat) (lb : List Tot) (w : World) (hA : TArg w A n cA la) (hB : TArg w B m cB lb) :
    Calls Try.prog 15 #[.slice A n cA, .slice B m cB] w (TjTo w (tjV la lb) (tjB la lb)) := by
  obtain ⟨b1, hb1⟩ : ∃ b, totsB la = b := ⟨_, rfl⟩
  obtain ⟨b2, hb2⟩ : ∃ b, totsB lb = b := ⟨_, rfl⟩
  obtain ⟨b3, hb3⟩ : ∃ b, totsB (mergeT la lb) = b := ⟨_, rfl⟩
  have e1 := fun w h => targ_svalid (w := w) (A := A) (n := n) (c := cA) (l := la) h b1 hb1
  have e2 := fun w h => targ_svalid (w := w) (A := B) (n := m) (c := cB) (l := lb) h b2 hb2
  have e4 := fun w A n c h => targ_svalid (w := w) (A := A) (n := n) (c := c) (l := mergeT la lb) h b3 hb3
  have HJ := hid (show tjB la lb = (b1 && (b2 && b3)) by rw [tjB, hb1, hb2, hb3])
  have H1 := hid hb1
  have H2 := hid hb2
  clear hb1 hb2 hb3
  go_enter Try.func15, Try.ntmps15
  go_wp2_with fail
  refine (e1 _ hA).mono ?_
  rintro e w1 ⟨rfl, hg1⟩
  have hA1 := hA.grown0 hg1
  have hB1 := hB.grown0 hg1
  clear e1 hA hB
  cases b1 with
  | false =>
    have HF := hid (show tjB la lb = false by rw [HJ.out]; rfl)
    have hs := hg1.size
    go_wp2_with fail
    go_ret2
    exact ⟨some ⟨w1.heap.size, 0, none⟩, 0, 0, by rw [HF.out]; rfl, by rw [tjV_no HF.out]; exact own_empty w1 w hs, by rw [tjV_no HF.out]; rfl, gr_alloc hg1 _⟩
  | true =>
    go_wp2_with fail
    refine (e2 _ hB1).mono ?_
    rintro e w2 ⟨rfl, hg2⟩
    have hA2 := hA1.grown0 hg2
    have hB2 := hB1.grown0 hg2
    have G2 := gr_0 hg1 hg2
    clear e2 hA1 hB1 hg1 hg2
    have hs := G2.size
    cases b2 with
    | false =>
      have HF := hid (show tjB la lb = false by rw [HJ.out]; rfl)
      go_wp2_with fail
      go_ret2
      exact ⟨some ⟨w2.heap.size, 0, none⟩, 0, 0, by rw [HF.out]; rfl, by rw [tjV_no HF.out]; exact own_empty w2 w hs, by rw [tjV_no HF.out]; rfl, gr_alloc G2 _⟩
    | true =>
      have oa := (totsB_iff.1 H1.out)
      have ob := (totsB_iff.1 H2.out)
      have hn24 : n ≤ 24 := by have := hA2.len; have := oa.1; omega
      have hm24 : m ≤ 24 := by have := hB2.len; have := ob.1; omega
      have HF0 := hid (foldAt_zero lb H1.out)
      have HBB := hid (totsB_bnd H2.out)
      have HLA := hid hA2.len
      have HLB := hid hB2.len
      have HSz := hid (merge_size hA2.sz hB2.sz)
      have hL0 := hA2.li.alloc (.cells #[] 30)
      have hcB := hB2.cap
      have hMB := hB2.max
      unfold maxLen at hMB
      have hlen : (la.flatMap Tot.cells).length = n * 3 := by rw [tot_len, hA2.len]
      have HLen := hid hlen
      have HB2 := hid hB2
      clear oa ob hA2 hlen hB2
      go_wp2_with (at_builtin; refine wpList_app _ rfl (.tmp 17) (.tmp 18) 23 rfl w.heap.size 30 Try.underlying23 totInfo rfl (by omega) (some ⟨w2.heap.size, 0, none⟩) 0 0 [] rfl (Own.empty w2 hs) A n cA (la.flatMap Tot.cells) rfl hL0 HLen.out (tot_one _) (by omega) (by omega) (by simp; omega) ?_; intro L3 c3 w3 hown3 hg3 _)
      have hO3 : Own w3 w.heap.size 30 3 L3 n c3 ((foldTo la lb 0).flatMap Tot.cells) := by simpa [foldTo] using hown3
      have G3 : w.grownBy w3 none := gr_then (gr_alloc G2 _) hg3 (fun b hb => by injection hb with hb; subst hb; exact .inr hs)
      have hB3 : TArg w3 B m cB lb := ⟨(HB2.out.li.alloc _).app hg3 HB2.out.blk (fun b hb => by injection hb with hb; subst hb; exact Nat.le_refl _), HB2.out.len, HB2.out.cap, HB2.out.max, fun g hb => Nat.lt_of_lt_of_le (HB2.out.blk g hb) (Nat.le_trans (World.grownBy_alloc _ _ none).size hg3.size), HB2.out.sz⟩
      have HB3 := hid hB3
      have HO3 := hid hO3
      clear hown3 hg3 hB3 hO3 hL0 HB2 G2 hs
      go_loopw [6, 7] (fun v i wr => ∃ (k : Nat) (L : Option Addr) (nL cL : Nat), v = .slice L nL cL ∧ i = .int .i64 k ∧ k ≤ m ∧ FoldAt la lb k ∧ (foldTo la lb k).length = nL ∧ Own wr w.heap.size 30 3 L nL cL ((foldTo la lb k).flatMap Tot.cells) ∧ TArg wr B m cB lb ∧ w.grownBy wr none) (fun _ i _ => m - (intOf i).toNat)
      case atStart => exact ⟨0, _, _, _, rfl, rfl, by omega, HF0.out, HLA.out, HO3.out, HB3.out, G3⟩
      case round =>
        clear HB3 HO3 G3
        obtain ⟨k, L, nL, cL, rfl, rfl, hkm, hfa, hnl, hO, hB, hG⟩ := hrel
        have HFa := hid hfa
        have HNl := hid hnl
        have hnl2 : nL ≤ 48 := by have := hfa.len; omega
        have hsz := hG.size
        clear hfa hnl
        by_cases hlt : k < m
        · have hkl : k < lb.length := by rw [HLB.out]; exact hlt
          obtain ⟨g, o, rfl, hg, hcell⟩ := hB.li.open_ (by rw [tot_len]; omega)
          obtain ⟨ca, cb, cc⟩ := totAt hcell hkl
          have hbz : Bnd 100000 [lb[k]] := by
            intro x hx
            rw [List.mem_singleton.1 hx]
            exact HBB.out _ (List.getElem_mem hkl)
          have HNx := hid (foldAt_next HFa.out hkl hbz)
          have HEq := hid (foldTo_next (la := la) hkl)
          have e5 := fun w h1 h2 h3 h4 => put_any L nL cL (foldTo la lb k) lb[k] (100000 * (k + 1)) w h1 HNl.out h2 h3 h4 HFa.out.asc HFa.out.bnd (fun x hx => by have := hbz x hx; omega) (by omega) (by omega)
          obtain ⟨z, hz⟩ : ∃ z, lb[k] = z := ⟨_, rfl⟩
          rw [hz] at ca cb cc e5
          have HZ := hid hz
          obtain ⟨zc, zm, zs⟩ := z
          simp only [] at ca cb cc e5
          have b1 : (0 : Int) ≤ (k : Int) := by omega
          have b2 : (k : Int) < (m : Int) := by omega
          have hli := hO.lies
          have hca := hO.cap
          have hma := hO.max
          have hbk := fun g hg => (hO.block (b := g) hg).2
          clear hcell hz hbz
          go_wp2_with fail
          refine (e5 _ hli hca hma hbk).mono ?_
          rintro e w6 ⟨L6, n6, c6, rfl, hO6, hl6, hg6⟩
          have hB6 := hB.grown0 hg6
          have hG6 := gr_0 hG hg6
          have HO6 := hid (show Own w6 w.heap.size 30 3 L6 n6 c6 ((foldTo la lb (k + 1)).flatMap Tot.cells) by rw [HEq.out, HZ.out]; exact hO6.base_le hsz)
          have HL6 := hid (show (foldTo la lb (k + 1)).length = n6 by rw [HEq.out, HZ.out]; exact hl6)
          clear hl6 hO6 hg6 hB hG hO hli e5
          go_wp2_with fail
          go_roundw
          case rel => exact ⟨k + 1, L6, n6, c6, rfl, by go_num, by omega, HNx.out, HL6.out, HO6.out, hB6, hG6⟩
          case measure => simp [intOf]; omega
        · have HM := hid (foldTo_all H1.out H2.out (k := k) (by rw [HLB.out]; omega))
          have hT : TArg wr L nL cL (mergeT la lb) := TArg.of_own (by rw [← HM.out]; exact hO) (by rw [← HM.out]; exact HNl.out) HSz.out
          go_wp2_with fail
          refine (e4 _ _ _ _ hT).mono ?_
          rintro e w4 ⟨rfl, hg4⟩
          have hO4 := hO.kept0 hg4
          have G4 := gr_0 hG hg4
          have hs4 := G4.size
          clear e4 hT hg4 hO
          cases b3 with
          | false =>
            have HF := hid (show tjB la lb = false by rw [HJ.out]; rfl)
            go_wp2_with fail
            go_ret2
            exact ⟨some ⟨w4.heap.size, 0, none⟩, 0, 0, by rw [HF.out]; rfl, by rw [tjV_no HF.out]; exact own_empty w4 w hs4, by rw [tjV_no HF.out]; rfl, gr_alloc G4 _⟩
          | true =>
            have HF := hid (show tjB la lb = true by rw [HJ.out]; rfl)
            go_wp2_with fail
            go_ret2
            exact ⟨L, nL, cL, by rw [HF.out]; rfl, by rw [tjV_yes HF.out, ← HM.out]; exact hO4, by rw [tjV_yes HF.out, ← HM.out]; exact HNl.out, G4⟩

/-- Drawn totals twice. -/
def TdEnds2 (w : World) (e : Ending) (w' : World) : Prop :=
  ∃ (A : Option Addr) (n c : Nat) (l : List Tot) (B : Option Addr) (m d : Nat) (r : List Tot), e = .returned (.tuple #[.slice A n c, .slice B m d]) ∧ TArg w' A n c l ∧ TArg w' B m d r ∧ n ≤ 5 ∧ m ≤ 5 ∧ w.grownBy w' none
set_option maxHeartbeats 1000000 in
theorem dtj_any (A : Option Addr) (n c : Nat) (zs : List Int) (w : World) (h : Code w A n c zs) :
    Calls Try.prog 13 #[.slice A n c] w (TdEnds2 w) := by
  go_enter Try.func13, Try.ntmps13
  go_wp2_with fail
  refine (open_any A n c zs _ h).mono ?_
  rintro e w1 ⟨g, rfl, hr1, hg1⟩
  have hB := hr1.ge
  go_wp2_with fail
  refine (ts92_any _ g 90000 _ (hr1.less (by omega))).mono ?_
  rintro e w2 ⟨A2, n2, c2, l, rfl, hO, hl, hn5, hsm, hr2, hg2⟩
  have HLn := hid hl
  have hlt := hr1.lt
  clear hl
  go_wp2_with fail
  refine (ts92_any _ g 80000 _ (hr2.less (by omega))).mono ?_
  rintro e w3 ⟨A3, n3, c3, r, rfl, hO3, hl3, hn3, hsm3, hr3, hg3⟩
  have HLn3 := hid hl3
  clear hl3
  have hO2 := hO.past hg3 hlt
  go_wp2_with fail
  go_ret2
  exact ⟨A2, n2, c2, l, A3, n3, c3, r, rfl, TArg.of_own hO2 HLn.out (fun x hx => by have := hsm x hx; simp only [maxLen]; omega), TArg.of_own hO3 HLn3.out (fun x hx => by have := hsm3 x hx; simp only [maxLen]; omega), hn5, hn3, gr_new (gr_new hg1 hg2 hB) hg3 hB⟩
end Go.Proofs.Ytokhkgimmijoaaa
