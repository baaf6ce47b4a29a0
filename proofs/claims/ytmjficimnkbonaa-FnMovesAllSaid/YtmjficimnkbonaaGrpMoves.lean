/- GroupMoves in impl and in spec. -/
import Derived.Test.YtmjficimnkbonaaGrpShare
import Derived.Deep.DeepCutAuto
namespace Go.Proofs.Ytmjficimnkbonaa
open Go.RowKit

noncomputable def movesOf (s : Int) (ms : List ByteArray) (r : Int) (ns : List ByteArray) : Int :=
  if grpB s ms = true ∧ grpB r ns = true ∧ s = r then (picks s.toNat (fun i => decide (ownr ms i ≠ ownr ns i))).length else -1
theorem movesOf_no {s r : Int} {ms ns : List ByteArray} (h : grpB s ms = false ∨ grpB r ns = false ∨ s ≠ r) : movesOf s ms r ns = -1 := by
  unfold movesOf
  rw [if_neg]
  rintro ⟨h1, h2, h3⟩
  rcases h with h | h | h
  · rw [h1] at h; cases h
  · rw [h2] at h; cases h
  · exact h h3
theorem movesOf_yes {s r : Int} {ms ns : List ByteArray} (h1 : grpB s ms = true) (h2 : grpB r ns = true) (h3 : s = r) : movesOf s ms r ns = (picks s.toNat (fun i => decide (ownr ms i ≠ ownr ns i))).length := by
  rw [movesOf, if_pos ⟨h1, h2, h3⟩]

theorem set2 {w : World} {g : Nat} {t : TypeId} (h : Full w g t #[.int .i64 0, .slice none 0 0]) (u v : Value) : Full ((w.setCell ⟨g, 0, none⟩ u).setCell ⟨g, 1, none⟩ v) g t #[u, v] := (h.set 0 u).set 1 v

set_option maxHeartbeats 4000000 in
theorem gmv_is (s r : Int) (A B : Option Addr) (n c m d : Nat) (ms ns : List ByteArray) (v : Int) (w : World) (hA : SArg w A n c ms) (hB : SArg w B m d ns) (hv : movesOf s ms r ns = v) :
    Calls Try.prog 26 #[.agg #[.int .i64 s, .slice A n c], .agg #[.int .i64 r, .slice B m d]] w fun e w' => e = .returned (.int .i64 v) ∧ w.grownBy w' none := by
  have E0 := (Full.new w 25 #[.int .i64 s, .slice A n c]).alloc (.cells #[.int .i64 r, .slice B m d] 25)
  have U0 := Full.newAt (w := w.alloc (.cells #[.int .i64 s, .slice A n c] 25)) (t := 25) (cs := #[.int .i64 r, .slice B m d]) (H := w.heap.size + 1) (by simp)
  have A0 := (hA.alloc (.cells #[.int .i64 s, .slice A n c] 25)).alloc (.cells #[.int .i64 r, .slice B m d] 25)
  have B0 := (hB.alloc (.cells #[.int .i64 s, .slice A n c] 25)).alloc (.cells #[.int .i64 r, .slice B m d] 25)
  have G0 := gr_alloc (gr_alloc (gr_refl w none) (.cells #[.int .i64 s, .slice A n c] 25)) (.cells #[.int .i64 r, .slice B m d] 25)
  obtain ⟨b1, hb1⟩ : ∃ b, grpB s ms = b := ⟨_, rfl⟩
  obtain ⟨b2, hb2⟩ : ∃ b, grpB r ns = b := ⟨_, rfl⟩
  have e1 := gv_is s A n c ms b1 _ A0 hb1
  have HB1 := hid hb1
  have HB2 := hid hb2
  have HV := hid hv
  have c0 := E0.cellAt 0 (v := .int .i64 s) rfl
  have c1 := E0.cellAt 1 (v := .slice A n c) rfl
  clear hA hB hb1 hb2 hv
  obtain ⟨ub, hub⟩ : ∃ ub, w.heap.size + 1 = ub := ⟨_, rfl⟩
  rw [hub] at U0
  go_enter Try.func26, Try.ntmps26
  go_wp2_with fail
  refine e1.mono ?_
  rintro e w1 ⟨rfl, hg1⟩
  have A1 := A0.grown0 hg1
  have B1 := B0.grown0 hg1
  have E1 := E0.grown hg1 (by simp)
  have U1 := U0.grown hg1 (by simp)
  have G1 := gr_0 G0 hg1
  clear e1 A0 B0 E0 U0 G0 hg1 c0 c1
  cases b1 with
  | false =>
    have HF := hid (movesOf_no (s := s) (r := r) (ms := ms) (ns := ns) (.inl HB1.out))
    go_wp2_with fail
    go_ret
    exact ⟨ret_int (by rw [← HV.out, HF.out]), G1⟩
  | true =>
    have e2 := gv_is r B m d ns b2 _ B1 HB2.out
    have c0 := U1.cellAt 0 (v := .int .i64 r) rfl
    have c1 := U1.cellAt 1 (v := .slice B m d) rfl
    go_wp2_with fail
    refine e2.mono ?_
    rintro e w2 ⟨rfl, hg2⟩
    have A2 := A1.grown0 hg2
    have B2 := B1.grown0 hg2
    have E2 := E1.grown hg2 (by simp)
    have U2 := U1.grown hg2 (by simp)
    have G2 := gr_0 G1 hg2
    clear e2 A1 B1 E1 U1 G1 hg2 c0 c1
    have c0 := E2.cellAt 0 (v := .int .i64 s) rfl
    have c1 := E2.cellAt 1 (v := .slice A n c) rfl
    have d0 := U2.cellAt 0 (v := .int .i64 r) rfl
    have d1 := U2.cellAt 1 (v := .slice B m d) rfl
    cases b2 with
    | false =>
      have HF := hid (movesOf_no (s := s) (r := r) (ms := ms) (ns := ns) (.inr (.inl HB2.out)))
      go_wp2_with fail
      go_ret
      exact ⟨ret_int (by rw [← HV.out, HF.out]), G2⟩
    | true =>
      by_cases hsr : s = r
      · have q : (s != r) = false := by simp [hsr]
        have HSR := hid hsr
        obtain ⟨⟨hs1, hs8⟩, ⟨hn1, hn6⟩, _⟩ := grpB_iff.1 HB1.out
        obtain ⟨_, ⟨hm1, hm6⟩, _⟩ := grpB_iff.1 HB2.out
        have hn : 0 < n := by have := A2.len; omega
        have hm : 0 < m := by have := B2.len; omega
        have HF := hid (movesOf_yes HB1.out HB2.out hsr)
        have ne1 := World.new_ne w2 _ c0
        have ne1s := ne1.symm
        have ne2 := World.new_ne w2 _ d0
        have ne2s := ne2.symm
        have hl1 := E2.lt
        have hl2 := U2.lt
        have nx1 : w2.heap.size + 1 ≠ w.heap.size := by omega
        have nx2 : w2.heap.size + 1 ≠ ub := by omega
        clear hsr hn1 hn6 hm1 hm6 hub
        go_upto_region 3 with (fail)
        have hC0 : ∀ w' : World, w2.grownBy w' none → w'.cell? ⟨w.heap.size, 0, none⟩ = some (.int .i64 s) := fun w' h => h.cell c0 (by simp)
        have hC1 : ∀ w' : World, w2.grownBy w' none → w'.cell? ⟨w.heap.size, 1, none⟩ = some (.slice A n c) := fun w' h => h.cell c1 (by simp)
        have hC2 : ∀ w' : World, w2.grownBy w' none → w'.cell? ⟨ub, 0, none⟩ = some (.int .i64 r) := fun w' h => h.cell d0 (by simp)
        have hC3 : ∀ w' : World, w2.grownBy w' none → w'.cell? ⟨ub, 1, none⟩ = some (.slice B m d) := fun w' h => h.cell d1 (by simp)
        have HArg := hid A2
        have HBrg := hid B2
        clear c0 c1 d0 d1 E2 U2 A2 B2 ne1 ne1s ne2 ne2s hl1 hl2 nx1 nx2
        go_cut [5, 6] (fun s5 s6 wx => ∃ g5 g6 : Nat, s5 = .pointer (some ⟨g5, 0, none⟩) ∧ s6 = .pointer (some ⟨g6, 0, none⟩) ∧ Full wx g5 69 #[.int .i64 s, .slice A n c] ∧ Full wx g6 69 #[.int .i64 r, .slice B m d] ∧ w2.grownBy wx none)
        case first =>
          go_region_held3 (fun w' => w2.grownBy w' none) (repeat (first | (with_reducible assumption) | (with_reducible exact gr_refl _ _) | (with_reducible refine gr_alloc ?_ _) | (with_reducible refine gr_drew ?_) | (with_reducible refine gr_put ?_ (by omega) _) | (with_reducible refine gr_0 ?_ hg7) | (with_reducible refine gr_0 ?_ hg6)))
            (first
              | (go_at_call_of 56 (Value.slice A n c)
                 refine (teamOf_any s A n c _).mono ?_
                 rintro e w6 ⟨rfl, hg6⟩
                 have s6 := hg6.size
                 try simp at s6
                 try ((first | have Z61 : Full w6 (w2.heap.size) 69 #[.int .i64 0, .slice none 0 0] := (Full.new w2 69 #[.int .i64 0, .slice none 0 0]).drew.grown hg6 (by simp) | have Z61 : Full w6 (w2.heap.size) 69 #[.int .i64 0, .slice none 0 0] := ((Full.new w2 69 #[.int .i64 0, .slice none 0 0]).alloc (.cells #[.int .i64 0, .slice none 0 0] 69)).drew.grown hg6 (by simp)); have Z61a := Z61.cellAt 0 (v := .int .i64 0) rfl; have Z61b := Z61.cellAt 1 (v := .slice none 0 0) rfl; have Z61c := Z61.free 0; have Z61d := Z61.free 1; have Z61n : w6.heap.size ≠ w2.heap.size := World.new_ne w6 _ Z61a; have Z61m := Z61n.symm; have Y61 := Z61.alloc (.cells #[.int .i64 0, .slice none 0 0] 69); have Y61a := Y61.cellAt 0 (v := .int .i64 0) rfl; have Y61b := Y61.cellAt 1 (v := .slice none 0 0) rfl; have Y61c := Y61.free 0; have Y61d := Y61.free 1)
                 try ((first | have Z62 : Full w6 (w2.heap.size + 1) 69 #[.int .i64 0, .slice none 0 0] := (Full.newAt (w := w2.alloc (.cells #[.int .i64 0, .slice none 0 0] 69)) (t := 69) (cs := #[.int .i64 0, .slice none 0 0]) (H := w2.heap.size + 1) (by simp)).drew.grown hg6 (by simp)); have Z62a := Z62.cellAt 0 (v := .int .i64 0) rfl; have Z62b := Z62.cellAt 1 (v := .slice none 0 0) rfl; have Z62c := Z62.free 0; have Z62d := Z62.free 1; have Z62n : w6.heap.size ≠ w2.heap.size + 1 := World.new_ne w6 _ Z62a; have Z62m := Z62n.symm))
              | (go_at_call_of 56 (Value.slice B m d)
                 refine (teamOf_any r B m d _).mono ?_
                 rintro e w7 ⟨rfl, hg7⟩
                 have s7 := hg7.size
                 try simp at s7
                 have N70 : ∀ X : World, X.heap.size = w7.heap.size → (X.alloc (.cells (#[.int .i64 0, .slice none 0 0] : Array Value) 69)).cell? ⟨w7.heap.size, 0, none⟩ = some (.int .i64 0) := fun X h => (Full.newAt h).cellAt 0 rfl
                 have N71 : ∀ X : World, X.heap.size = w7.heap.size → (X.alloc (.cells (#[.int .i64 0, .slice none 0 0] : Array Value) 69)).cell? ⟨w7.heap.size, 1, none⟩ = some (.slice none 0 0) := fun X h => (Full.newAt h).cellAt 1 rfl
                 have N72 : ∀ X : World, X.heap.size = w7.heap.size → (X.alloc (.cells (#[.int .i64 0, .slice none 0 0] : Array Value) 69)).frozen? ⟨w7.heap.size, 0, none⟩ = false := fun X h => (Full.newAt h).free 0
                 have N73 : ∀ X : World, X.heap.size = w7.heap.size → (X.alloc (.cells (#[.int .i64 0, .slice none 0 0] : Array Value) 69)).frozen? ⟨w7.heap.size, 1, none⟩ = false := fun X h => (Full.newAt h).free 1
                 try ((first | have Z71 : Full w7 (w2.heap.size) 69 #[.int .i64 0, .slice none 0 0] := Z61.grown hg7 (by simp) | have Z71 : Full w7 (w2.heap.size) 69 #[.int .i64 0, .slice none 0 0] := (Z61.alloc (.cells #[.int .i64 0, .slice none 0 0] 69)).grown hg7 (by simp)); have Z71a := Z71.cellAt 0 (v := .int .i64 0) rfl; have Z71b := Z71.cellAt 1 (v := .slice none 0 0) rfl; have Z71c := Z71.free 0; have Z71d := Z71.free 1; have Z71n : w7.heap.size ≠ w2.heap.size := World.new_ne w7 _ Z71a; have Z71m := Z71n.symm; have Y71 := Z71.alloc (.cells #[.int .i64 0, .slice none 0 0] 69); have Y71a := Y71.cellAt 0 (v := .int .i64 0) rfl; have Y71b := Y71.cellAt 1 (v := .slice none 0 0) rfl; have Y71c := Y71.free 0; have Y71d := Y71.free 1; have X71 := Z71.alloc (.cells #[.int .i64 s, .slice A n c] 69); have X71a := X71.cellAt 0 (v := .int .i64 0) rfl; have X71b := X71.cellAt 1 (v := .slice none 0 0) rfl; have X71c := X71.free 0; have X71d := X71.free 1)
                 try ((first | have Z72 : Full w7 (w2.heap.size + 1) 69 #[.int .i64 0, .slice none 0 0] := Z62.grown hg7 (by simp)); have Z72a := Z72.cellAt 0 (v := .int .i64 0) rfl; have Z72b := Z72.cellAt 1 (v := .slice none 0 0) rfl; have Z72c := Z72.free 0; have Z72d := Z72.free 1; have Z72n : w7.heap.size ≠ w2.heap.size + 1 := World.new_ne w7 _ Z72a; have Z72m := Z72n.symm)
                 try ((first | have Z73 : Full w7 (w6.heap.size) 69 #[.int .i64 0, .slice none 0 0] := (Full.new w6 69 #[.int .i64 0, .slice none 0 0]).grown hg7 (by simp) | have Z73 : Full w7 (w6.heap.size) 69 #[.int .i64 0, .slice none 0 0] := ((Full.new w6 69 #[.int .i64 0, .slice none 0 0]).alloc (.cells #[.int .i64 0, .slice none 0 0] 69)).grown hg7 (by simp)); have Z73a := Z73.cellAt 0 (v := .int .i64 0) rfl; have Z73b := Z73.cellAt 1 (v := .slice none 0 0) rfl; have Z73c := Z73.free 0; have Z73d := Z73.free 1; have Z73n : w7.heap.size ≠ w6.heap.size := World.new_ne w7 _ Z73a; have Z73m := Z73n.symm; have Y73 := Z73.alloc (.cells #[.int .i64 0, .slice none 0 0] 69); have Y73a := Y73.cellAt 0 (v := .int .i64 0) rfl; have Y73b := Y73.cellAt 1 (v := .slice none 0 0) rfl; have Y73c := Y73.free 0; have Y73d := Y73.free 1; have X73 := Z73.alloc (.cells #[.int .i64 s, .slice A n c] 69); have X73a := X73.cellAt 0 (v := .int .i64 0) rfl; have X73b := X73.cellAt 1 (v := .slice none 0 0) rfl; have X73c := X73.free 0; have X73d := X73.free 1)
                 try ((first | have Z74 : Full w7 (w6.heap.size + 1) 69 #[.int .i64 0, .slice none 0 0] := (Full.newAt (w := w6.alloc (.cells #[.int .i64 0, .slice none 0 0] 69)) (t := 69) (cs := #[.int .i64 0, .slice none 0 0]) (H := w6.heap.size + 1) (by simp)).grown hg7 (by simp)); have Z74a := Z74.cellAt 0 (v := .int .i64 0) rfl; have Z74b := Z74.cellAt 1 (v := .slice none 0 0) rfl; have Z74c := Z74.free 0; have Z74d := Z74.free 1; have Z74n : w7.heap.size ≠ w6.heap.size + 1 := World.new_ne w7 _ Z74a; have Z74m := Z74n.symm)))
          all_goals
            go_wp2_with fail
            go_meet
            case rel =>
              refine ⟨_, _, rfl, rfl, ?_, ?_, ?_⟩
              · repeat (first | (with_reducible exact Z71) | (with_reducible exact Z72) | (with_reducible exact Z73) | (with_reducible exact Z74) | (with_reducible exact Full.newAt (by simp)) | (with_reducible refine Full.alloc ?_ _) | (with_reducible refine Full.drew ?_) | (with_reducible refine set2 ?_ _ _) | (with_reducible refine Full.far ?_ ?hne _; case hne => (first | (simp; done) | (simp; omega))))
              · repeat (first | (with_reducible exact Z71) | (with_reducible exact Z72) | (with_reducible exact Z73) | (with_reducible exact Z74) | (with_reducible exact Full.newAt (by simp)) | (with_reducible refine Full.alloc ?_ _) | (with_reducible refine Full.drew ?_) | (with_reducible refine set2 ?_ _ _) | (with_reducible refine Full.far ?_ ?hne _; case hne => (first | (simp; done) | (simp; omega))))
              · repeat (first | (with_reducible assumption) | (with_reducible exact gr_refl _ _) | (with_reducible refine gr_alloc ?_ _) | (with_reducible refine gr_drew ?_) | (with_reducible refine gr_put ?_ (by omega) _) | (with_reducible refine gr_0 ?_ hg7) | (with_reducible refine gr_0 ?_ hg6))
        case rest =>
          obtain ⟨g5, g6, rfl, rfl, T5, T6, hgc⟩ := hcut
          obtain ⟨k, hk⟩ := Int.eq_ofNat_of_zero_le (show 0 ≤ s by omega)
          have e3 := pick58 _ _ k _ wc (by omega) (mv1_tells s r A B n c m d ms ns g5 g6 wc (HArg.out.grown0 hgc) (HBrg.out.grown0 hgc) hn hm T5 T6 k (by omega))
          have hkt : s.toNat = k := by omega
          rw [← hk] at e3
          have HF2 := hid (show movesOf s ms r ns = (picks k (fun i => decide (ownr ms i ≠ ownr ns i))).length by rw [HF.out, hkt])
          have GC := gr_0 G2 hgc
          have f0 := T5.cellAt 0 (v := .int .i64 s) rfl
          have f1 := T5.cellAt 1 (v := .slice A n c) rfl
          clear hk hkt hC0 hC1 hC2 hC3 hgc
          go_wp2_with fail
          refine e3.mono ?_
          rintro e w3 ⟨L, nL, cL, rfl, hO, hl, hg3⟩
          have HL := hid hl
          clear e3 hl
          go_wp2_with fail
          go_ret
          exact ⟨ret_int (by rw [← HV.out, HF2.out, HL.out]), gr_0 GC hg3⟩
      · have q : (s != r) = true := by simpa using hsr
        have HF := hid (movesOf_no (s := s) (r := r) (ms := ms) (ns := ns) (.inr (.inr hsr)))
        clear hsr
        go_wp2_with fail
        go_ret
        exact ⟨ret_int (by rw [← HV.out, HF.out]), G2⟩

set_option maxHeartbeats 2000000 in
theorem sgmv_is (s r : Int) (A B : Option Addr) (n c m d : Nat) (ms ns : List ByteArray) (v : Int) (w : World) (hA : SArg w A n c ms) (hB : SArg w B m d ns) (hv : movesOf s ms r ns = v) :
    Calls Try.prog 27 #[.agg #[.int .i64 s, .slice A n c], .agg #[.int .i64 r, .slice B m d]] w fun e w' => e = .returned (.int .i64 v) ∧ w.grownBy w' none := by
  have E0 := (Full.new w 25 #[.int .i64 s, .slice A n c]).alloc (.cells #[.int .i64 r, .slice B m d] 25)
  have U0 := Full.newAt (w := w.alloc (.cells #[.int .i64 s, .slice A n c] 25)) (t := 25) (cs := #[.int .i64 r, .slice B m d]) (H := w.heap.size + 1) (by simp)
  have A0 := (hA.alloc (.cells #[.int .i64 s, .slice A n c] 25)).alloc (.cells #[.int .i64 r, .slice B m d] 25)
  have B0 := (hB.alloc (.cells #[.int .i64 s, .slice A n c] 25)).alloc (.cells #[.int .i64 r, .slice B m d] 25)
  have G0 := gr_alloc (gr_alloc (gr_refl w none) (.cells #[.int .i64 s, .slice A n c] 25)) (.cells #[.int .i64 r, .slice B m d] 25)
  obtain ⟨b1, hb1⟩ : ∃ b, grpB s ms = b := ⟨_, rfl⟩
  obtain ⟨b2, hb2⟩ : ∃ b, grpB r ns = b := ⟨_, rfl⟩
  have e1 := sgv_is s A n c ms b1 _ A0 hb1
  have HB1 := hid hb1
  have HB2 := hid hb2
  have HV := hid hv
  have c0 := E0.cellAt 0 (v := .int .i64 s) rfl
  have c1 := E0.cellAt 1 (v := .slice A n c) rfl
  clear hA hB hb1 hb2 hv
  obtain ⟨ub, hub⟩ : ∃ ub, w.heap.size + 1 = ub := ⟨_, rfl⟩
  rw [hub] at U0
  go_enter Try.func27, Try.ntmps27
  go_wp2_with fail
  refine e1.mono ?_
  rintro e w1 ⟨rfl, hg1⟩
  have A1 := A0.grown0 hg1
  have B1 := B0.grown0 hg1
  have E1 := E0.grown hg1 (by simp)
  have U1 := U0.grown hg1 (by simp)
  have G1 := gr_0 G0 hg1
  clear e1 A0 B0 E0 U0 G0 hg1 c0 c1
  cases b1 with
  | false =>
    have HF := hid (movesOf_no (s := s) (r := r) (ms := ms) (ns := ns) (.inl HB1.out))
    go_wp2_with fail
    go_ret
    exact ⟨ret_int (by rw [← HV.out, HF.out]), G1⟩
  | true =>
    have e2 := sgv_is r B m d ns b2 _ B1 HB2.out
    have c0 := U1.cellAt 0 (v := .int .i64 r) rfl
    have c1 := U1.cellAt 1 (v := .slice B m d) rfl
    go_wp2_with fail
    refine e2.mono ?_
    rintro e w2 ⟨rfl, hg2⟩
    have A2 := A1.grown0 hg2
    have B2 := B1.grown0 hg2
    have E2 := E1.grown hg2 (by simp)
    have U2 := U1.grown hg2 (by simp)
    have G2 := gr_0 G1 hg2
    clear e2 A1 B1 E1 U1 G1 hg2 c0 c1
    have c0 := E2.cellAt 0 (v := .int .i64 s) rfl
    have c1 := E2.cellAt 1 (v := .slice A n c) rfl
    have d0 := U2.cellAt 0 (v := .int .i64 r) rfl
    have d1 := U2.cellAt 1 (v := .slice B m d) rfl
    cases b2 with
    | false =>
      have HF := hid (movesOf_no (s := s) (r := r) (ms := ms) (ns := ns) (.inr (.inl HB2.out)))
      go_wp2_with fail
      go_ret
      exact ⟨ret_int (by rw [← HV.out, HF.out]), G2⟩
    | true =>
      by_cases hsr : s = r
      · have q : (s != r) = false := by simp [hsr]
        obtain ⟨⟨hs1, hs8⟩, ⟨hn1, hn6⟩, _⟩ := grpB_iff.1 HB1.out
        obtain ⟨_, ⟨hm1, hm6⟩, _⟩ := grpB_iff.1 HB2.out
        have hn : 0 < n := by have := A2.len; omega
        have hm : 0 < m := by have := B2.len; omega
        have HF := hid (movesOf_yes HB1.out HB2.out hsr)
        have HA2 := hid A2
        have HU2 := hid B2
        have HE := hid E2
        have HU := hid U2
        clear hsr hn1 hn6 hm1 hm6 hub E2 U2 A2 B2
        go_wp2_with fail
        clear c0 c1 d0 d1
        go_loopw [5, 6] (fun nv i wr => ∃ k : Nat, nv = .int .i64 ((picks k (fun i => decide (ownr ms i ≠ ownr ns i))).length : Nat) ∧ i = .int .i64 k ∧ (k : Int) ≤ s ∧ SArg wr A n c ms ∧ SArg wr B m d ns ∧ Full wr w.heap.size 25 #[.int .i64 s, .slice A n c] ∧ Full wr ub 25 #[.int .i64 r, .slice B m d] ∧ w.grownBy wr none) (fun _ i _ => s.toNat - (intOf i).toNat)
        case atStart => exact ⟨0, rfl, rfl, by omega, HA2.out, HU2.out, HE.out, HU.out, G2⟩
        case round =>
          clear HA2 HU2 HE HU G2
          obtain ⟨k, rfl, rfl, hks, hA, hB, hE, hU, hG⟩ := hrel
          have hpl := picks_len k (fun i => decide (ownr ms i ≠ ownr ns i))
          have HPY := hid (fun h => picks_next_yes (k := k) (p := fun i => decide (ownr ms i ≠ ownr ns i)) h)
          have HPN := hid (fun h => picks_next_no (k := k) (p := fun i => decide (ownr ms i ≠ ownr ns i)) h)
          obtain ⟨q, hq⟩ : ∃ q, (picks k (fun i => decide (ownr ms i ≠ ownr ns i))).length = q := ⟨_, rfl⟩
          rw [hq] at hpl
          rw [hq]
          have HQ := hid hq
          clear hq
          have c0 := hE.cellAt 0 (v := .int .i64 s) rfl
          have c1 := hE.cellAt 1 (v := .slice A n c) rfl
          have d0 := hU.cellAt 0 (v := .int .i64 r) rfl
          have d1 := hU.cellAt 1 (v := .slice B m d) rfl
          rcases (by omega : (k : Int) < s ∨ (k : Int) = s) with hlt | hlt
          · have d2 : decide ((k : Int) < s) = true := by simpa using hlt
            have e3 := fun w h => l33_any s A n c ms k w h hn (by omega)
            have e4 := fun w h => l33_any r B m d ns k w h hm (by omega)
            obtain ⟨x, hx⟩ : ∃ x, ownr ms k = x := ⟨_, rfl⟩
            obtain ⟨y, hy⟩ : ∃ y, ownr ns k = y := ⟨_, rfl⟩
            obtain ⟨b, hb⟩ : ∃ b, (x.toList == y.toList) = b := ⟨_, rfl⟩
            have HB := hid (show decide (ownr ms k ≠ ownr ns k) = !b by rw [hx, hy, ← hb, beq_bytes]; simp)
            rw [hx] at e3
            rw [hy] at e4
            have k0 := fun q os => cell_regrown c0 q os
            have k1 := fun q os => cell_regrown c1 q os
            have k2 := fun q os => cell_regrown d0 q os
            have k3 := fun q os => cell_regrown d1 q os
            have hH := hid hA
            have hH2 := hid hB
            have HE := hid hE
            have HU := hid hU
            clear hx hy hA hB hE hU
            go_wp2_with fail
            refine wp_region_quiet_below (by kernel_rfl) (by kernel_rfl) ?_
            repeat (first | go_big_quiet_step (((first | (go_at_call_of 60 (Value.slice A n c); refine Calls.regrown_of (v := .string x) ((e3 _ (hH.out.grown0 (gr_of_below (below_regrown _ _ _) none))).mono ?_); (rintro e w' ⟨he, hg⟩; exact ⟨he, gr_below hg⟩)) | (go_at_call_of 60 (Value.slice B m d); refine Calls.regrown_of (v := .string y) ((e4 _ (hH2.out.grown0 (gr_of_below (below_regrown _ _ _) none))).mono ?_); (rintro e w' ⟨he, hg⟩; exact ⟨he, gr_below hg⟩))))) | quiet_step (((first | (go_at_call_of 60 (Value.slice A n c); refine Calls.regrown_of (v := .string x) ((e3 _ (hH.out.grown0 (gr_of_below (below_regrown _ _ _) none))).mono ?_); (rintro e w' ⟨he, hg⟩; exact ⟨he, gr_below hg⟩)) | (go_at_call_of 60 (Value.slice B m d); refine Calls.regrown_of (v := .string y) ((e4 _ (hH2.out.grown0 (gr_of_below (below_regrown _ _ _) none))).mono ?_); (rintro e w' ⟨he, hg⟩; exact ⟨he, gr_below hg⟩))))))
            refine wpQuiet_nil ?_
            intro _ hw'
            obtain ⟨⟨dq, osq⟩, hw''⟩ := hw'
            subst hw''
            have hgq := gr_of_below (below_regrown wr dq osq) none
            clear k0 k1 k2 k3 c0 c1 d0 d1
            cases b with
            | true =>
              go_wp2_with fail
              go_roundw
              case rel => exact ⟨k + 1, by rw [HPN.out (by rw [HB.out]; rfl), HQ.out], by go_num, by omega, hH.out.grown0 hgq, hH2.out.grown0 hgq, HE.out.grown hgq (by simp), HU.out.grown hgq (by simp), gr_0 hG hgq⟩
              case measure => simp [intOf]; omega
            | false =>
              go_wp2_with fail
              go_roundw
              case rel => exact ⟨k + 1, by rw [HPY.out (by rw [HB.out]; rfl), List.length_append, HQ.out]; go_num, by go_num, by omega, hH.out.grown0 hgq, hH2.out.grown0 hgq, HE.out.grown hgq (by simp), HU.out.grown hgq (by simp), gr_0 hG hgq⟩
              case measure => simp [intOf]; omega
          · have d2 : decide ((k : Int) < s) = false := by simp; omega
            have HK := hid (show s.toNat = k by omega)
            go_wp2_with fail
            go_ret
            exact ⟨ret_int (by rw [← HV.out, HF.out, HK.out, HQ.out]), hG⟩
      · have q : (s != r) = true := by simpa using hsr
        have HF := hid (movesOf_no (s := s) (r := r) (ms := ms) (ns := ns) (.inr (.inr hsr)))
        clear hsr
        go_wp2_with fail
        go_ret
        exact ⟨ret_int (by rw [← HV.out, HF.out]), G2⟩
end Go.Proofs.Ytmjficimnkbonaa
