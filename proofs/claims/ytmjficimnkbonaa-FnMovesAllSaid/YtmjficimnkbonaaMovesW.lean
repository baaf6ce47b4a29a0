/- Two drawn groups; the walk of FnMoves. -/
import Derived.Test.YtmjficimnkbonaaGrpDraw2
import Derived.Test.YtmjficimnkbonaaGrpMoves
import Derived.Test.YtmjficimnkbonaaFrame
namespace Go.Proofs.Ytmjficimnkbonaa
open Go.RowKit

theorem mems_sz' {ms : List ByteArray} (h : ∀ m ∈ ms, m.size ≤ 3) : ∀ m ∈ ms, m.size ≤ maxLen := fun m hm => by have := h m hm; simp only [maxLen]; omega

set_option maxHeartbeats 2000000 in
theorem dgm_any (A : Option Addr) (n c : Nat) (zs : List Int) (w : World) (h : Code w A n c zs) :
    Calls Try.prog 25 #[.slice A n c] w (G2Ends w) := by
  have P0 := (Full.new w 25 #[.int .i64 0, .slice none 0 0]).alloc (.cells #[.int .i64 0, .slice none 0 0] 25)
  have Q0 := Full.newAt (w := w.alloc (.cells #[.int .i64 0, .slice none 0 0] 25)) (t := 25) (cs := #[.int .i64 0, .slice none 0 0]) (H := w.heap.size + 1) (by simp)
  have G0 := gr_alloc (gr_alloc (gr_refl w none) (.cells #[.int .i64 0, .slice none 0 0] 25)) (.cells #[.int .i64 0, .slice none 0 0] 25)
  go_enter Try.func25, Try.ntmps25
  go_wp2_with fail
  refine (open_any A n c zs _ (h.grown G0)).mono ?_
  rintro e w1 ⟨g, rfl, hr1, hg1⟩
  have P1 := P0.grown hg1 (by simp)
  have Q1 := Q0.grown hg1 (by simp)
  have G1 := gr_0 G0 hg1
  have hB := hr1.ge
  simp at hB
  have hgl := hr1.lt
  have hs1 := G1.size
  clear hg1 P0 Q0 G0
  go_wp2_with fail
  refine (gr92_any _ g 90000 _ (hr1.less (by omega))).mono ?_
  rintro e w2 ⟨s, A2, n2, c2, ms, rfl, hO, hl, hn, hsm, h0, h9, hr2, hg2⟩
  have P2 := (P1.grown hg2 (by intro e; injection e with e; omega)).alloc (.cells #[.int .i64 s, .slice A2 n2 c2] 25)
  have Q2 := (Q1.grown hg2 (by intro e; injection e with e; omega)).alloc (.cells #[.int .i64 s, .slice A2 n2 c2] 25)
  have X2 := Full.new w2 25 #[.int .i64 s, .slice A2 n2 c2]
  have O2 := hO.alloc (.cells #[.int .i64 s, .slice A2 n2 c2] 25)
  have G2 := gr_alloc (gr_new G1 hg2 (by omega)) (.cells #[.int .i64 s, .slice A2 n2 c2] 25)
  have hq2 : w.heap.size + 1 < w2.heap.size := by have := Q1.lt; have := hg2.size; omega
  have hgl2 : g < w2.heap.size := hr2.lt
  have HL := hid hl
  have HS := hid (mems_sz' hsm)
  have HZ := hid hsm
  clear hl hsm hg2 P1 Q1 G1 hO
  go_wp2_with fail
  refine (gr92_any _ g 80000 _ ((hr2.alloc _).less (by omega))).mono ?_
  rintro e w3 ⟨r, A3, n3, c3, ns, rfl, hO, hl, hn3, hsm, h03, h93, hr3, hg3⟩
  have P3 := (P2.grown hg3 (by intro e; injection e with e; omega)).alloc (.cells #[.int .i64 r, .slice A3 n3 c3] 25)
  have Q3 := (Q2.grown hg3 (by intro e; injection e with e; omega)).alloc (.cells #[.int .i64 r, .slice A3 n3 c3] 25)
  have X3 := (X2.grown hg3 (by intro e; injection e with e; omega)).alloc (.cells #[.int .i64 r, .slice A3 n3 c3] 25)
  have Y3 := Full.new w3 25 #[.int .i64 r, .slice A3 n3 c3]
  have O3 := (O2.past hg3 hgl).alloc (.cells #[.int .i64 r, .slice A3 n3 c3] 25)
  have O33 := hO.alloc (.cells #[.int .i64 r, .slice A3 n3 c3] 25)
  have G3 := gr_alloc (gr_new G2 hg3 (by omega)) (.cells #[.int .i64 r, .slice A3 n3 c3] 25)
  have hq3 : w2.heap.size < w3.heap.size := by have := hg3.size; simp at this; omega
  have HL3 := hid hl
  have HS3 := hid (mems_sz' hsm)
  have HZ3 := hid hsm
  clear hl hsm hg3 P2 Q2 G2 hO X2 O2
  go_wp2_with fail
  refine (pick_any _ g 70000 5 _ ((hr3.alloc _).less (by omega)) (by omega) (by omega)).mono ?_
  rintro e w4 ⟨k4, rfl, hk41, hk42, R4, hg4⟩
  have hk43 := hk42 (by omega)
  clear hk42
  have P4 := P3.grown hg4 (by intro e; injection e with e; omega)
  have Q4 := Q3.grown hg4 (by intro e; injection e with e; omega)
  have X4 := X3.grown hg4 (by intro e; injection e with e; omega)
  have Y4 := Y3.grown hg4 (by intro e; injection e with e; omega)
  have O4 := O3.past hg4 hgl
  have O43 := O33.past hg4 (by simp; omega)
  have G4 := gr_new G3 hg4 (by omega)
  have n1 : w.heap.size ≠ w2.heap.size := by omega
  have n2' : w.heap.size ≠ w3.heap.size := by omega
  have n3' : w.heap.size + 1 ≠ w2.heap.size := by omega
  have n4 : w.heap.size + 1 ≠ w3.heap.size := by omega
  have n5 : w2.heap.size ≠ w3.heap.size := by omega
  have n1s := n1.symm
  have n2s := n2'.symm
  have n3s := n3'.symm
  have n4s := n4.symm
  have n5s := n5.symm
  clear hg4 P3 Q3 X3 Y3 O3 O33 G3 hr1 hr2 hr3
  rcases (by omega : k4 = 0 ∨ 1 ≤ k4) with q | q
  · subst q
    have AX := X4
    have BX := Y4
    have PX := P4
    have QX := Q4
    have OX := O4
    have O3X := O43
    have GX := G4
    clear X4 Y4 P4 Q4 O4 O43 G4
    have c0 := AX.cellAt 0 (v := .int .i64 s) rfl
    have c1 := AX.cellAt 1 (v := .slice A2 n2 c2) rfl
    have d0 := BX.cellAt 0 (v := .int .i64 r) rfl
    have d1 := BX.cellAt 1 (v := .slice A3 n3 c3) rfl
    have p0 := PX.cellAt 0 (v := .int .i64 0) rfl
    have p1 := PX.cellAt 1 (v := .slice none 0 0) rfl
    have p2 := PX.free 0
    have p3 := PX.free 1
    have q0 := QX.cellAt 0 (v := .int .i64 0) rfl
    have q1 := QX.cellAt 1 (v := .slice none 0 0) rfl
    have q2 := QX.free 0
    have q3 := QX.free 1
    go_wp2_with fail
    go_region_held3 (fun w' => w'.cell? ⟨w2.heap.size, 0, none⟩ = some (.int .i64 s) ∧ w'.cell? ⟨w2.heap.size, 1, none⟩ = some (.slice A2 n2 c2) ∧ w'.cell? ⟨w3.heap.size, 0, none⟩ = some (.int .i64 r) ∧ w'.cell? ⟨w3.heap.size, 1, none⟩ = some (.slice A3 n3 c3)) (go_keep) (fail)
    all_goals
      go_wp2_with fail
      refine bodyPost_ret (v := .tuple #[.agg #[.int .i64 s, .slice A2 n2 c2], .agg #[.int .i64 r, .slice A3 n3 c3]]) ?_ rfl ?_
      · simp [results, Try.results25, go_sem, p0, p1, q0, q1]
      · exact ⟨s, A2, n2, c2, ms, r, A3, n3, c3, ns, rfl, SArg.of_own (((((OX.drew.put PX.drew (by decide) 0 _).put (PX.drew.set 0 _) (by decide) 1 _)).put ((QX.drew.far (p := ⟨w.heap.size, 0, none⟩) (by simp) _).far (p := ⟨w.heap.size, 1, none⟩) (by simp) _) (by decide) 0 _).put (((QX.drew.far (p := ⟨w.heap.size, 0, none⟩) (by simp) _).far (p := ⟨w.heap.size, 1, none⟩) (by simp) _).set 0 _) (by decide) 1 _) HL.out HS.out,
          SArg.of_own (((((O3X.drew.put PX.drew (by decide) 0 _).put (PX.drew.set 0 _) (by decide) 1 _)).put ((QX.drew.far (p := ⟨w.heap.size, 0, none⟩) (by simp) _).far (p := ⟨w.heap.size, 1, none⟩) (by simp) _) (by decide) 0 _).put (((QX.drew.far (p := ⟨w.heap.size, 0, none⟩) (by simp) _).far (p := ⟨w.heap.size, 1, none⟩) (by simp) _).set 0 _) (by decide) 1 _) HL3.out HS3.out, hn, hn3, HZ.out, HZ3.out, by repeat (first | (with_reducible exact GX) | (with_reducible refine gr_drew ?_) | (with_reducible refine gr_put ?_ (by omega) _))⟩
  · have a0 := X4.cellAt 0 (v := .int .i64 s) rfl
    have b0 := Y4.cellAt 0 (v := .int .i64 r) rfl
    have b1 := Y4.free 0
    have AX := X4.far (p := ⟨w3.heap.size, 0, none⟩) (by simpa using n5) (.int .i64 s)
    have BX := Y4.set 0 (.int .i64 s)
    have PX := P4.far (p := ⟨w3.heap.size, 0, none⟩) (by simpa using n2') (.int .i64 s)
    have QX := Q4.far (p := ⟨w3.heap.size, 0, none⟩) (by simpa using n4) (.int .i64 s)
    have OX := O4.put Y4 (by decide) 0 (.int .i64 s)
    have O3X := O43.put Y4 (by decide) 0 (.int .i64 s)
    have GX := gr_put (i := 0) G4 (b := w3.heap.size) (by omega) (.int .i64 s)
    clear X4 Y4 P4 Q4 O4 O43 G4
    go_wp2_with fail
    clear a0 b0 b1
    have c0 := AX.cellAt 0 (v := .int .i64 s) rfl
    have c1 := AX.cellAt 1 (v := .slice A2 n2 c2) rfl
    have d0 := BX.cellAt 0 (v := .int .i64 s) rfl
    have d1 := BX.cellAt 1 (v := .slice A3 n3 c3) rfl
    have p0 := PX.cellAt 0 (v := .int .i64 0) rfl
    have p1 := PX.cellAt 1 (v := .slice none 0 0) rfl
    have p2 := PX.free 0
    have p3 := PX.free 1
    have q0 := QX.cellAt 0 (v := .int .i64 0) rfl
    have q1 := QX.cellAt 1 (v := .slice none 0 0) rfl
    have q2 := QX.free 0
    have q3 := QX.free 1
    go_wp2_with fail
    go_region_held3 (fun w' => w'.cell? ⟨w2.heap.size, 0, none⟩ = some (.int .i64 s) ∧ w'.cell? ⟨w2.heap.size, 1, none⟩ = some (.slice A2 n2 c2) ∧ w'.cell? ⟨w3.heap.size, 0, none⟩ = some (.int .i64 s) ∧ w'.cell? ⟨w3.heap.size, 1, none⟩ = some (.slice A3 n3 c3)) (go_keep) (fail)
    all_goals
      go_wp2_with fail
      refine bodyPost_ret (v := .tuple #[.agg #[.int .i64 s, .slice A2 n2 c2], .agg #[.int .i64 s, .slice A3 n3 c3]]) ?_ rfl ?_
      · simp [results, Try.results25, go_sem, p0, p1, q0, q1]
      · exact ⟨s, A2, n2, c2, ms, s, A3, n3, c3, ns, rfl, SArg.of_own (((((OX.drew.put PX.drew (by decide) 0 _).put (PX.drew.set 0 _) (by decide) 1 _)).put ((QX.drew.far (p := ⟨w.heap.size, 0, none⟩) (by simp) _).far (p := ⟨w.heap.size, 1, none⟩) (by simp) _) (by decide) 0 _).put (((QX.drew.far (p := ⟨w.heap.size, 0, none⟩) (by simp) _).far (p := ⟨w.heap.size, 1, none⟩) (by simp) _).set 0 _) (by decide) 1 _) HL.out HS.out,
          SArg.of_own (((((O3X.drew.put PX.drew (by decide) 0 _).put (PX.drew.set 0 _) (by decide) 1 _)).put ((QX.drew.far (p := ⟨w.heap.size, 0, none⟩) (by simp) _).far (p := ⟨w.heap.size, 1, none⟩) (by simp) _) (by decide) 0 _).put (((QX.drew.far (p := ⟨w.heap.size, 0, none⟩) (by simp) _).far (p := ⟨w.heap.size, 1, none⟩) (by simp) _).set 0 _) (by decide) 1 _) HL3.out HS3.out, hn, hn3, HZ.out, HZ3.out, by repeat (first | (with_reducible exact GX) | (with_reducible refine gr_drew ?_) | (with_reducible refine gr_put ?_ (by omega) _))⟩

theorem moves_comm (s r : Int) (ms ns : List ByteArray) : movesOf r ns s ms = movesOf s ms r ns := by
  by_cases h : grpB s ms = true ∧ grpB r ns = true ∧ s = r
  · obtain ⟨h1, h2, h3⟩ := h
    rw [movesOf_yes h1 h2 h3, movesOf_yes h2 h1 h3.symm, h3]
    congr 3
    funext i
    exact decide_eq_decide.2 ⟨fun h e => h e.symm, fun h e => h e.symm⟩
  · have h' : ¬ (grpB r ns = true ∧ grpB s ms = true ∧ r = s) := fun ⟨a, b, c⟩ => h ⟨b, a, c.symm⟩
    unfold movesOf
    rw [if_neg h, if_neg h']
theorem moves_self (s : Int) (ms : List ByteArray) : movesOf s ms s ms = if grpB s ms = true then 0 else -1 := by
  unfold movesOf
  split
  · rename_i h
    rw [if_pos h.1]
    simp [picks]
  · rename_i h
    rw [if_neg (fun e => h ⟨e, e, rfl⟩)]

set_option maxHeartbeats 2000000 in
theorem moves_walk (A : Option Addr) (n c : Nat) (zs : List Int) (w : World) (h : Code w A n c zs) :
    Calls Try.prog 6 #[.slice A n c] w fun e w' => e = .returned (.bool true) ∧ w.grownBy w' none := by
  have hc := h.cap
  have hm := h.max
  unfold maxLen at hm
  by_cases h1 : n > 1048576
  · go_enter Try.func6, Try.ntmps6
    go_wp2
    go_ret
    exact ⟨rfl, gr_refl _ _⟩
  go_enter Try.func6, Try.ntmps6
  go_wp2_with fail
  refine (dgm_any A n c zs _ h).mono ?_
  rintro e w1 ⟨s, P, N, C, ms, r, Q, M, D, ns, rfl, hP, hQ, hN, hM, _, _, hg1⟩
  obtain ⟨v, hv⟩ : ∃ v, movesOf s ms r ns = v := ⟨_, rfl⟩
  obtain ⟨b, hb⟩ : ∃ b, grpB s ms = b := ⟨_, rfl⟩
  have HV := hid hv
  have HV2 := hid ((moves_comm s r ms ns).trans hv)
  have HB := hid hb
  have HW := hid (show movesOf s ms s ms = if b = true then 0 else -1 by rw [moves_self, hb])
  obtain ⟨ub, hub⟩ : ∃ ub, w1.heap.size + 1 = ub := ⟨_, rfl⟩
  have hub1 : w1.heap.size ≠ ub := by omega
  have hub2 : ub ≠ w1.heap.size := by omega
  have X1 := (((((Full.new w1 25 #[.int .i64 0, .slice none 0 0]).alloc (.cells #[.int .i64 0, .slice none 0 0] 25)).set 0 (.int .i64 s)).set 1 (.slice P N C)).far (p := ⟨ub, 0, none⟩) (by simpa using hub1) (.int .i64 r)).far (p := ⟨ub, 1, none⟩) (by simpa using hub1) (.slice Q M D)
  have Y1 := ((((Full.newAt (w := w1.alloc (.cells #[.int .i64 0, .slice none 0 0] 25)) (t := 25) (cs := #[.int .i64 0, .slice none 0 0]) (H := ub) (by simp; omega)).far (p := ⟨w1.heap.size, 0, none⟩) (by simpa using hub2) (.int .i64 s)).far (p := ⟨w1.heap.size, 1, none⟩) (by simpa using hub2) (.slice P N C)).set 0 (.int .i64 r)).set 1 (.slice Q M D)
  have gW := gr_put (i := 1) (gr_put (i := 0) (gr_put (i := 1) (gr_put (i := 0) (gr_alloc (gr_alloc (gr_refl w1 none) (.cells #[.int .i64 0, .slice none 0 0] 25)) (.cells #[.int .i64 0, .slice none 0 0] 25)) (b := w1.heap.size) (Nat.le_refl _) (.int .i64 s)) (b := w1.heap.size) (Nat.le_refl _) (.slice P N C)) (b := ub) (by omega) (.int .i64 r)) (b := ub) (by omega) (.slice Q M D)
  have P1 := hP.grown0 gW
  have Q1 := hQ.grown0 gW
  have G1 := gr_0 hg1 gW
  have e1 := gmv_is s r P Q N C M D ms ns v _ P1 Q1 hv
  have c0 := X1.cellAt 0 (v := .int .i64 s) rfl
  have c1 := X1.cellAt 1 (v := .slice P N C) rfl
  have d0 := Y1.cellAt 0 (v := .int .i64 r) rfl
  have d1 := Y1.cellAt 1 (v := .slice Q M D) rfl
  clear hv hb hP hQ hg1 gW
  go_wp2_with fail
  refine e1.mono ?_
  rintro e w2 ⟨rfl, hg2⟩
  have X2 := X1.grown hg2 (by simp)
  have Y2 := Y1.grown hg2 (by simp)
  have P2 := P1.grown0 hg2
  have Q2 := Q1.grown0 hg2
  have G2 := gr_0 G1 hg2
  clear e1 X1 Y1 P1 Q1 G1 hg2 c0 c1 d0 d1
  have c0 := X2.cellAt 0 (v := .int .i64 s) rfl
  have c1 := X2.cellAt 1 (v := .slice P N C) rfl
  have d0 := Y2.cellAt 0 (v := .int .i64 r) rfl
  have d1 := Y2.cellAt 1 (v := .slice Q M D) rfl
  have e1 := sgmv_is s r P Q N C M D ms ns v _ P2 Q2 HV.out
  go_wp2_with fail
  refine e1.mono ?_
  rintro e w3 ⟨rfl, hg3⟩
  have X3 := X2.grown hg3 (by simp)
  have Y3 := Y2.grown hg3 (by simp)
  have P3 := P2.grown0 hg3
  have Q3 := Q2.grown0 hg3
  have G3 := gr_0 G2 hg3
  clear e1 X2 Y2 P2 Q2 G2 hg3 c0 c1 d0 d1
  have c0 := X3.cellAt 0 (v := .int .i64 s) rfl
  have c1 := X3.cellAt 1 (v := .slice P N C) rfl
  have d0 := Y3.cellAt 0 (v := .int .i64 r) rfl
  have d1 := Y3.cellAt 1 (v := .slice Q M D) rfl
  obtain ⟨u, hu⟩ : ∃ u : Int, (if b = true then (0 : Int) else -1) = u := ⟨_, rfl⟩
  have HU := hid hu
  have e1 := gmv_is s s P P N C N C ms ms u _ P3 P3 (HW.out.trans hu)
  have qv : (v != v) = false := by simp
  have qv2 : (v == v) = true := by simp
  clear hu
  go_wp2_with fail
  refine e1.mono ?_
  rintro e w4 ⟨rfl, hg4⟩
  have X4 := X3.grown hg4 (by simp)
  have Y4 := Y3.grown hg4 (by simp)
  have P4 := P3.grown0 hg4
  have Q4 := Q3.grown0 hg4
  have G4 := gr_0 G3 hg4
  clear e1 X3 Y3 P3 Q3 G3 hg4 c0 c1 d0 d1
  have c0 := X4.cellAt 0 (v := .int .i64 s) rfl
  have c1 := X4.cellAt 1 (v := .slice P N C) rfl
  have d0 := Y4.cellAt 0 (v := .int .i64 r) rfl
  have d1 := Y4.cellAt 1 (v := .slice Q M D) rfl
  have e1 := gmv_is r s Q P M D N C ns ms v _ Q4 P4 HV2.out
  go_wp2_with fail
  refine e1.mono ?_
  rintro e w5 ⟨rfl, hg5⟩
  have X5 := X4.grown hg5 (by simp)
  have Y5 := Y4.grown hg5 (by simp)
  have P5 := P4.grown0 hg5
  have Q5 := Q4.grown0 hg5
  have G5 := gr_0 G4 hg5
  clear e1 X4 Y4 P4 Q4 G4 hg5 c0 c1 d0 d1
  have c0 := X5.cellAt 0 (v := .int .i64 s) rfl
  have c1 := X5.cellAt 1 (v := .slice P N C) rfl
  have d0 := Y5.cellAt 0 (v := .int .i64 r) rfl
  have d1 := Y5.cellAt 1 (v := .slice Q M D) rfl
  have e1 := gv_is s P N C ms b _ P5 HB.out
  go_wp2_with fail
  refine e1.mono ?_
  rintro e w6 ⟨rfl, hg6⟩
  have G6 := gr_0 G5 hg6
  have HE := hid (show ((u == 0) == b) = true by rw [← HU.out]; cases b <;> rfl)
  go_wp2_with fail
  go_ret
  exact ⟨ret_bool (by first | exact HE.out | (simp [HE.out]) | (have := HE.out; simpa using this)), G6⟩
end Go.Proofs.Ytmjficimnkbonaa
