/- The walks of FnMark, FnMarkCount, FnMarkDone. -/
import Derived.Test.YtjhkmgoephmbpaaMarkS2
import Derived.Test.YtjhkmgoephmbpaaMarkDraw
namespace Go.Proofs.Ytjhkmgoephmbpaa
open Go.RowKit

set_option maxHeartbeats 2000000 in
theorem mark_walk (A : Option Addr) (n c : Nat) (zs : List Int) (w : World) (h : Code w A n c zs) :
    Calls Try.prog 8 #[.slice A n c] w fun e w' => e = .returned (.bool true) ∧ w.grownBy w' none := by
  have hc := h.cap
  have hm := h.max
  unfold maxLen at hm
  by_cases h1 : n > 1048576
  · go_enter Try.func8, Try.ntmps8
    go_wp2
    go_ret
    exact ⟨rfl, gr_refl _ _⟩
  go_enter Try.func8, Try.ntmps8
  go_wp2_with fail
  refine (dcm_any A n c zs _ h).mono ?_
  rintro e w1 ⟨d, B, N, C, xs, x, rfl, hO, hl, hsm, hx0, hx1, hg1⟩
  have hC := hO.cap
  have hCm := hO.max
  have hd0 := hsm.d0
  have hd1 := hsm.d1
  have hN := hsm.len
  rw [hl] at hN
  obtain ⟨d', hd'⟩ : ∃ y, (mkV d xs x).1 = y := ⟨_, rfl⟩
  obtain ⟨xs', hxs'⟩ : ∃ y, (mkV d xs x).2 = y := ⟨_, rfl⟩
  obtain ⟨b, hb⟩ : ∃ y, mkB d xs x = y := ⟨_, rfl⟩
  have e1 := fun w hL => mk_any d B N C xs x w hL hl hC hCm
  have e2 := fun w hL => smk_any d B N C xs x w hL hl hC hCm (by omega) (by omega)
  simp only [hd', hxs', hb] at e1 e2
  have HD := hid hd'
  have HX := hid hxs'
  have HB := hid hb
  have HL := hid hl
  have e9 := fun (y : Int) (w : World) hL => ch_any d B N C xs y w hL hl hC hCm
  have L1 := hO.lies.alloc (.cells #[.int .i64 d, .slice B N C] 25)
  have P1 := Full.new w1 25 #[.int .i64 d, .slice B N C]
  have G1 := gr_alloc hg1 (.cells #[.int .i64 d, .slice B N C] 25)
  clear hl hb hO hg1 hd' hxs'
  unfold maxLen at hCm
  go_wp2_with fail
  refine (e1 _ L1).mono ?_
  rintro e w2 ⟨A1, n1, c1, rfl, hA1, hn1, hcA1, hmA1, hg2, _⟩
  have L2 := L1.grown0 hg2
  have P2 := P1.grown hg2 (by simp)
  have G2 := gr_0 G1 hg2
  clear hg2
  have Q2' := Full.new w2 25 #[.int .i64 d', .slice A1 n1 c1]
  have L2b := L2.alloc (.cells #[.int .i64 d', .slice A1 n1 c1] 25)
  have P2b := P2.alloc (.cells #[.int .i64 d', .slice A1 n1 c1] 25)
  have LA2b := hA1.alloc (.cells #[.int .i64 d', .slice A1 n1 c1] 25)
  have G2b := gr_alloc G2 (.cells #[.int .i64 d', .slice A1 n1 c1] 25)
  have pc0 := P2b.cellAt 0 rfl
  have pc1 := P2b.cellAt 1 rfl
  go_wp2_with fail
  refine (e2 _ L2b).mono ?_
  rintro e w3 ⟨A2, n2, c2, rfl, hA2, hn2, hcA2, hmA2, hg3, _⟩
  have L3 := L2b.grown0 hg3
  have P3 := P2b.grown hg3 (by simp)
  have G3 := gr_0 G2b hg3
  have LA3 := LA2b.grown0 hg3
  have Q3 := Q2'.grown hg3 (by simp)
  clear hg3
  have S3' := Full.new w3 25 #[.int .i64 d', .slice A2 n2 c2]
  have L3b := L3.alloc (.cells #[.int .i64 d', .slice A2 n2 c2] 25)
  have P3b := P3.alloc (.cells #[.int .i64 d', .slice A2 n2 c2] 25)
  have Q3b := Q3.alloc (.cells #[.int .i64 d', .slice A2 n2 c2] 25)
  have LA3b := LA3.alloc (.cells #[.int .i64 d', .slice A2 n2 c2] 25)
  have LB3b := hA2.alloc (.cells #[.int .i64 d', .slice A2 n2 c2] 25)
  have G3b := gr_alloc G3 (.cells #[.int .i64 d', .slice A2 n2 c2] 25)
  have e3 := fun w hA hB => sc_is d' d' A1 A2 n1 n2 c1 c2 xs' xs' true w hA hB hn1 hn2 hcA1 hmA1 hcA2 hmA2 (by simp)
  have HN1 := hid hn1
  clear hn2 e1 e2
  have pc0 := P3b.cellAt 0 rfl
  have pc1 := P3b.cellAt 1 rfl
  have qc0 := Q3b.cellAt 0 rfl
  have qc1 := Q3b.cellAt 1 rfl
  have sc0 := S3'.cellAt 0 rfl
  have sc1 := S3'.cellAt 1 rfl
  cases b with
  | false =>
    clear hn1
    go_wp2_with fail
    refine (e3 _ LA3b LB3b).mono ?_
    rintro e w4 ⟨rfl, hg4⟩
    have L4 := L3b.grown0 hg4
    have P4 := P3b.grown hg4 (by simp)
    have G4 := gr_0 G3b hg4
    have LA4 := LA3b.grown0 hg4
    have Q4 := Q3b.grown hg4 (by simp)
    have LB4 := LB3b.grown0 hg4
    have S4 := S3'.grown hg4 (by simp)
    clear hg4
    have qc0 := Q4.cellAt 0 rfl
    have qc1 := Q4.cellAt 1 rfl
    have sc0 := S4.cellAt 0 rfl
    have sc1 := S4.cellAt 1 rfl
    go_wp2_with fail
    refine (e3 _ LA4 LB4).mono ?_
    rintro e w5 ⟨rfl, hg5⟩
    have L5 := L4.grown0 hg5
    have P5 := P4.grown hg5 (by simp)
    have G5 := gr_0 G4 hg5
    have LA5 := LA4.grown0 hg5
    have Q5 := Q4.grown hg5 (by simp)
    have LB5 := LB4.grown0 hg5
    have S5 := S4.grown hg5 (by simp)
    clear hg5
    go_wp2_with fail
    go_ret
    exact ⟨rfl, G5⟩
  | true =>
    obtain ⟨p1, p2, p3, p4⟩ := mkB_parts HB.out
    have HM := mark_to p1 p2 p3
    have hvv := mkV_yes HB.out
    rw [← hvv, HD.out, HX.out] at HM
    have q4 := p4
    rw [← hvv, HX.out] at q4
    clear hvv p4
    have hck : ckB d' xs' = true := by rw [HM.ck]; exact decide_eq_true q4
    have hhas : hasB d' xs' x = true := hasB_iff.2 ((HM.has x).2 (.inl rfl))
    have hq8 : xs'.length ≤ 8 := q4
    rw [HN1.out] at hq8
    have hd5 := HM.d0
    have hd6 := HM.d1
    have P1' := hid p1
    have P2' := hid p2
    have P3' := hid p3
    have HM' := hid HM
    clear p1 p2 p3 q4 HM
    have e4 := fun w hL => mk_any d' A1 n1 c1 xs' x w hL hn1 hcA1 hmA1
    have hno : mkB d' xs' x = false := mkB_has hhas
    simp only [hno, mkV_no hno] at e4
    have e5 := fun w hL => ckv_is d' A1 n1 c1 xs' true w hL hn1 hcA1 hmA1 hck
    have e6 := fun w hL => ch_any d' A1 n1 c1 xs' x w hL hn1 hcA1 hmA1
    have hch : chB d' xs' x = true := by rw [chB_has hck P2'.out]; exact hhas
    simp only [hch] at e6
    clear hno hch hck hhas hn1
    go_wp2_with fail
    refine (e3 _ LA3b LB3b).mono ?_
    rintro e w4 ⟨rfl, hg4⟩
    have L4 := L3b.grown0 hg4
    have P4 := P3b.grown hg4 (by simp)
    have G4 := gr_0 G3b hg4
    have LA4 := LA3b.grown0 hg4
    have Q4 := Q3b.grown hg4 (by simp)
    have LB4 := LB3b.grown0 hg4
    have S4 := S3'.grown hg4 (by simp)
    clear hg4
    have pc0 := P4.cellAt 0 rfl
    have pc1 := P4.cellAt 1 rfl
    have qc0 := Q4.cellAt 0 rfl
    have qc1 := Q4.cellAt 1 rfl
    have sc0 := S4.cellAt 0 rfl
    have sc1 := S4.cellAt 1 rfl
    clear e3
    go_wp2_with fail
    refine (e4 _ LA4).mono ?_
    rintro e w5 ⟨A3, n3, c3, rfl, _, _, _, _, hg5, _⟩
    have L5 := L4.grown0 hg5
    have P5 := P4.grown hg5 (by simp)
    have G5 := gr_0 G4 hg5
    have LA5 := LA4.grown0 hg5
    have Q5 := Q4.grown hg5 (by simp)
    have LB5 := LB4.grown0 hg5
    have S5 := S4.grown hg5 (by simp)
    clear hg5
    have Q5b := Q5.alloc (.cells #[.int .i64 0, .slice A3 n3 c3] 25)
    have LA5b := LA5.alloc (.cells #[.int .i64 0, .slice A3 n3 c3] 25)
    have G5b := gr_alloc G5 (.cells #[.int .i64 0, .slice A3 n3 c3] 25)
    have qc0 := Q5b.cellAt 0 rfl
    have qc1 := Q5b.cellAt 1 rfl
    go_wp2_with fail
    refine (e5 _ LA5b).mono ?_
    rintro e w6 ⟨rfl, hg6⟩
    have G6 := gr_0 G5b hg6
    have LA6 := LA5b.grown0 hg6
    have Q6 := Q5b.grown hg6 (by simp)
    clear hg6
    have qc0 := Q6.cellAt 0 rfl
    have qc1 := Q6.cellAt 1 rfl
    go_wp2_with fail
    refine (e6 _ LA6).mono ?_
    rintro e w7 ⟨rfl, hg7⟩
    have G7 := gr_0 G6 hg7
    have LA7 := LA6.grown0 hg7
    have Q7 := Q6.grown hg7 (by simp)
    clear hg7
    go_wp2_with fail
    go_ret
    exact ⟨rfl, G7⟩

set_option maxHeartbeats 2000000 in
theorem markCount_walk (A : Option Addr) (n c : Nat) (zs : List Int) (w : World) (h : Code w A n c zs) :
    Calls Try.prog 9 #[.slice A n c] w fun e w' => e = .returned (.bool true) ∧ w.grownBy w' none := by
  have hc := h.cap
  have hm := h.max
  unfold maxLen at hm
  by_cases h1 : n > 1048576
  · go_enter Try.func9, Try.ntmps9
    go_wp2
    go_ret
    exact ⟨rfl, gr_refl _ _⟩
  go_enter Try.func9, Try.ntmps9
  go_wp2_with fail
  refine (dcm_any A n c zs _ h).mono ?_
  rintro e w1 ⟨d, B, N, C, xs, x, rfl, hO, hl, hsm, hx0, hx1, hg1⟩
  have hC := hO.cap
  have hCm := hO.max
  have hd0 := hsm.d0
  have hd1 := hsm.d1
  have hN := hsm.len
  rw [hl] at hN
  obtain ⟨d', hd'⟩ : ∃ y, (mkV d xs x).1 = y := ⟨_, rfl⟩
  obtain ⟨xs', hxs'⟩ : ∃ y, (mkV d xs x).2 = y := ⟨_, rfl⟩
  obtain ⟨b, hb⟩ : ∃ y, mkB d xs x = y := ⟨_, rfl⟩
  have e1 := fun w hL => mk_any d B N C xs x w hL hl hC hCm
  have e2 := fun w hL => smk_any d B N C xs x w hL hl hC hCm (by omega) (by omega)
  simp only [hd', hxs', hb] at e1 e2
  have HD := hid hd'
  have HX := hid hxs'
  have HB := hid hb
  have HL := hid hl
  have e9 := fun (y : Int) (w : World) hL => ch_any d B N C xs y w hL hl hC hCm
  have L1 := hO.lies.alloc (.cells #[.int .i64 d, .slice B N C] 25)
  have P1 := Full.new w1 25 #[.int .i64 d, .slice B N C]
  have G1 := gr_alloc hg1 (.cells #[.int .i64 d, .slice B N C] 25)
  clear hl hb hO hg1 hd' hxs'
  unfold maxLen at hCm
  go_wp2_with fail
  refine (e1 _ L1).mono ?_
  rintro e w2 ⟨A1, n1, c1, rfl, hA1, hn1, hcA1, hmA1, hg2, _⟩
  have L2 := L1.grown0 hg2
  have P2 := P1.grown hg2 (by simp)
  have G2 := gr_0 G1 hg2
  clear hg2
  have Q2' := Full.new w2 25 #[.int .i64 d', .slice A1 n1 c1]
  have L2b := L2.alloc (.cells #[.int .i64 d', .slice A1 n1 c1] 25)
  have P2b := P2.alloc (.cells #[.int .i64 d', .slice A1 n1 c1] 25)
  have LA2b := hA1.alloc (.cells #[.int .i64 d', .slice A1 n1 c1] 25)
  have G2b := gr_alloc G2 (.cells #[.int .i64 d', .slice A1 n1 c1] 25)
  have pc0 := P2b.cellAt 0 rfl
  have pc1 := P2b.cellAt 1 rfl
  go_wp2_with fail
  refine (e2 _ L2b).mono ?_
  rintro e w3 ⟨A2, n2, c2, rfl, hA2, hn2, hcA2, hmA2, hg3, _⟩
  have L3 := L2b.grown0 hg3
  have P3 := P2b.grown hg3 (by simp)
  have G3 := gr_0 G2b hg3
  have LA3 := LA2b.grown0 hg3
  have Q3 := Q2'.grown hg3 (by simp)
  clear hg3
  have S3' := Full.new w3 25 #[.int .i64 d', .slice A2 n2 c2]
  have L3b := L3.alloc (.cells #[.int .i64 d', .slice A2 n2 c2] 25)
  have P3b := P3.alloc (.cells #[.int .i64 d', .slice A2 n2 c2] 25)
  have Q3b := Q3.alloc (.cells #[.int .i64 d', .slice A2 n2 c2] 25)
  have LA3b := LA3.alloc (.cells #[.int .i64 d', .slice A2 n2 c2] 25)
  have LB3b := hA2.alloc (.cells #[.int .i64 d', .slice A2 n2 c2] 25)
  have G3b := gr_alloc G3 (.cells #[.int .i64 d', .slice A2 n2 c2] 25)
  have e3 := fun w hA hB => sc_is d' d' A1 A2 n1 n2 c1 c2 xs' xs' true w hA hB hn1 hn2 hcA1 hmA1 hcA2 hmA2 (by simp)
  have HN1 := hid hn1
  clear hn2 e1 e2
  have pc0 := P3b.cellAt 0 rfl
  have pc1 := P3b.cellAt 1 rfl
  have qc0 := Q3b.cellAt 0 rfl
  have qc1 := Q3b.cellAt 1 rfl
  have sc0 := S3'.cellAt 0 rfl
  have sc1 := S3'.cellAt 1 rfl
  cases b with
  | false =>
    clear hn1
    go_wp2_with fail
    refine (e3 _ LA3b LB3b).mono ?_
    rintro e w4 ⟨rfl, hg4⟩
    have L4 := L3b.grown0 hg4
    have P4 := P3b.grown hg4 (by simp)
    have G4 := gr_0 G3b hg4
    have LA4 := LA3b.grown0 hg4
    have Q4 := Q3b.grown hg4 (by simp)
    have LB4 := LB3b.grown0 hg4
    have S4 := S3'.grown hg4 (by simp)
    clear hg4
    have qc0 := Q4.cellAt 0 rfl
    have qc1 := Q4.cellAt 1 rfl
    have sc0 := S4.cellAt 0 rfl
    have sc1 := S4.cellAt 1 rfl
    go_wp2_with fail
    refine (e3 _ LA4 LB4).mono ?_
    rintro e w5 ⟨rfl, hg5⟩
    have L5 := L4.grown0 hg5
    have P5 := P4.grown hg5 (by simp)
    have G5 := gr_0 G4 hg5
    have LA5 := LA4.grown0 hg5
    have Q5 := Q4.grown hg5 (by simp)
    have LB5 := LB4.grown0 hg5
    have S5 := S4.grown hg5 (by simp)
    clear hg5
    go_wp2_with fail
    go_ret
    exact ⟨rfl, G5⟩
  | true =>
    obtain ⟨p1, p2, p3, p4⟩ := mkB_parts HB.out
    have HM := mark_to p1 p2 p3
    have hvv := mkV_yes HB.out
    rw [← hvv, HD.out, HX.out] at HM
    have q4 := p4
    rw [← hvv, HX.out] at q4
    clear hvv p4
    have hck : ckB d' xs' = true := by rw [HM.ck]; exact decide_eq_true q4
    have hhas : hasB d' xs' x = true := hasB_iff.2 ((HM.has x).2 (.inl rfl))
    have hq8 : xs'.length ≤ 8 := q4
    rw [HN1.out] at hq8
    have hd5 := HM.d0
    have hd6 := HM.d1
    have P1' := hid p1
    have P2' := hid p2
    have P3' := hid p3
    have HM' := hid HM
    clear p1 p2 p3 q4 HM
    have hsum := HM'.out.sum
    rw [hn1, HL.out] at hsum
    have hsum' : (d' + (n1 : Int) == d + (N : Int) + 1) = true := by simpa using hsum
    clear hck hhas hn1 hsum
    go_wp2_with fail
    refine (e3 _ LA3b LB3b).mono ?_
    rintro e w4 ⟨rfl, hg4⟩
    have L4 := L3b.grown0 hg4
    have P4 := P3b.grown hg4 (by simp)
    have G4 := gr_0 G3b hg4
    have LA4 := LA3b.grown0 hg4
    have Q4 := Q3b.grown hg4 (by simp)
    have LB4 := LB3b.grown0 hg4
    have S4 := S3'.grown hg4 (by simp)
    clear hg4
    have pc0 := P4.cellAt 0 rfl
    have pc1 := P4.cellAt 1 rfl
    have qc0 := Q4.cellAt 0 rfl
    have qc1 := Q4.cellAt 1 rfl
    have sc0 := S4.cellAt 0 rfl
    have sc1 := S4.cellAt 1 rfl
    clear e3
    go_wp2_with fail
    go_ret
    exact ⟨rfl, G4⟩

set_option maxHeartbeats 2000000 in
theorem markDone_walk (A : Option Addr) (n c : Nat) (zs : List Int) (w : World) (h : Code w A n c zs) :
    Calls Try.prog 10 #[.slice A n c] w fun e w' => e = .returned (.bool true) ∧ w.grownBy w' none := by
  have hc := h.cap
  have hm := h.max
  unfold maxLen at hm
  by_cases h1 : n > 1048576
  · go_enter Try.func10, Try.ntmps10
    go_wp2
    go_ret
    exact ⟨rfl, gr_refl _ _⟩
  go_enter Try.func10, Try.ntmps10
  go_wp2_with fail
  refine (dcm_any A n c zs _ h).mono ?_
  rintro e w1 ⟨d, B, N, C, xs, x, rfl, hO, hl, hsm, hx0, hx1, hg1⟩
  have hC := hO.cap
  have hCm := hO.max
  have hd0 := hsm.d0
  have hd1 := hsm.d1
  have hN := hsm.len
  rw [hl] at hN
  obtain ⟨d', hd'⟩ : ∃ y, (mkV d xs x).1 = y := ⟨_, rfl⟩
  obtain ⟨xs', hxs'⟩ : ∃ y, (mkV d xs x).2 = y := ⟨_, rfl⟩
  obtain ⟨b, hb⟩ : ∃ y, mkB d xs x = y := ⟨_, rfl⟩
  have e1 := fun w hL => mk_any d B N C xs x w hL hl hC hCm
  have e2 := fun w hL => smk_any d B N C xs x w hL hl hC hCm (by omega) (by omega)
  simp only [hd', hxs', hb] at e1 e2
  have HD := hid hd'
  have HX := hid hxs'
  have HB := hid hb
  have HL := hid hl
  have e9 := fun (y : Int) (w : World) hL => ch_any d B N C xs y w hL hl hC hCm
  have L1 := hO.lies.alloc (.cells #[.int .i64 d, .slice B N C] 25)
  have P1 := Full.new w1 25 #[.int .i64 d, .slice B N C]
  have G1 := gr_alloc hg1 (.cells #[.int .i64 d, .slice B N C] 25)
  clear hl hb hO hg1 hd' hxs'
  unfold maxLen at hCm
  go_wp2_with fail
  refine (e1 _ L1).mono ?_
  rintro e w2 ⟨A1, n1, c1, rfl, hA1, hn1, hcA1, hmA1, hg2, _⟩
  have L2 := L1.grown0 hg2
  have P2 := P1.grown hg2 (by simp)
  have G2 := gr_0 G1 hg2
  clear hg2
  have Q2' := Full.new w2 25 #[.int .i64 d', .slice A1 n1 c1]
  have L2b := L2.alloc (.cells #[.int .i64 d', .slice A1 n1 c1] 25)
  have P2b := P2.alloc (.cells #[.int .i64 d', .slice A1 n1 c1] 25)
  have LA2b := hA1.alloc (.cells #[.int .i64 d', .slice A1 n1 c1] 25)
  have G2b := gr_alloc G2 (.cells #[.int .i64 d', .slice A1 n1 c1] 25)
  have pc0 := P2b.cellAt 0 rfl
  have pc1 := P2b.cellAt 1 rfl
  go_wp2_with fail
  refine (e2 _ L2b).mono ?_
  rintro e w3 ⟨A2, n2, c2, rfl, hA2, hn2, hcA2, hmA2, hg3, _⟩
  have L3 := L2b.grown0 hg3
  have P3 := P2b.grown hg3 (by simp)
  have G3 := gr_0 G2b hg3
  have LA3 := LA2b.grown0 hg3
  have Q3 := Q2'.grown hg3 (by simp)
  clear hg3
  have S3' := Full.new w3 25 #[.int .i64 d', .slice A2 n2 c2]
  have L3b := L3.alloc (.cells #[.int .i64 d', .slice A2 n2 c2] 25)
  have P3b := P3.alloc (.cells #[.int .i64 d', .slice A2 n2 c2] 25)
  have Q3b := Q3.alloc (.cells #[.int .i64 d', .slice A2 n2 c2] 25)
  have LA3b := LA3.alloc (.cells #[.int .i64 d', .slice A2 n2 c2] 25)
  have LB3b := hA2.alloc (.cells #[.int .i64 d', .slice A2 n2 c2] 25)
  have G3b := gr_alloc G3 (.cells #[.int .i64 d', .slice A2 n2 c2] 25)
  have e3 := fun w hA hB => sc_is d' d' A1 A2 n1 n2 c1 c2 xs' xs' true w hA hB hn1 hn2 hcA1 hmA1 hcA2 hmA2 (by simp)
  have HN1 := hid hn1
  clear hn2 e1 e2
  have pc0 := P3b.cellAt 0 rfl
  have pc1 := P3b.cellAt 1 rfl
  have qc0 := Q3b.cellAt 0 rfl
  have qc1 := Q3b.cellAt 1 rfl
  have sc0 := S3'.cellAt 0 rfl
  have sc1 := S3'.cellAt 1 rfl
  cases b with
  | false =>
    clear hn1
    go_wp2_with fail
    refine (e3 _ LA3b LB3b).mono ?_
    rintro e w4 ⟨rfl, hg4⟩
    have L4 := L3b.grown0 hg4
    have P4 := P3b.grown hg4 (by simp)
    have G4 := gr_0 G3b hg4
    have LA4 := LA3b.grown0 hg4
    have Q4 := Q3b.grown hg4 (by simp)
    have LB4 := LB3b.grown0 hg4
    have S4 := S3'.grown hg4 (by simp)
    clear hg4
    have qc0 := Q4.cellAt 0 rfl
    have qc1 := Q4.cellAt 1 rfl
    have sc0 := S4.cellAt 0 rfl
    have sc1 := S4.cellAt 1 rfl
    go_wp2_with fail
    refine (e3 _ LA4 LB4).mono ?_
    rintro e w5 ⟨rfl, hg5⟩
    have L5 := L4.grown0 hg5
    have P5 := P4.grown hg5 (by simp)
    have G5 := gr_0 G4 hg5
    have LA5 := LA4.grown0 hg5
    have Q5 := Q4.grown hg5 (by simp)
    have LB5 := LB4.grown0 hg5
    have S5 := S4.grown hg5 (by simp)
    clear hg5
    go_wp2_with fail
    go_ret
    exact ⟨rfl, G5⟩
  | true =>
    obtain ⟨p1, p2, p3, p4⟩ := mkB_parts HB.out
    have HM := mark_to p1 p2 p3
    have hvv := mkV_yes HB.out
    rw [← hvv, HD.out, HX.out] at HM
    have q4 := p4
    rw [← hvv, HX.out] at q4
    clear hvv p4
    have hck : ckB d' xs' = true := by rw [HM.ck]; exact decide_eq_true q4
    have hhas : hasB d' xs' x = true := hasB_iff.2 ((HM.has x).2 (.inl rfl))
    have hq8 : xs'.length ≤ 8 := q4
    rw [HN1.out] at hq8
    have hd5 := HM.d0
    have hd6 := HM.d1
    have P1' := hid p1
    have P2' := hid p2
    have P3' := hid p3
    have HM' := hid HM
    clear p1 p2 p3 q4 HM
    have hge := HM'.out.ge
    have hgt := HM'.out.gt
    clear hck hhas hn1
    rcases (by omega : (d < d' ∧ x = d) ∨ (d' ≤ d ∧ x ≠ d)) with ⟨g1, g2⟩ | ⟨g1, g2⟩
    · clear hgt
      have g3 : (x == d) = true := by simp [g2]
      clear g2
      go_wp2_with fail
      refine (e3 _ LA3b LB3b).mono ?_
      rintro e w4 ⟨rfl, hg4⟩
      have L4 := L3b.grown0 hg4
      have P4 := P3b.grown hg4 (by simp)
      have G4 := gr_0 G3b hg4
      have LA4 := LA3b.grown0 hg4
      have Q4 := Q3b.grown hg4 (by simp)
      have LB4 := LB3b.grown0 hg4
      have S4 := S3'.grown hg4 (by simp)
      clear hg4
      have pc0 := P4.cellAt 0 rfl
      have pc1 := P4.cellAt 1 rfl
      have qc0 := Q4.cellAt 0 rfl
      have qc1 := Q4.cellAt 1 rfl
      have sc0 := S4.cellAt 0 rfl
      have sc1 := S4.cellAt 1 rfl
      clear e3
      go_wp2_with fail
      go_ret
      first | exact ⟨rfl, G4⟩ | exact ⟨ret_bool (by simp; omega), G4⟩
    · clear hgt
      have g3 : (x == d) = false := by simp [g2]
      clear g2
      go_wp2_with fail
      refine (e3 _ LA3b LB3b).mono ?_
      rintro e w4 ⟨rfl, hg4⟩
      have L4 := L3b.grown0 hg4
      have P4 := P3b.grown hg4 (by simp)
      have G4 := gr_0 G3b hg4
      have LA4 := LA3b.grown0 hg4
      have Q4 := Q3b.grown hg4 (by simp)
      have LB4 := LB3b.grown0 hg4
      have S4 := S3'.grown hg4 (by simp)
      clear hg4
      have pc0 := P4.cellAt 0 rfl
      have pc1 := P4.cellAt 1 rfl
      have qc0 := Q4.cellAt 0 rfl
      have qc1 := Q4.cellAt 1 rfl
      have sc0 := S4.cellAt 0 rfl
      have sc1 := S4.cellAt 1 rfl
      clear e3
      go_wp2_with fail
      go_ret
      first | exact ⟨rfl, G4⟩ | exact ⟨ret_bool (by simp; omega), G4⟩

end Go.Proofs.Ytjhkmgoephmbpaa
