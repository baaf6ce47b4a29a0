/- The walk of FnMarkOthers. -/
import Derived.Test.YtjhkmgoephmbpaaMarkFn
import Derived.Deep.RegionHeld3
namespace Go.Proofs.Ytjhkmgoephmbpaa
open Go.RowKit

set_option maxHeartbeats 2000000 in
theorem markOthers_walk (A : Option Addr) (n c : Nat) (zs : List Int) (Am : Option Addr) (nm cm : Nat) (zsm : List Int) (w : World) (h : Code w A n c zs) (h2 : Code w Am nm cm zsm) :
    Calls Try.prog 11 #[.slice A n c, .slice Am nm cm] w fun e w' => e = .returned (.bool true) ∧ w.grownBy w' none := by
  have hc := h.cap
  have hm := h.max
  have hc2 := h2.cap
  have hm2 := h2.max
  unfold maxLen at hm hm2
  by_cases h1 : n > 1048576
  · go_enter Try.func11, Try.ntmps11
    go_wp2
    go_ret
    exact ⟨rfl, gr_refl _ _⟩
  by_cases h3 : nm > 1048576
  · go_enter Try.func11, Try.ntmps11
    go_wp2
    go_ret
    exact ⟨rfl, gr_refl _ _⟩
  go_enter Try.func11, Try.ntmps11
  go_wp2_with fail
  refine (dcm_any A n c zs _ h).mono ?_
  rintro e w1 ⟨d, B, N, C, xs, x, rfl, hO, hl, hsm, hx0, hx1, hg1⟩
  have hC := hO.cap
  have hCm := hO.max
  have hd0 := hsm.d0
  have hd1 := hsm.d1
  have hN := hsm.len
  rw [hl] at hN
  obtain ⟨d', hd'⟩ : ∃ y, (mkV d xs x).1 = y := ⟨_, rfl⟩
  obtain ⟨xs', hxs'⟩ : ∃ y, (mkV d xs x).2 = y := ⟨_, rfl⟩
  obtain ⟨b, hb⟩ : ∃ y, mkB d xs x = y := ⟨_, rfl⟩
  have e1 := fun w hL => mk_any d B N C xs x w hL hl hC hCm
  have e2 := fun w hL => smk_any d B N C xs x w hL hl hC hCm (by omega) (by omega)
  simp only [hd', hxs', hb] at e1 e2
  have HD := hid hd'
  have HX := hid hxs'
  have HB := hid hb
  have HL := hid hl
  have e9 := fun (y : Int) (w : World) hL => ch_any d B N C xs y w hL hl hC hCm
  have L1 := hO.lies.alloc (.cells #[.int .i64 d, .slice B N C] 25)
  have P1 := Full.new w1 25 #[.int .i64 d, .slice B N C]
  have G1 := gr_alloc hg1 (.cells #[.int .i64 d, .slice B N C] 25)
  clear hl hb hO hg1 hd' hxs'
  unfold maxLen at hCm
  go_wp2_with fail
  refine (e1 _ L1).mono ?_
  rintro e w2 ⟨A1, n1, c1, rfl, hA1, hn1, hcA1, hmA1, hg2, _⟩
  have L2 := L1.grown0 hg2
  have P2 := P1.grown hg2 (by simp)
  have G2 := gr_0 G1 hg2
  clear hg2
  have Q2' := Full.new w2 25 #[.int .i64 d', .slice A1 n1 c1]
  have L2b := L2.alloc (.cells #[.int .i64 d', .slice A1 n1 c1] 25)
  have P2b := P2.alloc (.cells #[.int .i64 d', .slice A1 n1 c1] 25)
  have LA2b := hA1.alloc (.cells #[.int .i64 d', .slice A1 n1 c1] 25)
  have G2b := gr_alloc G2 (.cells #[.int .i64 d', .slice A1 n1 c1] 25)
  have pc0 := P2b.cellAt 0 rfl
  have pc1 := P2b.cellAt 1 rfl
  go_wp2_with fail
  refine (e2 _ L2b).mono ?_
  rintro e w3 ⟨A2, n2, c2, rfl, hA2, hn2, hcA2, hmA2, hg3, _⟩
  have L3 := L2b.grown0 hg3
  have P3 := P2b.grown hg3 (by simp)
  have G3 := gr_0 G2b hg3
  have LA3 := LA2b.grown0 hg3
  have Q3 := Q2'.grown hg3 (by simp)
  clear hg3
  have S3' := Full.new w3 25 #[.int .i64 d', .slice A2 n2 c2]
  have L3b := L3.alloc (.cells #[.int .i64 d', .slice A2 n2 c2] 25)
  have P3b := P3.alloc (.cells #[.int .i64 d', .slice A2 n2 c2] 25)
  have Q3b := Q3.alloc (.cells #[.int .i64 d', .slice A2 n2 c2] 25)
  have LA3b := LA3.alloc (.cells #[.int .i64 d', .slice A2 n2 c2] 25)
  have LB3b := hA2.alloc (.cells #[.int .i64 d', .slice A2 n2 c2] 25)
  have G3b := gr_alloc G3 (.cells #[.int .i64 d', .slice A2 n2 c2] 25)
  have e3 := fun w hA hB => sc_is d' d' A1 A2 n1 n2 c1 c2 xs' xs' true w hA hB hn1 hn2 hcA1 hmA1 hcA2 hmA2 (by simp)
  have HN1 := hid hn1
  clear hn2 e1 e2
  have pc0 := P3b.cellAt 0 rfl
  have pc1 := P3b.cellAt 1 rfl
  have qc0 := Q3b.cellAt 0 rfl
  have qc1 := Q3b.cellAt 1 rfl
  have sc0 := S3'.cellAt 0 rfl
  have sc1 := S3'.cellAt 1 rfl
  cases b with
  | false =>
    clear hn1
    go_wp2_with fail
    refine (e3 _ LA3b LB3b).mono ?_
    rintro e w4 ⟨rfl, hg4⟩
    have L4 := L3b.grown0 hg4
    have P4 := P3b.grown hg4 (by simp)
    have G4 := gr_0 G3b hg4
    have LA4 := LA3b.grown0 hg4
    have Q4 := Q3b.grown hg4 (by simp)
    have LB4 := LB3b.grown0 hg4
    have S4 := S3'.grown hg4 (by simp)
    clear hg4
    have qc0 := Q4.cellAt 0 rfl
    have qc1 := Q4.cellAt 1 rfl
    have sc0 := S4.cellAt 0 rfl
    have sc1 := S4.cellAt 1 rfl
    go_wp2_with fail
    refine (e3 _ LA4 LB4).mono ?_
    rintro e w5 ⟨rfl, hg5⟩
    have L5 := L4.grown0 hg5
    have P5 := P4.grown hg5 (by simp)
    have G5 := gr_0 G4 hg5
    have LA5 := LA4.grown0 hg5
    have Q5 := Q4.grown hg5 (by simp)
    have LB5 := LB4.grown0 hg5
    have S5 := S4.grown hg5 (by simp)
    clear hg5
    go_wp2_with fail
    go_ret
    exact ⟨rfl, G5⟩
  | true =>
    obtain ⟨p1, p2, p3, p4⟩ := mkB_parts HB.out
    have HM := mark_to p1 p2 p3
    have hvv := mkV_yes HB.out
    rw [← hvv, HD.out, HX.out] at HM
    have q4 := p4
    rw [← hvv, HX.out] at q4
    clear hvv p4
    have hck : ckB d' xs' = true := by rw [HM.ck]; exact decide_eq_true q4
    have hhas : hasB d' xs' x = true := hasB_iff.2 ((HM.has x).2 (.inl rfl))
    have hq8 : xs'.length ≤ 8 := q4
    rw [HN1.out] at hq8
    have hd5 := HM.d0
    have hd6 := HM.d1
    have P1' := hid p1
    have P2' := hid p2
    have P3' := hid p3
    have HM' := hid HM
    clear p1 p2 p3 q4 HM
    clear hhas
    obtain ⟨r, hr⟩ : ∃ r : Int, (nm : Int) % 100 = r := ⟨_, rfl⟩
    have k0 : 0 ≤ r := by rw [← hr]; exact Int.emod_nonneg _ (by omega)
    have k1 : r < 100 := by rw [← hr]; exact Int.emod_lt_of_pos _ (by omega)
    have hin : inR r 0 99 = true := inR_true k0 (by omega)
    obtain ⟨bq, hbq⟩ : ∃ bq, hasB d xs r = bq := ⟨_, rfl⟩
    have e4 := fun w hL => ch_any d' A1 n1 c1 xs' r w hL hn1 hcA1 hmA1
    have e5 := e9 r
    rw [chB_has hck hin] at e4
    rw [chB_has P1'.out hin, hbq] at e5
    have HR := hid hr
    have HQ := hid hbq
    clear e9 hbq hin hck hn1
    go_wp2_with fail
    refine (e3 _ LA3b LB3b).mono ?_
    rintro e w4 ⟨rfl, hg4⟩
    have L4 := L3b.grown0 hg4
    have P4 := P3b.grown hg4 (by simp)
    have G4 := gr_0 G3b hg4
    have LA4 := LA3b.grown0 hg4
    have Q4 := Q3b.grown hg4 (by simp)
    have LB4 := LB3b.grown0 hg4
    have S4 := S3'.grown hg4 (by simp)
    clear hg4
    have pc0 := P4.cellAt 0 rfl
    have pc1 := P4.cellAt 1 rfl
    have qc0 := Q4.cellAt 0 rfl
    have qc1 := Q4.cellAt 1 rfl
    have sc0 := S4.cellAt 0 rfl
    have sc1 := S4.cellAt 1 rfl
    clear e3
    have hlP := P4.lt
    rcases (by omega : r = x ∨ r ≠ x) with q | q
    · have hrx : (r == x) = true := by simp [q]
      clear q
      go_wp2_with fail
      go_quiet (fail)
      go_wp2_with fail
      go_ret
      first | exact ⟨rfl, gr_drewN G4 _⟩ | exact ⟨ret_bool (by simp), gr_drewN G4 _⟩
    · have hrx : (r == x) = false := by simpa using q
      have hsame : hasB d' xs' r = bq := by
        rw [← HQ.out, Bool.eq_iff_iff, hasB_iff, hasB_iff, HM'.out.has r]
        exact ⟨fun h => h.resolve_left q, .inr⟩
      rw [hsame] at e4
      clear q hsame
      go_wp2_with fail
      go_region_held3 (fun w' => w'.cell? ⟨w2.heap.size, 0, none⟩ = some (.int .i64 d') ∧ w'.cell? ⟨w2.heap.size, 1, none⟩ = some (.slice A1 n1 c1) ∧ w'.cell? ⟨w1.heap.size, 0, none⟩ = some (.int .i64 d) ∧ w'.cell? ⟨w1.heap.size, 1, none⟩ = some (.slice B N C)) (go_keep)
        (first
          | (go_at_call_of 16 (Value.slice A1 n1 c1)
             refine (e4 _ ?_).mono ?_
             · exact LA4.drew
             rintro e w8 ⟨rfl, hg8⟩
             have Q8 := Q4.drew.grown hg8 (by simp)
             have P8 := P4.drew.grown hg8 (by simp)
             have L8 := L4.drew.grown0 hg8
             have G8 := gr_0 (gr_drew G4) hg8
             have z0 := Q8.cellAt 0 rfl
             have z1 := Q8.cellAt 1 rfl
             have z2 := P8.cellAt 0 rfl
             have z3 := P8.cellAt 1 rfl)
          | (go_at_call_of 16 (Value.slice B N C)
             refine (e5 _ ?_).mono ?_
             · exact L8
             rintro e w9 ⟨rfl, hg9⟩
             have Q9 := Q8.grown hg9 (by simp)
             have P9 := P8.grown hg9 (by simp)
             have G9 := gr_0 G8 hg9
             have z0 := Q9.cellAt 0 rfl
             have z1 := Q9.cellAt 1 rfl
             have z2 := P9.cellAt 0 rfl
             have z3 := P9.cellAt 1 rfl))
      go_wp2_with fail
      go_ret
      first | exact ⟨rfl, G9⟩ | exact ⟨ret_bool (by simp), G9⟩

end Go.Proofs.Ytjhkmgoephmbpaa
