/- FollowRun in impl and in spec. -/
import Derived.Test.YtnjbpeojadbclaaDoorRunP
namespace Go.Proofs.YtnjbpeojadbclaaDoor
open Go.RowKit

/-- Whether a follower can run on. -/
def okR (xs ys : List En) (q m : Nat) (k : Int) : Bool := (storeB xs && storeB ys) && decide (m ≤ q) && inR k 0 99
def resR (ok : Bool) (xs : List En) (n m : Nat) (k : Int) : List En := if ok = true then xs.take (min (m + k.toNat) n) else []
theorem run_list {xs ys : List En} {q j m : Nat} (hq : Comm xs ys q) (hm : ys.length = m) (hk : m ≤ q) (hj : m ≤ j) : ys ++ (xs.take j).drop m = xs.take j := by
  obtain rfl : q = m := by have := hq.lb; omega
  have h1 : ys = (xs.take j).take q := by
    rw [List.take_take, Nat.min_eq_left hj, hq.eq, List.take_of_length_le (by omega)]
  conv => lhs; rw [h1]
  exact List.take_append_drop _ _

set_option maxHeartbeats 4000000 in
theorem frun_is (A B : Option Addr) (n cA m cB : Nat) (xs ys : List En) (q : Nat) (k : Int) (a : Addr) (w : World) (ok : Bool) (res : List En) (h : EArg w A n cA xs) (h2 : EArg w B m cB ys) (hE : Sent w a) (hq : Comm xs ys q) (hok : okR xs ys q m k = ok) (hres : resR ok xs n m k = res) :
    Calls Tryd.prog 13 #[.slice A n cA, .slice B m cB, .int .i64 k] w (FoEnds w ok res) := by
  obtain ⟨bb, hbb⟩ : ∃ b, (storeB xs && storeB ys) = b := ⟨_, rfl⟩
  obtain ⟨r, hr⟩ : ∃ r, leftV bb n m q = r := ⟨_, rfl⟩
  have e1 := fleft_is A B n cA m cB xs ys q r a w h h2 hE hq (by rw [hbb]; exact hr)
  obtain ⟨b3, hb3⟩ : ∃ b, inR k 0 99 = b := ⟨_, rfl⟩
  have e2 := fun w => readable_is 0 k b3 w (by rw [hb3, inR_true (by omega) (by omega)]; rfl)
  have HA := hid h
  have HB := hid h2
  have hmc := h2.cap
  have hmx := h2.max
  have hnc := h.cap
  have hnx := h.max
  have hq2 : q ≤ m := by rw [← h2.len]; exact hq.lb
  have hq3 : q ≤ n := by rw [← h.len]; exact hq.la
  have HL := hid (fun hb : bb = true => (by rw [← h.len]; exact store_len (by rw [← hbb] at hb; cases h1 : storeB xs <;> simp_all) : n ≤ 24))
  unfold maxLen at hmx hnx
  have HOk := hid hok
  have HRes := hid hres
  have HQ := hid hq
  have HBB := hid hbb
  have HB3 := hid hb3
  clear h h2 hE hq hok hres hbb hb3
  rcases (by
    cases bb with
    | false => exact .inl ⟨hr.symm, .inl rfl⟩
    | true =>
      rcases Nat.lt_or_ge q m with c | c
      · exact .inl ⟨hr.symm.trans (leftV_lt c), .inr c⟩
      · exact .inr ⟨rfl, c, hr.symm.trans (leftV_ge c)⟩ : (r = -1 ∧ (bb = false ∨ q < m)) ∨ (bb = true ∧ m ≤ q ∧ r = (n : Int) - (m : Int))) with ⟨rfl, hc⟩ | ⟨rfl, hmq, rfl⟩
  · have HF := hid (show ok = false by
      rw [← HOk.out, okR, HBB.out]
      rcases hc with rfl | c
      · rfl
      · rw [show decide (m ≤ q) = false from decide_eq_false (by omega)]; simp)
    clear hr hc
    go_enter Tryd.func13, Tryd.ntmps13
    go_wp2_with fail
    refine e1.mono ?_
    rintro e w1 ⟨rfl, hg1⟩
    clear e1 e2
    go_wp2_with fail
    go_ret2
    obtain rfl := HF.out
    obtain rfl : res = [] := HRes.out.symm
    exact fo_none hg1
  · have hn24 := HL.out (by first | rfl | trivial)
    have r0 : (0 : Int) ≤ (n : Int) - (m : Int) := by omega
    have d0 : decide ((n : Int) - (m : Int) < 0) = false := by simp; omega
    clear hr HL
    go_enter Tryd.func13, Tryd.ntmps13
    go_wp2_with fail
    refine e1.mono ?_
    rintro e w1 ⟨rfl, hg1⟩
    clear e1
    go_wp2_with fail
    refine (e2 _).mono ?_
    rintro e w2 ⟨rfl, rfl⟩
    clear e2
    cases b3 with
    | false =>
      have HF := hid (show ok = false by rw [← HOk.out, okR, HB3.out]; simp)
      go_wp2_with fail
      go_ret2
      obtain rfl := HF.out
      obtain rfl : res = [] := HRes.out.symm
      exact fo_none hg1
    | true =>
      have HF := hid (show ok = true by rw [← HOk.out, okR, HB3.out, HBB.out]; simp; omega)
      have hk01 : 0 ≤ k ∧ k ≤ 99 := by
        have := HB3.out
        simp [inR] at this
        omega
      obtain ⟨kn, rfl⟩ : ∃ kn : Nat, k = (kn : Int) := ⟨k.toNat, by omega⟩
      have hkn : kn ≤ 99 := by omega
      have hRes2 := HRes.out
      rw [HF.out, resR, if_pos rfl, Int.toNat_natCast] at hRes2
      obtain ⟨j, hj⟩ : ∃ j, min (m + kn) n = j := ⟨_, rfl⟩
      rw [hj] at hRes2
      have j1 : m ≤ j := by omega
      have j2 : j ≤ n := by omega
      have e3 := piece_is A n cA m kn xs w2 (HA.out.grown0 hg1) (by omega) hkn (by omega)
      rw [hj] at e3
      have HR2 := hid hRes2
      clear hRes2 hj
      go_wp2_with fail
      refine e3.mono ?_
      rintro e w3 ⟨A4, c4, rfl, hO3, hg3⟩
      have G3 := gr_0 hg1 hg3
      have hE3 : EArg w3 A4 (j - m) c4 ((xs.take j).drop m) := EArg.of_own hO3 (by rw [List.length_drop, List.length_take, HA.out.len]; omega) (fun e he => HA.out.ok e (List.mem_of_mem_take (List.mem_of_mem_drop he)))
      have e4 := pass_is B A4 m cB (j - m) c4 ys ((xs.take j).drop m) w3 (HB.out.grown0 G3) hE3 (by omega) (by omega)
      rw [run_list HQ.out HB.out.len hmq j1, HR2.out] at e4
      have s3 := G3.size
      clear e3 hO3 hg3 hE3 hg1
      go_wp2_with fail
      refine e4.mono ?_
      rintro e w4 ⟨A5, n5, c5, rfl, hO4, hl4, hg4⟩
      have HO4 := hid (And.intro hO4 hl4)
      clear e4 hO4 hl4
      go_wp2_with fail
      go_ret2
      obtain rfl := HF.out
      exact ⟨A5, n5, c5, rfl, HO4.out.1.base_le s3, HO4.out.2, gr_0 G3 hg4⟩

set_option maxHeartbeats 4000000 in
theorem sfrun_is (A B : Option Addr) (n cA m cB : Nat) (xs ys : List En) (q : Nat) (k : Int) (w : World) (ok : Bool) (res : List En) (h : EArg w A n cA xs) (h2 : EArg w B m cB ys) (hn : n ≤ 1048576) (hm : m ≤ 1048576) (hq : Comm xs ys q) (hok : okR xs ys q m k = ok) (hres : resR ok xs n m k = res) :
    Calls Tryd.prog 12 #[.slice A n cA, .slice B m cB, .int .i64 k] w (FoEnds w ok res) := by
  obtain ⟨b1, hb1⟩ : ∃ b, storeB xs = b := ⟨_, rfl⟩
  obtain ⟨b2, hb2⟩ : ∃ b, storeB ys = b := ⟨_, rfl⟩
  obtain ⟨b3, hb3⟩ : ∃ b, inR k 0 99 = b := ⟨_, rfl⟩
  have e1 := ssv_is A n cA xs b1 w h hn hb1
  have e2 := hid (fun w' (hg : w.grownBy w' none) => ssv_is B m cB ys b2 w' (h2.grown0 hg) hm hb2)
  have e3 := hid (fun w' (hg : w.grownBy w' none) => scm_is A B n cA m cB xs ys q w' (h.grown0 hg) (h2.grown0 hg) hq)
  have e4 := hid (fun w => in_q k 0 99 b3 w hb3)
  rw [okR, hb1, hb2, hb3] at hok
  have HOk := hid hok
  have HRes := hid hres
  have HA := hid h
  have HB := hid h2
  have hmc := h2.cap
  have hmx := h2.max
  have hnc := h.cap
  have hnx := h.max
  have hq2 : q ≤ m := by rw [← h2.len]; exact hq.lb
  have hq3 : q ≤ n := by rw [← h.len]; exact hq.la
  have HL := hid (fun hb : b1 = true => (by rw [← h.len]; exact store_len (hb1.trans hb) : n ≤ 24))
  have HB3 := hid hb3
  unfold maxLen at hmx hnx
  clear hb1 hb2 hb3 h h2 hq hok hres
  go_enter Tryd.func12, Tryd.ntmps12
  go_wp2_with fail
  refine e1.mono ?_
  rintro e w1 ⟨rfl, hg1⟩
  clear e1
  cases b1 with
  | false =>
    obtain rfl : ok = false := HOk.out.symm
    obtain rfl : res = [] := HRes.out.symm
    clear e2 e3 e4 HL HOk HRes
    go_wp2_with fail
    go_ret2
    exact fo_none hg1
  | true =>
  go_wp2_with fail
  refine (e2.out _ hg1).mono ?_
  rintro e w2 ⟨rfl, hg2⟩
  have G2 := gr_0 hg1 hg2
  clear e2 hg1 hg2
  cases b2 with
  | false =>
    obtain rfl : ok = false := HOk.out.symm
    obtain rfl : res = [] := HRes.out.symm
    clear e3 e4 HL HOk HRes
    go_wp2_with fail
    go_ret2
    exact fo_none G2
  | true =>
  go_wp2_with fail
  refine (e4.out _).mono ?_
  rintro e w3 ⟨rfl, rfl⟩
  clear e4
  cases b3 with
  | false =>
    obtain rfl : ok = false := by rw [← HOk.out]; simp
    obtain rfl : res = [] := HRes.out.symm
    clear e3 HL HOk HRes
    go_wp2_with fail
    go_ret2
    exact fo_none G2
  | true =>
    have hn24 := HL.out (by first | rfl | trivial)
    have hk01 : 0 ≤ k ∧ k ≤ 99 := by
      have := HB3.out
      simp [inR] at this
      omega
    obtain ⟨kn, rfl⟩ : ∃ kn : Nat, k = (kn : Int) := ⟨k.toNat, by omega⟩
    have hkn : kn ≤ 99 := by omega
    clear HL HB3 hk01
    go_wp2_with fail
    refine (e3.out _ G2).mono ?_
    rintro e w4 ⟨rfl, hg4⟩
    have G4 := gr_0 G2 hg4
    clear e3 G2 hg4
    rcases (by omega : q < m ∨ m ≤ q) with c | c
    · obtain rfl : ok = false := by
        rw [← HOk.out, show decide (m ≤ q) = false from decide_eq_false (by omega)]
        simp
      obtain rfl : res = [] := HRes.out.symm
      clear HOk HRes
      go_wp2_with fail
      go_ret2
      exact fo_none G4
    · obtain rfl : ok = true := by
        rw [← HOk.out, show decide (m ≤ q) = true from decide_eq_true c]
        simp
      have hRes2 := HRes.out
      rw [resR, if_pos rfl, Int.toNat_natCast] at hRes2
      have q2 : min ((m : Int) + (kn : Int)) (n : Int) = ((min (m + kn) n : Nat) : Int) := by omega
      obtain ⟨j, hj⟩ : ∃ j, min (m + kn) n = j := ⟨_, rfl⟩
      rw [hj] at hRes2 q2
      have j2 : j ≤ n := by omega
      have j3 : (j : Int) ≤ (cA : Int) := by omega
      have j4 : (0 : Int) ≤ (j : Int) := by omega
      have HR2 := hid hRes2
      have O4 := Own.empty (e := 42) (s := 4) (base := w4.heap.size) w4 (Nat.le_refl _)
      have HT := hid ((HA.out.grown0 (gr_alloc G4 (.cells #[] 42))).take j2)
      have HLT := hid HT.out.li
      have hlen := hid (show (ecells (xs.take j)).length = j * 4 by rw [ecells_len, HT.out.len])
      have HO4 := hid O4
      have s4 := G4.size
      clear hRes2 hj HOk HRes O4
      go_wp2_with (at_builtin; refine wpList_app _ rfl _ _ 24 rfl w4.heap.size 42 Tryd.underlying24 entInfo rfl (by omega) (some ⟨w4.heap.size, 0, none⟩) 0 0 [] rfl HO4.out A j cA (ecells (xs.take j)) rfl HLT.out hlen.out (ecells_one _) (by omega) (by omega) (by simp) ?_; intro A5 c5 w5 hown5 hg5 _)
      have G5 := gr_then (gr_alloc G4 (.cells #[] 42)) hg5 (fun g hg => .inr (by injection hg with hg; rw [← hg]; exact s4))
      rw [Nat.zero_add, List.nil_append] at hown5
      have HO := hid (hown5.base_le s4)
      clear hown5 hg5
      try rw [Nat.zero_add]
      go_ret2
      exact ⟨A5, j, c5, rfl, by rw [← HR2.out]; exact HO.out, by rw [← HR2.out]; exact HT.out.len, G5⟩
end Go.Proofs.YtnjbpeojadbclaaDoor
