/- FollowMend in impl and in spec. -/
import Derived.Test.YtnjbpeojadbclaaDoorStoreV
import Derived.Test.YtnjbpeojadbclaaDoorComm
import Derived.Test.YtnjbpeojadbclaaDoorPassed
namespace Go.Proofs.YtnjbpeojadbclaaDoor
open Go.RowKit

/-- What a follower's function leaves: entries of its own, and whether. -/
def FoEnds (w : World) (ok : Bool) (res : List En) (e : Ending) (w' : World) : Prop :=
  ∃ (A : Option Addr) (n c : Nat), e = .returned (.tuple #[.slice A n c, .bool ok]) ∧ Own w' w.heap.size 42 4 A n c (ecells res) ∧ res.length = n ∧ w.grownBy w' none
theorem fo_none {w w1 : World} (hg : w.grownBy w1 none) : FoEnds w false [] (.returned (.tuple #[.slice (some ⟨w1.heap.size, 0, none⟩) 0 0, .bool false])) (w1.alloc (.cells #[] 42)) :=
  ⟨_, _, _, rfl, Own.empty w1 hg.size, rfl, gr_alloc hg _⟩
theorem store_len {l : List En} (h : storeB l = true) : l.length ≤ 24 := by
  rcases Nat.lt_or_ge 24 l.length with h1 | h1
  · rw [storeB_long h1] at h
    cases h
  · exact h1

set_option maxHeartbeats 4000000 in
theorem mend_is (A B : Option Addr) (n cA m cB : Nat) (xs ys : List En) (q : Nat) (a : Addr) (w : World) (h : EArg w A n cA xs) (h2 : EArg w B m cB ys) (hE : Sent w a) (hq : Comm xs ys q) :
    Calls Tryd.prog 8 #[.slice A n cA, .slice B m cB] w (FoEnds w (storeB xs && storeB ys) (if (storeB xs && storeB ys) = true then ys.take q else [])) := by
  obtain ⟨b1, hb1⟩ : ∃ b, storeB xs = b := ⟨_, rfl⟩
  obtain ⟨b2, hb2⟩ : ∃ b, storeB ys = b := ⟨_, rfl⟩
  have e1 := sv_is A n cA xs b1 a w h hE hb1
  have e2 := hid (fun w' (hg : w.grownBy w' none) => sv_is B m cB ys b2 a w' (h2.grown0 hg) (hE.grown0 hg) hb2)
  have e3 := hid (fun w' (hg : w.grownBy w' none) => cm_is A B n cA m cB xs ys q w' (h.grown0 hg) (h2.grown0 hg) hq)
  rw [hb1, hb2]
  obtain ⟨ok, hok⟩ : ∃ ok, (b1 && b2) = ok := ⟨_, rfl⟩
  rw [hok]
  obtain ⟨res, hres⟩ : ∃ r, (if ok = true then ys.take q else []) = r := ⟨_, rfl⟩
  rw [hres]
  have HOk := hid hok
  have HRes := hid hres
  clear hok hres
  have HA := hid h
  have HB := hid h2
  have hq2 : q ≤ m := by rw [← h2.len]; exact hq.lb
  have hmc := h2.cap
  have hmx := h2.max
  unfold maxLen at hmx
  have HL := hid (fun hb : b2 = true => (by rw [← h2.len]; exact store_len (hb2.trans hb) : m ≤ 24))
  clear hb1 hb2 h h2 hE hq
  go_enter Tryd.func8, Tryd.ntmps8
  go_wp2_with fail
  refine e1.mono ?_
  rintro e w1 ⟨rfl, hg1⟩
  clear e1
  cases b1 with
  | false =>
    obtain rfl : ok = false := HOk.out.symm
    obtain rfl : res = [] := HRes.out.symm
    clear e2 e3 HL HOk HRes
    go_wp2_with fail
    go_ret2
    exact fo_none hg1
  | true =>
  go_wp2_with fail
  refine (e2.out _ hg1).mono ?_
  rintro e w2 ⟨rfl, hg2⟩
  have G2 := gr_0 hg1 hg2
  clear e2 hg1 hg2
  cases b2 with
  | false =>
    obtain rfl : ok = false := HOk.out.symm
    obtain rfl : res = [] := HRes.out.symm
    clear e3 HL HOk HRes
    go_wp2_with fail
    go_ret2
    exact fo_none G2
  | true =>
    have hm24 := HL.out rfl
    obtain rfl : ok = true := HOk.out.symm
    obtain rfl : res = ys.take q := HRes.out.symm
    clear HOk HRes
    have p0 : (0 : Int) ≤ (q : Int) := by omega
    have p1 : (q : Int) ≤ (cB : Int) := by omega
    clear HL
    go_wp2_with fail
    refine (e3.out _ G2).mono ?_
    rintro e w3 ⟨rfl, hg3⟩
    have G3 := gr_0 G2 hg3
    have e4 := pass_is none B 0 0 q cB [] (ys.take q) w3 (EArg.nil w3) ((HB.out.grown0 G3).take hq2) (by omega) (by omega)
    rw [List.nil_append] at e4
    have s3 := G3.size
    clear e3 G2 hg3
    go_wp2_with fail
    refine e4.mono ?_
    rintro e w4 ⟨A4, n4, c4, rfl, hO4, hl4, hg4⟩
    have HO4 := hid (And.intro hO4 hl4)
    clear e4 hO4 hl4
    go_wp2_with fail
    go_ret2
    exact ⟨A4, n4, c4, rfl, HO4.out.1.base_le s3, HO4.out.2, gr_0 G3 hg4⟩

set_option maxHeartbeats 4000000 in
theorem smend_is (A B : Option Addr) (n cA m cB : Nat) (xs ys : List En) (q : Nat) (w : World) (h : EArg w A n cA xs) (h2 : EArg w B m cB ys) (hn : n ≤ 1048576) (hm : m ≤ 1048576) (hq : Comm xs ys q) :
    Calls Tryd.prog 6 #[.slice A n cA, .slice B m cB] w (FoEnds w (storeB xs && storeB ys) (if (storeB xs && storeB ys) = true then ys.take q else [])) := by
  obtain ⟨b1, hb1⟩ : ∃ b, storeB xs = b := ⟨_, rfl⟩
  obtain ⟨b2, hb2⟩ : ∃ b, storeB ys = b := ⟨_, rfl⟩
  have e1 := ssv_is A n cA xs b1 w h hn hb1
  have e2 := hid (fun w' (hg : w.grownBy w' none) => ssv_is B m cB ys b2 w' (h2.grown0 hg) hm hb2)
  have e3 := hid (fun w' (hg : w.grownBy w' none) => scm_is A B n cA m cB xs ys q w' (h.grown0 hg) (h2.grown0 hg) hq)
  rw [hb1, hb2]
  obtain ⟨ok, hok⟩ : ∃ ok, (b1 && b2) = ok := ⟨_, rfl⟩
  rw [hok]
  obtain ⟨res, hres⟩ : ∃ r, (if ok = true then ys.take q else []) = r := ⟨_, rfl⟩
  rw [hres]
  have HOk := hid hok
  have HRes := hid hres
  clear hok hres
  have HA := hid h
  have HB := hid h2
  have hq2 : q ≤ m := by rw [← h2.len]; exact hq.lb
  have hmc := h2.cap
  have hmx := h2.max
  unfold maxLen at hmx
  have HL := hid (fun hb : b2 = true => (by rw [← h2.len]; exact store_len (hb2.trans hb) : m ≤ 24))
  clear hb1 hb2 h h2 hq
  go_enter Tryd.func6, Tryd.ntmps6
  go_wp2_with fail
  refine e1.mono ?_
  rintro e w1 ⟨rfl, hg1⟩
  clear e1
  cases b1 with
  | false =>
    obtain rfl : ok = false := HOk.out.symm
    obtain rfl : res = [] := HRes.out.symm
    clear e2 e3 HL HOk HRes
    go_wp2_with fail
    go_ret2
    exact fo_none hg1
  | true =>
  go_wp2_with fail
  refine (e2.out _ hg1).mono ?_
  rintro e w2 ⟨rfl, hg2⟩
  have G2 := gr_0 hg1 hg2
  clear e2 hg1 hg2
  cases b2 with
  | false =>
    obtain rfl : ok = false := HOk.out.symm
    obtain rfl : res = [] := HRes.out.symm
    clear e3 HL HOk HRes
    go_wp2_with fail
    go_ret2
    exact fo_none G2
  | true =>
    have hm24 := HL.out rfl
    obtain rfl : ok = true := HOk.out.symm
    obtain rfl : res = ys.take q := HRes.out.symm
    clear HOk HRes
    have p0 : (0 : Int) ≤ (q : Int) := by omega
    have p1 : (q : Int) ≤ (cB : Int) := by omega
    clear HL
    go_wp2_with fail
    refine (e3.out _ (gr_alloc G2 _)).mono ?_
    rintro e w3 ⟨rfl, hg3⟩
    have G3 := gr_0 (gr_alloc G2 (.cells #[] 42)) hg3
    have O3 := (Own.empty (e := 42) (s := 4) (base := w2.heap.size) w2 (Nat.le_refl _)).kept0 hg3
    have HT := hid ((HB.out.grown0 G3).take hq2)
    have LT := HT.out.li
    have hlen : (ecells (ys.take q)).length = q * 4 := by rw [ecells_len, HT.out.len]
    have s2 := G2.size
    have s3 := hg3.size
    simp at s3
    have G23 := gr_alloc (gr_refl w2 none) (.cells #[] 42)
    clear e3
    go_wp2_with (at_builtin; refine wpList_app _ rfl _ _ 24 rfl w2.heap.size 42 Tryd.underlying24 entInfo rfl (by omega) (some ⟨w2.heap.size, 0, none⟩) 0 0 [] rfl O3 B q cB (ecells (ys.take q)) rfl LT hlen (ecells_one _) (by omega) (by omega) (by omega) ?_; intro A5 c5 w5 hown5 hg5 _)
    have G5 := gr_then G3 hg5 (fun g hg => .inr (by injection hg with hg; rw [← hg]; exact s2))
    rw [Nat.zero_add, List.nil_append] at hown5
    have HO := hid (hown5.base_le s2)
    clear hown5 hg5 hg3 O3
    try rw [Nat.zero_add]
    go_ret2
    exact ⟨A5, q, c5, rfl, HO.out, HT.out.len, G5⟩
end Go.Proofs.YtnjbpeojadbclaaDoor
