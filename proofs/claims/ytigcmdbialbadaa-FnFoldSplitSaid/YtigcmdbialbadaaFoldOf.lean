/- FoldOf in impl and in spec, FoldOn in spec. -/
import Derived.Test.YtigcmdbialbadaaFoldOn
namespace Go.Proofs.Ytigcmdbialbadaa
open Go.RowKit

def fd0 : Fd := ⟨-1, 0, ⟨#[]⟩⟩
theorem fd0_ok : fdOk fd0 = true := by decide
theorem fo0_B (l : List Ev) : foB fd0 l = evsB l := by
  rw [foB, fd0_ok, Bool.true_and]
  cases h : evsB l with
  | false => rfl
  | true =>
    obtain ⟨h1, h2⟩ := evsB_all h
    rw [fold_ok fd0_ok h2, decide_eq_true (by show (-1 : Int) + l.length ≤ 23; omega)]
    rfl
theorem foB_len {x : Fd} {l : List Ev} (h1 : fdOk x = true) (h2 : evsB l = true) : foB x l = decide (x.v + l.length ≤ 23) := by
  rw [foB, h1, h2, fold_ok h1 (evsB_all h2).2]; rfl

set_option maxHeartbeats 1000000 in
theorem of_fold (A : Option Addr) (n c : Nat) (l : List Ev) (w : World) (h : Lies w A (l.flatMap Ev.cells)) (hn : l.length = n) (hc : n ≤ c) (hm : c ≤ maxLen) (hk : ∀ x ∈ l, x.kind.size ≤ maxLen) :
    Calls Try.prog 13 #[.slice A n c] w (FoTo w (foV fd0 l) (foB fd0 l)) := by
  have hL := h.alloc (.cells #[.int .i64 0, .int .i64 0, .string ⟨#[]⟩] 24)
  have R0 := Full.new w 24 #[.int .i64 0, .int .i64 0, .string ⟨#[]⟩]
  have G0 := gr_alloc (gr_refl w none) (.cells #[.int .i64 0, .int .i64 0, .string ⟨#[]⟩] 24)
  have e1 := fun w hL => fo_any (-1) 0 ⟨#[]⟩ A n c l w hL hn hc hm (by decide) hk
  unfold maxLen at hm
  clear hn hk
  go_enter Try.func13, Try.ntmps13
  go_wp2_with fail
  refine (e1 _ hL).mono ?_
  rintro e w1 ⟨rfl, hg1⟩
  have R_1 := R0.grown hg1 (by simp)
  have G1 := gr_0 G0 hg1
  clear hg1
  have rc0 := R_1.cellAt 0 rfl
  have rf0 := R_1.free 0
  have rc1 := R_1.cellAt 1 rfl
  have rf1 := R_1.free 1
  have rc2 := R_1.cellAt 2 rfl
  have rf2 := R_1.free 2
  go_wp2_with fail
  refine bodyPost_ret (v := .tuple #[.agg #[.int .i64 (foV ⟨-1, 0, ⟨#[]⟩⟩ l).v, .int .i64 (foV ⟨-1, 0, ⟨#[]⟩⟩ l).s, .string (foV ⟨-1, 0, ⟨#[]⟩⟩ l).t], .bool (foB ⟨-1, 0, ⟨#[]⟩⟩ l)]) ?_ rfl ⟨rfl, ?_⟩
  · simp [results, Try.results13, go_sem, rc0, rc1, rc2]
  · repeat (first | refine gr_put ?_ (by omega) _ | exact G1)

set_option maxHeartbeats 1000000 in
theorem sof_fold (A : Option Addr) (n c : Nat) (l : List Ev) (w : World) (h : Lies w A (l.flatMap Ev.cells)) (hn : l.length = n) (hc : n ≤ c) (hm : c ≤ maxLen) (hk : ∀ x ∈ l, x.kind.size ≤ maxLen) :
    Calls Try.prog 14 #[.slice A n c] w (FoTo w (foV fd0 l) (foB fd0 l)) := by
  have hL := h.alloc (.cells #[.int .i64 0, .int .i64 0, .string ⟨#[]⟩] 24)
  have R0 := Full.new w 24 #[.int .i64 0, .int .i64 0, .string ⟨#[]⟩]
  have G0 := gr_alloc (gr_refl w none) (.cells #[.int .i64 0, .int .i64 0, .string ⟨#[]⟩] 24)
  obtain ⟨b, hb⟩ : ∃ b, evsB l = b := ⟨_, rfl⟩
  have e1 := fun w hL => sevsv_is A n c l b w hL hn hc hm hk hb
  have HB := hid ((fo0_B l).trans hb)
  have HV := hid hb
  have HN := hid hn
  have e2 := fun w hL h1 h2 => so_any ⟨-1, 0, ⟨#[]⟩⟩ A n c l w hL hn hc hm h1 h2 (by decide) (by decide) (by decide) (by decide)
  simp only [] at e2
  unfold maxLen at hm
  clear hn hk hb
  go_enter Try.func14, Try.ntmps14
  go_wp2_with fail
  refine (e1 _ hL).mono ?_
  rintro e w1 ⟨rfl, hg1⟩
  have R_1 := R0.grown hg1 (by simp)
  have G1 := gr_0 G0 hg1
  have L1 := hL.grown0 hg1
  clear hg1
  cases b with
  | false =>
    have rc0 := R_1.cellAt 0 rfl
    have rf0 := R_1.free 0
    have rc1 := R_1.cellAt 1 rfl
    have rf1 := R_1.free 1
    have rc2 := R_1.cellAt 2 rfl
    have rf2 := R_1.free 2
    go_wp2_with fail
    refine bodyPost_ret (v := .tuple #[.agg #[.int .i64 0, .int .i64 0, .string ⟨#[]⟩], .bool false]) ?_ rfl ⟨by rw [foV_no HB.out, HB.out], ?_⟩
    · simp [results, Try.results14, go_sem, rc0, rc1, rc2]
    · repeat (first | refine gr_put ?_ (by omega) _ | exact G1)
  | true =>
    obtain ⟨q1, q2⟩ := evsB_all HV.out
    rw [HN.out] at q1
    have e3 := fun w hL => e2 w hL q1 q2
    clear q2 e1 e2
    go_wp2_with fail
    refine (e3 _ L1).mono ?_
    rintro e w2 ⟨rfl, hg2⟩
    have R_2 := R_1.grown hg2 (by simp)
    have G2 := gr_0 G1 hg2
    have L2 := L1.grown0 hg2
    clear hg2
    have rc0 := R_2.cellAt 0 rfl
    have rf0 := R_2.free 0
    have rc1 := R_2.cellAt 1 rfl
    have rf1 := R_2.free 1
    have rc2 := R_2.cellAt 2 rfl
    have rf2 := R_2.free 2
    go_wp2_with fail
    refine bodyPost_ret (v := .tuple #[.agg #[.int .i64 (foldF ⟨-1, 0, ⟨#[]⟩⟩ l).v, .int .i64 (foldF ⟨-1, 0, ⟨#[]⟩⟩ l).s, .string (foldF ⟨-1, 0, ⟨#[]⟩⟩ l).t], .bool true]) ?_ rfl ⟨by rw [foV_yes HB.out, HB.out]; rfl, ?_⟩
    · simp [results, Try.results14, go_sem, rc0, rc1, rc2]
    · repeat (first | refine gr_put ?_ (by omega) _ | exact G2)

set_option maxHeartbeats 2000000 in
theorem sfo_any (v0 s0 : Int) (t0 : ByteArray) (A : Option Addr) (n c : Nat) (l : List Ev) (w : World) (h : Lies w A (l.flatMap Ev.cells)) (hn : l.length = n) (hc : n ≤ c) (hm : c ≤ maxLen) (hk : ∀ x ∈ l, x.kind.size ≤ maxLen) (ht : t0.size ≤ maxLen) :
    Calls Try.prog 17 #[.agg #[.int .i64 v0, .int .i64 s0, .string t0], .slice A n c] w (FoTo w (foV ⟨v0, s0, t0⟩ l) (foB ⟨v0, s0, t0⟩ l)) := by
  have hL := (h.alloc (.cells #[.int .i64 v0, .int .i64 s0, .string t0] 24)).alloc (.cells #[.int .i64 0, .int .i64 0, .string ⟨#[]⟩] 24)
  have F0 := (Full.new w 24 #[.int .i64 v0, .int .i64 s0, .string t0]).alloc (.cells #[.int .i64 0, .int .i64 0, .string ⟨#[]⟩] 24)
  have R0 := Full.newAt (w := w.alloc (.cells #[.int .i64 v0, .int .i64 s0, .string t0] 24)) (t := 24) (cs := #[.int .i64 0, .int .i64 0, .string ⟨#[]⟩]) (H := w.heap.size + 1) (by simp)
  have G0 := gr_alloc (gr_alloc (gr_refl w none) (.cells #[.int .i64 v0, .int .i64 s0, .string t0] 24)) (.cells #[.int .i64 0, .int .i64 0, .string ⟨#[]⟩] 24)
  obtain ⟨b1, hb1⟩ : ∃ b, fdB v0 s0 t0 = b := ⟨_, rfl⟩
  obtain ⟨b2, hb2⟩ : ∃ b, evsB l = b := ⟨_, rfl⟩
  have e1 := fun w => sfv_is v0 s0 t0 b1 w ht hb1
  have e2 := fun w hL => sevsv_is A n c l b2 w hL hn hc hm hk hb2
  have HB1 := hid (show fdOk ⟨v0, s0, t0⟩ = b1 from hb1)
  have HB2 := hid hb2
  have HN := hid hn
  have HK := hid hk
  have e3 := fun w hL h1 h2 => so_any ⟨v0, s0, t0⟩ A n c l w hL hn hc hm h1 h2
  simp only [] at e3
  clear hn hk hb1 hb2
  unfold maxLen at hm
  cases b1 with
  | false =>
    have HB := hid (show foB ⟨v0, s0, t0⟩ l = false by simp [foB, HB1.out])
    go_enter Try.func17, Try.ntmps17
    go_wp2_with fail
    refine (e1 _).mono ?_
    rintro e w1 ⟨rfl, hg1⟩
    have R_1 := R0.grown hg1 (by simp)
    have F1 := F0.grown hg1 (by simp)
    have G1 := gr_0 G0 hg1
    have L1 := hL.grown0 hg1
    clear hg1
    have rc0 := R_1.cellAt 0 rfl
    have rf0 := R_1.free 0
    have rc1 := R_1.cellAt 1 rfl
    have rf1 := R_1.free 1
    have rc2 := R_1.cellAt 2 rfl
    have rf2 := R_1.free 2
    go_wp2_with fail
    refine bodyPost_ret (v := .tuple #[.agg #[.int .i64 0, .int .i64 0, .string ⟨#[]⟩], .bool false]) ?_ rfl ⟨by rw [foV_no HB.out, HB.out], ?_⟩
    · simp [results, Try.results17, go_sem, rc0, rc1, rc2]
    · repeat (first | refine gr_put ?_ (by omega) _ | exact G1)
  | true =>
    cases b2 with
    | false =>
      have HB := hid (show foB ⟨v0, s0, t0⟩ l = false by simp [foB, HB2.out])
      go_enter Try.func17, Try.ntmps17
      go_wp2_with fail
      refine (e1 _).mono ?_
      rintro e w1 ⟨rfl, hg1⟩
      have R_1 := R0.grown hg1 (by simp)
      have F1 := F0.grown hg1 (by simp)
      have G1 := gr_0 G0 hg1
      have L1 := hL.grown0 hg1
      clear hg1
      go_wp2_with fail
      refine (e2 _ L1).mono ?_
      rintro e w2 ⟨rfl, hg2⟩
      have R_2 := R_1.grown hg2 (by simp)
      have F2 := F1.grown hg2 (by simp)
      have G2 := gr_0 G1 hg2
      have L2 := L1.grown0 hg2
      clear hg2
      have rc0 := R_2.cellAt 0 rfl
      have rf0 := R_2.free 0
      have rc1 := R_2.cellAt 1 rfl
      have rf1 := R_2.free 1
      have rc2 := R_2.cellAt 2 rfl
      have rf2 := R_2.free 2
      go_wp2_with fail
      refine bodyPost_ret (v := .tuple #[.agg #[.int .i64 0, .int .i64 0, .string ⟨#[]⟩], .bool false]) ?_ rfl ⟨by rw [foV_no HB.out, HB.out], ?_⟩
      · simp [results, Try.results17, go_sem, rc0, rc1, rc2]
      · repeat (first | refine gr_put ?_ (by omega) _ | exact G2)
    | true =>
      obtain ⟨q1, q2⟩ := evsB_all HB2.out
      rw [HN.out] at q1
      have hp := fdOk_parts HB1.out
      simp only [] at hp
      obtain ⟨⟨pv0, pv1⟩, ⟨ps0, ps1⟩, _⟩ := hp
      have e4 := fun w hL => e3 w hL q1 q2 (by omega) (by omega) (by omega) (by omega)
      have HE := hid q2
      clear q2 e3
      obtain ⟨y, hy⟩ : ∃ y, foldF ⟨v0, s0, t0⟩ l = y := ⟨_, rfl⟩
      obtain ⟨v, s, t⟩ := y
      simp only [hy] at e4
      have hts : t.size ≤ maxLen := by
        rcases Nat.eq_zero_or_pos l.length with h0 | h0
        · have h1 : l = [] := List.eq_nil_of_length_eq_zero h0
          rw [h1] at hy
          have : (⟨v0, s0, t0⟩ : Fd) = ⟨v, s, t⟩ := hy
          injection this with _ _ e3
          rw [← e3]; exact ht
        · have := foldF_t ⟨v0, s0, t0⟩ h0
          rw [hy] at this
          rw [show t = _ from this]
          exact HK.out _ (List.getElem_mem _)
      obtain ⟨bb, hbb⟩ : ∃ bb, fdB v s t = bb := ⟨_, rfl⟩
      have e5 := fun w => sfv_is v s t bb w hts hbb
      have HB := hid (show foB ⟨v0, s0, t0⟩ l = bb by
        rw [foB, HB1.out, HB2.out, hy, Bool.true_and, Bool.true_and]; exact hbb)
      have HF := hid hy
      clear hy hts hbb
      go_enter Try.func17, Try.ntmps17
      go_wp2_with fail
      refine (e1 _).mono ?_
      rintro e w1 ⟨rfl, hg1⟩
      have R_1 := R0.grown hg1 (by simp)
      have F1 := F0.grown hg1 (by simp)
      have G1 := gr_0 G0 hg1
      have L1 := hL.grown0 hg1
      clear hg1
      have xc0 := F1.cellAt 0 rfl
      have xc1 := F1.cellAt 1 rfl
      have xc2 := F1.cellAt 2 rfl
      go_wp2_with fail
      refine (e2 _ L1).mono ?_
      rintro e w2 ⟨rfl, hg2⟩
      have R_2 := R_1.grown hg2 (by simp)
      have F2 := F1.grown hg2 (by simp)
      have G2 := gr_0 G1 hg2
      have L2 := L1.grown0 hg2
      clear hg2
      have xc0 := F2.cellAt 0 rfl
      have xc1 := F2.cellAt 1 rfl
      have xc2 := F2.cellAt 2 rfl
      go_wp2_with fail
      refine (e4 _ L2).mono ?_
      rintro e w3 ⟨rfl, hg3⟩
      have R_3 := R_2.grown hg3 (by simp)
      have F3 := F2.grown hg3 (by simp)
      have G3 := gr_0 G2 hg3
      have L3 := L2.grown0 hg3
      clear hg3
      have Y3 := Full.new w3 24 #[.int .i64 v, .int .i64 s, .string t]
      have Rb := R_3.alloc (.cells #[.int .i64 v, .int .i64 s, .string t] 24)
      have Gb := gr_alloc G3 (.cells #[.int .i64 v, .int .i64 s, .string t] 24)
      go_wp2_with fail
      refine (e5 _).mono ?_
      rintro e w4 ⟨rfl, hg4⟩
      have R_4 := Rb.grown hg4 (by simp)
      have G4 := gr_0 Gb hg4
      have Y4 := Y3.grown hg4 (by simp)
      clear hg4
      have rc0 := R_4.cellAt 0 rfl
      have rf0 := R_4.free 0
      have rc1 := R_4.cellAt 1 rfl
      have rf1 := R_4.free 1
      have rc2 := R_4.cellAt 2 rfl
      have rf2 := R_4.free 2
      have yc0 := Y4.cellAt 0 rfl
      have yc1 := Y4.cellAt 1 rfl
      have yc2 := Y4.cellAt 2 rfl
      cases bb with
      | false =>
        go_wp2_with fail
        refine bodyPost_ret (v := .tuple #[.agg #[.int .i64 0, .int .i64 0, .string ⟨#[]⟩], .bool false]) ?_ rfl ⟨by rw [foV_no HB.out, HB.out], ?_⟩
        · simp [results, Try.results17, go_sem, rc0, rc1, rc2]
        · repeat (first | refine gr_put ?_ (by omega) _ | exact G4)
      | true =>
        go_wp2_with fail
        refine bodyPost_ret (v := .tuple #[.agg #[.int .i64 v, .int .i64 s, .string t], .bool true]) ?_ rfl ⟨by rw [foV_yes HB.out, HB.out, HF.out], ?_⟩
        · simp [results, Try.results17, go_sem, rc0, rc1, rc2]
        · repeat (first | refine gr_put ?_ (by omega) _ | exact G4)

end Go.Proofs.Ytigcmdbialbadaa
