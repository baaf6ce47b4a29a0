/- DrawTotalsFind, TotalsFind in impl and in spec. -/
import Derived.Test.YtokhkgimmijoaaaTotDraw
import Derived.Test.YtokhkgimmijoaaaOf
namespace Go.Proofs.Ytokhkgimmijoaaa
open Go.RowKit

def tot0 : Tot := ⟨⟨#[]⟩, 0, 0⟩
/-- The total of a category, if the totals are valid. -/
noncomputable def tfO (l : List Tot) (c : ByteArray) : Option Tot := if totsB l = true then l.find? (fun x => decide (x.c = c)) else none
noncomputable def tfV (l : List Tot) (c : ByteArray) : Tot := (tfO l c).getD tot0
noncomputable def tfB (l : List Tot) (c : ByteArray) : Bool := (tfO l c).isSome
theorem tfO_no {l : List Tot} {c : ByteArray} (h : totsB l = false) : tfO l c = none := by simp [tfO, h]
theorem tfO_none {l : List Tot} {c : ByteArray} (h : ∀ x ∈ l, x.c ≠ c) : tfO l c = none := by
  unfold tfO
  split
  · simpa using h
  · rfl
theorem tfO_some {l : List Tot} {c : ByteArray} {k : Nat} (h : totsB l = true) (hk : k < l.length) (h1 : ∀ x ∈ l.take k, x.c ≠ c) (h2 : l[k].c = c) : tfO l c = some l[k] := by
  rw [tfO, if_pos h]
  have e : l = l.take k ++ (l[k] :: l.drop (k + 1)) := by rw [← List.drop_eq_getElem_cons hk, List.take_append_drop]
  have h3 : (l.take k).find? (fun x => decide (x.c = c)) = none := by simpa using h1
  conv => lhs; rw [e]
  rw [List.find?_append, h3, List.find?_cons_of_pos (by simpa using h2)]
  rfl
theorem tfO_step {l : List Tot} {c : ByteArray} {k : Nat} (hk : k < l.length) (h1 : ∀ x ∈ l.take k, x.c ≠ c) (h2 : l[k].c ≠ c) : ∀ x ∈ l.take (k + 1), x.c ≠ c := by
  rw [List.take_succ_eq_append_getElem hk]
  intro x hx
  rcases List.mem_append.1 hx with hx | hx
  · exact h1 x hx
  · rw [List.mem_singleton.1 hx]; exact h2
def NotTo (l : List Tot) (c : ByteArray) (k : Nat) : Prop := ∀ x ∈ l.take k, x.c ≠ c

/-- What TotalsFind leaves. -/
def TfTo (w : World) (x : Tot) (b : Bool) (e : Ending) (w' : World) : Prop :=
  e = .returned (.tuple #[.agg #[.string x.c, .int .i64 x.m, .int .i64 x.s], .bool b]) ∧ w.grownBy w' none

/-- Drawn totals and a category. -/
def TfEnds (w : World) (e : Ending) (w' : World) : Prop :=
  ∃ (A : Option Addr) (n c : Nat) (l : List Tot) (s : ByteArray), e = .returned (.tuple #[.slice A n c, .string s]) ∧ Own w' w.heap.size 30 3 A n c (l.flatMap Tot.cells) ∧ l.length = n ∧ n ≤ 5 ∧ TotSmall l ∧ s.size ≤ 4 ∧ w.grownBy w' none

set_option maxHeartbeats 1000000 in
theorem dtf_any (A : Option Addr) (n c : Nat) (zs : List Int) (w : World) (h : Code w A n c zs) :
    Calls Try.prog 10 #[.slice A n c] w (TfEnds w) := by
  go_enter Try.func10, Try.ntmps10
  go_wp2_with fail
  refine (open_any A n c zs _ h).mono ?_
  rintro e w1 ⟨g, rfl, hr1, hg1⟩
  have hB := hr1.ge
  have hs1 := hg1.size
  have hgl := hr1.lt
  go_wp2_with fail
  refine (ts92_any w.heap.size g 90000 _ (hr1.less (by omega))).mono ?_
  rintro e w2 ⟨A2, n2, c2, l, rfl, hO, hl, hn5, hsm, R2, hg2⟩
  have HLn := hid hl
  have HSm := hid hsm
  have G2 := gr_new hg1 hg2 hB
  have hs2 := hg2.size
  clear hl hsm hg1 hg2
  rcases (by omega : n2 = 0 ∨ 0 < n2) with h0 | h0
  · have b0 : decide (0 < n2) = false := by simp; omega
    clear h0
    go_wp2_with fail
    refine (of_any w.heap.size g 80000 _ 4 4 [⟨#[97]⟩, ⟨#[122, 111, 111]⟩, ⟨#[120]⟩, ⟨#[]⟩] _ ((R2.alloc _).less (by omega)) (Full.new _ _ _) rfl (by omega) (by omega)).mono ?_
    rintro e w3 ⟨s3, hs3, rfl, R3, hg3⟩
    have O3 := (hO.alloc _).past hg3 (by omega)
    have G3 := gr_new (gr_alloc G2 _) hg3 hB
    have hsz : s3.size ≤ 4 := by simp at hs3; rcases hs3 with rfl | rfl | rfl | rfl <;> decide
    clear hs3 hg3
    go_wp2_with fail
    go_ret2
    exact ⟨A2, n2, c2, l, s3, rfl, O3.base_le hs1, HLn.out, hn5, HSm.out, hsz, G3⟩
  · have b0 : decide (0 < n2) = true := by simpa using h0
    go_wp2_with fail
    refine (pick_any w.heap.size g 89990 3 _ (R2.less (by omega)) (by omega) (by omega)).mono ?_
    rintro e w3 ⟨k3, rfl, hk31, hk32, R3, hg3⟩
    have hk33 := hk32 (by omega)
    clear hk32
    have O3 := hO.past hg3 (by omega)
    have G3 := gr_new G2 hg3 hB
    have hs3 := hg3.size
    clear hg3
    rcases (by omega : k3 = 0 ∨ 1 ≤ k3) with q | q
    · subst q
      go_wp2_with fail
      refine (of_any w.heap.size g 80000 _ 4 4 [⟨#[97]⟩, ⟨#[122, 111, 111]⟩, ⟨#[120]⟩, ⟨#[]⟩] _ ((R3.alloc _).less (by omega)) (Full.new _ _ _) rfl (by omega) (by omega)).mono ?_
      rintro e w4 ⟨s4, hs4, rfl, R4, hg4⟩
      have O4 := (O3.alloc _).past hg4 (by omega)
      have G4 := gr_new (gr_alloc G3 _) hg4 hB
      have hsz : s4.size ≤ 4 := by simp at hs4; rcases hs4 with rfl | rfl | rfl | rfl <;> decide
      clear hs4 hg4
      go_wp2_with fail
      go_ret2
      exact ⟨A2, n2, c2, l, s4, rfl, O4.base_le hs1, HLn.out, hn5, HSm.out, hsz, G4⟩
    · obtain ⟨gA, cur, rfl, hgA, FA, hcell⟩ := O3.open_ h0
      obtain ⟨f, hf⟩ : ∃ f : Nat → ByteArray, ∀ k, k < n2 → (f k).size ≤ 4 ∧ w3.cell? ⟨gA, k * 3, none⟩ = some (.string (f k)) :=
        ⟨fun k => (l.getD k tot0).c, fun k hk => by
          have hkl : k < l.length := by rw [HLn.out]; exact hk
          have e : l.getD k tot0 = l[k] := by simp [List.getD, hkl]
          show (l.getD k tot0).c.size ≤ 4 ∧ _ = some (Value.string (l.getD k tot0).c)
          rw [e]
          exact ⟨HSm.out _ (List.getElem_mem hkl), hcell _ _ (flat_at Tot.cells 3 (fun _ => rfl) l k 0 hkl (by omega))⟩⟩
      have hF0 := fun k hk => (hf k hk).2
      have HF := hid (fun k hk => (hf k hk).1)
      clear hcell hf
      have nA1 : gA ≠ g := R3.ne_full FA (by decide)
      clear FA
      go_wp2_with fail
      go_region_held3 (fun w' => ∀ k, k < n2 → w'.cell? ⟨gA, k * 3, none⟩ = some (.string (f k))) (first | (intro k hk; simp [*]; done) | go_keep)
        (first
          | (go_at_call 22
             refine (pick_any w.heap.size g 89980 (n2 : Int) _ ?_ (by omega) (by omega)).mono ?_
             · exact (R3.drew).less (by omega)
             rintro e w5 ⟨k5, rfl, hk51, hk52, R5, hg5⟩
             have hk53 := hk52 (by omega)
             clear hk52
             have O5 := O3.drew.past hg5 (by omega)
             have G5 := gr_new (gr_drew G3) hg5 hB
             have hk54 : k5 < n2 := by omega
             have hF1 : ∀ k, k < n2 → w5.cell? ⟨gA, k * 3, none⟩ = some (.string (f k)) := fun k hk => World.grownBy.cell hg5 (hF0 k hk) (by simp [blockOf]; omega)))
      all_goals
        have hsz := HF.out k5 hk54
        clear hF0 hF1 hg5
        go_wp2_with fail
        go_ret2
        exact ⟨_, n2, c2, l, f k5, rfl, O5.base_le hs1, HLn.out, hn5, HSm.out, hsz, G5⟩

set_option maxHeartbeats 1000000 in
theorem tf_any (A : Option Addr) (n c : Nat) (l : List Tot) (s : ByteArray) (w : World) (h : Lies w A (l.flatMap Tot.cells)) (hn : l.length = n) (hc : n ≤ c) (hm : c ≤ maxLen) (hsz : ∀ x ∈ l, x.c.size ≤ maxLen) (hs : s.size ≤ maxLen) :
    Calls Try.prog 11 #[.slice A n c, .string s] w (TfTo w (tfV l s) (tfB l s)) := by
  obtain ⟨b, hb⟩ : ∃ b, totsB l = b := ⟨_, rfl⟩
  have e1 := fun w hL => tsv_is A n c l b w hL hn hc hm hsz hb
  have HN := hid hn
  have HB := hid hb
  have R0 := Full.new w 30 #[.string ⟨#[]⟩, .int .i64 0, .int .i64 0]
  have G0 := gr_alloc (gr_refl w none) (.cells #[.string ⟨#[]⟩, .int .i64 0, .int .i64 0] 30)
  unfold maxLen at hm hs
  clear hn hb hsz
  go_enter Try.func11, Try.ntmps11
  go_wp2_with fail
  refine (e1 _ (h.alloc _)).mono ?_
  rintro e w1 ⟨rfl, hg1⟩
  have R_1 := R0.grown hg1 (by simp)
  have G1 := gr_0 G0 hg1
  have L1 := (h.alloc _).grown0 hg1
  clear hg1 R0 G0 e1
  cases b with
  | false =>
    have rc0 := R_1.cellAt 0 rfl
    have rf0 := R_1.free 0
    have rc1 := R_1.cellAt 1 rfl
    have rf1 := R_1.free 1
    have rc2 := R_1.cellAt 2 rfl
    have rf2 := R_1.free 2
    have HO := hid (tfO_no (c := s) HB.out)
    go_wp2_with fail
    refine bodyPost_ret (v := .tuple #[.agg #[.string ⟨#[]⟩, .int .i64 0, .int .i64 0], .bool false]) ?_ rfl ⟨by rw [tfV, tfB, HO.out]; rfl, ?_⟩
    · simp [results, Try.results11, go_sem, rc0, rc1, rc2]
    · repeat (first | refine gr_put ?_ (by omega) _ | exact G1)
  | true =>
    have H1 := hid R_1
    clear R_1
    go_wp2_with fail
    go_loopw [14] (fun i wr => ∃ k : Nat, i = .int .i64 k ∧ k ≤ n ∧ NotTo l s k ∧ Full wr w.heap.size 30 #[.string ⟨#[]⟩, .int .i64 0, .int .i64 0] ∧ w.grownBy wr none ∧ Lies wr A (l.flatMap Tot.cells)) (fun i _ => n - (intOf i).toNat)
    case atStart => exact ⟨0, rfl, by omega, by simp [NotTo], H1.out, G1, L1⟩
    case round =>
      obtain ⟨k, rfl, hkn, hno, hF, hgr, hL⟩ := hrel
      have HNo := hid hno
      clear hno H1 L1 G1
      have hlt0 := hF.lt
      by_cases hlt : k < n
      · have hkl : k < l.length := by rw [HN.out]; exact hlt
        obtain ⟨g, o, rfl, hg, hcell⟩ := hL.open_ (by rw [flat_len Tot.cells 3 (fun _ => rfl)]; omega)
        obtain ⟨ca, cb, cc⟩ := totAt hcell hkl
        have b1 : (0 : Int) ≤ (k : Int) := by omega
        have b2 : (k : Int) < (n : Int) := by omega
        have rc0 := hF.cellAt 0 rfl
        have rf0 := hF.free 0
        have rc1 := hF.cellAt 1 rfl
        have rf1 := hF.free 1
        have rc2 := hF.cellAt 2 rfl
        have rf2 := hF.free 2
        by_cases heq : l[k].c = s
        · have HO := hid (tfO_some HB.out hkl HNo.out heq)
          rw [heq] at ca
          obtain ⟨z, hz⟩ : ∃ z, l[k] = z := ⟨_, rfl⟩
          have HO2 := hid (show tfV l s = z ∧ tfB l s = true by rw [tfV, tfB, HO.out, hz]; exact ⟨rfl, rfl⟩)
          have HC := hid (show z.c = s by rw [← hz]; exact heq)
          rw [hz] at cb cc
          clear HO hz heq
          obtain ⟨zc, zm, zs⟩ := z
          obtain rfl := HC.out
          clear HC
          simp only [] at ca cb cc
          go_wp2_with fail
          refine bodyPost_ret (v := .tuple #[.agg #[.string zc, .int .i64 zm, .int .i64 zs], .bool true]) ?_ rfl ⟨by rw [HO2.out.1, HO2.out.2], ?_⟩
          · have RF := (((hF.set 0 (.string zc)).set 1 (.int .i64 zm)).set 2 (.int .i64 zs)).alloc (.cells #[.string zc, .int .i64 zm, .int .i64 zs] 30)
            have x0 := RF.cellAt 0 rfl
            have x1 := RF.cellAt 1 rfl
            have x2 := RF.cellAt 2 rfl
            simp [results, Try.results11, go_sem, x0, x1, x2]
          · exact gr_alloc (gr_put (gr_put (gr_put hgr (by omega) _) (by omega) _) (by omega) _) _
        · have HS := hid (tfO_step hkl HNo.out heq)
          have hne : (l[k].c.toList == s.toList) = false := by rw [beq_bytes]; exact decide_eq_false heq
          clear heq
          obtain ⟨z, hz⟩ : ∃ z, l[k] = z := ⟨_, rfl⟩
          rw [hz] at ca cb cc hne
          clear hz
          obtain ⟨zc, zm, zs⟩ := z
          simp only [] at ca cb cc hne
          have LF := hid (hF.alloc (.cells #[.string zc, .int .i64 zm, .int .i64 zs] 30))
          have HH := hid hcell
          have LL := hid hL
          clear hcell hL rc0 rc1 rc2 rf0 rf1 rf2 hF
          go_wp2_with fail
          go_roundw
          case rel => exact ⟨k + 1, by go_num, by omega, HS.out, LF.out, gr_alloc hgr _, LL.out.alloc _⟩
          case measure => simp [intOf]; omega
      · have HO := hid (tfO_none (l := l) (c := s) (by have := HNo.out; rw [NotTo, List.take_of_length_le (by rw [HN.out]; omega)] at this; exact this))
        have rc0 := hF.cellAt 0 rfl
        have rf0 := hF.free 0
        have rc1 := hF.cellAt 1 rfl
        have rf1 := hF.free 1
        have rc2 := hF.cellAt 2 rfl
        have rf2 := hF.free 2
        go_wp2_with fail
        refine bodyPost_ret (v := .tuple #[.agg #[.string ⟨#[]⟩, .int .i64 0, .int .i64 0], .bool false]) ?_ rfl ⟨by rw [tfV, tfB, HO.out]; rfl, ?_⟩
        · simp [results, Try.results11, go_sem, rc0, rc1, rc2]
        · repeat (first | refine gr_put ?_ (by omega) _ | exact hgr)
set_option maxHeartbeats 1000000 in
theorem stf_any (A : Option Addr) (n c : Nat) (l : List Tot) (s : ByteArray) (w : World) (h : Lies w A (l.flatMap Tot.cells)) (hn : l.length = n) (hc : n ≤ c) (hm : c ≤ maxLen) (hsz : ∀ x ∈ l, x.c.size ≤ maxLen) (hs : s.size ≤ maxLen) :
    Calls Try.prog 12 #[.slice A n c, .string s] w (TfTo w (tfV l s) (tfB l s)) := by
  obtain ⟨b, hb⟩ : ∃ b, totsB l = b := ⟨_, rfl⟩
  have e1 := fun w hL => stsv_is A n c l b w hL hn hc hm hsz hb
  have HN := hid hn
  have HB := hid hb
  have R0 := Full.new w 30 #[.string ⟨#[]⟩, .int .i64 0, .int .i64 0]
  have G0 := gr_alloc (gr_refl w none) (.cells #[.string ⟨#[]⟩, .int .i64 0, .int .i64 0] 30)
  unfold maxLen at hm hs
  have H1 := hid R0
  clear hn hb hsz R0
  go_enter Try.func12, Try.ntmps12
  go_wp2_with fail
  go_loopw [6] (fun i wr => ∃ k : Nat, i = .int .i64 k ∧ k ≤ n ∧ NotTo l s k ∧ Full wr w.heap.size 30 #[.string ⟨#[]⟩, .int .i64 0, .int .i64 0] ∧ w.grownBy wr none ∧ Lies wr A (l.flatMap Tot.cells)) (fun i _ => n - (intOf i).toNat)
  case atStart => exact ⟨0, rfl, by omega, by simp [NotTo], H1.out, G0, h.alloc _⟩
  case round =>
    obtain ⟨k, rfl, hkn, hno, hF, hgr, hL⟩ := hrel
    have HNo := hid hno
    clear hno H1 h G0
    have hlt0 := hF.lt
    by_cases hlt : k < n
    · go_wp2_with fail
      refine (e1 _ hL).mono ?_
      rintro e w1 ⟨rfl, hg1⟩
      replace hF := hF.grown hg1 (by simp)
      replace hgr := gr_0 hgr hg1
      replace hL := hL.grown0 hg1
      have hlt1 := hF.lt
      clear hg1 e1
      cases b with
      | false =>
        have HO := hid (tfO_no (c := s) HB.out)
        have rc0 := hF.cellAt 0 rfl
        have rf0 := hF.free 0
        have rc1 := hF.cellAt 1 rfl
        have rf1 := hF.free 1
        have rc2 := hF.cellAt 2 rfl
        have rf2 := hF.free 2
        go_wp2_with fail
        refine bodyPost_ret (v := .tuple #[.agg #[.string ⟨#[]⟩, .int .i64 0, .int .i64 0], .bool false]) ?_ rfl ⟨by rw [tfV, tfB, HO.out]; rfl, ?_⟩
        · simp [results, Try.results12, go_sem, rc0, rc1, rc2]
        · repeat (first | refine gr_put ?_ (by omega) _ | exact hgr)
      | true =>
        have hkl : k < l.length := by rw [HN.out]; exact hlt
        obtain ⟨g, o, rfl, hg, hcell⟩ := hL.open_ (by rw [flat_len Tot.cells 3 (fun _ => rfl)]; omega)
        obtain ⟨ca, cb, cc⟩ := totAt hcell hkl
        have b1 : (0 : Int) ≤ (k : Int) := by omega
        have b2 : (k : Int) < (n : Int) := by omega
        have rc0 := hF.cellAt 0 rfl
        have rf0 := hF.free 0
        have rc1 := hF.cellAt 1 rfl
        have rf1 := hF.free 1
        have rc2 := hF.cellAt 2 rfl
        have rf2 := hF.free 2
        by_cases heq : l[k].c = s
        · have HO := hid (tfO_some HB.out hkl HNo.out heq)
          rw [heq] at ca
          obtain ⟨z, hz⟩ : ∃ z, l[k] = z := ⟨_, rfl⟩
          have HO2 := hid (show tfV l s = z ∧ tfB l s = true by rw [tfV, tfB, HO.out, hz]; exact ⟨rfl, rfl⟩)
          have HC := hid (show z.c = s by rw [← hz]; exact heq)
          rw [hz] at cb cc
          clear HO hz heq
          obtain ⟨zc, zm, zs⟩ := z
          obtain rfl := HC.out
          clear HC
          simp only [] at ca cb cc
          go_wp2_with fail
          refine bodyPost_ret (v := .tuple #[.agg #[.string zc, .int .i64 zm, .int .i64 zs], .bool true]) ?_ rfl ⟨by rw [HO2.out.1, HO2.out.2], ?_⟩
          · have RF := (((hF.set 0 (.string zc)).set 1 (.int .i64 zm)).set 2 (.int .i64 zs))
            have x0 := RF.cellAt 0 rfl
            have x1 := RF.cellAt 1 rfl
            have x2 := RF.cellAt 2 rfl
            simp [results, Try.results12, go_sem, x0, x1, x2]
          · exact (gr_put (gr_put (gr_put hgr (by omega) _) (by omega) _) (by omega) _)
        · have HS := hid (tfO_step hkl HNo.out heq)
          have hne : (l[k].c.toList == s.toList) = false := by rw [beq_bytes]; exact decide_eq_false heq
          clear heq
          obtain ⟨z, hz⟩ : ∃ z, l[k] = z := ⟨_, rfl⟩
          rw [hz] at ca cb cc hne
          clear hz
          obtain ⟨zc, zm, zs⟩ := z
          simp only [] at ca cb cc hne
          have LF := hid hF
          have LL := hid hL
          clear hcell hL rc0 rc1 rc2 rf0 rf1 rf2 hF
          go_wp2_with fail
          go_roundw
          case rel => exact ⟨k + 1, by go_num, by omega, HS.out, LF.out, hgr, LL.out⟩
          case measure => simp [intOf]; omega
    · have HO := hid (tfO_none (l := l) (c := s) (by have := HNo.out; rw [NotTo, List.take_of_length_le (by rw [HN.out]; omega)] at this; exact this))
      have rc0 := hF.cellAt 0 rfl
      have rf0 := hF.free 0
      have rc1 := hF.cellAt 1 rfl
      have rf1 := hF.free 1
      have rc2 := hF.cellAt 2 rfl
      have rf2 := hF.free 2
      go_wp2_with fail
      refine bodyPost_ret (v := .tuple #[.agg #[.string ⟨#[]⟩, .int .i64 0, .int .i64 0], .bool false]) ?_ rfl ⟨by rw [tfV, tfB, HO.out]; rfl, ?_⟩
      · simp [results, Try.results12, go_sem, rc0, rc1, rc2]
      · repeat (first | refine gr_put ?_ (by omega) _ | exact hgr)
end Go.Proofs.Ytokhkgimmijoaaa
