/- How many entries two stores have in common at their beginnings: impl.common, spec.l32Common. -/
import Derived.Test.YtnjbpeojadbclaaDoorEnt
import Derived.BigQuiet
import Derived.Deep.QuietTactic
import Derived.Laws.StructEq
namespace Go.Proofs.YtnjbpeojadbclaaDoor
open Go.RowKit

/-- k entries are common, and no more. -/
structure Comm (a b : List En) (k : Nat) : Prop where
  la : k ≤ a.length
  lb : k ≤ b.length
  eq : a.take k = b.take k
  ne : ∀ (h1 : k < a.length) (h2 : k < b.length), a[k] ≠ b[k]
theorem comm_ex : ∀ a b : List En, ∃ k, Comm a b k
  | [], b => ⟨0, by simp, by simp, rfl, fun h => absurd h (by simp)⟩
  | x :: a, [] => ⟨0, by simp, by simp, rfl, fun _ h => absurd h (by simp)⟩
  | x :: a, y :: b => by
    by_cases e : x = y
    · obtain ⟨k, h1, h2, h3, h4⟩ := comm_ex a b
      exact ⟨k + 1, by simp; omega, by simp; omega, by rw [List.take_succ_cons, List.take_succ_cons, e, h3], fun h1 h2 => by simpa using h4 (by simpa using h1) (by simpa using h2)⟩
    · exact ⟨0, by simp, by simp, rfl, fun _ _ => by simpa using e⟩
theorem Comm.at {a b : List En} {k j : Nat} (h : Comm a b k) (hj : j < k) : a[j]'(by have := h.la; omega) = b[j]'(by have := h.lb; omega) := by
  have e := congrArg (fun l : List En => l[j]?) h.eq
  simp only [List.getElem?_take, hj, if_true] at e
  have h1 := h.la
  have h2 := h.lb
  rw [List.getElem?_eq_getElem (by omega), List.getElem?_eq_getElem (by omega)] at e
  exact Option.some.inj e

/-- Two entries that differ. -/
theorem en_neq (x y : En) (h : x ≠ y) (w : World) : (Go.binOp .eql 42 (Value.agg #[.string x.nm, .int .i64 x.ev.id, .string x.ev.kind, .int .i64 x.ev.data]) (Value.agg #[.string y.nm, .int .i64 y.ev.id, .string y.ev.kind, .int .i64 y.ev.data])).run Tryd.prog w = Result.ok (Value.bool false) w := by
  have u1 : Tryd.prog.underlying 9 = some .string := by kernel_rfl
  have u2 : Tryd.prog.underlying 3 = some (.int .i64) := by kernel_rfl
  have ev : ∀ (i j : Int) (k l : ByteArray) (d e : Int) (f : Nat), (Op.equalIn (f + 1 + 1) 40 (.agg #[.int .i64 i, .string k, .int .i64 d]) (.agg #[.int .i64 j, .string l, .int .i64 e])).run Tryd.prog w = .ok ((i == j) && (k.toList == l.toList) && (d == e)) w := by
    intro i j k l d e f
    rw [run_equalIn_struct w (f + 1) _ _ _ (by kernel_rfl) (by kernel_rfl)]
    have hf : (Tryd.prog.fieldsOf 40).toList = [⟨ "Id", 3, 0, false, "", "", 0⟩, ⟨ "Kind", 9, 1, false, "", "", 8⟩, ⟨ "Data", 3, 2, false, "", "", 24⟩] := by kernel_rfl
    rw [hf]
    by_cases q1 : i = j
    · by_cases q2 : (k.toList == l.toList) = true
      · subst q1
        by_cases q3 : d = e
        · simp [Op.eqFields, part, q2, q3, run_equalIn_string _ _ _ _ _ u1, run_equalIn_int _ _ _ _ _ _ _ u2]
        · have q4 : (d == e) = false := by simpa using q3
          simp [Op.eqFields, part, q2, q3, run_equalIn_string _ _ _ _ _ u1, run_equalIn_int _ _ _ _ _ _ _ u2]
      · subst q1
        have q3 : (k.toList == l.toList) = false := by simpa using q2
        simp [Op.eqFields, part, q3, run_equalIn_string _ _ _ _ _ u1, run_equalIn_int _ _ _ _ _ _ _ u2]
    · have q3 : (i == j) = false := by simpa using q1
      simp [Op.eqFields, part, q3, run_equalIn_string _ _ _ _ _ u1, run_equalIn_int _ _ _ _ _ _ _ u2]
  rw [run_eql_struct, run_equalIn_struct w 9999 _ _ _ (by kernel_rfl) (by kernel_rfl)]
  have hf : (Tryd.prog.fieldsOf 42).toList = [⟨ "Name", 9, 0, false, "", "", 0⟩, ⟨ "Event", 40, 1, false, "", "", 16⟩] := by kernel_rfl
  rw [hf]
  obtain ⟨a, ai, ak, ad⟩ := x
  obtain ⟨b, bi, bk, bd⟩ := y
  simp only []
  have pe : ∀ (n : ByteArray) (i : Int) (k : ByteArray) (d : Int), (part 40 #[.string n, .int .i64 i, .string k, .int .i64 d] 1).run Tryd.prog w = .ok (.agg #[.int .i64 i, .string k, .int .i64 d]) w := fun n i k d => by kernel_rfl
  have ps : ∀ (n : ByteArray) (i : Int) (k : ByteArray) (d : Int), (part 9 #[.string n, .int .i64 i, .string k, .int .i64 d] 0).run Tryd.prog w = .ok (.string n) w := fun n i k d => by kernel_rfl
  have ev2 : ∀ (i j : Int) (k l : ByteArray) (d e : Int), (Op.equalIn 9999 40 (.agg #[.int .i64 i, .string k, .int .i64 d]) (.agg #[.int .i64 j, .string l, .int .i64 e])).run Tryd.prog w = .ok ((i == j) && (k.toList == l.toList) && (d == e)) w := fun i j k l d e => ev i j k l d e 9997
  by_cases q1 : a = b
  · subst q1
    have q2 : ((ai == bi) && (ak.toList == bk.toList) && (ad == bd)) = false := by
      rw [Bool.eq_false_iff]
      intro e
      simp only [Bool.and_eq_true, beq_iff_eq] at e
      refine h ?_
      rw [e.1.1, toList_inj e.1.2, e.2]
    simp [Op.eqFields, run_equalIn_string _ _ _ _ _ u1, ps, pe, ev2, q2]
  · have q2 : (a.toList == b.toList) = false := by
      rw [Bool.eq_false_iff]
      intro e
      exact q1 (toList_inj (by simpa using e))
    simp [Op.eqFields, ps, q2, run_equalIn_string _ _ _ _ _ u1]

set_option maxHeartbeats 2000000 in
theorem cm_is (A B : Option Addr) (n cA m cB : Nat) (xs ys : List En) (q : Nat) (w : World) (h : EArg w A n cA xs) (h2 : EArg w B m cB ys) (hq : Comm xs ys q) :
    Calls Tryd.prog 20 #[.slice A n cA, .slice B m cB] w fun e w' => e = .returned (.int .i64 (q : Int)) ∧ w.grownBy w' none := by
  have hc := h.cap
  have hm := h.max
  have hc2 := h2.cap
  have hm2 := h2.max
  unfold maxLen at hm hm2
  have HN := hid h.len
  have HM := hid h2.len
  have HA := hid h
  have HB := hid h2
  have HQ := hid hq
  have hq1 : q ≤ n := by rw [← HN.out]; exact hq.la
  have hq2 : q ≤ m := by rw [← HM.out]; exact hq.lb
  clear h h2 hq
  go_enter Tryd.func20, Tryd.ntmps20
  go_wp2_with fail
  go_loopw [5] (fun i wr => ∃ k : Nat, i = .int .i64 (k : Int) ∧ k ≤ q ∧ w.grownBy wr none) (fun i _ => q - (intOf i).toNat)
  case atStart => exact ⟨0, rfl, by omega, gr_refl _ _⟩
  case round =>
    obtain ⟨k, rfl, hkn, hgr⟩ := hrel
    have p0 : (0 : Int) ≤ (k : Int) := by omega
    by_cases hn : k < n
    · by_cases hm' : k < m
      · have hk1 : k < xs.length := by rw [HN.out]; exact hn
        have hk2 : k < ys.length := by rw [HM.out]; exact hm'
        obtain ⟨g, o, hAe, hgl, hcells⟩ := HA.out.open_ (by omega)
        obtain ⟨g2, o2, hBe, hgl2, hcells2⟩ := HB.out.open_ (by omega)
        have ca := hcells k hk1 wr hgr
        have cb := hcells2 k hk2 wr hgr
        have p1 : (k : Int) < (n : Int) := by omega
        have p2 : (k : Int) < (m : Int) := by omega
        have HEq := hid (fun hlt : k < q => HQ.out.at hlt)
        have HNe := hid (fun heq : k = q => fun e : xs[k] = ys[k] => HQ.out.ne (by omega) (by omega) (by subst heq; exact e))
        obtain ⟨x, hx⟩ : ∃ x, xs[k] = x := ⟨_, rfl⟩
        obtain ⟨y, hy⟩ : ∃ x, ys[k] = x := ⟨_, rfl⟩
        rw [hx] at ca
        rw [hy] at cb
        simp only [hx, hy] at HEq HNe
        subst hAe hBe
        clear hx hy hcells hcells2 hgl hgl2
        by_cases hlt : k < q
        · have e := HEq.out hlt
          subst e
          obtain ⟨nm, ei, ek, ed⟩ := x
          simp only [] at ca cb
          obtain ⟨a0, a1, a2, a3⟩ := ca
          obtain ⟨b0, b1, b2, b3⟩ := cb
          clear HEq HNe
          go_wp2_with fail
          go_quiet (fail)
          go_wp2_with fail
          go_roundw
          case rel => exact ⟨k + 1, by go_num, by omega, gr_drewN hgr _⟩
          case measure => simp [intOf]; omega
        · have hkq : k = q := by omega
          have hne := fun w => en_neq x y (HNe.out hkq) w
          obtain ⟨nm, ei, ek, ed⟩ := x
          obtain ⟨nm2, ei2, ek2, ed2⟩ := y
          simp only [] at ca cb hne
          obtain ⟨a0, a1, a2, a3⟩ := ca
          obtain ⟨b0, b1, b2, b3⟩ := cb
          have HKQ := hid hkq
          clear HEq HNe hkq
          go_wp2_with fail
          go_quiet (fail)
          go_wp2_with fail
          go_ret
          exact ⟨by rw [← HKQ.out]; rfl, gr_drewN hgr _⟩
      · have hkq : k = q := by omega
        have HKQ := hid hkq
        have p1 : (k : Int) < (n : Int) := by omega
        have p2 : ¬ (k : Int) < (m : Int) := by omega
        clear hkq
        go_wp2_with fail
        go_quiet (fail)
        go_wp2_with fail
        go_ret
        exact ⟨by rw [← HKQ.out]; rfl, gr_drewN hgr _⟩
    · have hkq : k = q := by omega
      have HKQ := hid hkq
      have p1 : ¬ (k : Int) < (n : Int) := by omega
      clear hkq
      go_wp2_with fail
      go_quiet (fail)
      go_wp2_with fail
      go_ret
      exact ⟨by rw [← HKQ.out]; rfl, gr_drewN hgr _⟩

set_option maxHeartbeats 2000000 in
theorem scm_is (A B : Option Addr) (n cA m cB : Nat) (xs ys : List En) (q : Nat) (w : World) (h : EArg w A n cA xs) (h2 : EArg w B m cB ys) (hq : Comm xs ys q) :
    Calls Tryd.prog 16 #[.slice A n cA, .slice B m cB] w fun e w' => e = .returned (.int .i64 (q : Int)) ∧ w.grownBy w' none := by
  have hc := h.cap
  have hm := h.max
  have hc2 := h2.cap
  have hm2 := h2.max
  unfold maxLen at hm hm2
  have HN := hid h.len
  have HM := hid h2.len
  have HA := hid h
  have HB := hid h2
  have HQ := hid hq
  have hq1 : q ≤ n := by rw [← HN.out]; exact hq.la
  have hq2 : q ≤ m := by rw [← HM.out]; exact hq.lb
  clear h h2 hq
  go_enter Tryd.func16, Tryd.ntmps16
  go_wp2_with fail
  go_loopw [5] (fun i wr => ∃ k : Nat, i = .int .i64 (k : Int) ∧ k ≤ q ∧ w.grownBy wr none) (fun i _ => q - (intOf i).toNat)
  case atStart => exact ⟨0, rfl, by omega, gr_refl _ _⟩
  case round =>
    obtain ⟨k, rfl, hkn, hgr⟩ := hrel
    have p0 : (0 : Int) ≤ (k : Int) := by omega
    by_cases hn : k < n
    · by_cases hm' : k < m
      · have hk1 : k < xs.length := by rw [HN.out]; exact hn
        have hk2 : k < ys.length := by rw [HM.out]; exact hm'
        obtain ⟨g, o, hAe, hgl, hcells⟩ := HA.out.open_ (by omega)
        obtain ⟨g2, o2, hBe, hgl2, hcells2⟩ := HB.out.open_ (by omega)
        have ca := hcells k hk1 wr hgr
        have cb := hcells2 k hk2 wr hgr
        have p1 : (k : Int) < (n : Int) := by omega
        have p2 : (k : Int) < (m : Int) := by omega
        have HEq := hid (fun hlt : k < q => HQ.out.at hlt)
        have HNe := hid (fun heq : k = q => fun e : xs[k] = ys[k] => HQ.out.ne (by omega) (by omega) (by subst heq; exact e))
        obtain ⟨x, hx⟩ : ∃ x, xs[k] = x := ⟨_, rfl⟩
        obtain ⟨y, hy⟩ : ∃ x, ys[k] = x := ⟨_, rfl⟩
        rw [hx] at ca
        rw [hy] at cb
        simp only [hx, hy] at HEq HNe
        subst hAe hBe
        clear hx hy hcells hcells2 hgl hgl2
        by_cases hlt : k < q
        · have e := HEq.out hlt
          subst e
          obtain ⟨nm, ei, ek, ed⟩ := x
          simp only [] at ca cb
          obtain ⟨a0, a1, a2, a3⟩ := ca
          obtain ⟨b0, b1, b2, b3⟩ := cb
          clear HEq HNe
          go_wp2_with fail
          go_quiet (fail)
          go_wp2_with fail
          go_roundw
          case rel => exact ⟨k + 1, by go_num, by omega, gr_drewN hgr _⟩
          case measure => simp [intOf]; omega
        · have hkq : k = q := by omega
          have hne := fun w => en_neq x y (HNe.out hkq) w
          obtain ⟨nm, ei, ek, ed⟩ := x
          obtain ⟨nm2, ei2, ek2, ed2⟩ := y
          simp only [] at ca cb hne
          obtain ⟨a0, a1, a2, a3⟩ := ca
          obtain ⟨b0, b1, b2, b3⟩ := cb
          have HKQ := hid hkq
          clear HEq HNe hkq
          go_wp2_with fail
          go_quiet (fail)
          go_wp2_with fail
          go_ret
          exact ⟨by rw [← HKQ.out]; rfl, gr_drewN hgr _⟩
      · have hkq : k = q := by omega
        have HKQ := hid hkq
        have p1 : (k : Int) < (n : Int) := by omega
        have p2 : ¬ (k : Int) < (m : Int) := by omega
        clear hkq
        go_wp2_with fail
        go_quiet (fail)
        go_wp2_with fail
        go_ret
        exact ⟨by rw [← HKQ.out]; rfl, gr_drewN hgr _⟩
    · have hkq : k = q := by omega
      have HKQ := hid hkq
      have p1 : ¬ (k : Int) < (n : Int) := by omega
      clear hkq
      go_wp2_with fail
      go_quiet (fail)
      go_wp2_with fail
      go_ret
      exact ⟨by rw [← HKQ.out]; rfl, gr_drewN hgr _⟩
end Go.Proofs.YtnjbpeojadbclaaDoor
