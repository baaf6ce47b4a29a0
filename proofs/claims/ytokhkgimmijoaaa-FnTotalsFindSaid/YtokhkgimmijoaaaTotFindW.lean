/- The walk of FnTotalsFind. -/
import Derived.Test.YtokhkgimmijoaaaTotFind
import Derived.Laws.StructEq
namespace Go.Proofs.Ytokhkgimmijoaaa
open Go.RowKit

/-- Two totals that differ. -/
theorem tot_neq (x y : Tot) (h : x ≠ y) (w : World) : (Go.binOp .eql 30 (Value.agg #[.string x.c, .int .i64 x.m, .int .i64 x.s]) (Value.agg #[.string y.c, .int .i64 y.m, .int .i64 y.s])).run Try.prog w = Result.ok (Value.bool false) w := by
  rw [run_eql_struct, run_equalIn_struct w 9999 _ _ _ (by kernel_rfl) (by kernel_rfl)]
  have hf : (Try.prog.fieldsOf 30).toList = [⟨ "Category", 9, 0, false, "", "", 0⟩, ⟨ "Many", 3, 1, false, "", "", 16⟩, ⟨ "Sum", 3, 2, false, "", "", 24⟩] := by kernel_rfl
  rw [hf]
  have u1 : Try.prog.underlying 9 = some .string := by kernel_rfl
  have u2 : Try.prog.underlying 3 = some (.int .i64) := by kernel_rfl
  obtain ⟨a, b, c⟩ := x
  obtain ⟨a', b', c'⟩ := y
  by_cases q1 : a = a'
  · by_cases q2 : b = b'
    · have q3 : c ≠ c' := fun e => h (by rw [q1, q2, e])
      subst q1 q2
      simp [Op.eqFields, part, q3, run_equalIn_string _ _ _ _ _ u1, run_equalIn_int _ _ _ _ _ _ _ u2]
    · subst q1
      simp [Op.eqFields, part, q2, run_equalIn_string _ _ _ _ _ u1, run_equalIn_int _ _ _ _ _ _ _ u2]
  · simp [Op.eqFields, part, q1, run_equalIn_string _ _ _ _ _ u1, run_equalIn_int _ _ _ _ _ _ _ u2, beq_bytes]
theorem tf_mem {l : List Tot} {s : ByteArray} (h : tfB l s = true) : tfV l s ∈ l ∧ (tfV l s).c = s := by
  unfold tfB tfV at *
  obtain ⟨x, hx⟩ := Option.isSome_iff_exists.1 h
  rw [hx]
  unfold tfO at hx
  split at hx
  · exact ⟨List.mem_of_find?_eq_some hx, by simpa using List.find?_some hx⟩
  · cases hx
theorem tf_small {l : List Tot} (h : TotSmall l) (s : ByteArray) : (tfV l s).c.size ≤ 4 := by
  unfold tfV tfO
  split
  · cases hx : l.find? (fun x => decide (x.c = s)) with
    | none => decide
    | some x => exact h x (List.mem_of_find?_eq_some hx)
  · decide
def SomeTo (l : List Tot) (x : Tot) (k : Nat) (b : Bool) : Prop := b = false → ∀ y ∈ l.take k, y ≠ x
theorem someTo_yes {l : List Tot} {x : Tot} {k : Nat} : SomeTo l x k true := fun h => by cases h
theorem someTo_next {l : List Tot} {x : Tot} {k : Nat} (h : SomeTo l x k false) (hk : k < l.length) (hn : l[k] ≠ x) : SomeTo l x (k + 1) false := by
  intro _
  rw [List.take_succ_eq_append_getElem hk]
  intro y hy
  rcases List.mem_append.1 hy with hy | hy
  · exact h rfl y hy
  · rw [List.mem_singleton.1 hy]; exact hn
theorem someTo_end {l : List Tot} {x : Tot} {k : Nat} {b : Bool} (h : SomeTo l x k b) (hk : l.length ≤ k) (hx : x ∈ l) : b = true := by
  cases b with
  | true => rfl
  | false => exact absurd rfl (h rfl x (by rw [List.take_of_length_le hk]; exact hx))

set_option maxHeartbeats 2000000 in
theorem totalsFind_walk (A : Option Addr) (n c : Nat) (zs : List Int) (w : World) (h : Code w A n c zs) :
    Calls Try.prog 4 #[.slice A n c] w fun e w' => e = .returned (.bool true) ∧ w.grownBy w' none := by
  have hc := h.cap
  have hm := h.max
  unfold maxLen at hm
  by_cases h1 : n > 1048576
  · go_enter Try.func4, Try.ntmps4
    go_wp2
    go_ret
    exact ⟨rfl, gr_refl _ _⟩
  go_enter Try.func4, Try.ntmps4
  go_wp2_with fail
  refine (dtf_any A n c zs _ h).mono ?_
  rintro e w1 ⟨B, N, C, l, s, rfl, hO, hl, hN, hsm, hs, hg1⟩
  have hC := hO.cap
  have hCm := hO.max
  have hks : ∀ x ∈ l, x.c.size ≤ maxLen := fun x hx => by have := hsm x hx; simp only [maxLen]; omega
  have hss : s.size ≤ maxLen := by simp only [maxLen]; omega
  have hLi := hO.lies
  have e1 := tf_any B N C l s w1 hLi hl hC hCm hks hss
  have e2 := fun w hL => stf_any B N C l s w hL hl hC hCm hks hss
  have HL := hid hl
  have HMem := hid (tf_mem (l := l) (s := s))
  have hzz := tf_small hsm s
  unfold maxLen at hCm
  clear hl hsm hks hss hO
  obtain ⟨b, hb⟩ : ∃ b, tfB l s = b := ⟨_, rfl⟩
  obtain ⟨x, hx⟩ : ∃ x, tfV l s = x := ⟨_, rfl⟩
  rw [hb, hx] at e1 e2
  have HB := hid hb
  have HX := hid hx
  rw [hx] at hzz
  clear hb hx
  obtain ⟨xc, xm, xs⟩ := x
  simp only [] at hzz
  go_wp2_with fail
  refine e1.mono ?_
  rintro e w2 ⟨rfl, hg2⟩
  have hL2 := hLi.grown0 hg2
  have G2 := gr_0 hg1 hg2
  have F2 := Full.new w2 30 #[.string xc, .int .i64 xm, .int .i64 xs]
  have hL2b := hL2.alloc (.cells #[.string xc, .int .i64 xm, .int .i64 xs] 30)
  have G2b := gr_alloc G2 (.cells #[.string xc, .int .i64 xm, .int .i64 xs] 30)
  clear e1 hg1 hg2 hLi hL2 G2
  go_wp2_with fail
  refine (e2 _ hL2b).mono ?_
  rintro e w3 ⟨rfl, hg3⟩
  have hL3 := (hL2b.grown0 hg3).alloc (.cells #[.string xc, .int .i64 xm, .int .i64 xs] 30)
  have G3 := gr_alloc (gr_0 G2b hg3) (.cells #[.string xc, .int .i64 xm, .int .i64 xs] 30)
  have F3 := (F2.grown hg3 (by simp)).alloc (.cells #[.string xc, .int .i64 xm, .int .i64 xs] 30)
  clear e2 hg3 hL2b G2b F2
  have c0 := F3.cellAt 0 rfl
  have c1 := F3.cellAt 1 rfl
  have c2 := F3.cellAt 2 rfl
  cases b
  · go_wp2_with fail
    go_ret
    exact ⟨rfl, G3⟩
  have HF3 := hid F3
  clear F3
  go_wp2_with fail
  go_loopw [9, 10] (fun sv i wr => ∃ (k : Nat) (b : Bool), i = .int .i64 k ∧ sv = .bool b ∧ k ≤ N ∧ SomeTo l ⟨xc, xm, xs⟩ k b ∧ Full wr w2.heap.size 30 #[.string xc, .int .i64 xm, .int .i64 xs] ∧ w.grownBy wr none ∧ Lies wr B (l.flatMap Tot.cells)) (fun _ i _ => N - (intOf i).toNat)
  case atStart => exact ⟨0, false, rfl, rfl, by omega, by simp [SomeTo], HF3.out, G3, hL3⟩
  case round =>
    obtain ⟨k, b, rfl, rfl, hkn, hso, hF, hgr, hL⟩ := hrel
    have HS := hid hso
    clear hso HF3 G3 hL3 c0 c1 c2
    have c0 := hF.cellAt 0 rfl
    have c1 := hF.cellAt 1 rfl
    have c2 := hF.cellAt 2 rfl
    have HF := hid hF
    have HLi := hid hL
    by_cases hlt : k < N
    · have hkl : k < l.length := by rw [HL.out]; exact hlt
      obtain ⟨g, o, rfl, hg, hcell⟩ := hL.open_ (by rw [flat_len Tot.cells 3 (fun _ => rfl)]; omega)
      obtain ⟨ca, cb, cc⟩ := totAt hcell hkl
      have b1 : (0 : Int) ≤ (k : Int) := by omega
      have b2 : (k : Int) < (N : Int) := by omega
      clear hcell hF hL
      cases b with
      | true =>
        clear ca cb cc
        go_wp2_with fail
        refine wp_region_quiet_lit (by kernel_rfl) (by kernel_rfl) ?_
        repeat (any_goals (first | go_big_quiet_step (fail) | quiet_step (fail)))
        all_goals (refine wpQuiet_nil ?_; intro _ hw'; obtain ⟨nq, hw''⟩ := hw'; subst hw'')
        go_wp2_with fail
        go_roundw
        case rel => exact ⟨k + 1, true, by go_num, rfl, by omega, someTo_yes, HF.out.drewN _, gr_drewN hgr _, HLi.out.drewN _⟩
        case measure => simp [intOf]; omega
      | false =>
        by_cases heq : l[k] = ⟨xc, xm, xs⟩
        · rw [heq] at ca cb cc
          simp only [] at ca cb cc
          clear heq
          go_wp2_with fail
          go_quiet (fail)
          go_wp2_with fail
          go_roundw
          case rel => exact ⟨k + 1, true, by go_num, by simp, by omega, someTo_yes, HF.out.drewN _, gr_drewN hgr _, HLi.out.drewN _⟩
          case measure => simp [intOf]; omega
        · have HN := hid (someTo_next HS.out hkl heq)
          obtain ⟨z, hz⟩ : ∃ z, l[k] = z := ⟨_, rfl⟩
          rw [hz] at ca cb cc heq
          clear hz
          obtain ⟨zc, zm, zs⟩ := z
          simp only [] at ca cb cc
          have hq := tot_neq ⟨zc, zm, zs⟩ ⟨xc, xm, xs⟩ heq
          clear heq
          go_wp2_with fail
          go_quiet (fail)
          go_wp2_with fail
          go_roundw
          case rel => exact ⟨k + 1, false, by go_num, by simp, by omega, HN.out, HF.out.drewN _, gr_drewN hgr _, HLi.out.drewN _⟩
          case measure => simp [intOf]; omega
    · obtain rfl := someTo_end HS.out (by rw [HL.out]; omega) (by have := (HMem.out HB.out).1; rw [HX.out] at this; exact this)
      have hcs := (HMem.out HB.out).2
      rw [HX.out] at hcs
      obtain rfl : xc = s := hcs
      go_wp2_with fail
      go_ret
      exact ⟨rfl, hgr⟩
end Go.Proofs.Ytokhkgimmijoaaa
