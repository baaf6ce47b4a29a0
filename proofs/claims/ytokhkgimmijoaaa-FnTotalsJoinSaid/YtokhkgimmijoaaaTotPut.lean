/- l16Put: totals with another one added. -/
import Derived.Test.YtokhkgimmijoaaaTotMerge
namespace Go.Proofs.Ytokhkgimmijoaaa
open Go.RowKit

def Bnd (q : Int) (l : List Tot) : Prop := ∀ x ∈ l, 0 ≤ x.m ∧ x.m ≤ q ∧ 0 ≤ x.s ∧ x.s ≤ q
theorem ins_bnd {q r : Int} {t : Tot} {l : List Tot} (h : Bnd q l) (ht : Bnd r [t]) (hr : 0 ≤ q) (hr' : 0 ≤ r) : Bnd (q + r) (insT t l) := by
  have ht := ht t (by simp)
  induction l with
  | nil => intro x hx; rw [insT] at hx; rw [List.mem_singleton.1 hx]; omega
  | cons y l ih =>
    have hy := h y (by simp)
    have hl : Bnd q l := fun x hx => h x (by simp [hx])
    intro x hx
    rw [insT] at hx
    split at hx
    · rcases List.mem_cons.1 hx with rfl | hx
      · simp only [both]; omega
      · have := hl x hx; omega
    · split at hx
      · rcases List.mem_cons.1 hx with rfl | hx
        · omega
        · have := h x hx; omega
      · rcases List.mem_cons.1 hx with rfl | hx
        · omega
        · exact ih hl x hx

structure PtAt (w : World) (t : Tot) (l : List Tot) (A : Option Addr) (k : Nat) (d : Bool) (L : Option Addr) (nL cL : Nat) (out : List Tot) (wr : World) : Prop where
  li : Lies wr A (l.flatMap Tot.cells)
  box : Full wr w.heap.size 30 #[.string t.c, .int .i64 t.m, .int .i64 t.s]
  own : Own wr (w.heap.size + 1) 30 3 L nL cL (out.flatMap Tot.cells)
  no : out.length = nL
  le : nL ≤ 2 * k
  inv : insT t l = out ++ (if d = true then l.drop k else insT t (l.drop k))
  dn : d = true → ∀ x ∈ l.drop k, sl t.c x.c = true
  gr : w.grownBy wr none
section
variable {w wr w2 w3 w4 : World} {t x z : Tot} {l out : List Tot} {A L L3 L4 : Option Addr} {k nL cL cL3 cL4 : Nat} {d d' : Bool} {ob : Obj}
/-- A round that appends one. -/
theorem PtAt.one (h : PtAt w t l A k d L nL cL out wr) (hbA : ∀ g, blockOf A = some g → g < w.heap.size) (hg : wr.grownBy w2 none)
    (hown : Own w3 (w.heap.size + 1) 30 3 L3 (nL + 1) cL3 (out.flatMap Tot.cells ++ z.cells)) (hg3 : w2.grownBy w3 (blockOf L))
    (hi : insT t l = (out ++ [z]) ++ (if d' = true then l.drop (k + 1) else insT t (l.drop (k + 1)))) (hd : d' = true → ∀ x ∈ l.drop (k + 1), sl t.c x.c = true) :
    PtAt w t l A (k + 1) d' L3 (nL + 1) cL3 (out ++ [z]) w3 := by
  have hr := fun g hg => (h.own.block (b := g) hg).1
  have hle := h.le
  exact ⟨(h.li.grown0 hg).app hg3 hbA (fun g hg => Nat.le_of_succ_le (hr g hg)), (h.box.grown hg (by simp)).grown hg3 (fun e => by have := hr _ e.symm; omega), by rw [List.flatMap_append]; simpa [Tot.cells] using hown,
    by rw [List.length_append, h.no]; rfl, by omega, hi, hd, gr_then (gr_0 h.gr hg) hg3 (fun b hb => .inr (Nat.le_of_succ_le (hr b hb)))⟩
/-- A round that appends two. -/
theorem PtAt.two (h : PtAt w t l A k d L nL cL out wr) (hbA : ∀ g, blockOf A = some g → g < w.heap.size) (hg : wr.grownBy w2 none)
    (hown3 : Own w3 (w.heap.size + 1) 30 3 L3 (nL + 1) cL3 (out.flatMap Tot.cells ++ t.cells)) (hg3 : w2.grownBy w3 (blockOf L))
    (hown : Own w4 (w.heap.size + 1) 30 3 L4 (nL + 1 + 1) cL4 (out.flatMap Tot.cells ++ t.cells ++ z.cells)) (hg4 : (w3.alloc ob).grownBy w4 (blockOf L3))
    (hi : insT t l = (out ++ [t] ++ [z]) ++ l.drop (k + 1)) (hd : ∀ x ∈ l.drop (k + 1), sl t.c x.c = true) :
    PtAt w t l A (k + 1) true L4 (nL + 1 + 1) cL4 (out ++ [t] ++ [z]) w4 := by
  have hr := fun g hg => (h.own.block (b := g) hg).1
  have hr3 := fun g hg => (hown3.block (b := g) hg).1
  have hle := h.le
  exact ⟨(((h.li.grown0 hg).app hg3 hbA (fun g hg => Nat.le_of_succ_le (hr g hg))).alloc ob).app hg4 hbA (fun g hg => Nat.le_of_succ_le (hr3 g hg)),
    (((h.box.grown hg (by simp)).grown hg3 (fun e => by have := hr _ e.symm; omega)).alloc ob).grown hg4 (fun e => by have := hr3 _ e.symm; omega),
    by rw [List.flatMap_append, List.flatMap_append]; simpa [Tot.cells] using hown,
    by rw [List.length_append, List.length_append, h.no]; rfl, by omega, hi, fun _ => hd, gr_then (gr_alloc (gr_then (gr_0 h.gr hg) hg3 (fun b hb => .inr (Nat.le_of_succ_le (hr b hb)))) ob) hg4 (fun b hb => .inr (Nat.le_of_succ_le (hr3 b hb)))⟩
end
theorem drop_cons {l : List Tot} {k : Nat} (h : k < l.length) : l.drop k = l[k] :: l.drop (k + 1) := List.drop_eq_getElem_cons h
theorem asc_drop {l : List Tot} (h : ascT l) {k : Nat} (hk : k < l.length) : ∀ y ∈ l.drop (k + 1), sl l[k].c y.c = true := by
  have h1 : ascT (l.drop k) := h.sublist (List.drop_sublist k l)
  rw [drop_cons hk] at h1
  exact (ascT_cons.1 h1).1

set_option maxHeartbeats 4000000 in
theorem put_any (A : Option Addr) (n cA : Nat) (l : List Tot) (t : Tot) (q : Int) (w : World)
    (hA : Lies w A (l.flatMap Tot.cells)) (hn : l.length = n) (hcA : n ≤ cA) (hMA : cA ≤ maxLen) (hbA : ∀ g, blockOf A = some g → g < w.heap.size) (hasc : ascT l) (hb : Bnd q l) (ht : Bnd q [t]) (hq : q ≤ 100000000) (hle : n ≤ 1000) :
    Calls Try.prog 25 #[.slice A n cA, .agg #[.string t.c, .int .i64 t.m, .int .i64 t.s]] w (TlTo w (insT t l)) := by
  have S0 : PtAt w t l A 0 false (some ⟨w.heap.size + 1, 0, none⟩) 0 0 [] ((w.alloc (.cells #[.string t.c, .int .i64 t.m, .int .i64 t.s] 30)).alloc (.cells #[] 30)) :=
    ⟨(hA.alloc _).alloc _, (Full.new _ _ _).alloc _, (Own.litAt (e := 30) (s := 3) (base := w.heap.size + 1) (w.alloc (.cells #[.string t.c, .int .i64 t.m, .int .i64 t.s] 30)) #[] 0 (by simp) (Nat.le_refl _) (by simp [maxLen]) rfl), rfl, by omega, rfl, (fun h => by cases h), gr_alloc (gr_alloc (gr_refl w none) _) _⟩
  have HS0 := hid S0
  have HN := hid hn
  have HAsc := hid hasc
  have HB := hid hb
  have HT := hid ht
  have HbA := hid hbA
  unfold maxLen at hMA
  clear S0 hn hasc hb ht hbA hA
  obtain ⟨tc, tm, ts⟩ := t
  go_enter Try.func25, Try.ntmps25
  go_wp2_with fail
  go_loopw [5, 6, 7] (fun v dv i wr => ∃ (k : Nat) (d : Bool) (L : Option Addr) (nL cL : Nat) (out : List Tot), v = .slice L nL cL ∧ dv = .bool d ∧ i = .int .i64 k ∧ k ≤ n ∧ PtAt w ⟨tc, tm, ts⟩ l A k d L nL cL out wr) (fun _ _ i _ => n - (intOf i).toNat)
  case atStart => exact ⟨0, false, _, _, _, _, rfl, rfl, rfl, by omega, HS0.out⟩
  case round =>
    clear HS0
    obtain ⟨k, d, L, nL, cL, out, rfl, rfl, rfl, hkn, hat⟩ := hrel
    have hle2 := hat.le
    have hsz := hat.gr.size
    have hbl := hat.box.lt
    have t0 := hat.box.cellAt 0 rfl
    have t1 := hat.box.cellAt 1 rfl
    have t2 := hat.box.cellAt 2 rfl
    have hO := hat.own
    have hne : ∀ b, blockOf L = some b → w.heap.size < b := fun b hb => (hO.block hb).1
    have hG := hat.gr
    simp only [] at t0 t1 t2
    have HA := hid hat
    by_cases hlt : k < n
    · have hkl : k < l.length := by rw [HN.out]; exact hlt
      obtain ⟨g, o, rfl, hg, hcell⟩ := hat.li.open_ (by rw [tot_len]; omega)
      obtain ⟨ca, cb, cc⟩ := totAt hcell hkl
      have hinv := hat.inv
      have hdn := hat.dn
      rw [drop_cons hkl] at hinv hdn
      have hasd := asc_drop HAsc.out hkl
      have hzb := HB.out _ (List.getElem_mem hkl)
      have htb := HT.out ⟨tc, tm, ts⟩ (by simp)
      obtain ⟨z, hz⟩ : ∃ z, l[k] = z := ⟨_, rfl⟩
      rw [hz] at ca cb cc hzb hinv hdn hasd
      obtain ⟨zc, zm, zs⟩ := z
      simp only [] at ca cb cc hzb hdn hasd htb
      have b1 : (0 : Int) ≤ (k : Int) := by omega
      have b2 : (k : Int) < (n : Int) := by omega
      have G0 := World.grownBy_alloc wr (.cells #[.string zc, .int .i64 zm, .int .i64 zs] 30) none
      clear hz hcell hat
      rcases sl_tri zc tc with h | h | h
      · have hl : Op.bytesLess zc.toList tc.toList = true := h
        have he : (zc.toList == tc.toList) = false := by rw [beq_bytes]; exact decide_eq_false (sl_ne h)
        cases d with
        | true => exact absurd (hdn rfl _ List.mem_cons_self) (by rw [show sl tc zc = false from sl_not h]; simp)
        | false =>
          have HI := hid (show insT ⟨tc, tm, ts⟩ l = (out ++ [⟨zc, zm, zs⟩]) ++ insT ⟨tc, tm, ts⟩ (l.drop (k + 1)) by
            rw [hinv, if_neg (by simp), insT, if_neg (by exact sl_ne h), if_neg (by rw [show sl tc zc = false from sl_not h]; simp), List.append_assoc]; rfl)
          clear hinv hdn hasd h
          go_wp2_with (at_builtin; refine wpList_push _ rfl (.tmp 50) (.tmp 52) 23 rfl (w.heap.size + 1) 30 Try.underlying23 totInfo rfl (by omega) L nL cL (out.flatMap Tot.cells) rfl ((hO.alloc (.cells #[.string zc, .int .i64 zm, .int .i64 zs] 30)).alloc (.cells #[.string zc, .int .i64 zm, .int .i64 zs] 30)) _ 1 #[.string zc, .int .i64 zm, .int .i64 zs] rfl (Full.newAt (by simp)) rfl (by intro u hu; simp at hu; rcases hu with rfl | rfl | rfl <;> rfl) (by omega) (by omega) (by simp; omega) ?_; intro L3 cL3 w3 hown3 hg3 _)
          have ST := HA.out.one HbA.out (gr_alloc G0 (.cells #[.string zc, .int .i64 zm, .int .i64 zs] 30)) (d' := false) (z := ⟨zc, zm, zs⟩) hown3 hg3 HI.out (fun h => by cases h)
          clear hown3 hg3 hne
          go_wp2_with fail
          go_roundw
          case rel => exact ⟨k + 1, _, _, _, _, _, by go_num, rfl, by go_num, by omega, ST⟩
          case measure => simp [intOf]; omega
      · cases d with
        | true => exact absurd (hdn rfl _ List.mem_cons_self) (by rw [show sl tc zc = false by rw [h]; exact sl_irrefl tc]; simp)
        | false =>
          have he : (zc.toList == tc.toList) = true := by rw [h]; simp
          have HI := hid (show insT ⟨tc, tm, ts⟩ l = (out ++ [⟨zc, zm + tm, zs + ts⟩]) ++ l.drop (k + 1) by
            rw [hinv, if_neg (by simp), insT, if_pos (by exact h), List.append_assoc]; rfl)
          have HD := hid (show ∀ x ∈ l.drop (k + 1), sl tc x.c = true from fun x hx => by rw [← h]; exact hasd x hx)
          clear hinv hdn hasd h
          go_wp2_with (at_builtin; refine wpList_push _ rfl (.tmp 50) (.tmp 52) 23 rfl (w.heap.size + 1) 30 Try.underlying23 totInfo rfl (by omega) L nL cL (out.flatMap Tot.cells) rfl ((hO.alloc (.cells #[.string zc, .int .i64 (zm + tm), .int .i64 (zs + ts)] 30)).alloc (.cells #[.string zc, .int .i64 (zm + tm), .int .i64 (zs + ts)] 30)) _ 1 #[.string zc, .int .i64 (zm + tm), .int .i64 (zs + ts)] rfl (Full.newAt (by simp)) rfl (by intro u hu; simp at hu; rcases hu with rfl | rfl | rfl <;> rfl) (by omega) (by omega) (by simp; omega) ?_; intro L3 cL3 w3 hown3 hg3 _)
          have ST := HA.out.one HbA.out (gr_alloc (World.grownBy_alloc wr (.cells #[.string zc, .int .i64 (zm + tm), .int .i64 (zs + ts)] 30) none) (.cells #[.string zc, .int .i64 (zm + tm), .int .i64 (zs + ts)] 30)) (d' := true) (z := ⟨zc, zm + tm, zs + ts⟩) hown3 hg3 HI.out (fun _ => HD.out)
          clear hown3 hg3 hne
          go_wp2_with fail
          go_roundw
          case rel => exact ⟨k + 1, _, _, _, _, _, by go_num, rfl, by go_num, by omega, ST⟩
          case measure => simp [intOf]; omega
      · have hl : Op.bytesLess zc.toList tc.toList = false := sl_not h
        have he : (zc.toList == tc.toList) = false := by rw [beq_bytes]; exact decide_eq_false (sl_ne h).symm
        have HD := hid (show ∀ x ∈ l.drop (k + 1), sl tc x.c = true from fun x hx => sl_trans h (hasd x hx))
        cases d with
        | true =>
          have HI := hid (show insT ⟨tc, tm, ts⟩ l = (out ++ [⟨zc, zm, zs⟩]) ++ l.drop (k + 1) by
            rw [hinv, if_pos rfl, List.append_assoc]; rfl)
          clear hinv hdn hasd h
          go_wp2_with (at_builtin; refine wpList_push _ rfl (.tmp 50) (.tmp 52) 23 rfl (w.heap.size + 1) 30 Try.underlying23 totInfo rfl (by omega) L nL cL (out.flatMap Tot.cells) rfl ((hO.alloc (.cells #[.string zc, .int .i64 zm, .int .i64 zs] 30)).alloc (.cells #[.string zc, .int .i64 zm, .int .i64 zs] 30)) _ 1 #[.string zc, .int .i64 zm, .int .i64 zs] rfl (Full.newAt (by simp)) rfl (by intro u hu; simp at hu; rcases hu with rfl | rfl | rfl <;> rfl) (by omega) (by omega) (by simp; omega) ?_; intro L3 cL3 w3 hown3 hg3 _)
          have ST := HA.out.one HbA.out (gr_alloc G0 (.cells #[.string zc, .int .i64 zm, .int .i64 zs] 30)) (d' := true) (z := ⟨zc, zm, zs⟩) hown3 hg3 HI.out (fun _ => HD.out)
          clear hown3 hg3 hne
          go_wp2_with fail
          go_roundw
          case rel => exact ⟨k + 1, _, _, _, _, _, by go_num, rfl, by go_num, by omega, ST⟩
          case measure => simp [intOf]; omega
        | false =>
          have HI := hid (show insT ⟨tc, tm, ts⟩ l = (out ++ [⟨tc, tm, ts⟩] ++ [⟨zc, zm, zs⟩]) ++ l.drop (k + 1) by
            rw [hinv, if_neg (by simp), insT, if_neg (by exact (sl_ne h).symm), if_pos (by exact h), List.append_assoc, List.append_assoc]; rfl)
          clear hinv hdn hasd h
          have E0 := (Full.new wr 30 #[.string zc, .int .i64 zm, .int .i64 zs]).alloc (.cells #[.string tc, .int .i64 tm, .int .i64 ts] 30)
          go_wp2_with (first
            | (at_builtin; refine wpList_push _ rfl (.tmp 46) (.tmp 48) 23 rfl (w.heap.size + 1) 30 Try.underlying23 totInfo rfl (by omega) L nL cL (out.flatMap Tot.cells) rfl ((hO.alloc (.cells #[.string zc, .int .i64 zm, .int .i64 zs] 30)).alloc (.cells #[.string tc, .int .i64 tm, .int .i64 ts] 30)) _ 1 #[.string tc, .int .i64 tm, .int .i64 ts] rfl (Full.newAt (by simp)) rfl (by intro u hu; simp at hu; rcases hu with rfl | rfl | rfl <;> rfl) (by omega) (by omega) (by simp; omega) ?_; intro L3 cL3 w3 hown3 hg3 _; have hb3 := fun b hb => (hown3.block (b := b) hb).1; have E3 := E0.grown hg3 (fun e => by have := (hO.block e.symm).2; omega); have z0 := E3.cellAt 0 rfl; have z1 := E3.cellAt 1 rfl; have z2 := E3.cellAt 2 rfl; have hs3 := hg3.size; simp at hs3)
            | (at_builtin; refine wpList_push _ rfl (.tmp 50) (.tmp 52) 23 rfl (w.heap.size + 1) 30 Try.underlying23 totInfo rfl (by omega) L3 (nL + 1) cL3 (out.flatMap Tot.cells ++ [.string tc, .int .i64 tm, .int .i64 ts]) rfl (hown3.alloc (.cells #[.string zc, .int .i64 zm, .int .i64 zs] 30)) _ 1 #[.string zc, .int .i64 zm, .int .i64 zs] rfl (Full.newAt (by simp)) rfl (by intro u hu; simp at hu; rcases hu with rfl | rfl | rfl <;> rfl) (by omega) (by omega) (by simp; omega) ?_; intro L4 cL4 w4 hown4 hg4 _))
          have ST := HA.out.two HbA.out (gr_alloc G0 (.cells #[.string tc, .int .i64 tm, .int .i64 ts] 30)) (z := ⟨zc, zm, zs⟩) hown3 hg3 hown4 hg4 HI.out HD.out
          clear hown3 hg3 hown4 hg4 hne E0 E3 z0 z1 z2 hb3 hs3
          go_wp2_with fail
          go_roundw
          case rel => exact ⟨k + 1, _, _, _, _, _, by go_num, rfl, by go_num, by omega, ST⟩
          case measure => simp [intOf]; omega
    · have hd0 : l.drop k = [] := List.drop_eq_nil_of_le (by rw [HN.out]; omega)
      have hinv := hat.inv
      rw [hd0] at hinv
      have hno := hat.no
      cases d with
      | true =>
        have HI := hid (show insT ⟨tc, tm, ts⟩ l = out by rw [hinv]; simp)
        have HNo := hid hno
        clear hinv hd0 hat hno hne
        go_wp2_with fail
        go_ret
        exact ⟨L, nL, cL, rfl, by rw [HI.out]; exact hO.base_le (Nat.le_succ _), by rw [HI.out]; exact HNo.out, hG⟩
      | false =>
        have HI := hid (show insT ⟨tc, tm, ts⟩ l = out ++ [⟨tc, tm, ts⟩] by rw [hinv]; simp [insT])
        have HNo := hid hno
        clear hinv hd0 hat hno hne
        go_wp2_with (at_builtin; refine wpList_push _ rfl (.tmp 56) (.tmp 58) 23 rfl (w.heap.size + 1) 30 Try.underlying23 totInfo rfl (by omega) L nL cL (out.flatMap Tot.cells) rfl (hO.alloc (.cells #[.string tc, .int .i64 tm, .int .i64 ts] 30)) _ 1 #[.string tc, .int .i64 tm, .int .i64 ts] rfl (Full.newAt (by simp)) rfl (by intro u hu; simp at hu; rcases hu with rfl | rfl | rfl <;> rfl) (by omega) (by omega) (by simp; omega) ?_; intro L3 cL3 w3 hown3 hg3 _)
        go_ret
        exact ⟨L3, nL + 1, cL3, rfl, by rw [HI.out, List.flatMap_append]; exact hown3.base_le (Nat.le_succ _), by rw [HI.out, List.length_append, HNo.out]; rfl, gr_then (gr_alloc hG _) hg3 (fun b hb => .inr (Nat.le_of_succ_le (hO.block hb).1))⟩
end Go.Proofs.Ytokhkgimmijoaaa
