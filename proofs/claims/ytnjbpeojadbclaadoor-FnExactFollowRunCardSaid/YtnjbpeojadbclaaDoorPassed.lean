/- impl.passed: entries behind others, passed on through a channel with room for all of them. -/
import Derived.Test.YtnjbpeojadbclaaDoorEnt
import Derived.Test.YtnjbpeojadbclaaDoorApp
import Derived.Test.YtnjbpeojadbclaaDoorLone
import Derived.Laws.MakeOwn
namespace Go.Proofs.YtnjbpeojadbclaaDoor
open Go.RowKit Go.Conc

theorem entInfo : (Tryd.prog.info? 42).map (fun i => (i.zero, i.size, i.bytes)) = some (some (.agg #[.string ⟨#[]⟩, .int .i64 0, .string ⟨#[]⟩, .int .i64 0]), 4, 48) := by kernel_rfl
theorem mkChan (w : World) (n : Nat) (hn : n ≤ 1000) : (Instr.makeChan 59 (.int .i64 (n : Int))).run Tryd.prog w = .ok (.chan (some w.heap.size)) (w.alloc (.chan n #[] false 0 0 false)) := by
  have hb0 : (Tryd.prog.info? 42).map (·.bytes) = some 48 := by kernel_rfl
  obtain ⟨i, hi, hb⟩ := Option.map_eq_some_iff.1 hb0
  exact run_makeChan (P := Tryd.prog) (w := w) Tryd.underlying59 hi .i64 n (by omega) (by rw [hb]; omega)

/-- Entries as values. -/
def evals (es : List En) : Array Value := (es.map En.val).toArray
theorem evals_size (es : List En) : (evals es).size = es.length := by simp [evals]
theorem chan_lt {w : World} {c : Nat} {o : Obj} (h : w.heap[c]? = some o) : c < w.heap.size := by
  rcases Nat.lt_or_ge c w.heap.size with h1 | h1
  · exact h1
  · rw [Array.getElem?_eq_none h1] at h
    cases h
theorem evals_next {es : List En} {k : Nat} (h : k < es.length) : evals (es.take (k + 1)) = (evals (es.take k)).push es[k].val := by
  rw [evals, evals, List.take_succ_eq_append_getElem h, List.map_append]
  simp
theorem gr_setChan {a w : World} {row : Option Nat} (h : a.grownBy w row) {c : Nat} (hc : a.heap.size ≤ c) (cap : Nat) (buf : Array Value) (cl : Bool) (s r : Nat) (tm : Bool) : a.grownBy (w.setChan c cap buf cl s r tm) row :=
  ⟨h.os, h.tape, h.output, by simp only [World.setChan, Array.size_setIfInBounds]; exact h.size, fun i hi hne => by
    simp only [World.setChan]
    rw [Array.getElem?_setIfInBounds_ne (by omega)]
    exact h.block i hi hne⟩
theorem gr_setChanRow (w : World) (c cap : Nat) (buf : Array Value) (cl : Bool) (s r : Nat) (tm : Bool) : w.grownBy (w.setChan c cap buf cl s r tm) (some c) :=
  ⟨rfl, rfl, rfl, by simp [World.setChan], fun i _ hne => by
    simp only [World.setChan]
    rw [Array.getElem?_setIfInBounds_ne (fun e => hne (by rw [e]))]⟩
theorem own_not_chan {w : World} {base : Nat} {e : TypeId} {s n c g cap sn r : Nat} {A : Option Addr} {xs : List Value} {buf : Array Value} {cl tm : Bool} (h : Own w base e s A n c xs) (hc : w.heap[g]? = some (.chan cap buf cl sn r tm)) : ∀ b, blockOf A = some b → b ≠ g := by
  rintro b hb rfl
  rcases h.2 with ⟨hv, _⟩ | ⟨g', cap', cur, hv, _, hF, _⟩
  · injection hv with e1
    subst e1
    cases hb
  · injection hv with e1
    subst e1
    injection hb with hb
    have hb : g' = b := hb
    subst hb
    rw [hF] at hc
    cases hc
theorem evals_drop {es : List En} {k : Nat} (h : k < es.length) : (evals (es.drop k)).getD 0 undef = es[k].val ∧ (evals (es.drop k)).extract 1 (evals (es.drop k)).size = evals (es.drop (k + 1)) ∧ 0 < (evals (es.drop k)).size := by
  rw [evals, List.drop_eq_getElem_cons h, List.map_cons]
  refine ⟨by simp, ?_, by simp⟩
  apply Array.toList_inj.1
  simp [evals]
  rw [List.take_of_length_le (by simp)]
theorem own_far {A : Option Addr} {g : Nat} (h : ∀ b, blockOf A = some b → b ≠ g) : blockOf A = none ∨ blockOf A ≠ some g := .inr (fun e => h g e rfl)
/-- How much lies in a channel. -/
def chanLeft (w : World) (c : Nat) : Nat :=
  match w.heap[c]? with
  | some (.chan _ buf _ _ _ _) => buf.size
  | _ => 0
theorem lit_lies (w : World) (o : Obj) (t : TypeId) (e : En) : Lies ((w.alloc o).alloc (.cells #[.string e.nm, .int .i64 e.ev.id, .string e.ev.kind, .int .i64 e.ev.data] t)) (some ⟨w.heap.size + 1, 0, none⟩) (ecells [e]) := by
  refine .inr ⟨w.heap.size + 1, 0, rfl, fun j u hu => ?_⟩
  have hF : Full ((w.alloc o).alloc (.cells #[.string e.nm, .int .i64 e.ev.id, .string e.ev.kind, .int .i64 e.ev.data] t)) (w.heap.size + 1) t #[.string e.nm, .int .i64 e.ev.id, .string e.ev.kind, .int .i64 e.ev.data] := Full.newAt (by simp)
  rw [Nat.zero_add, hF.cell j, ← hu]
  simp [ecells, En.cells]
theorem zeroEnt : ∀ w : World, (zeroValue 42).run Tryd.prog w = .ok (.agg #[.string ⟨#[]⟩, .int .i64 0, .string ⟨#[]⟩, .int .i64 0]) w := fun w => by kernel_rfl
def PassEnds (w : World) (es : List En) (e : Ending) (w' : World) : Prop :=
  ∃ (A' : Option Addr) (n' c' : Nat), e = .returned (.slice A' n' c') ∧ Own w' w.heap.size 42 4 A' n' c' (ecells es) ∧ es.length = n' ∧ w.grownBy w' none

set_option maxHeartbeats 4000000 in
set_option maxRecDepth 100000 in
theorem pass_is (A B : Option Addr) (n cA m cB : Nat) (xs ys : List En) (w : World) (h : EArg w A n cA xs) (h2 : EArg w B m cB ys) (hn : n ≤ 1000) (hm : m ≤ 1000) :
    Calls Tryd.prog 19 #[.slice A n cA, .slice B m cB] w (PassEnds w (xs ++ ys)) := by
  have hc := h.cap
  have hmx := h.max
  have hc2 := h2.cap
  have hmx2 := h2.max
  unfold maxLen at hmx hmx2
  have HN := hid h.len
  have HM := hid h2.len
  have HA := hid h
  have HB := hid h2
  have mc := fun w => mkChan w m hm
  clear h h2
  refine calls_of_WpN Tryd.func19 rfl (fun w => by rintro ⟨_, _, _, h, _⟩; cases h) ?_
  simp only [Tryd.ntmps19, List.size_toArray, List.length_cons, List.length_nil, Nat.reduceAdd, Nat.reduceSub, Array.replicate_succ, Array.replicate_zero, List.push_toArray, List.append_toArray, List.nil_append, List.cons_append]
  refine WpN.seq fun K hK => ?_
  go_wp2_with fail
  refine WpN.seq fun K hK => ?_
  go_wp2_with fail
  refine WpN.seqK fun K hK => ?_
  refine WpN.seq fun K2 hK2 => ?_
  go_wp2_with fail
  refine WpN.block ?_
  refine WpN.loop (fun a' w' => ∃ (k : Nat) (u7 u16 u17 u18 u19 u20 u21 : Value), k ≤ m ∧ w'.heap[w.heap.size]? = some (.chan m (evals (ys.take k)) false k 0 false) ∧ w.grownBy w' none ∧ a' = ⟨#[.slice A n cA, .slice B m cB, undef, undef, .slice none 0 0, .chan (some w.heap.size), undef, u7, undef, undef, .slice B m cB, .int .i64 (m : Int), .chan (some w.heap.size), .slice B m cB, .int .i64 (m : Int), .int .i64 (k : Int), u16, u17, u18, u19, u20, u21, undef, undef, undef, undef, undef, undef, undef, undef, undef, undef, undef, undef, undef, undef, undef, undef, undef, undef], []⟩) (fun a' _ => m - (intOf (a'.tmps.getD 15 undef)).toNat) ⟨0, _, _, _, _, _, _, _, by omega, heap_alloc_new w _, gr_alloc (gr_refl w _) _, rfl⟩ ?r1
  case r1 =>
    rintro a' w' ⟨k, u7, u16, u17, u18, u19, u20, u21, hk, hch, hgr, rfl⟩
    have HCh := hid hch
    by_cases hlt : k < m
    · have hkl : k < ys.length := by rw [HM.out]; exact hlt
      obtain ⟨g, o, hBe, hgl, hcells⟩ := HB.out.open_ (by omega)
      have cc := hcells k hkl w' hgr
      obtain ⟨x, hx⟩ : ∃ x, ys[k] = x := ⟨_, rfl⟩
      rw [hx] at cc
      obtain ⟨nm, ei, ek, ed⟩ := x
      simp only [] at cc
      obtain ⟨c0, c1, c2, c3⟩ := cc
      have HX := hid hx
      have b1 : (0 : Int) ≤ (k : Int) := by omega
      have b2 : (k : Int) < (m : Int) := by omega
      subst hBe
      clear hx hcells hgl hch
      refine WpN.seq fun K1 hK1 => ?_
      go_wp2_with fail
      refine WpN.seq fun K2 hK2 => ?_
      go_wp2_with fail
      refine WpN.seqK fun K3 hK3 => ?_
      refine WpN.block ?_
      refine WpN.seq fun K4 hK4 => ?_
      go_wp2_with fail
      have E1 := Full.new w' 42 #[.string nm, .int .i64 ei, .string ek, .int .i64 ed]
      have k0 := E1.cellAt 0 rfl
      have k1 := E1.cellAt 1 rfl
      have k2 := E1.cellAt 2 rfl
      have k3 := E1.cellAt 3 rfl
      have hlw : w.heap.size < w'.heap.size := chan_lt HCh.out
      refine WpN.region ?_
      show OpsN _ _ _ [0, 1, 2] _ _
      refine OpsN.oper rfl rfl (fun K5 hK5 => ?_)
      have uv := fun o a v w' => uponN_value o a K5 v w'
      go_simp
      refine hK5 _ _ ?_
      clear hK5 uv K5
      refine OpsN.oper rfl rfl (fun K5 hK5 => ?_)
      have uv := fun o a v w' => uponN_value o a K5 v w'
      go_simp
      refine hK5 _ _ ?_
      clear hK5 uv K5
      refine OpsN.send (c := w.heap.size) (v := .agg #[.string nm, .int .i64 ei, .string ek, .int .i64 ed]) (z := .tuple #[]) (cap := m) (buf := evals (ys.take k)) (s := k) (r := 0) (tm := false) rfl rfl (by simp [go_sem, execOp, scase, Act.eval]) ((Below.heap_alloc _ _ _ hlw).trans HCh.out) (by rw [evals_size, List.length_take, HM.out]; omega) ?_
      refine OpsN.nil ?_
      have HB2 := hid (show (evals (ys.take k)).push (.agg #[.string nm, .int .i64 ei, .string ek, .int .i64 ed]) = evals (ys.take (k + 1)) by rw [evals_next hkl, HX.out]; rfl)
      show K3 _ _
      refine hK3 _ _ ?_
      simp only [List.getElem_toArray, List.getElem_cons_zero, List.getElem_cons_succ, Act.put]
      clear hK3 K3
      refine WpN.of ?_
      go_wp2_with fail
      refine ⟨⟨k + 1, by omega, ?_, gr_setChan (gr_alloc hgr _) (Nat.le_refl _) _ _ _ _ _ _, _, _, _, _, _, _, _, by go_num⟩, by simp [intOf]; omega⟩
      rw [← HB2.out]
      exact heap_setChan _ _ _ _ _ _ _ _ (by simp; omega)
    · obtain rfl : m = k := by omega
      have b2 : ¬ (m : Int) < (m : Int) := by omega
      clear hch
      refine WpN.seq fun K1 hK1 => ?_
      go_wp2_with fail
      refine WpN.seq fun K2 hK2 => ?_
      go_wp2_with fail
      have hch2 : w'.heap[w.heap.size]? = some (.chan m (evals ys) false m 0 false) := by
        have h1 := HCh.out
        rwa [List.take_of_length_le (by rw [HM.out]; omega)] at h1
      have hcl : ∀ (ats : Array TypeId) (ty : TypeId), (Builtin.close_ ats ty #[.chan (some w.heap.size)]).run Tryd.prog w' = .ok (.tuple #[]) (w'.setChan w.heap.size m (evals ys) true m 0 false) := fun ats ty => run_close_open ats ty hch2
      have HC2 := hid hch2
      clear hch2 HCh
      refine WpN.seq fun K3 hK3 => ?_
      go_wp2_with fail
      obtain ⟨wc, hwc⟩ : ∃ wc, w'.setChan w.heap.size m (evals ys) true m 0 false = wc := ⟨_, rfl⟩
      rw [hwc]
      have HCc := hid (show wc.heap[w.heap.size]? = some (.chan m (evals ys) true m 0 false) by rw [← hwc]; exact heap_setChan _ _ _ _ _ _ _ _ (chan_lt HC2.out))
      have gc : w.grownBy wc none := by rw [← hwc]; exact gr_setChan hgr (Nat.le_refl _) _ _ _ _ _ _
      have HN3 := HN
      clear hwc hcl HC2 hgr
      obtain ⟨i0, hi, hz0, hz1, hz2⟩ := info_parts entInfo
      obtain ⟨wm, hmk, hOm, hgm⟩ := run_make_own (P := Tryd.prog) wc w.heap.size 24 42 i0 _ 4 Tryd.underlying24 hi hz0 hz1 .i64 .i64 (n + m) (by rw [hz2]; omega) (by simp only [maxLen]; omega) gc.size
      rw [Int.natCast_add] at hmk
      have Gm := gr_0 gc hgm
      have LA := HA.out.li.grown0 Gm
      have hlen : (ecells xs).length = n * 4 := by rw [ecells_len, HN.out]
      have s1 := gc.size
      have s2 := hgm.size
      have i1 : IntKind.i64.wrap ((n : Int) + (m : Int)) = (n : Int) + (m : Int) := IntWalk.i64_in _ (by omega)
      have HCm := hid ((hgm.block _ (chan_lt HCc.out) (by simp)).trans HCc.out)
      clear hi hz0 hz1 hz2 hgm i0
      refine WpN.seq fun K4 hK4 => ?_
      go_wp2_with (at_builtin; refine wpList_app _ rfl _ _ 24 rfl w.heap.size 42 Tryd.underlying24 entInfo rfl (by omega) (some ⟨wc.heap.size, 0, none⟩) 0 (n + m) [] rfl hOm A n cA (ecells xs) rfl LA hlen (ecells_one _) (by omega) (by omega) (by omega) ?_; intro A5 c5 w5 hown5 hg5 _)
      rw [Nat.zero_add, List.nil_append] at hown5
      have hb5 : ∀ b, blockOf (some ⟨wc.heap.size, 0, none⟩) = some b → b = wc.heap.size := fun b hb => by injection hb with hb; exact hb.symm
      have G5 : w.grownBy w5 none := gr_then Gm hg5 (fun b hb => .inr (by rw [hb5 b hb]; exact s1))
      have HC5 := hid ((hg5.block _ (chan_lt HCm.out) (fun e => by have h1 := hb5 _ e.symm; have h2 := chan_lt HCc.out; omega)).trans HCm.out)
      clear hg5 hb5 Gm gc LA hmk hOm
      refine WpN.seqK fun K5 hK5 => ?_
      refine WpN.seq fun K6 hK6 => ?_
      go_wp2_with fail
      refine WpN.block ?_
      refine WpN.loop (fun a' w' => ∃ (k : Nat) (A2 : Option Addr) (c2 : Nat) (v9 v32 v33 v34 v35 v36 v37 v38 : Value), k ≤ m ∧ w'.heap[w.heap.size]? = some (.chan m (evals (ys.drop k)) true m k false) ∧ Own w' w.heap.size 42 4 A2 (n + k) c2 (ecells (xs ++ ys.take k)) ∧ w.grownBy w' none ∧ a' = ⟨#[.slice A n cA, .slice B m cB, undef, undef, .slice none 0 0, .chan (some w.heap.size), undef, u7, .slice A2 (n + k) c2, v9, .slice B m cB, .int .i64 (m : Int), .chan (some w.heap.size), .slice B m cB, .int .i64 (m : Int), .int .i64 (m : Int), .bool false, u17, u18, u19, u20, u21, .chan (some w.heap.size), .slice A n cA, .int .i64 (n : Int), .slice B m cB, .int .i64 (m : Int), .int .i64 ((n : Int) + (m : Int)), .slice (some ⟨wc.heap.size, 0, none⟩) 0 (n + m), .slice A n cA, .slice A5 n c5, .chan (some w.heap.size), v32, v33, v34, v35, v36, v37, v38, undef], []⟩) (fun _ w' => chanLeft w' w.heap.size) ⟨0, A5, c5, _, _, _, _, _, _, _, _, by omega, by simpa using HC5.out, by simpa using hown5, G5, rfl⟩ ?r2
      case r2 =>
        rintro a' w2 ⟨k, A2, c2, v9, v32, v33, v34, v35, v36, v37, v38, hk2, hch, hown, hgr2, rfl⟩
        by_cases hlt2 : k < m
        · have hkl : k < ys.length := by rw [HM.out]; exact hlt2
          obtain ⟨d1, d2, d3⟩ := evals_drop hkl
          have HNx := hid (show ecells (xs ++ ys.take k) ++ ecells [ys[k]] = ecells (xs ++ ys.take (k + 1)) by rw [← ecells_app, List.append_assoc, List.take_succ_eq_append_getElem hkl])
          have HD := hid d2
          obtain ⟨x, hx⟩ : ∃ x, ys[k] = x := ⟨_, rfl⟩
          rw [hx] at d1 HNx
          obtain ⟨nm, ei, ek, ed⟩ := x
          simp only [En.val] at d1
          clear hx
          refine WpN.seqK fun K7 hK7 => ?_
          refine WpN.region ?_
          show OpsN _ _ _ [0, 1] _ _
          refine OpsN.recv true (c := w.heap.size) (z := .agg #[.string ⟨#[]⟩, .int .i64 0, .string ⟨#[]⟩, .int .i64 0]) (cap := m) (buf := evals (ys.drop k)) (closed := true) (s := m) (r := k) (tm := false) rfl rfl (by simp [go_sem, execOp, rcase, Act.eval, zeroEnt]) hch d3 ?_
          rw [d1, d2]
          simp only [List.getElem_toArray, List.getElem_cons_zero, List.getElem_cons_succ, Act.put, List.setIfInBounds_toArray, List.set_cons_zero, List.set_cons_succ, got, if_true]
          refine OpsN.oper rfl rfl (fun K8 hK8 => ?_)
          have uv := fun o a v w' => uponN_value o a K8 v w'
          go_simp
          refine hK8 _ _ ?_
          clear hK8 uv K8
          refine OpsN.nil ?_
          show K7 _ _
          refine hK7 _ _ ?_
          simp only [List.getElem_toArray, List.getElem_cons_zero, List.getElem_cons_succ, Act.put, List.setIfInBounds_toArray, List.set_cons_zero, List.set_cons_succ, got, if_true]
          obtain ⟨w3, hw3⟩ : ∃ w3, w2.setChan w.heap.size m (evals (ys.drop (k + 1))) true m (k + 1) false = w3 := ⟨_, rfl⟩
          rw [hw3]
          have G3 : w.grownBy w3 none := by rw [← hw3]; exact gr_setChan hgr2 (Nat.le_refl _) _ _ _ _ _ _
          have HC3 := hid (show w3.heap[w.heap.size]? = some (.chan m (evals (ys.drop (k + 1))) true m (k + 1) false) by rw [← hw3]; exact heap_setChan _ _ _ _ _ _ _ _ (chan_lt hch))
          have hown3 : Own w3 w.heap.size 42 4 A2 (n + k) c2 (ecells (xs ++ ys.take k)) := by
            rw [← hw3]
            exact World.ownsRow.kept hown (gr_setChanRow _ _ _ _ _ _ _ _) (by rw [own_block]; exact own_far (own_not_chan hown hch))
          have HL0 := hid (show chanLeft w2 w.heap.size = (evals (ys.drop k)).size by rw [chanLeft, hch])
          have HLt := hid (show (evals (ys.drop (k + 1))).size < (evals (ys.drop k)).size by rw [evals_size, evals_size, List.length_drop, List.length_drop]; omega)
          clear hw3 hK7 K7 hown hch hgr2 d1 d2 d3
          have s3 := G3.size
          have E3 := Full.new w3 42 #[.string nm, .int .i64 ei, .string ek, .int .i64 ed]
          have q0 := E3.cellAt 0 rfl
          have q1 := E3.cellAt 1 rfl
          have q2 := E3.cellAt 2 rfl
          have q3 := E3.cellAt 3 rfl
          refine WpN.seq fun K7 hK7 => ?_
          go_wp2_with fail
          refine WpN.of ?_
          go_wp2_with (at_builtin; refine wpList_app _ rfl _ _ 24 rfl w.heap.size 42 Tryd.underlying24 entInfo rfl (by omega) A2 (n + k) c2 (ecells (xs ++ ys.take k)) rfl ((hown3.alloc (.cells #[.string nm, .int .i64 ei, .string ek, .int .i64 ed] 42)).alloc (.cells #[.string nm, .int .i64 ei, .string ek, .int .i64 ed] 42)) (some ⟨w3.heap.size + 1, 0, none⟩) 1 1 (ecells [⟨nm, ei, ek, ed⟩]) rfl (lit_lies w3 _ _ _) rfl (ecells_one _) (by omega) (by omega) (by simp; omega) ?_; intro A7 c7 w7 hown7 hg7 _)
          rw [HNx.out] at hown7
          have hB7 : ∀ b, blockOf A2 = some b → w.heap.size ≤ b := fun b hb => (hown3.block hb).1
          have G7 : w.grownBy w7 none := gr_then (gr_alloc (gr_alloc G3 _) _) hg7 (fun b hb => .inr (hB7 b hb))
          have C7 : w7.heap[w.heap.size]? = some (.chan m (evals (ys.drop (k + 1))) true m (k + 1) false) := by
            have hlt3 := chan_lt HC3.out
            refine (hg7.block _ (by simp; omega) (fun e => own_not_chan hown3 HC3.out _ e.symm rfl)).trans ?_
            rw [Below.heap_alloc _ _ _ (by simp; omega), Below.heap_alloc _ _ _ hlt3]
            exact HC3.out
          refine ⟨⟨k + 1, A7, c7, _, _, _, _, _, _, _, _, by omega, C7, hown7, G7, rfl⟩, ?_⟩
          rw [HL0.out, chanLeft, C7]
          exact HLt.out
        · obtain rfl : m = k := by omega
          have hd : evals (ys.drop m) = #[] := by rw [List.drop_of_length_le (by rw [HM.out]; omega)]; rfl
          rw [hd] at hch
          have ht : ys.take m = ys := List.take_of_length_le (by rw [HM.out]; omega)
          rw [ht] at hown
          have HOw := hid hown
          clear hd ht hown
          refine WpN.seqK fun K7 hK7 => ?_
          refine WpN.region ?_
          show OpsN _ _ _ [0, 1] _ _
          refine OpsN.recvShut true (c := w.heap.size) (z := .agg #[.string ⟨#[]⟩, .int .i64 0, .string ⟨#[]⟩, .int .i64 0]) (cap := m) (s := m) (r := m) (tm := false) rfl rfl (by simp [go_sem, execOp, rcase, Act.eval, zeroEnt]) hch ?_
          simp only [List.getElem_toArray, List.getElem_cons_zero, List.getElem_cons_succ, Act.put, List.setIfInBounds_toArray, List.set_cons_zero, List.set_cons_succ, got, if_true]
          refine OpsN.oper rfl rfl (fun K8 hK8 => ?_)
          have uv := fun o a v w' => uponN_value o a K8 v w'
          go_simp
          refine hK8 _ _ ?_
          clear hK8 uv K8
          refine OpsN.nil ?_
          show K7 _ _
          refine hK7 _ _ ?_
          simp only [List.getElem_toArray, List.getElem_cons_zero, List.getElem_cons_succ, Act.put, List.setIfInBounds_toArray, List.set_cons_zero, List.set_cons_succ, got, if_true]
          clear hK7 K7 hch
          refine WpN.seq fun K7 hK7 => ?_
          go_wp2_with fail
          refine WpN.of ?_
          go_wp2_with fail
          go_ret
          exact ⟨A2, n + m, c2, rfl, HOw.out, by rw [List.length_append, HN.out, HM.out], hgr2⟩
end Go.Proofs.YtnjbpeojadbclaaDoor
