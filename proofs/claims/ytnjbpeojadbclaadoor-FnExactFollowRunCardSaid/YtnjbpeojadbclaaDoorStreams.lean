/- impl.streamsOf: the events of all streams by their names. -/
import Derived.Test.YtnjbpeojadbclaaDoorGrps
import Derived.Deep.RegionHeld3
namespace Go.Proofs.YtnjbpeojadbclaaDoor
open Go.RowKit Go.Maps Go.WideMaps Go.WideAt

theorem evInfo : (Tryd.prog.info? 40).map (fun i => (i.zero, i.size, i.bytes)) = some (some (.agg #[.int .i64 0, .string ⟨#[]⟩, .int .i64 0]), 3, 32) := by kernel_rfl
theorem keyStr : Keyed Tryd.prog 9 := string_keyed Tryd.underlying9
theorem zeroEvs (w : World) : (zeroValue 57).run Tryd.prog w = .ok (.slice none 0 0) w := by kernel_rfl
set_option maxRecDepth 100000 in
/-- What a look-up gives. -/
theorem Grps.look {w : World} {b n : Nat} {l : List En} {D : DataW Value} (h : Grps w b n l D) {s : ByteArray} (hs : s.size ≤ maxLen) {A : Option Addr} {k c : Nat} (hat : D.atKey (klit s) nilS = .held (.slice A k c)) :
    (Instr.lookup 55 (.map (some b)) (.string s) false).run Tryd.prog w = .ok (.slice A k c) w := by
  obtain ⟨v, ps, hrun, hv⟩ := h.own.lookup keyStr Tryd.underlying55 (zeroEvs w) (hdr_mk none 0 0) (keyOf_string_mk Tryd.underlying9 hs)
  obtain ⟨a, n', c', rfl, hy⟩ := hdr_inv hv
  have h1 : D.atKey (klit s) nilS = .held (.slice a n' c') := (Prod.mk.inj hy).1
  rw [hat] at h1
  injection h1 with h1
  injection h1 with e1 e2 e3
  subst e1 e2 e3
  exact hrun
/-- What a store turns. -/
theorem Grps.store {w5 : World} {b n : Nat} {D : DataW Value} (ho : w5.ownsMap Tryd.prog 9 hdr b n D) (hn : n ≤ 1000) {s : ByteArray} (hs : s.size ≤ maxLen) (A5 : Option Addr) (k5 c5 : Nat) :
    ∃ w6, (Instr.mapUpdate 55 (.map (some b)) (.string s) (.slice A5 k5 c5)).run Tryd.prog w5 = .ok () w6 ∧ w6.ownsMap Tryd.prog 9 hdr b (n + 1) (D.put (klit s) (.held (.slice A5 k5 c5))) ∧ w5.grownBy w6 (some b) :=
  ho.update keyStr Tryd.underlying55 (by unfold maxLen; omega) (keyOf_string_mk Tryd.underlying9 hs) (hdr_mk A5 k5 c5)
theorem lit_ev (w : World) (o : Obj) (t : TypeId) (e : Ev) : Lies ((w.alloc o).alloc (.cells #[.int .i64 e.id, .string e.kind, .int .i64 e.data] t)) (some ⟨w.heap.size + 1, 0, none⟩) (evcells [e]) := by
  refine .inr ⟨w.heap.size + 1, 0, rfl, fun j u hu => ?_⟩
  have hF : Full ((w.alloc o).alloc (.cells #[.int .i64 e.id, .string e.kind, .int .i64 e.data] t)) (w.heap.size + 1) t #[.int .i64 e.id, .string e.kind, .int .i64 e.data] := Full.newAt (by simp)
  rw [Nat.zero_add, hF.cell j, ← hu]
  simp [evcells, Ev.cells]

set_option maxHeartbeats 4000000 in
set_option maxRecDepth 100000 in
theorem so_any (A : Option Addr) (n c : Nat) (l : List En) (w : World) (h : EArg w A n c l) (hn : n ≤ 1000) :
    Calls Tryd.prog 32 #[.slice A n c] w fun e w' => ∃ D, e = .returned (.map (some w.heap.size)) ∧ Grps w' w.heap.size n l D ∧ w.grownBy w' none := by
  have hc := h.cap
  have hm := h.max
  unfold maxLen at hm
  have HN := hid h.len
  have HA := hid h
  have hmm := @run_makeMap Tryd.prog
  clear h
  go_enter Tryd.func32, Tryd.ntmps32
  go_wp2_with fail
  clear hmm
  go_loopw [9] (fun i wr => ∃ (k : Nat) (D : DataW Value), i = .int .i64 (k : Int) ∧ k ≤ n ∧ Grps wr w.heap.size k (l.take k) D ∧ w.grownBy wr none) (fun i _ => n - (intOf i).toNat)
  case atStart => exact ⟨0, .map [], rfl, by omega, grps_made w, gr_alloc (gr_refl _ _) _⟩
  case round =>
    obtain ⟨k, D, rfl, hkn, hG, hgr⟩ := hrel
    have HG := hid hG
    clear hG
    by_cases hlt : k < n
    · have hkl : k < l.length := by rw [HN.out]; exact hlt
      obtain ⟨g, o, hAe, hgl, hcells⟩ := HA.out.open_ (by omega)
      have cc := hcells k hkl wr hgr
      have hok := (HA.out.ok _ (List.getElem_mem hkl)).nm
      have HTk := hid (List.take_succ_eq_append_getElem hkl)
      obtain ⟨A1, k1, c1, hat, hown, hl1⟩ := HG.out.els l[k].nm
      obtain ⟨x, hx⟩ : ∃ x, l[k] = x := ⟨_, rfl⟩
      rw [hx] at cc hat hown hl1 hok HTk
      obtain ⟨nm, ei, ek, ed⟩ := x
      simp only [] at cc hat hown hl1 hok
      obtain ⟨c0, c1', c2, c3⟩ := cc
      have hk1 : k1 ≤ k := by
        have h1 := grp_len nm (l.take k)
        rw [hl1, List.length_take] at h1
        omega
      have b1 : (0 : Int) ≤ (k : Int) := by omega
      have b2 : (k : Int) < (n : Int) := by omega
      subst hAe
      clear hx hcells hgl
      have E1 := Full.new wr 42 #[.string nm, .int .i64 ei, .string ek, .int .i64 ed]
      have q0 := E1.cellAt 0 rfl
      have q1 := E1.cellAt 1 rfl
      have q2 := E1.cellAt 2 rfl
      have q3 := E1.cellAt 3 rfl
      have hlook := fun w' (hg : wr.grownBy w' none) => (HG.out.grown0 hg).look hok hat
      have L1 := hlook (wr.alloc (.cells #[.string nm, .int .i64 ei, .string ek, .int .i64 ed] 42)).drew (gr_drew (gr_alloc (gr_refl _ _) _))
      have L2 := hlook ((wr.alloc (.cells #[.string nm, .int .i64 ei, .string ek, .int .i64 ed] 42)).alloc (.cells #[.int .i64 ei, .string ek, .int .i64 ed] 40)).drew (gr_drew (gr_alloc (gr_alloc (gr_refl _ _) _) _))
      have L3 := hlook ((wr.alloc (.cells #[.string nm, .int .i64 ei, .string ek, .int .i64 ed] 42)).drew.alloc (.cells #[.int .i64 ei, .string ek, .int .i64 ed] 40)) (gr_alloc (gr_drew (gr_alloc (gr_refl _ _) _)) _)
      have hsz := hgr.size
      have hmapb := HG.out.own.lt
      have HOwn := hid hown
      have HAt := hid hat
      have HL1 := hid hl1
      clear hlook hown hat hl1
      go_wp2_with fail
      go_region_held3 (fun w' => w'.cell? ⟨wr.heap.size, 0, none⟩ = some (.string nm) ∧ w'.cell? ⟨wr.heap.size, 1, none⟩ = some (.int .i64 ei) ∧ w'.cell? ⟨wr.heap.size, 2, none⟩ = some (.string ek) ∧ w'.cell? ⟨wr.heap.size, 3, none⟩ = some (.int .i64 ed)) (go_keep)
        (first
          | ((refine step_app _ rfl (.tmp 19) (.tmp 22) 57 rfl (w.heap.size + 1) 40 Tryd.underlying57 evInfo rfl (by omega) A1 k1 c1 (evcells (grp nm (l.take k))) (by rfl) ?o1 (some ⟨wr.heap.size + 1, 0, none⟩) 1 1 (evcells [⟨ei, ek, ed⟩]) (by rfl) ?l1 (by rfl) (evcells_one _) (by omega) (by omega) (by simp; omega) ?_
              case o1 => first | exact (HOwn.out.alloc _).alloc _ | exact ((HOwn.out.alloc _).alloc _).drew | exact ((HOwn.out.alloc _).drew).alloc _
              case l1 => first | exact lit_ev _ _ _ _ | exact (lit_ev _ _ _ _).drew
              intro A5 c5 w5 hown5 hg5 hb5
              rw [← evcells_app] at hown5
              have G5 : wr.grownBy w5 (blockOf A1) := gr_trans (show wr.grownBy _ (blockOf A1) by ((repeat (first | (with_reducible assumption) | (with_reducible exact gr_refl _ _) | (with_reducible refine gr_alloc ?_ _) | (with_reducible refine gr_drew ?_))); (first | done | fail "left"))) hg5
              have hA1 : ∀ g, blockOf A1 = some g → w.heap.size + 1 ≤ g ∧ g < wr.heap.size := fun g hg => HOwn.out.block hg
              have hnx : some wr.heap.size ≠ blockOf A1 := fun e => by have := (hA1 _ e.symm).2; omega
              have E5 : Full w5 wr.heap.size 42 #[.string nm, .int .i64 ei, .string ek, .int .i64 ed] := by
                first
                  | exact Full.grown (E1.alloc _) hg5 hnx
                  | exact Full.grown ((E1.alloc _).drew) hg5 hnx
                  | exact Full.grown ((E1.drew).alloc _) hg5 hnx
              have ho5 := HG.out.own.kept G5 (fun e => by have := (hA1 _ e.symm).1; omega)
              obtain ⟨w6, hrun6, ho6, hg6⟩ := Grps.store ho5 (by omega) hok A5 (k1 + 1) c5
              have E6 : Full w6 wr.heap.size 42 #[.string nm, .int .i64 ei, .string ek, .int .i64 ed] := Full.grown E5 hg6 (fun e => by injection e with e; omega)
              have y0 := E5.cellAt 0 rfl
              have y1 := E5.cellAt 1 rfl
              have y2 := E5.cellAt 2 rfl
              have y3 := E5.cellAt 3 rfl
              have z0 := E6.cellAt 0 rfl
              have z1 := E6.cellAt 1 rfl
              have z2 := E6.cellAt 2 rfl
              have z3 := E6.cellAt 3 rfl
              have HNx := hid (show Grps w6 w.heap.size (k + 1) (l.take (k + 1)) (D.put (klit nm) (.held (.slice A5 (k1 + 1) c5))) by
                rw [HTk.out]
                refine HG.out.next (e := ⟨nm, ⟨ei, ek, ed⟩⟩) HAt.out G5 hown5 HL1.out ?_ ho6 hg6
                rcases hb5 with h | h
                · exact .inl h
                · exact .inr ⟨_, h, by simp; omega⟩)
              have G6 : w.grownBy w6 none := gr_then (gr_then hgr G5 (fun g hg => .inr (by have := (hA1 _ hg).1; omega))) hg6 (fun g hg => .inr (by injection hg with hg; omega))
              clear hown5 hg5 hb5 ho5 ho6 hg6 G5 hA1 hnx E5 E6)))
      all_goals
        go_wp2_with fail
        go_roundw
        case rel => exact ⟨k + 1, _, by go_num, by omega, HNx.out, G6⟩
        case measure => simp [intOf]; omega
    · obtain rfl : n = k := by omega
      have hG2 := HG.out
      rw [List.take_of_length_le (by rw [HN.out]; omega)] at hG2
      have HG2 := hid hG2
      clear hG2
      go_wp2_with fail
      go_ret
      exact ⟨D, rfl, HG2.out, hgr⟩
end Go.Proofs.YtnjbpeojadbclaaDoor
