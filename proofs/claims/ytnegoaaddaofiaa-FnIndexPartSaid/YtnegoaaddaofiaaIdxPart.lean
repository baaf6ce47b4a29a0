/- The walk of FnIndexPart. -/
import Derived.Test.YtnegoaaddaofiaaRowV
import Derived.Test.YtnegoaaddaofiaaRowSV
import Derived.Test.YtnegoaaddaofiaaRowDraw
namespace Go.Proofs.Ytnegoaaddaofiaa
open Go.RowKit

theorem idx_less {rs : List (ByteArray × List Int)} (h : idxB rs = true) {k : Nat} (hk : k < rs.length) : idxB (rs.take k ++ rs.drop (k + 1)) = true := by
  obtain ⟨h1, h2, h3⟩ := idxB_iff.1 h
  have e1 : rs = rs.take k ++ (rs[k] :: rs.drop (k + 1)) := by rw [← List.drop_eq_getElem_cons hk, List.take_append_drop]
  have hs : (rs.take k ++ rs.drop (k + 1)).Sublist rs := by
    have := (List.Sublist.refl (rs.take k)).append (List.sublist_cons_self rs[k] (rs.drop (k + 1)))
    rwa [← e1] at this
  refine idxB_iff.2 ⟨fun r hr => h1 r (hs.subset hr), List.Pairwise.sublist hs h2, ?_⟩
  have e3 : spots (rs.take k ++ (rs[k] :: rs.drop (k + 1))) = spots (rs.take k) ++ (rs[k].2 ++ spots (rs.drop (k + 1))) := by rw [spots_app, spots_cons]
  rw [← e1] at e3
  rw [e3] at h3
  rw [spots_app]
  exact List.Pairwise.sublist ((List.Sublist.refl _).append (List.sublist_append_right _ _)) h3
theorem idx_more {rs : List (ByteArray × List Int)} {k : Nat} (hk : k < rs.length) : idxB (rs.take (k + 1) ++ rs.drop k) = false := by
  refine idxB_no ?_
  rintro ⟨_, h, _⟩
  unfold keysUp at h
  rw [List.pairwise_append] at h
  have := h.2.2 rs[k] (by rw [List.take_succ_eq_append_getElem hk]; exact List.mem_append_right _ (List.mem_singleton.2 rfl)) rs[k] (by rw [List.drop_eq_getElem_cons hk]; exact List.mem_cons_self)
  rw [sl_irrefl] at this
  cases this

set_option maxHeartbeats 2000000 in
theorem indexPart_walk (A : Option Addr) (n c : Nat) (zs : List Int) (A2 : Option Addr) (n2 c2 : Nat) (zs2 : List Int) (w : World) (h : Code w A n c zs) (h2 : Code w A2 n2 c2 zs2) :
    Calls Try.prog 3 #[.slice A n c, .slice A2 n2 c2] w fun e w' => e = .returned (.bool true) ∧ w.grownBy w' none := by
  have hc := h.cap
  have hm := h.max
  have hc2 := h2.cap
  have hm2 := h2.max
  unfold maxLen at hm hm2
  by_cases h1 : n > 1048576
  · go_enter Try.func3, Try.ntmps3
    go_wp2
    go_ret
    exact ⟨rfl, gr_refl _ _⟩
  by_cases h3 : n2 > 1048576
  · go_enter Try.func3, Try.ntmps3
    go_wp2
    go_ret
    exact ⟨rfl, gr_refl _ _⟩
  go_enter Try.func3, Try.ntmps3
  go_wp2_with fail
  refine (div_any A n c zs _ h).mono ?_
  rintro e w1 ⟨B, N, C, l, rfl, hO, hl, hN, hok, hsp, hg1⟩
  have hC := hO.cap
  have hCm := hO.max
  obtain ⟨b, hb⟩ : ∃ b, idxB (rsem l) = b := ⟨_, rfl⟩
  have hLi := hO.lies
  have ARG1 := hid (RArg.of_own hO hl hok)
  have e1 := iv_is B N C l b w1 ARG1.out hb
  have e2 := fun w (hg : w1.grownBy w none) => siv_is B N C l b w (ARG1.out.grown0 hg) hb (by omega)
  have HL := hid hl
  have HB := hid hb
  have hBb := fun g hg => (hO.block (b := g) hg).2
  clear hl hb hO hok hsp
  unfold maxLen at hCm
  go_wp2_with fail
  refine e1.mono ?_
  rintro e w2 ⟨rfl, hg2⟩
  have hL2 := hLi.grown0 hg2
  have G2 := gr_0 hg1 hg2
  have HG12 := hid hg2
  have hs2 := hg2.size
  clear e1 hg1 hLi
  go_wp2_with fail
  refine (e2 _ hg2).mono ?_
  rintro e w3 ⟨rfl, hg3⟩
  have hL3 := hL2.grown0 hg3
  have G3 := gr_0 G2 hg3
  have hs3 := hg3.size
  have HG13 := hid (gr_0 HG12.out hg3)
  clear e2 hL2 G2 hg3 hg2
  cases b
  · go_wp2_with fail
    go_ret
    exact ⟨rfl, G3⟩
  by_cases h0 : N = 0
  · subst h0
    go_wp2_with fail
    go_ret
    exact ⟨rfl, G3⟩
  have h0' : ((N : Int) == 0) = false := by simp; omega
  obtain ⟨k, hk, hkN⟩ : ∃ k : Nat, (n2 : Int) % (N : Int) = (k : Int) ∧ k < N := ⟨n2 % N, by omega, Nat.mod_lt _ (by omega)⟩
  have i1 : k ≤ C := by omega
  have i2 : k + 1 ≤ C := by omega
  have i3 : k + 1 ≤ N := by omega
  have j1 : (k : Int) + 1 ≤ (N : Int) := by omega
  have j2 : (k : Int) + 1 ≤ (C : Int) := by omega
  have i4 : IntKind.i64.wrap ((k : Int) + 1) = (k : Int) + 1 := IntWalk.i64_in _ (by omega)
  have i5 : k ≤ N := by omega
  have i6 : (0 : Int) ≤ (k : Int) + 1 := by omega
  have i7 : ((k : Int) + 1).toNat = k + 1 := by omega
  have T1 : Lies w3 B ((l.take k).flatMap RRow.cells) := by rw [← flat_take RRow.cells 2 cells2]; exact hL3.take _
  have T2 : Lies w3 B ((l.take (k + 1)).flatMap RRow.cells) := by rw [← flat_take RRow.cells 2 cells2]; exact hL3.take _
  obtain ⟨D1, hD1⟩ : ∃ D1, (if C = k + 1 then B else Option.map (fun x => x.add ((k + 1) * 2)) B) = D1 := ⟨_, rfl⟩
  obtain ⟨D0, hD0⟩ : ∃ D0, (if C = k then B else Option.map (fun x => x.add (k * 2)) B) = D0 := ⟨_, rfl⟩
  have U1 : Lies w3 D1 ((l.drop (k + 1)).flatMap RRow.cells) := by rw [← hD1, ← flat_drop RRow.cells 2 cells2]; exact hL3.cutN (by rw [rcells_len, HL.out]) hC
  have U0 : Lies w3 D0 ((l.drop k).flatMap RRow.cells) := by rw [← hD0, ← flat_drop RRow.cells 2 cells2]; exact hL3.cutN (by rw [rcells_len, HL.out]) hC
  have l1 : ((l.take k).flatMap RRow.cells).length = k * 2 := by rw [flat_len RRow.cells 2 cells2, List.length_take, HL.out]; omega
  have l2 : ((l.take (k + 1)).flatMap RRow.cells).length = (k + 1) * 2 := by rw [flat_len RRow.cells 2 cells2, List.length_take, HL.out]; omega
  have l3 : ((l.drop (k + 1)).flatMap RRow.cells).length = (N - (k + 1)) * 2 := by rw [flat_len RRow.cells 2 cells2, List.length_drop, HL.out]
  have l4 : ((l.drop k).flatMap RRow.cells).length = (N - k) * 2 := by rw [flat_len RRow.cells 2 cells2, List.length_drop, HL.out]
  have bB : ∀ g, blockOf B = some g → g < w3.heap.size := fun g hg => Nat.lt_of_lt_of_le (hBb g hg) (Nat.le_trans hs2 hs3)
  have bD1 : ∀ g, blockOf D1 = some g → g < w3.heap.size := fun g hg => bB g (by rw [← hD1, block_cut] at hg; exact hg)
  have bD0 : ∀ g, blockOf D0 = some g → g < w3.heap.size := fun g hg => bB g (by rw [← hD0, block_cut] at hg; exact hg)
  have L1 := hid l1
  have L2 := hid l2
  have L3 := hid l3
  have L4 := hid l4
  clear l1 l2 l3 l4
  go_wp2_with fail
  go_region_law (first
    | (refine step_app _ rfl (.tmp 45) (.tmp 48) 23 rfl w3.heap.size 33 Try.underlying23 rowInfo rfl (by omega) (some ⟨w3.heap.size, 0, none⟩) 0 0 [] (by simp [Act.eval]) (Own.empty w3 (Nat.le_refl _)).drew B k C ((l.take k).flatMap RRow.cells) (by simp [Act.eval]) (T1.alloc _).drew L1.out (rcells_one _) (by omega) (by omega) (by simp) ?_; intro A4 c4 w4 hown4 hg4 _)
    | (refine step_app _ rfl (.tmp 49) (.tmp 53) 23 rfl w3.heap.size 33 Try.underlying23 rowInfo rfl (by omega) A4 (0 + k) c4 ([] ++ (l.take k).flatMap RRow.cells) (by simp [Act.eval]) hown4 D1 (N - (k + 1)) (C - (k + 1)) ((l.drop (k + 1)).flatMap RRow.cells) (by simp [Act.eval]) (((U1.alloc _).drew).app hg4 bD1 (by simp [blockOf])) L3.out (rcells_one _) (by omega) (by omega) (by have := hg4.size; simp at this; omega) ?_; intro A5 c5 w5 hown5 hg5 _))
  have G5 : w3.grownBy w5 none := gr_then (gr_then (gr_drew (World.grownBy_alloc w3 _ none)) hg4 (by rintro g hg; injection hg with hg; subst hg; exact .inr (Nat.le_refl _))) hg5 (fun g hg => .inr (hown4.block hg).1)
  have x5 : Own w5 w3.heap.size 33 2 A5 (N - 1) c5 ((l.take k ++ l.drop (k + 1)).flatMap RRow.cells) := by
    have e : 0 + k + (N - (k + 1)) = N - 1 := by omega
    rw [e] at hown5
    rw [List.flatMap_append]
    exact hown5
  have e5 : k + (N - (k + 1)) = N - 1 := by omega
  rw [e5]
  have X5 := hid x5
  have T5 := T2.grown0 G5
  have V5 := U0.grown0 G5
  have s5 := G5.size
  have q5 : (k : Int) ≤ (N : Int) := by omega
  have q6 : (0 : Int) ≤ (k : Int) := by omega
  clear hown4 hown5 hg4 hg5 x5 T1 T2 U1 U0 hD1 bD1 e5
  go_wp2_with fail
  go_region_law (first
    | (refine step_app _ rfl (.tmp 55) (.tmp 59) 23 rfl w5.heap.size 33 Try.underlying23 rowInfo rfl (by omega) (some ⟨w5.heap.size, 0, none⟩) 0 0 [] (by simp [Act.eval]) (Own.empty w5 (Nat.le_refl _)).drew B (k + 1) C ((l.take (k + 1)).flatMap RRow.cells) (by simp [Act.eval]) (T5.alloc _).drew L2.out (rcells_one _) (by omega) (by omega) (by simp) ?_; intro A6 c6 w6 hown6 hg6 _)
    | (refine step_app _ rfl (.tmp 60) (.tmp 63) 23 rfl w5.heap.size 33 Try.underlying23 rowInfo rfl (by omega) A6 (0 + (k + 1)) c6 ([] ++ (l.take (k + 1)).flatMap RRow.cells) (by simp [Act.eval]) hown6 D0 (N - k) (C - k) ((l.drop k).flatMap RRow.cells) (by simp [Act.eval]) (((V5.alloc _).drew).app hg6 bD0 (by simp [blockOf]; omega)) L4.out (rcells_one _) (by omega) (by omega) (by have := hg6.size; simp at this; omega) ?_; intro A7 c7 w7 hown7 hg7 _))
  have G7 : w5.grownBy w7 none := gr_then (gr_then (gr_drew (World.grownBy_alloc w5 _ none)) hg6 (by rintro g hg; injection hg with hg; subst hg; exact .inr (Nat.le_refl _))) hg7 (fun g hg => .inr (hown6.block hg).1)
  have x7 : Own w7 w5.heap.size 33 2 A7 (N + 1) c7 ((l.take (k + 1) ++ l.drop k).flatMap RRow.cells) := by
    have e : 0 + (k + 1) + (N - k) = N + 1 := by omega
    rw [e] at hown7
    rw [List.flatMap_append]
    exact hown7
  have x5 := X5.out.kept0 G7
  have HK7 := hid (fun (w' : World) (hg : w7.grownBy w' none) => fun r hr => ((ARG1.out.ats r hr).grown0 (gr_0 (gr_0 (gr_0 HG13.out G5) G7) hg)))
  have ev1 := fun w (hg : w7.grownBy w none) => iv_is A5 (N - 1) c5 (l.take k ++ l.drop (k + 1)) true w (RArg.of_own (x5.kept0 hg) (by rw [List.length_append, List.length_take, List.length_drop, HL.out]; omega) (fun r hr => HK7.out w hg r (by
    rcases List.mem_append.1 hr with h | h
    · exact List.mem_of_mem_take h
    · exact List.mem_of_mem_drop h))) (by rw [rsem_app, ← rsem_take, ← rsem_drop]; exact idx_less HB.out (by rw [rsem_len, HL.out]; exact hkN))
  have ev2 := fun w (hg : w7.grownBy w none) => iv_is A7 (N + 1) c7 (l.take (k + 1) ++ l.drop k) false w (RArg.of_own (x7.kept0 hg) (by rw [List.length_append, List.length_take, List.length_drop, HL.out]; omega) (fun r hr => HK7.out w hg r (by
    rcases List.mem_append.1 hr with h | h
    · exact List.mem_of_mem_take h
    · exact List.mem_of_mem_drop h))) (by rw [rsem_app, ← rsem_take, ← rsem_drop]; exact idx_more (by rw [rsem_len, HL.out]; exact hkN))
  have HE1 := hid ev1
  have HE2 := hid ev2
  clear ev1 ev2
  have e7 : k + 1 + (N - k) = N + 1 := by omega
  rw [e7]
  clear hown6 hown7 hg6 hg7 x5 x7 T5 V5 hD0 bD0 e7
  go_wp2_with fail
  refine (HE1.out _ (gr_refl _ _)).mono ?_
  rintro e w8 ⟨rfl, hg8⟩
  go_wp2_with fail
  refine (HE2.out _ hg8).mono ?_
  rintro e w9 ⟨rfl, hg9⟩
  go_wp2_with fail
  go_ret
  exact ⟨rfl, gr_0 (gr_0 (gr_0 (gr_0 G3 G5) G7) hg8) hg9⟩
end Go.Proofs.Ytnegoaaddaofiaa
