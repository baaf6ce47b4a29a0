/- The walk of FnExactGroupLeave. -/
import Derived.Test.YtmjficimnkbonaaMarks
import Derived.Test.YtmjficimnkbonaaLeave
import Derived.Test.YtmjficimnkbonaaGrpArg
namespace Go.Proofs.Ytmjficimnkbonaa
open Go.RowKit

theorem GBox.kept {w w' : World} {t : TypeId} {g : Nat} {s : Int} {A : Option Addr} {n c : Nat} {ms : List ByteArray} (h : GBox w t g s A n c ms) {row : Option Nat} (hg : w.grownBy w' row) (h1 : some g ≠ row) (h2 : ∀ b, blockOf A = some b → some b ≠ row) : GBox w' t g s A n c ms :=
  ⟨h.full.grown hg h1, ⟨h.arg.li.grown hg h2, h.arg.len, h.arg.cap, h.arg.max, h.arg.sz⟩⟩
set_option maxHeartbeats 4000000 in
theorem exGroupLeave_walk (s : Int) (A : Option Addr) (n c : Nat) (ms : List ByteArray) (m : ByteArray) (w : World) (h : SArg w A n c ms) (hm : m.size ≤ maxLen) :
    Calls Try.prog 12 #[.agg #[.int .i64 s, .slice A n c], .string m] w fun e w' => e = .returned (.bool true) ∧ w.grownBy w' none := by
  unfold maxLen at hm
  have HAb := hid h.below
  have E0 := GBox.new (t := 35) (s := s) h
  have G0 := World.grownBy_alloc w (.cells #[.int .i64 s, .slice A n c] 35) none
  have c0 := E0.full.cellAt 0 (v := .int .i64 s) rfl
  have c1 := E0.full.cellAt 1 (v := .slice A n c) rfl
  have e1 := szg_any s A n c ms 1048576 _ E0.arg (by omega) (by omega)
  have HL := hid h.len
  have HSz := hid h.sz
  clear h
  by_cases hbig : m.size > 1048576
  · have db : decide ((1048576 : Int) < (m.size : Int)) = true := by simp; omega
    go_enter Try.func12, Try.ntmps12
    go_wp2_with fail
    go_ret
    exact ⟨rfl, G0⟩
  have db : decide ((1048576 : Int) < (m.size : Int)) = false := by simp; omega
  go_enter Try.func12, Try.ntmps12
  go_wp2_with fail
  refine e1.mono ?_
  rintro e w1 ⟨q1, rfl, h21, h31, h41, hg1⟩
  have E1 := E0.grown0 hg1
  have G1 := gr_0 G0 hg1
  clear e1 E0 G0 hg1 c0 c1
  rcases (by omega : q1 < 0 ∨ 0 ≤ q1) with q | q
  · go_wp2_with fail
    go_ret
    exact ⟨rfl, G1⟩
  have hn := h41 q
  have tA := fun w (h : SArg w A n c ms) => tg_any s A n c ms w h (by omega)
  clear h31 h41
  have c0 := E1.full.cellAt 0 (v := .int .i64 s) rfl
  have c1 := E1.full.cellAt 1 (v := .slice A n c) rfl
  obtain ⟨S, hS⟩ : ∃ v, leaveN s ms m = v := ⟨_, rfl⟩
  obtain ⟨L, hL⟩ : ∃ v, leaveL s ms m = v := ⟨_, rfl⟩
  obtain ⟨b, hb⟩ : ∃ v, leaveB s ms m = v := ⟨_, rfl⟩
  have HS := hid hS
  have HLL := hid hL
  have HB := hid hb
  have HLz := hid (show ∀ x ∈ L, x.size ≤ maxLen from fun x hx => HSz.out x (leave_mem (by rw [hL]; exact hx)))
  have hLn := hid (show (L.length : Int) ≤ n from by
    rw [← hL, ← HL.out]
    unfold leaveL
    split
    · have := List.length_filter_le (fun x => decide (x ≠ m)) ms
      unfold rest
      omega
    · simp)
  clear hS hL hb
  go_wp2_with fail
  refine (tA _ E1.arg).mono ?_
  rintro e w2 ⟨g2, rfl, hO2, hg2⟩
  have E2 := E1.grown0 hg2
  have S2 := tg_sarg hO2 E2.arg HL.out
  have G2 := gr_0 G1 hg2
  have e2 := sgl_any s (some ⟨g2, 0, none⟩) n n ms m _ S2
  rw [HS.out, HLL.out, HB.out] at e2
  clear E1 G1 hg2 hO2 S2 c0 c1
  go_wp2_with fail
  refine e2.mono ?_
  rintro e w3 ⟨V, nV, cV, rfl, hV, hVl, hg3⟩
  have HVl := hid hVl
  have hVb := fun b hb => (hV.block (b := b) hb)
  have V3 := GBox.new (t := 25) (s := S) (SArg.of_own hV hVl HLz.out)
  have E3 := (E2.grown0 hg3).grown0 (World.grownBy_alloc w3 (.cells #[.int .i64 S, .slice V nV cV] 25) none)
  have G3 := gr_alloc (gr_0 G2 hg3) (.cells #[.int .i64 S, .slice V nV cV] 25)
  have hs3 := G3.size
  have hnV : nV ≤ n := by have := hLn.out; omega
  have hVc := hV.cap
  have hVm := hV.max
  unfold maxLen at hVm
  clear e2 E2 G2 hg3 hVl hV
  have c0 := E3.full.cellAt 0 (v := .int .i64 s) rfl
  have c1 := E3.full.cellAt 1 (v := .slice A n c) rfl
  go_wp2_with fail
  refine (tA _ E3.arg).mono ?_
  rintro e w4 ⟨g4, rfl, hO4, hg4⟩
  have hg4b := (hO4.block (b := g4) rfl)
  have hw4 : w.heap.size < g4 := Nat.lt_of_lt_of_le E3.full.lt hg4b.1
  have S4 := tg_sarg hO4 (E3.grown0 hg4).arg HL.out
  have X4 := GBox.new (t := 25) (s := s) S4
  have O4 := hO4.alloc (.cells #[.int .i64 s, .slice (some ⟨g4, 0, none⟩) n n] 25)
  have E4 := (E3.grown0 hg4).grown0 (World.grownBy_alloc w4 (.cells #[.int .i64 s, .slice (some ⟨g4, 0, none⟩) n n] 25) none)
  have V4 := (V3.grown0 hg4).grown0 (World.grownBy_alloc w4 (.cells #[.int .i64 s, .slice (some ⟨g4, 0, none⟩) n n] 25) none)
  have G4 := gr_alloc (gr_0 G3 hg4) (.cells #[.int .i64 s, .slice (some ⟨g4, 0, none⟩) n n] 25)
  have hg4s := hg4b.1
  simp at hg4s
  have hg4t := hg4b.2
  have e3 := gl_any s (some ⟨g4, 0, none⟩) n n ms m _ X4.arg
  rw [HS.out, HLL.out, HB.out] at e3
  clear E3 G3 hg4 hO4 S4 V3 c0 c1
  have x0 := X4.full.cellAt 0 (v := .int .i64 s) rfl
  have x1 := X4.full.cellAt 1 (v := .slice (some ⟨g4, 0, none⟩) n n) rfl
  go_wp2_with fail
  refine e3.mono ?_
  rintro e w5 ⟨U, nU, cU, rfl, hU, hUl, hg5⟩
  obtain rfl : nV = nU := HVl.out.symm.trans hUl
  have A5 := World.grownBy_alloc w5 (.cells #[.int .i64 S, .slice U nV cU] 25) none
  have U5 := GBox.new (t := 25) (s := S) (SArg.of_own hU hUl HLz.out)
  have OU5 := hU.alloc (.cells #[.int .i64 S, .slice U nV cU] 25)
  have E5 := (E4.grown0 hg5).grown0 A5
  have X5 := (X4.grown0 hg5).grown0 A5
  have O5 := (O4.kept0 hg5).kept0 A5
  have V5 := (V4.grown0 hg5).grown0 A5
  have G5 := gr_0 (gr_0 G4 hg5) A5
  have hUb := fun b hb => (hU.block (b := b) hb)
  have hcU := hU.cap
  have hmU := hU.max
  have hw45 : w4.heap.size < w5.heap.size := by have := hg5.size; simp at this; omega
  have hUb4 : ∀ b, blockOf U = some b → g4 < b ∧ w4.heap.size < b ∧ b < w5.heap.size := fun b hb => by have h1 := (hUb b hb).1; have h2 := (hUb b hb).2; simp at h1; omega
  have hVU : ∀ b, blockOf V = some b → b < w3.heap.size := fun b hb => (hVb b hb).2
  have e4 := fun w (hU : SArg w U nV cU L) (hV : SArg w V nV cV L) => eg_is S S U V nV nV cU cV L L true w hU hV (by simp)
  have e5 := e4 _ U5.arg V5.arg
  have qb : (b != b) = false := by simp
  have hcUM := hcU
  have hmUM := hmU
  unfold maxLen at hmU
  have u0 := U5.full.cellAt 0 (v := .int .i64 S) rfl
  have u1 := U5.full.cellAt 1 (v := .slice U nV cU) rfl
  have v0 := V5.full.cellAt 0 (v := .int .i64 S) rfl
  have v1 := V5.full.cellAt 1 (v := .slice V nV cV) rfl
  clear e3 E4 X4 O4 V4 G4 hg5 x0 x1 hUb hU A5
  go_wp2_with fail
  refine e5.mono ?_
  rintro e w6 ⟨rfl, hg6⟩
  have E6 := E5.grown0 hg6
  have X6 := X5.grown0 hg6
  have O6 := O5.kept0 hg6
  have U6 := U5.grown0 hg6
  have OU6 := OU5.kept0 hg6
  have V6 := V5.grown0 hg6
  have G6 := gr_0 G5 hg6
  clear e5 E5 X5 O5 U5 OU5 V5 G5 hg6 u0 u1 v0 v1
  have c0 := E6.full.cellAt 0 (v := .int .i64 s) rfl
  have c1 := E6.full.cellAt 1 (v := .slice A n c) rfl
  have x0 := X6.full.cellAt 0 (v := .int .i64 s) rfl
  have x1 := X6.full.cellAt 1 (v := .slice (some ⟨g4, 0, none⟩) n n) rfl
  have hC0 : ∀ w' : World, w6.grownBy w' none → w'.cell? ⟨w.heap.size, 0, none⟩ = some (.int .i64 s) := fun w' h => h.cell c0 (by simp)
  have hC1 : ∀ w' : World, w6.grownBy w' none → w'.cell? ⟨w.heap.size, 1, none⟩ = some (.slice A n c) := fun w' h => h.cell c1 (by simp)
  have hC2 : ∀ w' : World, w6.grownBy w' none → w'.cell? ⟨w4.heap.size, 0, none⟩ = some (.int .i64 s) := fun w' h => h.cell x0 (by simp)
  have hC3 : ∀ w' : World, w6.grownBy w' none → w'.cell? ⟨w4.heap.size, 1, none⟩ = some (.slice (some ⟨g4, 0, none⟩) n n) := fun w' h => h.cell x1 (by simp)
  clear c0 c1 x0 x1
  go_wp2_with fail
  go_region_held3 (fun w' => w6.grownBy w' none) (repeat (first | (with_reducible assumption) | (with_reducible exact gr_refl _ _) | (with_reducible refine gr_drew ?_) | (with_reducible refine gr_0 ?_ hga) | (with_reducible refine gr_0 ?_ hg9)))
    (first
      | (go_at_call 23
         refine (tA _ (E6.grown0 (gr_drew (gr_refl _ _))).arg).mono ?_
         rintro e w9 ⟨g9, rfl, hO9, hg9⟩
         have S9 := tg_sarg hO9 E6.arg HL.out
         have T9 := gr_0 (gr_drew (gr_refl w6 none)) hg9)
      | (go_at_call 24
         refine (eg_is s s _ _ n n n n ms ms true _ (X6.grown0 T9).arg S9 (by simp)).mono ?_
         rintro e wa ⟨rfl, hga⟩
         have Ta := gr_0 T9 hga))
  have Ea := E6.grown0 Ta
  have Xa := X6.grown0 Ta
  have Oa := O6.kept0 Ta
  have Ua := U6.grown0 Ta
  have OUa := OU6.kept0 Ta
  have Va := V6.grown0 Ta
  have Ga := gr_0 G6 Ta
  clear hC0 hC1 hC2 hC3 hO9 S9 T9 Ta hg9 hga E6 X6 O6 U6 OU6 V6 G6
  have e7 := markg_any _ s (some ⟨g4, 0, none⟩) n n 1 _ wa Oa (by omega) (by omega)
  have x0 := Xa.full.cellAt 0 (v := .int .i64 s) rfl
  have x1 := Xa.full.cellAt 1 (v := .slice (some ⟨g4, 0, none⟩) n n) rfl
  go_wp2_with fail
  refine e7.mono ?_
  rintro e wb ⟨rfl, hOb, hgb⟩
  change wa.grownBy wb (some g4) at hgb
  have Eb : GBox wb 35 w.heap.size s A n c ms := ⟨Ea.full.grown hgb (by intro e; injection e with e; omega), Ea.arg.past hgb (fun h0 b hb => by have := HAb.out h0 b hb; omega)⟩
  have Ub := Ua.kept hgb (by intro e; injection e with e; omega) (fun b hb e => by injection e with e; have := hUb4 b hb; omega)
  have OUb := OUa.kept hgb (fun g hg => by injection hg with hg; subst hg; simp; omega)
  have Vb := Va.kept hgb (by intro e; injection e with e; omega) (fun b hb e => by injection e with e; have := hVU b hb; omega)
  have Gb := gr_new Ga hgb (by omega)
  have e8 := e4 _ Ub.arg Vb.arg
  have dk : decide (((1 + n : Nat) : Int) < 0) = false := by simp; omega
  have dk2 : (0 : Int) ≤ ((1 + n : Nat) : Int) := by omega
  clear e7 Ea Xa Oa Ua OUa Va Ga hOb hgb x0 x1
  have u0 := Ub.full.cellAt 0 (v := .int .i64 S) rfl
  have u1 := Ub.full.cellAt 1 (v := .slice U nV cU) rfl
  have v0 := Vb.full.cellAt 0 (v := .int .i64 S) rfl
  have v1 := Vb.full.cellAt 1 (v := .slice V nV cV) rfl
  go_wp2_with fail
  refine e8.mono ?_
  rintro e wc ⟨rfl, hgc⟩
  have Ec := Eb.grown0 hgc
  have Uc := Ub.grown0 hgc
  have OUc := OUb.kept0 hgc
  have Vc := Vb.grown0 hgc
  have Gc := gr_0 Gb hgc
  clear e8 Eb Ub OUb Vb Gb hgc u0 u1 v0 v1
  have e9 := markg_any _ S U nV cU 1 _ wc OUc (by omega) (by omega)
  have u0 := Uc.full.cellAt 0 (v := .int .i64 S) rfl
  have u1 := Uc.full.cellAt 1 (v := .slice U nV cU) rfl
  go_wp2_with fail
  refine e9.mono ?_
  rintro e wd ⟨rfl, Ud, hgd⟩
  have hUw : ∀ b, blockOf U = some b → w.heap.size < b := fun b hb => by have := hUb4 b hb; omega
  have Ed : GBox wd 35 w.heap.size s A n c ms := by
    refine ⟨Ec.full.grown hgd (fun e => by have := hUw _ e.symm; omega), ?_⟩
    refine ⟨?_, Ec.arg.len, Ec.arg.cap, Ec.arg.max, Ec.arg.sz⟩
    rcases Nat.eq_zero_or_pos n with h0 | h0
    · have h00 : ms = [] := List.eq_nil_of_length_eq_zero (by rw [Ec.arg.len]; exact h0)
      rw [h00]
      exact Lies.nil
    · exact Ec.arg.li.grown hgd (fun b hb e => by have := HAb.out h0 b hb; have := hUw b e.symm; omega)
  have Vd := Vc.kept hgd (fun e => by have := hUb4 _ e.symm; omega) (fun b hb e => by have := hVU b hb; have := hUb4 b e.symm; omega)
  have FUd := Uc.full.grown hgd (fun e => by have := hUb4 _ e.symm; omega)
  have Gd := gr_then Gc hgd (fun b hb => .inr (by have := hUw b hb; omega))
  have ea := fun w (h : Lies w U (strs (marks 1 nV))) => heldg_any S U nV cU 1 w h hcUM hmUM (by omega) (by omega)
  have eb := ea _ Ud.lies
  have dm : decide (((1 + nV : Nat) : Int) < 0) = false := by simp; omega
  have dm2 : (0 : Int) ≤ ((1 + nV : Nat) : Int) := by omega
  have dm3 : (((1 + nV : Nat) : Int) != ((1 + nV : Nat) : Int)) = false := by simp
  clear e9 Ec Uc OUc Vc Gc hgd dk dk2 u0 u1
  have u0 := FUd.cellAt 0 (v := .int .i64 S) rfl
  have u1 := FUd.cellAt 1 (v := .slice U nV cU) rfl
  go_wp2_with fail
  refine eb.mono ?_
  rintro e we ⟨rfl, hge⟩
  have Ee := Ed.grown0 hge
  have Ue := Ud.kept0 hge
  have FUe := FUd.grown hge (by simp)
  have Ve := Vd.grown0 hge
  have Ge := gr_0 Gd hge
  clear eb Ed Ud FUd Vd Gd hge u0 u1
  have c0 := Ee.full.cellAt 0 (v := .int .i64 s) rfl
  have c1 := Ee.full.cellAt 1 (v := .slice A n c) rfl
  go_wp2_with fail
  refine (tA _ Ee.arg).mono ?_
  rintro e wf ⟨gf, rfl, hOf, hgf⟩
  have Sf := tg_sarg hOf (Ee.grown0 hgf).arg HL.out
  have Uf := Ue.kept0 hgf
  have FUf := FUe.grown hgf (by simp)
  have Vf := Ve.grown0 hgf
  have Gf := gr_0 Ge hgf
  have ef := gl_any s (some ⟨gf, 0, none⟩) n n ms m _ Sf
  rw [HS.out, HLL.out, HB.out] at ef
  clear Ee Ue FUe Ve Ge hgf hOf Sf c0 c1
  go_wp2_with fail
  refine ef.mono ?_
  rintro e wg ⟨H, nH, cH, rfl, hH, hHl, hgg⟩
  obtain rfl : nV = nH := HVl.out.symm.trans hHl
  have Ag := World.grownBy_alloc wg (.cells #[.int .i64 S, .slice H nV cH] 25) none
  have Hg := GBox.new (t := 25) (s := S) (SArg.of_own hH hHl HLz.out)
  have Ug := (Uf.kept0 hgg).kept0 Ag
  have FUg := (FUf.grown hgg (by simp)).grown Ag (by simp)
  have Vg := (Vf.grown0 hgg).grown0 Ag
  have Gg := gr_0 (gr_0 Gf hgg) Ag
  have eg := eg_is S S H V nV nV cH cV L L true _ Hg.arg Vg.arg (by simp)
  have hcH := hH.cap
  have hmH := hH.max
  unfold maxLen at hmH
  clear ef Uf FUf Vf Gf hgg hH Ag
  have h0 := Hg.full.cellAt 0 (v := .int .i64 S) rfl
  have h1 := Hg.full.cellAt 1 (v := .slice H nV cH) rfl
  have v0 := Vg.full.cellAt 0 (v := .int .i64 S) rfl
  have v1 := Vg.full.cellAt 1 (v := .slice V nV cV) rfl
  go_wp2_with fail
  refine eg.mono ?_
  rintro e wh ⟨rfl, hgh⟩
  have Uh := Ug.kept0 hgh
  have FUh := FUg.grown hgh (by simp)
  have Gh := gr_0 Gg hgh
  have eh := ea _ Uh.lies
  clear eg Hg Ug FUg Vg Gg hgh h0 h1 v0 v1
  have u0 := FUh.cellAt 0 (v := .int .i64 S) rfl
  have u1 := FUh.cellAt 1 (v := .slice U nV cU) rfl
  go_wp2_with fail
  refine eh.mono ?_
  rintro e wi ⟨rfl, hgi⟩
  go_wp2_with fail
  go_ret
  exact ⟨rfl, gr_0 Gh hgi⟩
end Go.Proofs.Ytmjficimnkbonaa
