/- The walk of FnBarrierPart. -/
import Derived.Test.YtfcammfdengdbaaBarWait
import Derived.Test.YtfcammfdengdbaaApp
import Derived.Deep.DeepCutAuto
namespace Go.Proofs.Ytfcammfdengdbaa
open Go.RowKit

theorem own_empty_at {w : World} {base H s : Nat} {e : TypeId} (hH : w.heap.size = H) (hb : base ≤ H) : Own (w.alloc (.cells #[] e)) base e s (some ⟨H, 0, none⟩) 0 0 [] := by
  subst hH
  exact Own.empty w hb
theorem lies_full1 {w : World} {g : Nat} {t : TypeId} {v : Value} (h : Full w g t #[v]) : Lies w (some ⟨g, 0, none⟩) [v] := by
  refine .inr ⟨g, 0, rfl, ?_⟩
  intro j u hj
  rw [Nat.zero_add]
  exact h.cellAt j (by simpa using hj)
theorem set2 {w : World} {g : Nat} {t : TypeId} (h : Full w g t #[.int .i64 0, .slice none 0 0]) (u v : Value) : Full ((w.setCell ⟨g, 0, none⟩ u).setCell ⟨g, 1, none⟩ v) g t #[u, v] := (h.set 0 u).set 1 v
theorem own_put2 {w : World} {base n c g : Nat} {e t : TypeId} {s : Nat} {A : Option Addr} {xs : List Value} {cs : Array Value} (h : Own w base e s A n c xs) (f : Full w g t cs) (hne : e ≠ t) (u v : Value) : Own ((w.setCell ⟨g, 0, none⟩ u).setCell ⟨g, 1, none⟩ v) base e s A n c xs := (h.put f hne 0 u).put (f.set 0 u) hne 1 v
theorem lastOf_get (lo : Int) (xs : List Int) (k : Nat) (h : k < xs.length) (hk : xs.length = k + 1) : lastOf lo xs = xs[k] := by
  have hne : xs ≠ [] := by intro e; rw [e] at h; simp at h
  have e1 := List.dropLast_concat_getLast hne
  have e2 : xs.getLast hne = xs[k] := by simp [List.getLast_eq_getElem, hk]
  rw [e2] at e1
  generalize xs[k] = y at e1
  rw [← e1, lastOf_snoc]
theorem bar_next {d : Int} {xs : List Int} : barB d (xs ++ [d]) = false := barB_not (by
  rw [asc_app]
  simp only [asc, Bool.and_eq_false_iff, decide_eq_false_iff_not]
  right
  left
  right
  omega)
theorem bar_twice {d : Int} {xs : List Int} {x : Int} (h : lastOf (-1) xs = x) : barB d (xs ++ [x]) = false := barB_not (by
  rw [asc_app, h]
  simp [asc])

set_option maxHeartbeats 4000000 in
theorem part_walk (A : Option Addr) (n c : Nat) (zs : List Int) (w : World) (h : Code w A n c zs) :
    Calls Try.prog 3 #[.slice A n c] w fun e w' => e = .returned (.bool true) ∧ w.grownBy w' none := by
  have hc := h.cap
  have hm := h.max
  unfold maxLen at hm
  by_cases h1 : n > 1048576
  · go_enter Try.func3, Try.ntmps3
    go_wp2
    go_ret
    exact ⟨rfl, gr_refl _ _⟩
  go_enter Try.func3, Try.ntmps3
  go_wp2_with fail
  refine (dbv_any A n c zs _ h).mono ?_
  rintro e w1 ⟨d, P, N, C, xs, rfl, hP, hPb, hsm, hg1⟩
  have hd0 := hsm.d0
  have hd1 := hsm.d1
  have hN : N ≤ 101 := by have := hsm.len; have := hP.len; omega
  have hC := hP.cap
  have hCm := hP.max
  unfold maxLen at hCm
  have E1 := Full.new w1 25 #[.int .i64 d, .slice P N C]
  have h1' := hP.alloc (.cells #[.int .i64 d, .slice P N C] 25)
  have G1 := gr_alloc hg1 (.cells #[.int .i64 d, .slice P N C] 25)
  have c0 := E1.cellAt 0 (v := .int .i64 d) rfl
  have c1 := E1.cellAt 1 (v := .slice P N C) rfl
  obtain ⟨b, hb⟩ : ∃ v, barB d xs = v := ⟨_, rfl⟩
  have HB := hid hb
  have HLEN := hid (show (ints xs).length = N * 1 by rw [ints_len, hP.len, Nat.mul_one])
  clear hg1 hP hb
  have e1 := bv_is d P N C xs b _ h1' HB.out
  go_wp2_with fail
  refine e1.mono ?_
  rintro e w2 ⟨rfl, hg2⟩
  have h2 := h1'.grown0 hg2
  have E2 := E1.grown hg2 (by simp)
  have G2 := gr_0 G1 hg2
  have e2 := sbv_is d P N C xs b _ h2 HB.out (by omega) (by omega)
  clear e1 E1 G1 h1' hg2 c0 c1
  have c0 := E2.cellAt 0 (v := .int .i64 d) rfl
  have c1 := E2.cellAt 1 (v := .slice P N C) rfl
  go_wp2_with fail
  refine e2.mono ?_
  rintro e w3 ⟨rfl, hg3⟩
  have h3 := h2.grown0 hg3
  have E3 := E2.grown hg3 (by simp)
  have G3 := gr_0 G2 hg3
  clear e2 E2 G2 h2 hg3 c0 c1
  cases b with
  | false =>
    go_wp2_with fail
    go_ret
    exact ⟨rfl, G3⟩
  | true =>
    go_upto_region 8 with (fail)
    have c0 := E3.cellAt 0 (v := .int .i64 d) rfl
    have c1 := E3.cellAt 1 (v := .slice P N C) rfl
    have hC0 : ∀ w' : World, w3.grownBy w' none → w'.cell? ⟨w1.heap.size, 0, none⟩ = some (.int .i64 d) := fun w' h => h.cell c0 (by simp)
    have hC1 : ∀ w' : World, w3.grownBy w' none → w'.cell? ⟨w1.heap.size, 1, none⟩ = some (.slice P N C) := fun w' h => h.cell c1 (by simp)
    have HLI : ∀ w' : World, w3.grownBy w' none → Lies w' P (ints xs) := fun w' h => h3.li.grown0 h
    have HI := hid h3
    have HE := hid E3
    clear c0 c1 h3 E3
    go_cut [6] (fun s6 wx => ∃ (gx : Nat) (A' : Option Addr) (c' : Nat), s6 = .pointer (some ⟨gx, 0, none⟩) ∧ Full wx gx 25 #[.int .i64 d, .slice A' (N + 1) c'] ∧ IArg wx A' (N + 1) c' (xs ++ [d]) ∧ w3.grownBy wx none)
    case first =>
      go_region_held3 (fun w' => w3.grownBy w' none) (((repeat (first | (with_reducible assumption) | (with_reducible exact gr_refl _ _) | (with_reducible refine gr_alloc ?_ _) | (with_reducible refine gr_drew ?_) | (with_reducible refine gr_put ?_ (by omega) _))); (first | done | fail "left")))
        (first
          | (refine step_app _ rfl (.tmp 29) (.tmp 31) 23 rfl w3.heap.size 3 Try.underlying23 intInfo rfl (by omega) _ 0 0 [] rfl ?o1 P N C (ints xs) rfl ?l1 HLEN.out (ints_one _) (by omega) (by omega) ?b1 ?_
             case o1 => ((repeat (first | (with_reducible assumption) | (with_reducible exact own_empty_at (by first | (simp; done) | fail "sz") (by omega)) | (with_reducible refine Own.alloc ?_ _) | (with_reducible refine Own.drew ?_))); (first | done | fail "left"))
             case l1 => exact HLI _ (by ((repeat (first | (with_reducible assumption) | (with_reducible exact gr_refl _ _) | (with_reducible refine gr_alloc ?_ _) | (with_reducible refine gr_drew ?_) | (with_reducible refine gr_put ?_ (by omega) _))); (first | done | fail "left")))
             case b1 => first | omega | (simp; done) | (simp; omega)
             intro A5 c5 w5 hown5 hg5 _
             have K5 : w3.grownBy w5 none := gr_then (by ((repeat (first | (with_reducible assumption) | (with_reducible exact gr_refl _ _) | (with_reducible refine gr_alloc ?_ _) | (with_reducible refine gr_drew ?_) | (with_reducible refine gr_put ?_ (by omega) _))); (first | done | fail "left"))) hg5 (by rintro g hg; injection hg with hg; subst hg; exact .inr (by first | omega | (simp; done) | (simp; omega)))
             have s5 := K5.size
             rw [Nat.zero_add, List.nil_append] at hown5
             have A5b := fun g (hb : blockOf A5 = some g) => hown5.block hb
             try (have Y5b0 : Full w5 (w3.heap.size) 25 #[.int .i64 0, .slice none 0 0] := Full.grown (by ((repeat (first | (with_reducible assumption) | (with_reducible exact Full.newAt (by first | (simp; done) | fail "sz")) | (with_reducible refine Full.alloc ?_ _) | (with_reducible refine Full.drew ?_) | (with_reducible refine Full.set ?_ _ _))); (first | done | fail "left"))) hg5 (by first | (simp [blockOf]; done) | (simp [blockOf]; omega)); have Y5b0a := Y5b0.cellAt 0 (v := .int .i64 0) rfl; have Y5b0b := Y5b0.cellAt 1 (v := .slice none 0 0) rfl; have Y5b0c := Y5b0.free 0; have Y5b0d := Y5b0.free 1; have Y5b0n : w5.heap.size ≠ w3.heap.size := World.new_ne w5 _ Y5b0a; have Y5b0m := Y5b0n.symm)
             try (have Y5b1 : Full w5 (w3.heap.size + 1) 25 #[.int .i64 0, .slice none 0 0] := Full.grown (by ((repeat (first | (with_reducible assumption) | (with_reducible exact Full.newAt (by first | (simp; done) | fail "sz")) | (with_reducible refine Full.alloc ?_ _) | (with_reducible refine Full.drew ?_) | (with_reducible refine Full.set ?_ _ _))); (first | done | fail "left"))) hg5 (by first | (simp [blockOf]; done) | (simp [blockOf]; omega)); have Y5b1a := Y5b1.cellAt 0 (v := .int .i64 0) rfl; have Y5b1b := Y5b1.cellAt 1 (v := .slice none 0 0) rfl; have Y5b1c := Y5b1.free 0; have Y5b1d := Y5b1.free 1; have Y5b1n : w5.heap.size ≠ w3.heap.size + 1 := World.new_ne w5 _ Y5b1a; have Y5b1m := Y5b1n.symm)
             try (have Y5b2 : Full w5 (w3.heap.size + 1 + 1) 25 #[.int .i64 0, .slice none 0 0] := Full.grown (by ((repeat (first | (with_reducible assumption) | (with_reducible exact Full.newAt (by first | (simp; done) | fail "sz")) | (with_reducible refine Full.alloc ?_ _) | (with_reducible refine Full.drew ?_) | (with_reducible refine Full.set ?_ _ _))); (first | done | fail "left"))) hg5 (by first | (simp [blockOf]; done) | (simp [blockOf]; omega)); have Y5b2a := Y5b2.cellAt 0 (v := .int .i64 0) rfl; have Y5b2b := Y5b2.cellAt 1 (v := .slice none 0 0) rfl; have Y5b2c := Y5b2.free 0; have Y5b2d := Y5b2.free 1; have Y5b2n : w5.heap.size ≠ w3.heap.size + 1 + 1 := World.new_ne w5 _ Y5b2a; have Y5b2m := Y5b2n.symm)
             try (have Y5l0 : Full w5 (w3.heap.size) 3 #[.int .i64 d] := Full.grown (by ((repeat (first | (with_reducible assumption) | (with_reducible exact Full.newAt (by first | (simp; done) | fail "sz")) | (with_reducible refine Full.alloc ?_ _) | (with_reducible refine Full.drew ?_) | (with_reducible refine Full.set ?_ _ _))); (first | done | fail "left"))) hg5 (by first | (simp [blockOf]; done) | (simp [blockOf]; omega)))
             try (have Y5l1 : Full w5 (w3.heap.size + 1) 3 #[.int .i64 d] := Full.grown (by ((repeat (first | (with_reducible assumption) | (with_reducible exact Full.newAt (by first | (simp; done) | fail "sz")) | (with_reducible refine Full.alloc ?_ _) | (with_reducible refine Full.drew ?_) | (with_reducible refine Full.set ?_ _ _))); (first | done | fail "left"))) hg5 (by first | (simp [blockOf]; done) | (simp [blockOf]; omega)))
             try (have Y5l2 : Full w5 (w3.heap.size + 1 + 1) 3 #[.int .i64 d] := Full.grown (by ((repeat (first | (with_reducible assumption) | (with_reducible exact Full.newAt (by first | (simp; done) | fail "sz")) | (with_reducible refine Full.alloc ?_ _) | (with_reducible refine Full.drew ?_) | (with_reducible refine Full.set ?_ _ _))); (first | done | fail "left"))) hg5 (by first | (simp [blockOf]; done) | (simp [blockOf]; omega)))
             skip)
          | (refine step_app _ rfl (.tmp 32) (.tmp 35) 23 rfl w3.heap.size 3 Try.underlying23 intInfo rfl (by omega) A5 N c5 (ints xs) (by first | rfl | simp [Act.eval, Act.put]) ?o1 _ 1 1 [.int .i64 d] rfl ?l1 rfl (ints_one [d]) (by omega) (by omega) ?b1 ?_
             case o1 => ((repeat (first | (with_reducible assumption) | (with_reducible exact own_empty_at (by first | (simp; done) | fail "sz") (by omega)) | (with_reducible refine Own.alloc ?_ _) | (with_reducible refine Own.drew ?_))); (first | done | fail "left"))
             case l1 => exact lies_full1 (t := 3) (by ((repeat (first | (with_reducible assumption) | (with_reducible exact Full.newAt (by first | (simp; done) | fail "sz")) | (with_reducible refine Full.alloc ?_ _) | (with_reducible refine Full.drew ?_) | (with_reducible refine Full.set ?_ _ _))); (first | done | fail "left")))
             case b1 => first | omega | (simp; done) | (simp; omega)
             intro A6 c6 w6 hown6 hg6 _
             have K6 : w3.grownBy w6 none := gr_then (by ((repeat (first | (with_reducible assumption) | (with_reducible exact gr_refl _ _) | (with_reducible refine gr_alloc ?_ _) | (with_reducible refine gr_drew ?_) | (with_reducible refine gr_put ?_ (by omega) _))); (first | done | fail "left"))) hg6 (by intro g hg; exact .inr (A5b g hg).1)
             have s6 := K6.size
             have s56 : w5.heap.size ≤ w6.heap.size := by have := hg6.size; (try simp at this); omega
             try (have Y6b0 : Full w6 (w3.heap.size) 25 #[.int .i64 0, .slice none 0 0] := Full.grown (by ((repeat (first | (with_reducible assumption) | (with_reducible exact Full.newAt (by first | (simp; done) | fail "sz")) | (with_reducible refine Full.alloc ?_ _) | (with_reducible refine Full.drew ?_) | (with_reducible refine Full.set ?_ _ _))); (first | done | fail "left"))) hg6 (fun e => (hown5.ne_full Y5b0 (by decide) _ e.symm) rfl); have Y6b0a := Y6b0.cellAt 0 (v := .int .i64 0) rfl; have Y6b0b := Y6b0.cellAt 1 (v := .slice none 0 0) rfl; have Y6b0c := Y6b0.free 0; have Y6b0d := Y6b0.free 1)
             try (have Y6b1 : Full w6 (w3.heap.size + 1) 25 #[.int .i64 0, .slice none 0 0] := Full.grown (by ((repeat (first | (with_reducible assumption) | (with_reducible exact Full.newAt (by first | (simp; done) | fail "sz")) | (with_reducible refine Full.alloc ?_ _) | (with_reducible refine Full.drew ?_) | (with_reducible refine Full.set ?_ _ _))); (first | done | fail "left"))) hg6 (fun e => (hown5.ne_full Y5b1 (by decide) _ e.symm) rfl); have Y6b1a := Y6b1.cellAt 0 (v := .int .i64 0) rfl; have Y6b1b := Y6b1.cellAt 1 (v := .slice none 0 0) rfl; have Y6b1c := Y6b1.free 0; have Y6b1d := Y6b1.free 1)
             try (have Y6b2 : Full w6 (w3.heap.size + 1 + 1) 25 #[.int .i64 0, .slice none 0 0] := Full.grown (by ((repeat (first | (with_reducible assumption) | (with_reducible exact Full.newAt (by first | (simp; done) | fail "sz")) | (with_reducible refine Full.alloc ?_ _) | (with_reducible refine Full.drew ?_) | (with_reducible refine Full.set ?_ _ _))); (first | done | fail "left"))) hg6 (fun e => (hown5.ne_full Y5b2 (by decide) _ e.symm) rfl); have Y6b2a := Y6b2.cellAt 0 (v := .int .i64 0) rfl; have Y6b2b := Y6b2.cellAt 1 (v := .slice none 0 0) rfl; have Y6b2c := Y6b2.free 0; have Y6b2d := Y6b2.free 1)
             try (have Y6b3 : Full w6 (w5.heap.size) 25 #[.int .i64 0, .slice none 0 0] := Full.grown (by ((repeat (first | (with_reducible assumption) | (with_reducible exact Full.newAt (by first | (simp; done) | fail "sz")) | (with_reducible refine Full.alloc ?_ _) | (with_reducible refine Full.drew ?_) | (with_reducible refine Full.set ?_ _ _))); (first | done | fail "left"))) hg6 (fun e => by have := (A5b _ e.symm).2; omega); have Y6b3a := Y6b3.cellAt 0 (v := .int .i64 0) rfl; have Y6b3b := Y6b3.cellAt 1 (v := .slice none 0 0) rfl; have Y6b3c := Y6b3.free 0; have Y6b3d := Y6b3.free 1)
             try (have Y6b4 : Full w6 (w5.heap.size + 1) 25 #[.int .i64 0, .slice none 0 0] := Full.grown (by ((repeat (first | (with_reducible assumption) | (with_reducible exact Full.newAt (by first | (simp; done) | fail "sz")) | (with_reducible refine Full.alloc ?_ _) | (with_reducible refine Full.drew ?_) | (with_reducible refine Full.set ?_ _ _))); (first | done | fail "left"))) hg6 (fun e => by have := (A5b _ e.symm).2; omega); have Y6b4a := Y6b4.cellAt 0 (v := .int .i64 0) rfl; have Y6b4b := Y6b4.cellAt 1 (v := .slice none 0 0) rfl; have Y6b4c := Y6b4.free 0; have Y6b4d := Y6b4.free 1)
             skip))
      all_goals
        go_wp2_with fail
        go_meet
        case rel =>
          refine ⟨_, A6, c6, rfl, ?_, ?_, ?_⟩
          · repeat (first | (with_reducible assumption) | (with_reducible exact Full.newAt (by first | (simp; done) | fail "sz")) | (with_reducible refine Full.alloc ?_ _) | (with_reducible refine Full.drew ?_) | (with_reducible refine set2 ?_ _ _))
          · refine IArg.of_own (base := w3.heap.size) ?_ (by have := HI.out.len; simp; omega)
            rw [show ints (xs ++ [d]) = ints xs ++ [.int .i64 d] by simp [ints]]
            repeat (first | (with_reducible assumption) | (with_reducible refine Own.alloc ?_ _) | (with_reducible refine Own.drew ?_) | (with_reducible refine own_put2 (t := 25) (cs := #[.int .i64 0, .slice none 0 0]) ?_ (by ((repeat (first | (with_reducible assumption) | (with_reducible exact Full.newAt (by first | (simp; done) | fail "sz")) | (with_reducible refine Full.alloc ?_ _) | (with_reducible refine Full.drew ?_) | (with_reducible refine Full.set ?_ _ _))); (first | done | fail "left"))) (by decide) _ _))
          · ((repeat (first | (with_reducible assumption) | (with_reducible exact gr_refl _ _) | (with_reducible refine gr_alloc ?_ _) | (with_reducible refine gr_drew ?_) | (with_reducible refine gr_put ?_ (by omega) _))); (first | done | fail "left"))
    case rest =>
      obtain ⟨gx, A', c', rfl, FX, IX, GX⟩ := hcut
      have G4 := gr_0 G3 GX
      have E4 := HE.out.grown GX (by simp)
      have I4 := HI.out.grown0 GX
      have c0 := E4.cellAt 0 (v := .int .i64 d) rfl
      have c1 := E4.cellAt 1 (v := .slice P N C) rfl
      clear hC0 hC1 HLI GX
      have e3 := fun w h => bv_is d A' (N + 1) c' (xs ++ [d]) false w h bar_next
      rcases (show N = 0 ∨ ∃ k, N = k + 1 by cases N with
        | zero => exact .inl rfl
        | succ k => exact .inr ⟨k, rfl⟩) with hz | ⟨k, hz⟩
      · subst hz
        have x0 := FX.cellAt 0 (v := .int .i64 d) rfl
        have x1 := FX.cellAt 1 (v := .slice A' (0 + 1) c') rfl
        have e4 := e3 _ IX
        clear e3
        go_wp2_with fail
        refine e4.mono ?_
        rintro e w7 ⟨rfl, hg7⟩
        go_wp2_with fail
        go_ret
        exact ⟨rfl, gr_0 G4 hg7⟩
      · have hkl : k < xs.length := by rw [I4.len]; omega
        obtain ⟨gP, oP, rfl, _, hcell⟩ := I4.li.open_ (by rw [ints_len]; omega)
        have cx := intAt hcell hkl
        have hlast := lastOf_get (-1) xs k hkl (by rw [I4.len]; exact hz)
        generalize xs[k] = x at cx hlast
        have b1 : (0 : Int) ≤ (k : Int) := by omega
        have HZ := hid hz
        have zn : decide ((N : Int) = 0) = false := by simp; omega
        clear hcell hkl
        go_upto_region 11 with (fail)
        have HL4 := hid I4
        have HE4 := hid E4
        have HX := hid FX
        have HIX := hid IX
        have hC0 : ∀ w' : World, wc.grownBy w' none → w'.cell? ⟨w1.heap.size, 0, none⟩ = some (.int .i64 d) := fun w' h => h.cell c0 (by simp)
        have hC1 : ∀ w' : World, wc.grownBy w' none → w'.cell? ⟨w1.heap.size, 1, none⟩ = some (.slice (some ⟨gP, oP, none⟩) N C) := fun w' h => h.cell c1 (by simp)
        have hC2 : ∀ w' : World, wc.grownBy w' none → w'.cell? ⟨gP, oP + k, none⟩ = some (.int .i64 x) := fun w' h => h.cell cx (by simp)
        have HLI : ∀ w' : World, wc.grownBy w' none → Lies w' (some ⟨gP, oP, none⟩) (ints xs) := fun w' h => I4.li.grown0 h
        have i1 : IntKind.i64.wrap ((N : Int) - 1) = (k : Int) := by rw [IntWalk.i64_in _ (by omega)]; omega
        have b2 : (k : Int) < (N : Int) := by omega
        have HI1 := hid i1
        clear c0 c1 cx I4 E4 FX IX zn hz b1
        generalize wc = wd at *
        go_cut [7] (fun s7 wx => ∃ (gx : Nat) (A' : Option Addr) (c' : Nat), s7 = .pointer (some ⟨gx, 0, none⟩) ∧ Full wx gx 25 #[.int .i64 d, .slice A' (N + 1) c'] ∧ IArg wx A' (N + 1) c' (xs ++ [x]) ∧ wd.grownBy wx none)
        case first =>
          go_region_held3 (fun w' => wd.grownBy w' none) (((repeat (first | (with_reducible assumption) | (with_reducible exact gr_refl _ _) | (with_reducible refine gr_alloc ?_ _) | (with_reducible refine gr_drew ?_) | (with_reducible refine gr_put ?_ (by omega) _))); (first | done | fail "left")))
            (first
              | (refine step_app _ rfl (.tmp 47) (.tmp 49) 23 rfl wd.heap.size 3 Try.underlying23 intInfo rfl (by omega) _ 0 0 [] rfl ?o1 (some ⟨gP, oP, none⟩) N C (ints xs) rfl ?l1 HLEN.out (ints_one _) (by omega) (by omega) ?b1 ?_
                 case o1 => ((repeat (first | (with_reducible assumption) | (with_reducible exact own_empty_at (by first | (simp; done) | fail "sz") (by omega)) | (with_reducible refine Own.alloc ?_ _) | (with_reducible refine Own.drew ?_))); (first | done | fail "left"))
                 case l1 => exact HLI _ (by ((repeat (first | (with_reducible assumption) | (with_reducible exact gr_refl _ _) | (with_reducible refine gr_alloc ?_ _) | (with_reducible refine gr_drew ?_) | (with_reducible refine gr_put ?_ (by omega) _))); (first | done | fail "left")))
                 case b1 => first | omega | (simp; done) | (simp; omega)
                 intro A5 c5 w5 hown5 hg5 _
                 have K5 : wd.grownBy w5 none := gr_then (by ((repeat (first | (with_reducible assumption) | (with_reducible exact gr_refl _ _) | (with_reducible refine gr_alloc ?_ _) | (with_reducible refine gr_drew ?_) | (with_reducible refine gr_put ?_ (by omega) _))); (first | done | fail "left"))) hg5 (by rintro g hg; injection hg with hg; subst hg; exact .inr (by first | omega | (simp; done) | (simp; omega)))
                 have s5 := K5.size
                 rw [Nat.zero_add, List.nil_append] at hown5
                 have A5b := fun g (hb : blockOf A5 = some g) => hown5.block hb
                 try (have Y5b0 : Full w5 (wd.heap.size) 25 #[.int .i64 0, .slice none 0 0] := Full.grown (by ((repeat (first | (with_reducible assumption) | (with_reducible exact Full.newAt (by first | (simp; done) | fail "sz")) | (with_reducible refine Full.alloc ?_ _) | (with_reducible refine Full.drew ?_) | (with_reducible refine Full.set ?_ _ _))); (first | done | fail "left"))) hg5 (by first | (simp [blockOf]; done) | (simp [blockOf]; omega)); have Y5b0a := Y5b0.cellAt 0 (v := .int .i64 0) rfl; have Y5b0b := Y5b0.cellAt 1 (v := .slice none 0 0) rfl; have Y5b0c := Y5b0.free 0; have Y5b0d := Y5b0.free 1; have Y5b0n : w5.heap.size ≠ wd.heap.size := World.new_ne w5 _ Y5b0a; have Y5b0m := Y5b0n.symm)
                 try (have Y5b1 : Full w5 (wd.heap.size + 1) 25 #[.int .i64 0, .slice none 0 0] := Full.grown (by ((repeat (first | (with_reducible assumption) | (with_reducible exact Full.newAt (by first | (simp; done) | fail "sz")) | (with_reducible refine Full.alloc ?_ _) | (with_reducible refine Full.drew ?_) | (with_reducible refine Full.set ?_ _ _))); (first | done | fail "left"))) hg5 (by first | (simp [blockOf]; done) | (simp [blockOf]; omega)); have Y5b1a := Y5b1.cellAt 0 (v := .int .i64 0) rfl; have Y5b1b := Y5b1.cellAt 1 (v := .slice none 0 0) rfl; have Y5b1c := Y5b1.free 0; have Y5b1d := Y5b1.free 1; have Y5b1n : w5.heap.size ≠ wd.heap.size + 1 := World.new_ne w5 _ Y5b1a; have Y5b1m := Y5b1n.symm)
                 try (have Y5b2 : Full w5 (wd.heap.size + 1 + 1) 25 #[.int .i64 0, .slice none 0 0] := Full.grown (by ((repeat (first | (with_reducible assumption) | (with_reducible exact Full.newAt (by first | (simp; done) | fail "sz")) | (with_reducible refine Full.alloc ?_ _) | (with_reducible refine Full.drew ?_) | (with_reducible refine Full.set ?_ _ _))); (first | done | fail "left"))) hg5 (by first | (simp [blockOf]; done) | (simp [blockOf]; omega)); have Y5b2a := Y5b2.cellAt 0 (v := .int .i64 0) rfl; have Y5b2b := Y5b2.cellAt 1 (v := .slice none 0 0) rfl; have Y5b2c := Y5b2.free 0; have Y5b2d := Y5b2.free 1; have Y5b2n : w5.heap.size ≠ wd.heap.size + 1 + 1 := World.new_ne w5 _ Y5b2a; have Y5b2m := Y5b2n.symm)
                 try (have Y5l0 : Full w5 (wd.heap.size) 3 #[.int .i64 x] := Full.grown (by ((repeat (first | (with_reducible assumption) | (with_reducible exact Full.newAt (by first | (simp; done) | fail "sz")) | (with_reducible refine Full.alloc ?_ _) | (with_reducible refine Full.drew ?_) | (with_reducible refine Full.set ?_ _ _))); (first | done | fail "left"))) hg5 (by first | (simp [blockOf]; done) | (simp [blockOf]; omega)))
                 try (have Y5l1 : Full w5 (wd.heap.size + 1) 3 #[.int .i64 x] := Full.grown (by ((repeat (first | (with_reducible assumption) | (with_reducible exact Full.newAt (by first | (simp; done) | fail "sz")) | (with_reducible refine Full.alloc ?_ _) | (with_reducible refine Full.drew ?_) | (with_reducible refine Full.set ?_ _ _))); (first | done | fail "left"))) hg5 (by first | (simp [blockOf]; done) | (simp [blockOf]; omega)))
                 try (have Y5l2 : Full w5 (wd.heap.size + 1 + 1) 3 #[.int .i64 x] := Full.grown (by ((repeat (first | (with_reducible assumption) | (with_reducible exact Full.newAt (by first | (simp; done) | fail "sz")) | (with_reducible refine Full.alloc ?_ _) | (with_reducible refine Full.drew ?_) | (with_reducible refine Full.set ?_ _ _))); (first | done | fail "left"))) hg5 (by first | (simp [blockOf]; done) | (simp [blockOf]; omega)))
                 skip)
              | (refine step_app _ rfl (.tmp 50) (.tmp 59) 23 rfl wd.heap.size 3 Try.underlying23 intInfo rfl (by omega) A5 N c5 (ints xs) (by first | rfl | simp [Act.eval, Act.put]) ?o1 _ 1 1 [.int .i64 x] rfl ?l1 rfl (ints_one [x]) (by omega) (by omega) ?b1 ?_
                 case o1 => ((repeat (first | (with_reducible assumption) | (with_reducible exact own_empty_at (by first | (simp; done) | fail "sz") (by omega)) | (with_reducible refine Own.alloc ?_ _) | (with_reducible refine Own.drew ?_))); (first | done | fail "left"))
                 case l1 => exact lies_full1 (t := 3) (by ((repeat (first | (with_reducible assumption) | (with_reducible exact Full.newAt (by first | (simp; done) | fail "sz")) | (with_reducible refine Full.alloc ?_ _) | (with_reducible refine Full.drew ?_) | (with_reducible refine Full.set ?_ _ _))); (first | done | fail "left")))
                 case b1 => first | omega | (simp; done) | (simp; omega)
                 intro A6 c6 w6 hown6 hg6 _
                 have K6 : wd.grownBy w6 none := gr_then (by ((repeat (first | (with_reducible assumption) | (with_reducible exact gr_refl _ _) | (with_reducible refine gr_alloc ?_ _) | (with_reducible refine gr_drew ?_) | (with_reducible refine gr_put ?_ (by omega) _))); (first | done | fail "left"))) hg6 (by intro g hg; exact .inr (A5b g hg).1)
                 have s6 := K6.size
                 have s56 : w5.heap.size ≤ w6.heap.size := by have := hg6.size; (try simp at this); omega
                 try (have Y6b0 : Full w6 (wd.heap.size) 25 #[.int .i64 0, .slice none 0 0] := Full.grown (by ((repeat (first | (with_reducible assumption) | (with_reducible exact Full.newAt (by first | (simp; done) | fail "sz")) | (with_reducible refine Full.alloc ?_ _) | (with_reducible refine Full.drew ?_) | (with_reducible refine Full.set ?_ _ _))); (first | done | fail "left"))) hg6 (fun e => (hown5.ne_full Y5b0 (by decide) _ e.symm) rfl); have Y6b0a := Y6b0.cellAt 0 (v := .int .i64 0) rfl; have Y6b0b := Y6b0.cellAt 1 (v := .slice none 0 0) rfl; have Y6b0c := Y6b0.free 0; have Y6b0d := Y6b0.free 1)
                 try (have Y6b1 : Full w6 (wd.heap.size + 1) 25 #[.int .i64 0, .slice none 0 0] := Full.grown (by ((repeat (first | (with_reducible assumption) | (with_reducible exact Full.newAt (by first | (simp; done) | fail "sz")) | (with_reducible refine Full.alloc ?_ _) | (with_reducible refine Full.drew ?_) | (with_reducible refine Full.set ?_ _ _))); (first | done | fail "left"))) hg6 (fun e => (hown5.ne_full Y5b1 (by decide) _ e.symm) rfl); have Y6b1a := Y6b1.cellAt 0 (v := .int .i64 0) rfl; have Y6b1b := Y6b1.cellAt 1 (v := .slice none 0 0) rfl; have Y6b1c := Y6b1.free 0; have Y6b1d := Y6b1.free 1)
                 try (have Y6b2 : Full w6 (wd.heap.size + 1 + 1) 25 #[.int .i64 0, .slice none 0 0] := Full.grown (by ((repeat (first | (with_reducible assumption) | (with_reducible exact Full.newAt (by first | (simp; done) | fail "sz")) | (with_reducible refine Full.alloc ?_ _) | (with_reducible refine Full.drew ?_) | (with_reducible refine Full.set ?_ _ _))); (first | done | fail "left"))) hg6 (fun e => (hown5.ne_full Y5b2 (by decide) _ e.symm) rfl); have Y6b2a := Y6b2.cellAt 0 (v := .int .i64 0) rfl; have Y6b2b := Y6b2.cellAt 1 (v := .slice none 0 0) rfl; have Y6b2c := Y6b2.free 0; have Y6b2d := Y6b2.free 1)
                 try (have Y6b3 : Full w6 (w5.heap.size) 25 #[.int .i64 0, .slice none 0 0] := Full.grown (by ((repeat (first | (with_reducible assumption) | (with_reducible exact Full.newAt (by first | (simp; done) | fail "sz")) | (with_reducible refine Full.alloc ?_ _) | (with_reducible refine Full.drew ?_) | (with_reducible refine Full.set ?_ _ _))); (first | done | fail "left"))) hg6 (fun e => by have := (A5b _ e.symm).2; omega); have Y6b3a := Y6b3.cellAt 0 (v := .int .i64 0) rfl; have Y6b3b := Y6b3.cellAt 1 (v := .slice none 0 0) rfl; have Y6b3c := Y6b3.free 0; have Y6b3d := Y6b3.free 1)
                 try (have Y6b4 : Full w6 (w5.heap.size + 1) 25 #[.int .i64 0, .slice none 0 0] := Full.grown (by ((repeat (first | (with_reducible assumption) | (with_reducible exact Full.newAt (by first | (simp; done) | fail "sz")) | (with_reducible refine Full.alloc ?_ _) | (with_reducible refine Full.drew ?_) | (with_reducible refine Full.set ?_ _ _))); (first | done | fail "left"))) hg6 (fun e => by have := (A5b _ e.symm).2; omega); have Y6b4a := Y6b4.cellAt 0 (v := .int .i64 0) rfl; have Y6b4b := Y6b4.cellAt 1 (v := .slice none 0 0) rfl; have Y6b4c := Y6b4.free 0; have Y6b4d := Y6b4.free 1)
                 skip))
          all_goals
            go_wp2_with fail
            go_meet
            case rel =>
              refine ⟨_, A6, c6, rfl, ?_, ?_, ?_⟩
              · repeat (first | (with_reducible assumption) | (with_reducible exact Full.newAt (by first | (simp; done) | fail "sz")) | (with_reducible refine Full.alloc ?_ _) | (with_reducible refine Full.drew ?_) | (with_reducible refine set2 ?_ _ _))
              · refine IArg.of_own (base := wd.heap.size) ?_ (by have := HL4.out.len; simp; omega)
                rw [show ints (xs ++ [x]) = ints xs ++ [.int .i64 x] by simp [ints]]
                repeat (first | (with_reducible assumption) | (with_reducible refine Own.alloc ?_ _) | (with_reducible refine Own.drew ?_) | (with_reducible refine own_put2 (t := 25) (cs := #[.int .i64 0, .slice none 0 0]) ?_ (by ((repeat (first | (with_reducible assumption) | (with_reducible exact Full.newAt (by first | (simp; done) | fail "sz")) | (with_reducible refine Full.alloc ?_ _) | (with_reducible refine Full.drew ?_) | (with_reducible refine Full.set ?_ _ _))); (first | done | fail "left"))) (by decide) _ _))
              · ((repeat (first | (with_reducible assumption) | (with_reducible exact gr_refl _ _) | (with_reducible refine gr_alloc ?_ _) | (with_reducible refine gr_drew ?_) | (with_reducible refine gr_put ?_ (by omega) _))); (first | done | fail "left"))
        case rest =>
          obtain ⟨gy, A2, c2, rfl, FY, IY, GY⟩ := hcut
          have FX2 := HX.out.grown GY (by simp)
          have x0 := FX2.cellAt 0 (v := .int .i64 d) rfl
          have x1 := FX2.cellAt 1 (v := .slice A' (N + 1) c') rfl
          have e4 := e3 _ (HIX.out.grown0 GY)
          have HL := hid hlast
          clear e3 hC0 hC1 hC2 HLI i1 hlast
          go_wp2_with fail
          refine e4.mono ?_
          rintro e w7 ⟨rfl, hg7⟩
          have FY2 := FY.grown hg7 (by simp)
          have e5 := bv_is d A2 (N + 1) c2 (xs ++ [x]) false _ (IY.grown0 hg7) (bar_twice HL.out)
          have y0 := FY2.cellAt 0 (v := .int .i64 d) rfl
          have y1 := FY2.cellAt 1 (v := .slice A2 (N + 1) c2) rfl
          clear e4 x0 x1
          go_wp2_with fail
          refine e5.mono ?_
          rintro e w8 ⟨rfl, hg8⟩
          go_wp2_with fail
          go_ret
          exact ⟨rfl, gr_0 (gr_0 (gr_0 G4 GY) hg7) hg8⟩
end Go.Proofs.Ytfcammfdengdbaa
