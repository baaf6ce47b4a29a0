/- BarrierTake and BarrierDone in spec. -/
import Derived.Test.YtfcammfdengdbaaBarDone
import Derived.Test.YtfcammfdengdbaaApp
import Derived.Deep.DeepCutAuto
namespace Go.Proofs.Ytfcammfdengdbaa
open Go.RowKit

theorem own_empty_at2 {w : World} {base H s : Nat} {e : TypeId} (hH : w.heap.size = H) (hb : base ≤ H) : Own (w.alloc (.cells #[] e)) base e s (some ⟨H, 0, none⟩) 0 0 [] := by
  subst hH
  exact Own.empty w hb
theorem lies_lit1 (w : World) (v : Value) (t : TypeId) {H : Nat} (hH : w.heap.size = H) : Lies (w.alloc (.cells #[v] t)) (some ⟨H, 0, none⟩) [v] := by
  refine .inr ⟨H, 0, rfl, ?_⟩
  intro j u hj
  rw [Nat.zero_add]
  exact (Full.newAt hH).cellAt j (by simpa using hj)
theorem set2b {w : World} {g : Nat} {t : TypeId} (h : Full w g t #[.int .i64 0, .slice none 0 0]) (u v : Value) : Full ((w.setCell ⟨g, 0, none⟩ u).setCell ⟨g, 1, none⟩ v) g t #[u, v] := (h.set 0 u).set 1 v
theorem own_put2b {w : World} {base n c g : Nat} {e t : TypeId} {s : Nat} {A : Option Addr} {xs : List Value} {cs : Array Value} (h : Own w base e s A n c xs) (f : Full w g t cs) (hne : e ≠ t) (u v : Value) : Own ((w.setCell ⟨g, 0, none⟩ u).setCell ⟨g, 1, none⟩ v) base e s A n c xs := (h.put f hne 0 u).put (f.set 0 u) hne 1 v

set_option maxHeartbeats 4000000 in
theorem sbt_any (d : Int) (A : Option Addr) (n c : Nat) (xs : List Int) (m : Int) (w : World) (h : IArg w A n c xs) (hd0 : -1000000 ≤ d) (hd1 : d ≤ 1000000) (hm0 : -1000000 ≤ m) (hm1 : m ≤ 1000000) :
    Calls Try.prog 25 #[.agg #[.int .i64 d, .slice A n c], .int .i64 m] w (BtTo w (takeN d xs m) (takeL d xs m) (takeF d xs m) (takeB d xs m)) := by
  have E0 := (Full.new w 25 #[.int .i64 d, .slice A n c]).alloc (.cells #[.int .i64 0, .slice none 0 0] 25)
  have R0 := Full.newAt (w := w.alloc (.cells #[.int .i64 d, .slice A n c] 25)) (t := 25) (cs := #[.int .i64 0, .slice none 0 0]) (H := w.heap.size + 1) (by simp)
  have h0 := (h.alloc (.cells #[.int .i64 d, .slice A n c] 25)).alloc (.cells #[.int .i64 0, .slice none 0 0] 25)
  have G0 := gr_alloc (gr_alloc (gr_refl w none) (.cells #[.int .i64 d, .slice A n c] 25)) (.cells #[.int .i64 0, .slice none 0 0] 25)
  obtain ⟨b, hb⟩ : ∃ b, barB d xs = b := ⟨_, rfl⟩
  obtain ⟨bm, hbm⟩ : ∃ b, inR m 1 24 = b := ⟨_, rfl⟩
  have e1 := sbv_is d A n c xs b _ h0 hb hd0 hd1
  have e2 := fun w => in_is m 1 24 bm w hbm
  have HB := hid hb
  have HBm := hid hbm
  have HT := hid (show takeB d xs m = (b && (bm && decide (d + m ≤ 100))) by rw [takeB, hb, hbm])
  have c0 := E0.cellAt 0 (v := .int .i64 d) rfl
  have c1 := E0.cellAt 1 (v := .slice A n c) rfl
  clear h hb hbm
  obtain ⟨rb, hrb⟩ : ∃ rb, w.heap.size + 1 = rb := ⟨_, rfl⟩
  rw [hrb] at R0
  have hrb1 : w.heap.size < rb := by omega
  go_enter Try.func25, Try.ntmps25
  go_wp2_with fail
  clear hrb
  refine e1.mono ?_
  rintro e w1 ⟨rfl, hg1⟩
  have h1 := h0.grown0 hg1
  have E1 := E0.grown hg1 (by simp)
  have R1 := R0.grown hg1 (by simp)
  have G1 := gr_0 G0 hg1
  have hs1 := G1.size
  clear e1 h0 E0 R0 G0 hg1 c0 c1
  have r0 := R1.cellAt 0 (v := .int .i64 0) rfl
  have r1 := R1.cellAt 1 (v := .slice none 0 0) rfl
  have f0 := R1.free 0
  have f1 := R1.free 1
  have NO := hid (show takeB d xs m = false → BtTo w (takeN d xs m) (takeL d xs m) (takeF d xs m) (takeB d xs m) (.returned (.tuple #[.agg #[.int .i64 0, .slice none 0 0], .int .i64 0, .bool false])) ((w1.setCell ⟨rb, 0, none⟩ (.int .i64 0)).setCell ⟨rb, 1, none⟩ (.slice none 0 0)) from fun hT => by
    obtain ⟨a1, a2, a3⟩ := take_no hT
    rw [a1, a2, a3, hT]
    exact ⟨none, 0, 0, rfl, Own.nil _, rfl, gr_put (gr_put G1 (by omega) _) (by omega) _⟩)
  cases b with
  | false =>
    have HF := hid (show takeB d xs m = false by rw [HT.out]; rfl)
    go_wp2_with fail
    refine bodyPost_ret (v := .tuple #[.agg #[.int .i64 0, .slice none 0 0], .int .i64 0, .bool false]) ?_ rfl (NO.out HF.out)
    simp [results, Try.results25, go_sem, r0, r1]
  | true =>
    go_wp2_with fail
    refine (e2 _).mono ?_
    rintro e w_ ⟨rfl, rfl⟩
    clear e2
    cases bm with
    | false =>
      have HF := hid (show takeB d xs m = false by rw [HT.out]; rfl)
      go_wp2_with fail
      refine bodyPost_ret (v := .tuple #[.agg #[.int .i64 0, .slice none 0 0], .int .i64 0, .bool false]) ?_ rfl (NO.out HF.out)
      simp [results, Try.results25, go_sem, r0, r1]
    | true =>
      have c0 := E1.cellAt 0 (v := .int .i64 d) rfl
      have c1 := E1.cellAt 1 (v := .slice A n c) rfl
      have hdd := (barB_parts HB.out).1
      have hmm : 1 ≤ m ∧ m ≤ 24 := by have := HBm.out; simpa [inR] using this
      obtain ⟨hd, hd'⟩ := hdd
      obtain ⟨hm, hm'⟩ := hmm
      rcases (by omega : 100 < d + m ∨ d + m ≤ 100) with q | q
      · have HF := hid (show takeB d xs m = false by rw [HT.out, decide_eq_false (by omega : ¬ d + m ≤ 100)]; rfl)
        go_wp2_with fail
        refine bodyPost_ret (v := .tuple #[.agg #[.int .i64 0, .slice none 0 0], .int .i64 0, .bool false]) ?_ rfl (NO.out HF.out)
        simp [results, Try.results25, go_sem, r0, r1]
      · have HF := hid (show takeB d xs m = true by rw [HT.out, decide_eq_true q]; rfl)
        have HY := hid (take_yes HF.out)
        obtain ⟨k, rfl⟩ := Int.eq_ofNat_of_zero_le (show 0 ≤ m by omega)
        have hnl := barB_len HB.out
        have hn := h1.len
        have hn100 : n ≤ 100 := by omega
        have HN := hid hn
        have HLEN := hid (show (ints xs).length = n * 1 by rw [ints_len, hn, Nat.mul_one])
        have i1 : IntKind.i64.wrap (d + (k : Int)) = d + k := IntWalk.i64_in _ (by omega)
        have hcap := h1.cap
        have hcm := h1.max
        unfold maxLen at hcm
        go_upto_region 3 with (fail)
        have hC0 : ∀ w' : World, w1.grownBy w' none → w'.cell? ⟨w.heap.size, 0, none⟩ = some (.int .i64 d) := fun w' h => h.cell c0 (by simp)
        have hC1 : ∀ w' : World, w1.grownBy w' none → w'.cell? ⟨w.heap.size, 1, none⟩ = some (.slice A n c) := fun w' h => h.cell c1 (by simp)
        have HLI : ∀ w' : World, w1.grownBy w' none → Lies w' A (ints xs) := fun w' h => h1.li.grown0 h
        have HE := hid E1
        have HR := hid R1
        clear c0 c1 NO HBm HT hnl hn h1 f0 f1 r0 r1 E1 R1
        go_cut [7] (fun s7 wx => ∃ (gx : Nat) (A' : Option Addr) (c' : Nat), s7 = .pointer (some ⟨gx, 0, none⟩) ∧ Full wx gx 25 #[.int .i64 (d + (k : Int)), .slice A' n c'] ∧ w1.heap.size ≤ gx ∧ Own wx w1.heap.size 3 1 A' n c' (ints xs) ∧ w1.grownBy wx none)
        case first =>
          go_region_held3 (fun w' => w1.grownBy w' none) (((repeat (first | (with_reducible assumption) | (with_reducible exact gr_refl _ _) | (with_reducible refine gr_alloc ?_ _) | (with_reducible refine gr_drew ?_) | (with_reducible refine gr_put ?_ (by omega) _))); (first | done | fail "left")))
            ((refine step_app _ rfl (.tmp 29) (.tmp 31) 23 rfl w1.heap.size 3 Try.underlying23 intInfo rfl (by omega) _ 0 0 [] rfl ?o1 A n c (ints xs) rfl ?l1 HLEN.out (ints_one _) (by omega) (by omega) ?b1 ?_
              case o1 => ((repeat (first | (with_reducible assumption) | (with_reducible exact own_empty_at2 (by first | (simp; done) | fail "sz") (by omega)) | (with_reducible refine Own.alloc ?_ _) | (with_reducible refine Own.drew ?_))); (first | done | fail "left"))
              case l1 => exact HLI _ (by ((repeat (first | (with_reducible assumption) | (with_reducible exact gr_refl _ _) | (with_reducible refine gr_alloc ?_ _) | (with_reducible refine gr_drew ?_) | (with_reducible refine gr_put ?_ (by omega) _))); (first | done | fail "left")))
              case b1 => first | omega | (simp; done) | (simp; omega)
              intro A5 c5 w5 hown5 hg5 _
              have K5 : w1.grownBy w5 none := gr_then (by ((repeat (first | (with_reducible assumption) | (with_reducible exact gr_refl _ _) | (with_reducible refine gr_alloc ?_ _) | (with_reducible refine gr_drew ?_) | (with_reducible refine gr_put ?_ (by omega) _))); (first | done | fail "left"))) hg5 (by rintro g hg; injection hg with hg; subst hg; exact .inr (by first | omega | (simp; done) | (simp; omega)))
              have s5 := K5.size
              rw [Nat.zero_add, List.nil_append] at hown5
              have e5 : 0 + n = n := Nat.zero_add n
              try rw [e5]
              clear e5
              try (have Y0 : Full w5 (w1.heap.size) 25 #[.int .i64 0, .slice none 0 0] := Full.grown (by ((repeat (first | (with_reducible assumption) | (with_reducible exact Full.newAt (by first | (simp; done) | fail "sz")) | (with_reducible refine Full.alloc ?_ _) | (with_reducible refine Full.drew ?_) | (with_reducible refine Full.set ?_ _ _))); (first | done | fail "left"))) hg5 (by first | (simp [blockOf]; done) | (simp [blockOf]; omega)); have Y0a := Y0.cellAt 0 (v := .int .i64 0) rfl; have Y0b := Y0.cellAt 1 (v := .slice none 0 0) rfl; have Y0c := Y0.free 0; have Y0d := Y0.free 1; have Y0n : w5.heap.size ≠ w1.heap.size := World.new_ne w5 _ Y0a; have Y0m := Y0n.symm)
              try (have Y1 : Full w5 (w1.heap.size + 1) 25 #[.int .i64 0, .slice none 0 0] := Full.grown (by ((repeat (first | (with_reducible assumption) | (with_reducible exact Full.newAt (by first | (simp; done) | fail "sz")) | (with_reducible refine Full.alloc ?_ _) | (with_reducible refine Full.drew ?_) | (with_reducible refine Full.set ?_ _ _))); (first | done | fail "left"))) hg5 (by first | (simp [blockOf]; done) | (simp [blockOf]; omega)); have Y1a := Y1.cellAt 0 (v := .int .i64 0) rfl; have Y1b := Y1.cellAt 1 (v := .slice none 0 0) rfl; have Y1c := Y1.free 0; have Y1d := Y1.free 1; have Y1n : w5.heap.size ≠ w1.heap.size + 1 := World.new_ne w5 _ Y1a; have Y1m := Y1n.symm)
              try (have Y2 : Full w5 (w1.heap.size + 1 + 1) 25 #[.int .i64 0, .slice none 0 0] := Full.grown (by ((repeat (first | (with_reducible assumption) | (with_reducible exact Full.newAt (by first | (simp; done) | fail "sz")) | (with_reducible refine Full.alloc ?_ _) | (with_reducible refine Full.drew ?_) | (with_reducible refine Full.set ?_ _ _))); (first | done | fail "left"))) hg5 (by first | (simp [blockOf]; done) | (simp [blockOf]; omega)); have Y2a := Y2.cellAt 0 (v := .int .i64 0) rfl; have Y2b := Y2.cellAt 1 (v := .slice none 0 0) rfl; have Y2c := Y2.free 0; have Y2d := Y2.free 1; have Y2n : w5.heap.size ≠ w1.heap.size + 1 + 1 := World.new_ne w5 _ Y2a; have Y2m := Y2n.symm)
              skip))
          all_goals
            go_wp2_with fail
            go_meet
            case rel =>
              refine ⟨_, A5, c5, rfl, ?_, ?_, ?_, ?_⟩
              · repeat (first | (with_reducible assumption) | (with_reducible exact Full.newAt (by first | (simp; done) | fail "sz")) | (with_reducible refine Full.alloc ?_ _) | (with_reducible refine Full.drew ?_) | (with_reducible refine set2b ?_ _ _))
              · first | omega | (simp; done) | (simp; omega)
              · repeat (first | (with_reducible assumption) | (with_reducible refine Own.alloc ?_ _) | (with_reducible refine Own.drew ?_) | (with_reducible refine own_put2b (t := 25) (cs := #[.int .i64 0, .slice none 0 0]) ?_ (by ((repeat (first | (with_reducible assumption) | (with_reducible exact Full.newAt (by first | (simp; done) | fail "sz")) | (with_reducible refine Full.alloc ?_ _) | (with_reducible refine Full.drew ?_) | (with_reducible refine Full.set ?_ _ _))); (first | done | fail "left"))) (by decide) _ _))
              · ((repeat (first | (with_reducible assumption) | (with_reducible exact gr_refl _ _) | (with_reducible refine gr_alloc ?_ _) | (with_reducible refine gr_drew ?_) | (with_reducible refine gr_put ?_ (by omega) _))); (first | done | fail "left"))
        case rest =>
          obtain ⟨gx, A2, c2, rfl, FX, hgx, OX, GX⟩ := hcut
          have E2 := HE.out.grown GX (by simp)
          have R2 := HR.out.grown GX (by simp)
          have G2 := gr_0 G1 GX
          have hE1l := HE.out.lt
          have hR1l := HR.out.lt
          have HE2 := hid E2
          have HR2 := hid R2
          have HFX := hid FX
          have HO2 := hid (show Own wc w1.heap.size 3 1 A2 (n + 0) c2 (ints (xs ++ news d 0)) by simpa [news] using OX)
          have HFX2 := hid (show Full wc gx 25 #[.int .i64 (d + (k : Int)), .slice A2 (n + 0) c2] from FX)
          clear hC0 hC1 HLI HE HR GX E2 R2 FX OX HFX
          go_wp2_with fail
          go_loopw [8] (fun v wr => ∃ (j : Nat) (A' : Option Addr) (c' : Nat), v = .int .i64 (j : Int) ∧ j ≤ k ∧ Own wr w1.heap.size 3 1 A' (n + j) c' (ints (xs ++ news d j)) ∧ Full wr gx 25 #[.int .i64 (d + (k : Int)), .slice A' (n + j) c'] ∧ Full wr w.heap.size 25 #[.int .i64 d, .slice A n c] ∧ Full wr rb 25 #[.int .i64 0, .slice none 0 0] ∧ w.grownBy wr none) (fun v _ => k - (intOf v).toNat)
          case atStart => exact ⟨0, A2, c2, rfl, by omega, HO2.out, HFX2.out, HE2.out, HR2.out, G2⟩
          case round =>
            clear HE2 HR2 HO2 HFX2 G2
            obtain ⟨j, A', c', rfl, hjk, hO, hX, hE, hR, hG⟩ := hrel
            have hsw := hG.size
            have hXl := hX.lt
            have hAb := fun b hb => (hO.block (b := b) hb)
            rcases (by omega : j < k ∨ j = k) with hlt | hlt
            · have c0 := hE.cellAt 0 (v := .int .i64 d) rfl
              have x1 := hX.cellAt 1 (v := .slice A' (n + j) c') rfl
              have hne := hO.ne_full hX (by decide)
              go_wp2_with (at_builtin; refine wpList_push _ rfl _ _ 23 rfl w1.heap.size 3 Try.underlying23 intInfo rfl (by omega) A' (n + j) c' (ints (xs ++ news d j)) rfl (hO.alloc (.cells #[.int .i64 (d + (j : Int))] 3)) _ 1 #[.int .i64 (d + (j : Int))] rfl (Full.newAt (by simp)) rfl (by intro u hu; simp at hu; subst hu; rfl) (by omega) (by omega) (by simp; omega) ?_; intro A'' c'' wz hown hgz hbz; have Xz := (hX.alloc (.cells #[.int .i64 (d + (j : Int))] 3)).grown hgz (fun e => hne _ e.symm rfl); have z1 := Xz.cellAt 1 (v := .slice A' (n + j) c') rfl; have zf := Xz.free 1)
              have EZ := (hE.alloc (.cells #[.int .i64 (d + (j : Int))] 3)).grown hgz (fun e => by have := (hAb _ e.symm).1; omega)
              have RZ := (hR.alloc (.cells #[.int .i64 (d + (j : Int))] 3)).grown hgz (fun e => by have := (hAb _ e.symm).1; omega)
              have GZ := gr_then (gr_alloc hG (.cells #[.int .i64 (d + (j : Int))] 3)) hgz (fun b hb => .inr (by have := (hAb b hb).1; omega))
              have OZ : Own wz w1.heap.size 3 1 A'' (n + j + 1) c'' (ints (xs ++ news d (j + 1))) := by rw [news_next, ← List.append_assoc, ints_app]; exact hown
              have X3 := Xz.set 1 (.slice A'' (n + j + 1) c'')
              have O3 := OZ.put Xz (by decide) 1 (.slice A'' (n + j + 1) c'')
              have E3 := EZ.far (p := ⟨gx, 1, none⟩) (by simp; omega) (.slice A'' (n + j + 1) c'')
              have R3 := RZ.far (p := ⟨gx, 1, none⟩) (by simp; omega) (.slice A'' (n + j + 1) c'')
              have G3 := gr_put (i := 1) (b := gx) GZ (by omega) (.slice A'' (n + j + 1) c'')
              have HO3 := hid O3
              have HX3 := hid X3
              clear hown hgz hbz hO hX hE hR OZ EZ RZ GZ O3 X3 Xz c0 x1
              go_wp2_with fail
              go_roundw
              case rel => exact ⟨j + 1, A'', c'', by go_num, by omega, HO3.out, HX3.out, E3, R3, G3⟩
              case measure => simp [intOf]; omega
            · subst hlt
              have c0 := hE.cellAt 0 (v := .int .i64 d) rfl
              have x0 := hX.cellAt 0 (v := .int .i64 (d + (j : Int))) rfl
              have x1 := hX.cellAt 1 (v := .slice A' (n + j) c') rfl
              have r0 := hR.cellAt 0 (v := .int .i64 0) rfl
              have r1 := hR.cellAt 1 (v := .slice none 0 0) rfl
              have f0 := hR.free 0
              have f1 := hR.free 1
              have O5 := ((hO.drew.put hR.drew (by decide) 0 (.int .i64 (d + (j : Int)))).put (hR.drew.set 0 _) (by decide) 1 (.slice A' (n + j) c')).base_le (show w.heap.size ≤ w1.heap.size by omega)
              have HO5 := hid O5
              have n1 : w.heap.size ≠ rb := by omega
              have n2 : rb ≠ w.heap.size := by omega
              have n3 : gx ≠ rb := by omega
              have n4 : rb ≠ gx := by omega
              have HL := hid (show (xs ++ news d j).length = n + j by rw [List.length_append, HN.out, news_len])
              clear hO hX hE hR O5
              go_wp2_with fail
              go_region_held3 (fun w' => w'.cell? ⟨w.heap.size, 0, none⟩ = some (.int .i64 d) ∧ w'.cell? ⟨gx, 0, none⟩ = some (.int .i64 (d + (j : Int))) ∧ w'.cell? ⟨gx, 1, none⟩ = some (.slice A' (n + j) c')) (go_keep) (fail)
              all_goals
                go_wp2_with fail
                refine bodyPost_ret (v := .tuple #[.agg #[.int .i64 (d + (j : Int)), .slice A' (n + j) c'], .int .i64 d, .bool true]) ?_ rfl ?_
                · simp [results, Try.results25, go_sem, r0, r1]
                · obtain ⟨y1, y2, y3⟩ := HY.out
                  rw [y1, y2, y3, HF.out, Int.toNat_natCast]
                  exact ⟨A', n + j, c', rfl, HO5.out, HL.out, gr_put (gr_put (gr_drew hG) (by omega) _) (by omega) _⟩

set_option maxHeartbeats 1000000 in
theorem l12h_is (d : Int) (A : Option Addr) (n c : Nat) (xs : List Int) (x : Int) (b : Bool) (w : World) (h : IArg w A n c xs) (hb : decide (x ∈ xs) = b) :
    Calls Try.prog 42 #[.agg #[.int .i64 d, .slice A n c], .int .i64 x] w fun e w' => e = .returned (.bool b) ∧ w.grownBy w' none := by
  obtain ⟨hli, hn, hc, hm⟩ := h
  unfold maxLen at hm
  have HN := hid hn
  have HB := hid hb
  clear hn hb
  have hL := hli.alloc (.cells #[.int .i64 d, .slice A n c] 25)
  have F0 := Full.new w 25 #[.int .i64 d, .slice A n c]
  have G0 := World.grownBy_alloc w (.cells #[.int .i64 d, .slice A n c] 25) none
  have c1 := F0.cellAt 1 (v := .slice A n c) rfl
  clear F0
  go_enter Try.func42, Try.ntmps42
  go_wp2_with fail
  go_loop [5] (fun i => ∃ k : Nat, i = .int .i64 k ∧ k ≤ n ∧ (∀ y ∈ xs.take k, y ≠ x)) (fun i => n - (intOf i).toNat)
  case atStart => exact ⟨0, rfl, by omega, by simp⟩
  case round =>
    obtain ⟨k, rfl, hkn, hno⟩ := hrel
    have HNo := hid hno
    clear hno
    by_cases hlt : k < n
    · have hkl : k < xs.length := by rw [HN.out]; omega
      obtain ⟨g, o, hA, hg, hcell⟩ := hL.open_ (by rw [ints_len]; omega)
      obtain rfl := hA
      have cx := intAt hcell hkl
      clear hcell
      obtain ⟨y, hy⟩ : ∃ y, xs[k] = y := ⟨_, rfl⟩
      rw [hy] at cx
      have HY := hid hy
      clear hy
      rcases (by by_cases h : y = x; exact .inl h; exact .inr h : y = x ∨ y ≠ x) with he | he
      · have he' : (y == x) = true := by simp [he]
        have HE := hid (show b = true by rw [← HB.out]; exact decide_eq_true (by rw [← he, ← HY.out]; exact List.getElem_mem hkl))
        clear he
        go_wp2_with fail
        go_ret
        exact ⟨ret_bool HE.out.symm, G0⟩
      · have he' : (y == x) = false := by simp [he]
        have HE := hid (show ∀ z ∈ xs.take (k + 1), z ≠ x from fun z hz => by
          rw [List.take_succ_eq_append_getElem hkl] at hz
          rcases List.mem_append.1 hz with hz | hz
          · exact HNo.out z hz
          · rw [List.mem_singleton.1 hz, HY.out]; exact he)
        clear he
        go_wp2_with fail
        go_round
        case rel => exact ⟨k + 1, by go_num, by omega, HE.out⟩
        case measure => simp [intOf]; omega
    · have HE := hid (show b = false by
        rw [← HB.out]
        refine decide_eq_false fun hx => ?_
        exact HNo.out x (by rw [List.take_of_length_le (by rw [HN.out]; omega)]; exact hx) rfl)
      go_wp2_with fail
      go_ret
      exact ⟨ret_bool HE.out.symm, G0⟩

set_option maxHeartbeats 4000000 in
theorem sbd_any (d : Int) (A : Option Addr) (n c : Nat) (xs : List Int) (f m : Int) (w : World) (h : IArg w A n c xs) (hd0 : -1000000 ≤ d) (hd1 : d ≤ 1000000) :
    Calls Try.prog 29 #[.agg #[.int .i64 d, .slice A n c], .int .i64 f, .int .i64 m] w (BdTo w (doneN d xs f m) (doneL d xs f m) (doneB d xs f m)) := by
  have HAb := hid (show 0 < n → ∀ g, blockOf A = some g → g < w.heap.size from fun hn g hg => by
    obtain ⟨g', o, rfl, hlt, _⟩ := h.li.open_ (by rw [ints_len, h.len]; exact hn)
    injection hg with hg
    rw [← hg]; exact hlt)
  have E0 := (Full.new w 25 #[.int .i64 d, .slice A n c]).alloc (.cells #[.int .i64 0, .slice none 0 0] 25)
  have R0 := Full.newAt (w := w.alloc (.cells #[.int .i64 d, .slice A n c] 25)) (t := 25) (cs := #[.int .i64 0, .slice none 0 0]) (H := w.heap.size + 1) (by simp)
  have h0 := (h.alloc (.cells #[.int .i64 d, .slice A n c] 25)).alloc (.cells #[.int .i64 0, .slice none 0 0] 25)
  have G0 := gr_alloc (gr_alloc (gr_refl w none) (.cells #[.int .i64 d, .slice A n c] 25)) (.cells #[.int .i64 0, .slice none 0 0] 25)
  obtain ⟨b, hb⟩ : ∃ b, barB d xs = b := ⟨_, rfl⟩
  obtain ⟨bf, hbf⟩ : ∃ b, inR f 0 99 = b := ⟨_, rfl⟩
  obtain ⟨bm, hbm⟩ : ∃ b, inR m 1 24 = b := ⟨_, rfl⟩
  have e1 := sbv_is d A n c xs b _ h0 hb hd0 hd1
  have ef := fun w => in_is f 0 99 bf w hbf
  have e2 := fun w => in_is m 1 24 bm w hbm
  have HB := hid hb
  have HBf := hid hbf
  have HBm := hid hbm
  have HT := hid (show doneB d xs f m = (b && (bf && (bm && decide (∀ x ∈ news f m.toNat, x ∈ xs)))) by rw [doneB, hb, hbf, hbm])
  have c0 := E0.cellAt 0 (v := .int .i64 d) rfl
  have c1 := E0.cellAt 1 (v := .slice A n c) rfl
  clear h hb hbf hbm
  obtain ⟨rb, hrb⟩ : ∃ rb, w.heap.size + 1 = rb := ⟨_, rfl⟩
  rw [hrb] at R0
  have hrb1 : w.heap.size < rb := by omega
  go_enter Try.func29, Try.ntmps29
  go_wp2_with fail
  clear hrb
  refine e1.mono ?_
  rintro e w1 ⟨rfl, hg1⟩
  have h1 := h0.grown0 hg1
  have E1 := E0.grown hg1 (by simp)
  have R1 := R0.grown hg1 (by simp)
  have G1 := gr_0 G0 hg1
  have hs1 := G1.size
  clear e1 h0 E0 R0 G0 hg1 c0 c1
  have r0 := R1.cellAt 0 (v := .int .i64 0) rfl
  have r1 := R1.cellAt 1 (v := .slice none 0 0) rfl
  have f0 := R1.free 0
  have f1 := R1.free 1
  have NO := hid (show doneB d xs f m = false → BdTo w (doneN d xs f m) (doneL d xs f m) (doneB d xs f m) (.returned (.tuple #[.agg #[.int .i64 0, .slice none 0 0], .bool false])) ((w1.setCell ⟨rb, 0, none⟩ (.int .i64 0)).setCell ⟨rb, 1, none⟩ (.slice none 0 0)) from fun hT => by
    obtain ⟨a1, a2⟩ := done_no hT
    rw [a1, a2, hT]
    exact ⟨none, 0, 0, rfl, Own.nil _, rfl, gr_put (gr_put G1 (by omega) _) (by omega) _⟩)
  cases b with
  | false =>
    have HF := hid (show doneB d xs f m = false by rw [HT.out]; rfl)
    go_wp2_with fail
    refine bodyPost_ret (v := .tuple #[.agg #[.int .i64 0, .slice none 0 0], .bool false]) ?_ rfl (NO.out HF.out)
    simp [results, Try.results29, go_sem, r0, r1]
  | true =>
    go_wp2_with fail
    refine (e2 _).mono ?_
    rintro e w_ ⟨rfl, rfl⟩
    clear e2
    cases bm with
    | false =>
      have HF := hid (show doneB d xs f m = false by rw [HT.out]; cases bf <;> rfl)
      go_wp2_with fail
      refine bodyPost_ret (v := .tuple #[.agg #[.int .i64 0, .slice none 0 0], .bool false]) ?_ rfl (NO.out HF.out)
      simp [results, Try.results29, go_sem, r0, r1]
    | true =>
      go_wp2_with fail
      refine (ef _).mono ?_
      rintro e w_ ⟨rfl, rfl⟩
      clear ef
      cases bf with
      | false =>
        have HF := hid (show doneB d xs f m = false by rw [HT.out]; rfl)
        go_wp2_with fail
        refine bodyPost_ret (v := .tuple #[.agg #[.int .i64 0, .slice none 0 0], .bool false]) ?_ rfl (NO.out HF.out)
        simp [results, Try.results29, go_sem, r0, r1]
      | true =>
        have hmm : 1 ≤ m ∧ m ≤ 24 := by have := HBm.out; simpa [inR] using this
        have hff : 0 ≤ f ∧ f ≤ 99 := by have := HBf.out; simpa [inR] using this
        obtain ⟨hm, hm'⟩ := hmm
        obtain ⟨hf, hf'⟩ := hff
        obtain ⟨k, rfl⟩ := Int.eq_ofNat_of_zero_le (show 0 ≤ m by omega)
        have hnl := barB_len HB.out
        have hn := h1.len
        have hn100 : n ≤ 100 := by omega
        have HN := hid h1.len
        have HTk := hid (show doneB d xs f (k : Int) = decide (∀ x ∈ news f k, x ∈ xs) by
          simp only [doneB, HB.out, inR_true hf hf', inR_true hm hm', Int.toNat_natCast, Bool.true_and])
        have HH1 := hid h1
        have HE1 := hid E1
        have HR1 := hid R1
        clear NO HBm HBf hnl hn h1 f0 f1 r0 r1 E1 R1
        go_wp2_with fail
        go_loopw [8] (fun v wr => ∃ j : Nat, v = .int .i64 (j : Int) ∧ j ≤ k ∧ (∀ x ∈ news f j, x ∈ xs) ∧ IArg wr A n c xs ∧ Full wr w.heap.size 25 #[.int .i64 d, .slice A n c] ∧ Full wr rb 25 #[.int .i64 0, .slice none 0 0] ∧ w.grownBy wr none) (fun v _ => k - (intOf v).toNat)
        case atStart => exact ⟨0, rfl, by omega, by simp [news], HH1.out, HE1.out, HR1.out, G1⟩
        case round =>
          clear HH1 HE1 HR1 G1
          obtain ⟨j, rfl, hjk, hall, hI, hE, hR, hG⟩ := hrel
          have HAll := hid hall
          clear hall
          have c0 := hE.cellAt 0 (v := .int .i64 d) rfl
          have c1 := hE.cellAt 1 (v := .slice A n c) rfl
          rcases (by omega : j < k ∨ j = k) with hlt | hlt
          · obtain ⟨bh, hbh⟩ : ∃ b, decide (f + (j : Int) ∈ xs) = b := ⟨_, rfl⟩
            have e3 := l12h_is d A n c xs (f + (j : Int)) bh wr hI hbh
            have HBh := hid hbh
            clear hbh
            go_wp2_with fail
            refine e3.mono ?_
            rintro e w3 ⟨rfl, hg3⟩
            have I3 := hI.grown0 hg3
            have E3 := hE.grown hg3 (by simp)
            have R3 := hR.grown hg3 (by simp)
            have G3 := gr_0 hG hg3
            clear e3 hI hE hR hG hg3 c0 c1
            cases bh with
            | false =>
              have r0 := R3.cellAt 0 (v := .int .i64 0) rfl
              have r1 := R3.cellAt 1 (v := .slice none 0 0) rfl
              have f0 := R3.free 0
              have f1 := R3.free 1
              have HF := hid (show doneB d xs f (k : Int) = false by
                rw [HTk.out, decide_eq_false_iff_not]
                intro e
                have := e (f + (j : Int)) (news_mem.2 ⟨by omega, by omega⟩)
                exact of_decide_eq_false HBh.out this)
              have NO : BdTo w (doneN d xs f (k : Int)) (doneL d xs f (k : Int)) (doneB d xs f (k : Int)) (.returned (.tuple #[.agg #[.int .i64 0, .slice none 0 0], .bool false])) ((w3.setCell ⟨rb, 0, none⟩ (.int .i64 0)).setCell ⟨rb, 1, none⟩ (.slice none 0 0)) := by
                obtain ⟨a1, a2⟩ := done_no HF.out
                rw [a1, a2, HF.out]
                exact ⟨none, 0, 0, rfl, Own.nil _, rfl, gr_put (gr_put G3 (by omega) _) (by omega) _⟩
              have HNO := hid NO
              clear NO
              go_wp2_with fail
              refine bodyPost_ret (v := .tuple #[.agg #[.int .i64 0, .slice none 0 0], .bool false]) ?_ rfl HNO.out
              simp [results, Try.results29, go_sem, r0, r1]
            | true =>
              have HA2 := hid (show ∀ x ∈ news f (j + 1), x ∈ xs from fun x hx => by
                rw [news_next] at hx
                rcases List.mem_append.1 hx with hx | hx
                · exact HAll.out x hx
                · rw [List.mem_singleton.1 hx]; exact of_decide_eq_true HBh.out)
              go_wp2_with fail
              go_roundw
              case rel => exact ⟨j + 1, by go_num, by omega, HA2.out, I3, E3, R3, G3⟩
              case measure => simp [intOf]; omega
          · subst hlt
            obtain ⟨wo, hwo⟩ : ∃ wo, wo = wr := ⟨_, rfl⟩
            subst hwo
            have HF := hid (show doneB d xs f (j : Int) = true by rw [HTk.out, decide_eq_true_eq]; exact HAll.out)
            have I2 := (hI.alloc (.cells #[] 3)).alloc (.cells #[.int .i64 d, .slice (some ⟨wo.heap.size, 0, none⟩) 0 0] 25)
            have E2 := (hE.alloc (.cells #[] 3)).alloc (.cells #[.int .i64 d, .slice (some ⟨wo.heap.size, 0, none⟩) 0 0] 25)
            have R2 := (hR.alloc (.cells #[] 3)).alloc (.cells #[.int .i64 d, .slice (some ⟨wo.heap.size, 0, none⟩) 0 0] 25)
            have O2 := (Own.empty (e := 3) (s := 1) wo (Nat.le_refl _)).alloc (.cells #[.int .i64 d, .slice (some ⟨wo.heap.size, 0, none⟩) 0 0] 25)
            have X2 := Full.newAt (w := wo.alloc (.cells #[] 3)) (t := 25) (cs := #[.int .i64 d, .slice (some ⟨wo.heap.size, 0, none⟩) 0 0]) (H := wo.heap.size + 1) (by simp)
            have G2 := gr_alloc (gr_alloc hG (.cells #[] 3)) (.cells #[.int .i64 d, .slice (some ⟨wo.heap.size, 0, none⟩) 0 0] 25)
            have hs0 := hG.size
            have hE0 := hE.lt
            have hR0 := hR.lt
            have HI2 := hid I2
            have HE2 := hid E2
            have HR2 := hid R2
            have HO2 := hid O2
            have HX2 := hid X2
            clear hI hE hR I2 E2 R2 O2 X2 hG
            go_wp2_with fail
            go_loopw [10] (fun v wr => ∃ (i q : Nat) (B : Option Addr) (cB : Nat), v = .int .i64 (i : Int) ∧ i ≤ n ∧ (outs f j (xs.take i)).length = q ∧ Own wr wo.heap.size 3 1 B q cB (ints (outs f j (xs.take i))) ∧ Full wr (wo.heap.size + 1) 25 #[.int .i64 d, .slice B q cB] ∧ IArg wr A n c xs ∧ Full wr w.heap.size 25 #[.int .i64 d, .slice A n c] ∧ Full wr rb 25 #[.int .i64 0, .slice none 0 0] ∧ w.grownBy wr none) (fun v _ => n - (intOf v).toNat)
            case atStart => exact ⟨0, 0, _, 0, rfl, by omega, rfl, HO2.out, HX2.out, HI2.out, HE2.out, HR2.out, G2⟩
            case round =>
              clear HI2 HE2 HR2 HO2 HX2 G2 c0 c1
              obtain ⟨i, q, B, cB, rfl, hin, hq, hO, hX, hI, hE, hR, hG⟩ := hrel
              have HQ := hid hq
              have hqi : q ≤ i := by rw [← hq]; exact outs_len_take xs i
              have HN2 := hid hI.len
              clear hq
              have c1 := hE.cellAt 1 (v := .slice A n c) rfl
              have hsw := hG.size
              have hXl := hX.lt
              by_cases hlt : i < n
              · have hil : i < xs.length := by rw [HN.out]; exact hlt
                obtain ⟨g, o, hA, _, hcell⟩ := hI.li.open_ (by rw [ints_len]; omega)
                have hgw := HAb.out (by omega) g (by rw [hA]; rfl)
                obtain rfl := hA
                have cx := intAt hcell hil
                clear hcell
                have HYes := hid (outs_take_yes (f := f) (m := j) hil)
                have HNo := hid (outs_take_no (f := f) (m := j) hil)
                obtain ⟨x, hx⟩ : ∃ x, xs[i] = x := ⟨_, rfl⟩
                simp only [hx] at cx HYes HNo
                clear hx
                have b1 : (0 : Int) ≤ (i : Int) := by omega
                have b2 : (i : Int) < (n : Int) := by omega
                have i1 : IntKind.i64.wrap (f + (j : Int)) = f + j := IntWalk.i64_in _ (by omega)
                have i2 : IntKind.i64.wrap (f + (j : Int) - 1) = f + j - 1 := IntWalk.i64_in _ (by omega)
                rcases (by omega : (x < f ∨ f + (j : Int) - 1 < x) ∨ (f ≤ x ∧ x ≤ f + (j : Int) - 1)) with q1 | ⟨q1, q2⟩
                · have HY := hid (HYes.out (by omega))
                  have e5 := fun w => in_is x f (f + (j : Int) - 1) false w (inR_false q1)
                  clear HYes HNo q1
                  go_wp2_with fail
                  refine (e5 _).mono ?_
                  rintro e w_ ⟨rfl, rfl⟩
                  clear e5
                  have hne := hO.ne_full hX (by decide)
                  have hAb := fun b hb => (hO.block (b := b) hb)
                  have x1 := hX.cellAt 1 (v := .slice B q cB) rfl
                  have ne1 : wo.heap.size + 1 ≠ wr.heap.size := by omega
                  have ne2 : wr.heap.size ≠ wo.heap.size + 1 := by omega
                  go_wp2_with fail
                  go_region_law
                    ((refine step_app _ rfl (.tmp 61) (.tmp 67) 23 rfl wo.heap.size 3 Try.underlying23 intInfo rfl (by omega) B q cB (ints (outs f j (xs.take i))) (by rfl) (hO.drew.alloc (.cells #[.int .i64 x] 3)) (some ⟨wr.heap.size, 0, none⟩) 1 1 [.int .i64 x] (by rfl) (lies_lit1 _ _ _ (by simp)) (by rfl) (by intro u hu; simp at hu; subst hu; rfl) (by omega) (by omega) (by simp; omega) ?_
                      intro A' c' wz hown hgz hbz
                      have Xz := (hX.drew.alloc (.cells #[.int .i64 x] 3)).grown hgz (fun e => hne _ e.symm rfl)
                      have z1 := Xz.cellAt 1 (v := .slice B q cB) rfl
                      have zf := Xz.free 1))
                  all_goals
                    have EZ := (hE.drew.alloc (.cells #[.int .i64 x] 3)).grown hgz (fun e => by have := (hAb _ e.symm).1; omega)
                    have RZ := (hR.drew.alloc (.cells #[.int .i64 x] 3)).grown hgz (fun e => by have := (hAb _ e.symm).1; omega)
                    have GZ := gr_then (gr_alloc (gr_drew hG) (.cells #[.int .i64 x] 3)) hgz (fun b hb => .inr (by have := (hAb b hb).1; omega))
                    have LZ : Lies wz (some ⟨g, o, none⟩) (ints xs) := (Lies.alloc (hI.li.drew) (.cells #[.int .i64 x] 3)).grown hgz (fun b hb e => by have := (hAb _ e.symm).1; injection hb with hb; simp at hb; omega)
                    have OZ : Own wz wo.heap.size 3 1 A' (q + 1) c' (ints (outs f j (xs.take (i + 1)))) := by rw [HY.out, ints_app]; exact hown
                    have X3 := Xz.set 1 (.slice A' (q + 1) c')
                    have O3 := OZ.put Xz (by decide) 1 (.slice A' (q + 1) c')
                    have E3 := EZ.far (p := ⟨wo.heap.size + 1, 1, none⟩) (by simp; omega) (.slice A' (q + 1) c')
                    have R3 := RZ.far (p := ⟨wo.heap.size + 1, 1, none⟩) (by simp; omega) (.slice A' (q + 1) c')
                    have L3 := LZ.setCell (p := ⟨wo.heap.size + 1, 1, none⟩) (fun b hb => by injection hb with hb; simp at hb; simp; omega) (.slice A' (q + 1) c')
                    have G3 := gr_put (i := 1) (b := wo.heap.size + 1) GZ (by omega) (.slice A' (q + 1) c')
                    have HO3 := hid O3
                    have HX3 := hid X3
                    have HI3 := hid (⟨L3, hI.len, hI.cap, hI.max⟩ : IArg _ (some ⟨g, o, none⟩) n c xs)
                    clear hown hgz hbz hO hX hE hR OZ EZ RZ GZ LZ O3 X3 L3 Xz c1 cx x1
                    go_wp2_with fail
                    go_roundw
                    case rel => exact ⟨i + 1, q + 1, A', c', by go_num, by omega, by rw [HY.out, List.length_append, HQ.out]; rfl, HO3.out, HX3.out, HI3.out, E3, R3, G3⟩
                    case measure => simp [intOf]; omega
                · have HY := hid (HNo.out (by omega))
                  have e5 := fun w => in_is x f (f + (j : Int) - 1) true w (inR_true q1 q2)
                  have HO := hid hO
                  have HI := hid hI
                  have HX := hid hX
                  clear HYes HNo hO hI hX
                  go_wp2_with fail
                  refine (e5 _).mono ?_
                  rintro e w_ ⟨rfl, rfl⟩
                  clear e5
                  go_wp2_with fail
                  go_roundw
                  case rel => exact ⟨i + 1, q, B, cB, by go_num, by omega, by rw [HY.out]; exact HQ.out, by rw [HY.out]; exact HO.out, HX.out, HI.out, hE, hR, hG⟩
                  case measure => simp [intOf]; omega
              · obtain rfl : i = n := by omega
                have htk : xs.take i = xs := List.take_of_length_le (by rw [HN.out]; exact Nat.le_refl _)
                rw [htk] at hO
                have HQ2 := hid (show (outs f j xs).length = q by have := HQ.out; rwa [htk] at this)
                have x0 := hX.cellAt 0 (v := .int .i64 d) rfl
                have x1 := hX.cellAt 1 (v := .slice B q cB) rfl
                have r0 := hR.cellAt 0 (v := .int .i64 0) rfl
                have r1 := hR.cellAt 1 (v := .slice none 0 0) rfl
                have f0 := hR.free 0
                have f1 := hR.free 1
                have O5 := ((hO.put hR (by decide) 0 (.int .i64 d)).put (hR.set 0 _) (by decide) 1 (.slice B q cB)).base_le (show w.heap.size ≤ wo.heap.size by omega)
                have HO5 := hid O5
                clear htk hO O5 hI hE hR hX
                go_wp2_with fail
                refine bodyPost_ret (v := .tuple #[.agg #[.int .i64 d, .slice B q cB], .bool true]) ?_ rfl ?_
                · simp [results, Try.results29, go_sem, r0, r1]
                · obtain ⟨y1, y2⟩ := done_yes HF.out
                  rw [y1, y2, HF.out, Int.toNat_natCast]
                  exact ⟨B, q, cB, rfl, HO5.out, HQ2.out, gr_put (gr_put hG (by omega) _) (by omega) _⟩
end Go.Proofs.Ytfcammfdengdbaa
