/- Drawn barriers. -/
import Derived.Test.YtfcammfdengdbaaBar
import Derived.Test.YtfcammfdengdbaaOwnSet
import Derived.Deep.DeepCutAuto
import Derived.Deep.RegionHeld3
namespace Go.Proofs.Ytfcammfdengdbaa
open Go.RowKit

/-- What a drawn barrier is at most. -/
structure BrSmall (d : Int) (xs : List Int) : Prop where
  d0 : 0 ≤ d
  d1 : d ≤ 101
  len : xs.length ≤ 101
  mem : ∀ x ∈ xs, -1 ≤ x ∧ x ≤ 101
/-- A drawn barrier out of a reader. -/
def BrRdEnds (T : TypeId) (w : World) (B g m : Nat) (e : Ending) (w' : World) : Prop :=
  ∃ (d : Int) (A : Option Addr) (n c : Nat) (xs : List Int), e = .returned (.agg #[.int .i64 d, .slice A n c]) ∧ Own w' w.heap.size 3 1 A n c (ints xs) ∧ xs.length = n ∧ BrSmall d xs ∧ Rd T w' B g m ∧ w.grownBy w' (some g)
structure BrAt (w : World) (B g m ge k : Nat) (d : Int) (xs : List Int) (A : Option Addr) (c : Nat) (wr : World) : Prop where
  len : xs.length = k
  full : Full wr ge 25 #[.int .i64 d, .slice A k c]
  res : Full wr w.heap.size 25 #[.int .i64 0, .slice none 0 0]
  new : w.heap.size < ge
  own : Own wr (w.heap.size + 1) 3 1 A k c (ints xs)
  d0 : 0 ≤ d
  d1 : d ≤ 101
  mem : ∀ x ∈ xs, -1 ≤ x ∧ x ≤ 101
  rd : Rd 55 wr B g m
  gr : w.grownBy wr (some g)
theorem ints_setB (xs : List Int) (i : Nat) (v : Int) : (ints xs).set i (.int .i64 v) = ints (xs.set i v) := by simp [ints, List.map_set]
theorem two_at {w : World} {g : Nat} {t : TypeId} {a b : Int} (h : Full w g t #[.int .i64 a, .int .i64 b]) {k : Nat} (hk : k < 2) : ∃ x : Int, (x = a ∨ x = b) ∧ w.cell? ⟨g, k, none⟩ = some (.int .i64 x) := by
  rcases (by omega : k = 0 ∨ k = 1) with rfl | rfl
  · exact ⟨a, .inl rfl, h.cellAt 0 rfl⟩
  · exact ⟨b, .inr rfl, h.cellAt 1 rfl⟩
theorem two_new (a b : Int) (H : Nat) (t : TypeId) {k : Nat} (hk : k < 2) : ∃ x : Int, (x = a ∨ x = b) ∧ ∀ w : World, w.heap.size = H → (w.alloc (.cells #[.int .i64 a, .int .i64 b] t)).cell? ⟨H, k, none⟩ = some (.int .i64 x) := by
  rcases (by omega : k = 0 ∨ k = 1) with rfl | rfl
  · exact ⟨a, .inl rfl, fun w h => (Full.newAt h).cellAt 0 rfl⟩
  · exact ⟨b, .inr rfl, fun w h => (Full.newAt h).cellAt 1 rfl⟩
theorem mem_set_bound {xs : List Int} {i : Nat} {x lo hi : Int} (h : ∀ y ∈ xs, lo ≤ y ∧ y ≤ hi) (hx : lo ≤ x ∧ x ≤ hi) : ∀ y ∈ xs.set i x, lo ≤ y ∧ y ≤ hi := fun y hy => by
  rcases List.mem_or_eq_of_mem_set hy with hy | rfl
  · exact h y hy
  · exact hx

set_option maxHeartbeats 4000000 in
theorem br91_any (B g m : Nat) (w : World) (h : Rd 55 w B g (m + 130)) :
    Calls Try.prog 31 #[.pointer (some ⟨g, 0, none⟩)] w (BrRdEnds 55 w B g m) := by
  have hlt := h.lt
  have hge := h.ge
  have F0 := Full.new w 25 #[.int .i64 0, .slice none 0 0]
  go_enter Try.func31, Try.ntmps31
  go_wp2_with fail
  refine (pick_any B g (m + 129) 16 _ (h.alloc _) (by omega) (by omega)).mono ?_
  rintro e w1 ⟨k1, rfl, hk11, hk12, hr1, hg1⟩
  have hk13 := hk12 (by omega)
  clear hk12
  have F1 := F0.grown hg1 (by intro e; injection e with e; omega)
  have G1 := gr_trans (World.grownBy_alloc w _ (some g)) hg1
  have s1 := F1.lt
  have O1 := Own.empty (base := w.heap.size + 1) (e := 3) (s := 1) w1 (by omega)
  have E1 := Full.newAt (w := w1.alloc (.cells #[] 3)) (t := 25) (cs := #[.int .i64 (k1 : Int), .slice (some ⟨w1.heap.size, 0, none⟩) 0 0]) (H := w1.heap.size + 1) (by simp)
  clear hg1 F0
  obtain ⟨ge, hge1⟩ : ∃ ge, w1.heap.size + 1 = ge := ⟨_, rfl⟩
  rw [hge1] at E1
  have hneg : w.heap.size < ge := by omega
  go_upto_if 11 with (go_at_call 37; refine (pick_any B g (m + 128) 16 _ ((hr1.alloc _).alloc _) (by omega) (by omega)).mono ?_; rintro e w2 ⟨k2, rfl, hk21, hk22, hr2, hg2⟩; have hk23 := hk22 (by omega); clear hk22; have CK : BrAt w B g (m + 128) ge 0 (k1 : Int) [] (some ⟨w1.heap.size, 0, none⟩) 0 w2 := ⟨rfl, E1.grown hg2 (by intro e; injection e with e; omega), ((F1.alloc _).alloc _).grown hg2 (by intro e; injection e with e; omega), hneg, (O1.alloc _).past hg2 (by omega), by omega, by omega, by simp, hr2, gr_trans (gr_alloc (gr_alloc G1 _) _) hg2⟩; clear hg2)
  clear F1 O1 E1 G1
  go_cut [] (fun wx => ∃ d : Int, BrAt w B g (m + 127 - 0) ge 0 d [] (some ⟨w1.heap.size, 0, none⟩) 0 wx)
  case first =>
    rcases (by omega : k2 < 1 ∨ 1 ≤ k2) with hk | hk
    · go_wp2_with fail
      refine (pick_any B g (m + 127) 12 _ CK.rd (by omega) (by omega)).mono ?_
      rintro e w3 ⟨k3, rfl, hk31, hk32, hr3, hg3⟩
      have hk33 := hk32 (by omega)
      clear hk32
      have F3 := CK.full.grown hg3 (by intro e; injection e with e; omega)
      have c0 := F3.cellAt 0 rfl
      have f0 := F3.free 0
      have CK3 : BrAt w B g (m + 127) ge 0 (90 + (k3 : Int)) [] (some ⟨w1.heap.size, 0, none⟩) 0 (w3.setCell ⟨ge, 0, none⟩ (.int .i64 (90 + (k3 : Int)))) :=
        ⟨rfl, F3.set 0 _, (CK.res.grown hg3 (by intro e; injection e with e; omega)).far (by simp; omega) _, hneg, (CK.own.past hg3 (by omega)).put F3 (by decide) _ _, by omega, by omega, by simp, hr3.set (by omega) (by omega) _ _, gr_put (gr_trans CK.gr hg3) (by omega) _⟩
      clear hg3 F3
      go_wp2_with fail
      go_meet
      case rel => exact ⟨_, CK3⟩
    · go_wp2_with fail
      go_meet
      case rel => exact ⟨_, ⟨CK.len, CK.full, CK.res, hneg, CK.own, CK.d0, CK.d1, CK.mem, CK.rd.less (by omega), CK.gr⟩⟩
  case rest =>
    obtain ⟨d, C3⟩ := hcut
    clear CK
    have hd0 := C3.d0
    have hd1 := C3.d1
    have HC3 := hid C3
    clear C3
    go_wp2_with fail
    go_loopw [4] (fun i wr => ∃ (i' k : Nat) (xs : List Int) (A : Option Addr) (c : Nat), i = .int .i64 i' ∧ k ≤ i' ∧ (i' : Int) ≤ d ∧ BrAt w B g (m + 127 - i') ge k d xs A c wr) (fun i _ => 102 - (intOf i).toNat)
    case atStart => exact ⟨0, 0, [], _, _, rfl, by omega, by omega, HC3.out⟩
    case round =>
      clear HC3
      obtain ⟨i, k, xs, A, c, rfl, hki, hid', hat⟩ := hrel
      have hsz := hat.gr.size
      have c0 := hat.full.cellAt 0 (v := .int .i64 d) rfl
      rcases (by omega : (i : Int) < d ∨ (i : Int) = d) with hlt2 | hlt2
      · have b1 : decide ((i : Int) < d) = true := by simpa using hlt2
        go_wp2_with fail
        refine (pick_any B g (m + 126 - i) 3 _ (hat.rd.less (by omega)) (by omega) (by omega)).mono ?_
        rintro e w6 ⟨k6, rfl, hk61, hk62, hr6, hg6⟩
        have hk63 := hk62 (by omega)
        clear hk62 c0
        have F6 := hat.full.grown hg6 (by intro e; injection e with e; omega)
        have R6 := hat.res.grown hg6 (by intro e; injection e with e; omega)
        have O6 := hat.own.past hg6 (by omega)
        have G6 := gr_trans hat.gr hg6
        rcases (by omega : k6 < 1 ∨ 1 ≤ k6) with q | q
        · have c1 := F6.cellAt 1 (v := .slice A k c) rfl
          have hs6 := Nat.le_trans (Nat.succ_le_of_lt hat.res.lt) hg6.size
          have hAne := O6.ne_full F6 (by decide)
          have hA1 := fun b hb => (O6.block (b := b) hb).1
          have HLn := hid hat.len
          have HM := hid hat.mem
          clear hg6 hat
          go_wp2_with (at_builtin; refine wpList_push _ rfl _ _ 23 rfl (w.heap.size + 1) 3 Try.underlying23 intInfo rfl (by omega) A k c (ints xs) rfl (O6.alloc (.cells #[.int .i64 (i : Int)] 3)) _ 1 #[.int .i64 (i : Int)] rfl (Full.newAt (by simp)) rfl (by intro u hu; simp at hu; subst hu; rfl) (by omega) (by omega) (by simp; omega) ?_; intro A' c' wz hown hgz _; have Fz := (F6.alloc (.cells #[.int .i64 (i : Int)] 3)).grown hgz (fun e => hAne _ e.symm rfl); have z1 := Fz.cellAt 1 (v := .slice A k c) rfl; have zf := Fz.free 1)
          have ST : BrAt w B g (m + 127 - (i + 1)) ge (k + 1) d (xs ++ [(i : Int)]) A' c' (wz.setCell ⟨ge, 1, none⟩ (.slice A' (k + 1) c')) := by
            have hne := hown.ne_full Fz (by decide)
            have hRz := (hr6.alloc (.cells #[.int .i64 (i : Int)] 3)).grown hgz (fun b hb => by have := hA1 b hb; exact ⟨by omega, by omega⟩)
            refine ⟨by rw [List.length_append, HLn.out]; rfl, Fz.set 1 _, ((R6.alloc _).grown hgz (fun e => by have := hA1 _ e.symm; omega)).far (by simp; omega) _, hneg, ?_, hd0, hd1, ?_, (hRz.set (by omega) (by omega) _ _).less (by omega), gr_put (gr_then (gr_alloc G6 _) hgz (fun b hb => .inr (by have := hA1 b hb; omega))) (by omega) _⟩
            · rw [ints_app]
              exact hown.put Fz (by decide) _ _
            · intro x hx
              rcases List.mem_append.1 hx with hx | hx
              · exact HM.out x hx
              · rw [List.mem_singleton.1 hx]; omega
          clear hown hgz Fz z1 zf hAne hA1 F6 R6 O6 G6
          go_wp2_with fail
          go_roundw
          case rel => exact ⟨i + 1, k + 1, _, A', c', by go_num, by omega, by omega, ST⟩
          case measure => simp [intOf]; omega
        · have ST : BrAt w B g (m + 127 - (i + 1)) ge k d xs A c w6 := ⟨hat.len, F6, R6, hneg, O6, hd0, hd1, hat.mem, hr6.less (by omega), G6⟩
          clear hg6 hat F6 R6 O6 G6
          go_wp2_with fail
          go_roundw
          case rel => exact ⟨i + 1, k, _, A, c, by go_num, by omega, by omega, ST⟩
          case measure => simp [intOf]; omega
      · have b1 : decide ((i : Int) < d) = false := by simp; omega
        have c1 := hat.full.cellAt 1 (v := .slice A k c) rfl
        have HLn := hid hat.len
        have HM := hid hat.mem
        have hk101 : k ≤ 101 := by omega
        rcases (by omega : k = 0 ∨ 0 < k) with h0 | h0
        · have q0 : decide (0 < k) = false := by simp; omega
          have r0 := hat.res.cellAt 0 (v := .int .i64 0) rfl
          have r1 := hat.res.cellAt 1 (v := .slice none 0 0) rfl
          have g0 := hat.res.free 0
          have g1 := hat.res.free 1
          have R6 := hat.res
          have O6 := hat.own
          have G6 := hat.gr
          have hr6 := hat.rd
          clear hat h0
          go_wp2_with fail
          refine bodyPost_ret (v := .agg #[.int .i64 d, .slice A k c]) ?_ rfl ?_
          · simp [results, Try.results31, go_sem, r0, r1]
          · exact ⟨d, A, k, c, xs, rfl, ((O6.put R6 (by decide) _ _).put (R6.set 0 _) (by decide) _ _).base_le (by omega), HLn.out, ⟨by omega, by omega, by rw [HLn.out]; omega, HM.out⟩, by repeat (first | refine Rd.set ?_ (by omega) (by omega) _ _ | exact (hr6.less (show m ≤ m + 127 - i by omega))), by repeat (first | refine gr_put ?_ (by omega) _ | exact G6)⟩
        · have q0 : decide (0 < k) = true := by simpa using h0
          go_wp2_with fail
          refine (pick_any B g (m + 10) 24 _ (hat.rd.less (by omega)) (by omega) (by omega)).mono ?_
          rintro e w6 ⟨k6, rfl, hk61, hk62, hr6, hg6⟩
          have hk63 := hk62 (by omega)
          clear hk62 c0 c1
          have F6 := hat.full.grown hg6 (by intro e; injection e with e; omega)
          have R6 := hat.res.grown hg6 (by intro e; injection e with e; omega)
          have O6 := hat.own.past hg6 (by omega)
          have G6 := gr_trans hat.gr hg6
          clear hg6 hat
          rcases (by omega : k6 < 1 ∨ 1 ≤ k6) with hk | hk
          · obtain ⟨gA, cur, rfl, hgA, FA, hcell⟩ := O6.open_ h0
            have ca := hcell (k - 1) _ (ints_at xs (k - 1) (by rw [HLn.out]; omega))
            obtain ⟨va, hva⟩ : ∃ va, xs[k - 1]'(by rw [HLn.out]; omega) = va := ⟨_, rfl⟩
            rw [hva] at ca
            have fa := FA.free (k - 1)
            have c0 := F6.cellAt 0 (v := .int .i64 d) rfl
            have c1 := F6.cellAt 1 (v := .slice (some ⟨gA, 0, none⟩) k c) rfl
            have r0 := R6.cellAt 0 (v := .int .i64 0) rfl
            have r1 := R6.cellAt 1 (v := .slice none 0 0) rfl
            have hgAg : gA ≠ g := hr6.ne_full FA (by decide)
            have hgAe : gA ≠ ge := FA.ne F6 (by decide)
            have hgAr : gA ≠ w.heap.size := by omega
            have l1 := F6.lt
            have l2 := FA.lt
            have l3 := hr6.lt
            have b3 : (0 : Int) ≤ (k : Int) - 1 := by omega
            have b4 : (k : Int) - 1 < (k : Int) := by omega
            have b5 : ((k : Int) - 1).toNat = k - 1 := by omega
            have b6 : 1 ≤ k := h0
            have b7 : (1 : Int) ≤ (k : Int) := by omega
            have wk : IntKind.i64.wrap ((k : Int) - 1) = (k : Int) - 1 := IntWalk.i64_in _ (by omega)
            have HR6 := hid (hr6.less (show m + 1 ≤ m + 10 by omega))
            clear hva hcell
            go_wp2_with fail
            refine wp_region_held_drew (S := (fun w' => w'.cell? ⟨ge, 0, none⟩ = some (.int .i64 d) ∧ w'.cell? ⟨ge, 1, none⟩ = some (.slice (some ⟨gA, 0, none⟩) k c))) (by kernel_rfl) ?_ (fun hHeld => ?_)
            · (try dsimp only); go_keep
            refine wpAnyH_take (i := 0) (v := ?v1) rfl (by kernel_rfl) (by kernel_rfl) (by kernel_rfl) (fun _ _ _ h => h) (Or.inl ⟨by rfl, ?h1⟩) (by assumption) ?r1
            case h1 => (intro w hSw; (try dsimp only at hSw); go_simp; all_goals with_reducible rfl)
            try simp only [List.getElem_toArray, List.getElem_cons_zero, Act.put, List.setIfInBounds_toArray, List.set_cons_zero, List.set_cons_succ]
            refine wpAnyH_take (i := 1) (v := ?v2) rfl (by kernel_rfl) (by kernel_rfl) (by kernel_rfl) (fun _ _ _ h => h) (Or.inl ⟨by rfl, ?h2⟩) (by assumption) ?r2
            case h2 => (intro w hSw; (try dsimp only at hSw); go_simp; all_goals with_reducible rfl)
            try simp only [List.getElem_toArray, List.getElem_cons_zero, List.getElem_cons_succ, Act.put, List.setIfInBounds_toArray, List.set_cons_zero, List.set_cons_succ]
            refine wpAnyH_take (i := 2) (v := ?v3) rfl (by kernel_rfl) (by kernel_rfl) (by kernel_rfl) (fun _ _ _ h => h) (Or.inl ⟨by rfl, ?h3⟩) (by assumption) ?r3
            case h3 => (intro w hSw; (try dsimp only at hSw); go_simp; all_goals with_reducible rfl)
            try simp only [List.getElem_toArray, List.getElem_cons_zero, List.getElem_cons_succ, Act.put, List.setIfInBounds_toArray, List.set_cons_zero, List.set_cons_succ]
            refine wpAnyH_take (i := 3) (v := ?v4) rfl (by kernel_rfl) (by kernel_rfl) (by kernel_rfl) (fun _ _ _ h => h) (Or.inl ⟨by rfl, ?h4⟩) (by assumption) ?r4
            case h4 => (intro w hSw; (try dsimp only at hSw); go_simp; all_goals with_reducible rfl)
            try simp only [List.getElem_toArray, List.getElem_cons_zero, List.getElem_cons_succ, Act.put, List.setIfInBounds_toArray, List.set_cons_zero, List.set_cons_succ]
            refine wpAnyH_take (i := 4) (v := ?v5) rfl (by kernel_rfl) (by kernel_rfl) (by kernel_rfl) (fun _ _ _ h => h) (Or.inl ⟨by rfl, ?h5⟩) (by assumption) ?r5
            case h5 => (intro w hSw; (try dsimp only at hSw); go_simp; all_goals with_reducible rfl)
            try simp only [List.getElem_toArray, List.getElem_cons_zero, List.getElem_cons_succ, Act.put, List.setIfInBounds_toArray, List.set_cons_zero, List.set_cons_succ]
            refine wpAnyH_take (i := 5) (v := ?v6) rfl (by kernel_rfl) (by kernel_rfl) (by kernel_rfl) (fun _ _ _ h => h) (Or.inl ⟨by rfl, ?h6⟩) (by assumption) ?r6
            case h6 => (intro w hSw; (try dsimp only at hSw); go_simp; all_goals with_reducible rfl)
            try simp only [List.getElem_toArray, List.getElem_cons_zero, List.getElem_cons_succ, Act.put, List.setIfInBounds_toArray, List.set_cons_zero, List.set_cons_succ]
            refine wpAnyH_take (i := 6) (v := ?v7) rfl (by kernel_rfl) (by kernel_rfl) (by kernel_rfl) (fun _ _ _ h => h) (Or.inl ⟨by rfl, ?h7⟩) (by assumption) ?r7
            case h7 => (intro w hSw; (try dsimp only at hSw); go_simp; all_goals with_reducible rfl)
            try simp only [List.getElem_toArray, List.getElem_cons_zero, List.getElem_cons_succ, Act.put, List.setIfInBounds_toArray, List.set_cons_zero, List.set_cons_succ]
            refine wpAnyH_take (i := 7) (v := ?v8) rfl (by kernel_rfl) (by kernel_rfl) (by kernel_rfl) (fun _ _ _ h => h) (Or.inl ⟨by rfl, ?h8⟩) (by assumption) ?r8
            case h8 => (intro w hSw; (try dsimp only at hSw); go_simp; all_goals with_reducible rfl)
            try simp only [List.getElem_toArray, List.getElem_cons_zero, List.getElem_cons_succ, Act.put, List.setIfInBounds_toArray, List.set_cons_zero, List.set_cons_succ]
            refine wpAnyH_take (i := 9) (v := ?v9) rfl (by kernel_rfl) (by kernel_rfl) (by kernel_rfl) (fun _ _ _ h => h) (Or.inl ⟨by rfl, ?h9⟩) (by assumption) ?r9
            case h9 => (intro w hSw; (try dsimp only at hSw); go_simp; all_goals with_reducible rfl)
            try simp only [List.getElem_toArray, List.getElem_cons_zero, List.getElem_cons_succ, Act.put, List.setIfInBounds_toArray, List.set_cons_zero, List.set_cons_succ]
            refine wpAnyH_ready (rs := [8, 10]) (by kernel_rfl) (by simp) ?_
            refine AllReadyH.cons rfl (fun K hK => ?_) ?_
            · go_simp
              refine hK.out _ _ ?_ (fun hHeld => ?_)
              · (try dsimp only); go_keep
              clear hK K
              refine wpAnyH_ready (rs := [10]) (by kernel_rfl) (by simp) ?_
              refine AllReadyH.cons rfl (fun K hK => ?_) ?_
              · go_simp
                (first
                  | (go_at_call 37
                     refine (pick_any B g m 2 _ ?_ (by omega) (by omega)).mono ?_
                     · exact HR6.out.drew
                     rintro e w7 ⟨k7, rfl, hk71, hk72, R_7, hg7⟩
                     have hk73 := hk72 (by omega)
                     clear hk72
                     have F7 := F6.drew.grown hg7 (by intro e; injection e with e; omega)
                     have R7 := R6.drew.grown hg7 (by intro e; injection e with e; omega)
                     have O7 := O6.drew.past hg7 (by omega)
                     have FA7 := FA.drew.grown hg7 (by intro e; injection e with e; omega)
                     have G7 := gr_trans (gr_drew G6) hg7
                     have c0 := F7.cellAt 0 (v := .int .i64 d) rfl
                     have c1 := F7.cellAt 1 (v := .slice (some ⟨gA, 0, none⟩) k c) rfl
                     have fa7 := FA7.free (k - 1)
                     have ca7 := hg7.cell (w := w6.drew) ca (by simp; omega)
                     have l7 := F7.lt
                     have l8 := FA7.lt
                     have bn0 := World.new_ne w7 _ c0
                     have bn0s := bn0.symm
                     have bn1 := World.new_ne w7 _ ca7
                     have bn1s := bn1.symm
                     have F8 := F7.alloc (.cells #[.int .i64 (-1), .int .i64 d] 3)
                     have FA8 := FA7.alloc (.cells #[.int .i64 (-1), .int .i64 d] 3)
                     have y0 := F8.cellAt 0 (v := .int .i64 d) rfl
                     have y1 := F8.cellAt 1 (v := .slice (some ⟨gA, 0, none⟩) k c) rfl
                     have fa8 := FA8.free (k - 1)
                     have ca8 := (World.grownBy_alloc w7 (.cells #[.int .i64 (-1), .int .i64 d] 3) none).cell ca7 (by simp)
                     obtain ⟨x, hx, hxc⟩ := two_new (-1) d w7.heap.size 3 (show k7 < 2 by omega)
                     have hx0 : -1 ≤ x ∧ x ≤ 101 := by omega
                     obtain ⟨hx0, hx1⟩ := hx0
                     have FZ := (F7.far (p := ⟨gA, k - 1, none⟩) (by simpa using hgAe.symm) (.int .i64 x)).alloc (.cells #[.int .i64 (-1), .int .i64 d] 3)
                     have RZ := (R7.far (p := ⟨gA, k - 1, none⟩) (by simpa using hgAr.symm) (.int .i64 x)).alloc (.cells #[.int .i64 (-1), .int .i64 d] 3)
                     have OZ := (O7.set (k - 1) (.int .i64 x)).alloc (.cells #[.int .i64 (-1), .int .i64 d] 3)
                     have QZ := (R_7.set (b := gA) hgAg (by omega) (k - 1) (.int .i64 x)).alloc (.cells #[.int .i64 (-1), .int .i64 d] 3)
                     have GZ := gr_alloc (gr_put (i := k - 1) G7 (b := gA) (by omega) (.int .i64 x)) (.cells #[.int .i64 (-1), .int .i64 d] 3)
                     clear hx)
                  | (go_at_call 37
                     refine (pick_any B g m 2 _ ?_ (by omega) (by omega)).mono ?_
                     · exact (HR6.out.alloc (.cells #[.int .i64 (-1), .int .i64 d] 3)).drew
                     rintro e w7 ⟨k7, rfl, hk71, hk72, R_7, hg7⟩
                     have hk73 := hk72 (by omega)
                     clear hk72
                     have F7 := (F6.alloc (.cells #[.int .i64 (-1), .int .i64 d] 3)).drew.grown hg7 (by intro e; injection e with e; omega)
                     have R7 := (R6.alloc (.cells #[.int .i64 (-1), .int .i64 d] 3)).drew.grown hg7 (by intro e; injection e with e; omega)
                     have O7 := (O6.alloc (.cells #[.int .i64 (-1), .int .i64 d] 3)).drew.past hg7 (by omega)
                     have FA7 := (FA.alloc (.cells #[.int .i64 (-1), .int .i64 d] 3)).drew.grown hg7 (by intro e; injection e with e; omega)
                     have G7 := gr_trans (gr_drew (gr_alloc G6 (.cells #[.int .i64 (-1), .int .i64 d] 3))) hg7
                     have c0 := F7.cellAt 0 (v := .int .i64 d) rfl
                     have c1 := F7.cellAt 1 (v := .slice (some ⟨gA, 0, none⟩) k c) rfl
                     have fa7 := FA7.free (k - 1)
                     have ca7 := hg7.cell (w := (w6.alloc (.cells #[.int .i64 (-1), .int .i64 d] 3)).drew) ((World.grownBy_alloc w6 (.cells #[.int .i64 (-1), .int .i64 d] 3) none).cell ca (by simp)) (by simp; omega)
                     have l7 := F7.lt
                     have l8 := FA7.lt
                     have bn0 := World.new_ne w7 _ c0
                     have bn0s := bn0.symm
                     have bn1 := World.new_ne w7 _ ca7
                     have bn1s := bn1.symm
                     have N7 := (Full.new w6 3 #[.int .i64 (-1), .int .i64 d]).drew.grown hg7 (by intro e; injection e with e; omega)
                     obtain ⟨x, hx, hxc⟩ := two_at N7 (show k7 < 2 by omega)
                     have hx0 : -1 ≤ x ∧ x ≤ 101 := by omega
                     obtain ⟨hx0, hx1⟩ := hx0
                     have FZ := (F7.far (p := ⟨gA, k - 1, none⟩) (by simpa using hgAe.symm) (.int .i64 x))
                     have RZ := (R7.far (p := ⟨gA, k - 1, none⟩) (by simpa using hgAr.symm) (.int .i64 x))
                     have OZ := (O7.set (k - 1) (.int .i64 x))
                     have QZ := (R_7.set (b := gA) hgAg (by omega) (k - 1) (.int .i64 x))
                     have GZ := gr_put (i := k - 1) G7 (b := gA) (by omega) (.int .i64 x)
                     clear hx))
                go_wp2_with fail
                refine hK.out _ _ ?_ (fun hHeld => ?_)
                · (try dsimp only); go_keep
                clear hK K
                refine wpAnyH_take (i := 11) (v := ?v10) rfl (by kernel_rfl) (by kernel_rfl) (by kernel_rfl) (fun _ _ _ h => h) (Or.inl ⟨by rfl, ?h10⟩) (by assumption) ?r10
                case h10 => (intro w hSw; (try dsimp only at hSw); go_simp; all_goals with_reducible rfl)
                try simp only [List.getElem_toArray, List.getElem_cons_zero, List.getElem_cons_succ, Act.put, List.setIfInBounds_toArray, List.set_cons_zero, List.set_cons_succ]
                refine wpAnyH_ready (rs := [12]) (by kernel_rfl) (by simp) ?_
                refine AllReadyH.cons rfl (fun K hK => ?_) ?_
                · go_simp
                  refine hK.out _ _ ?_ (fun hHeld => ?_)
                  · (try dsimp only); go_keep
                  clear hK K
                  refine wpAnyH_take (i := 13) (v := ?v11) rfl (by kernel_rfl) (by kernel_rfl) (by kernel_rfl) (fun _ _ _ h => h) (Or.inl ⟨by rfl, ?h11⟩) (by assumption) ?r11
                  case h11 => (intro w hSw; (try dsimp only at hSw); go_simp; all_goals with_reducible rfl)
                  try simp only [List.getElem_toArray, List.getElem_cons_zero, List.getElem_cons_succ, Act.put, List.setIfInBounds_toArray, List.set_cons_zero, List.set_cons_succ]
                  refine wpAnyH_ready (rs := [14]) (by kernel_rfl) (by simp) ?_
                  refine AllReadyH.cons rfl (fun K hK => ?_) ?_
                  · go_simp
                    refine hK.out _ _ ?_ (fun hHeld => ?_)
                    · (try dsimp only); go_keep
                    clear hK K
                    refine wpAnyH_done (by kernel_rfl) ?_ _
                    have HO := hid (show Own _ (w.heap.size + 1) 3 1 (some ⟨gA, 0, none⟩) k c (ints (xs.set (k - 1) x)) by rw [← ints_setB]; exact OZ)
                    clear OZ c0 c1 r0 r1
                    have c0 := FZ.cellAt 0 (v := .int .i64 d) rfl
                    have c1 := FZ.cellAt 1 (v := .slice (some ⟨gA, 0, none⟩) k c) rfl
                    have r0 := RZ.cellAt 0 (v := .int .i64 0) rfl
                    have r1 := RZ.cellAt 1 (v := .slice none 0 0) rfl
                    have g0 := RZ.free 0
                    have g1 := RZ.free 1
                    go_wp2_with fail
                    refine bodyPost_ret (v := .agg #[.int .i64 d, .slice (some ⟨gA, 0, none⟩) k c]) ?_ rfl ?_
                    · simp [results, Try.results31, go_sem, r0, r1]
                    · exact ⟨d, _, k, c, xs.set (k - 1) x, rfl, ((HO.out.put RZ (by decide) _ _).put (RZ.set 0 _) (by decide) _ _).base_le (by omega), by rw [List.length_set]; exact HLn.out, ⟨by omega, by omega, by rw [List.length_set, HLn.out]; omega, mem_set_bound HM.out ⟨hx0, hx1⟩⟩, by repeat (first | exact QZ | exact R_7 | refine Rd.alloc ?_ _ | refine Rd.set ?_ (by omega) (by omega) _ _), by repeat (first | exact GZ | exact G7 | refine gr_alloc ?_ _ | refine gr_put ?_ (by omega) _)⟩
                  exact AllReadyH.nil
                exact AllReadyH.nil
              exact AllReadyH.nil
            refine AllReadyH.cons rfl (fun K hK => ?_) ?_
            · go_simp
              (first
                | (go_at_call 37
                   refine (pick_any B g m 2 _ ?_ (by omega) (by omega)).mono ?_
                   · exact HR6.out.drew
                   rintro e w7 ⟨k7, rfl, hk71, hk72, R_7, hg7⟩
                   have hk73 := hk72 (by omega)
                   clear hk72
                   have F7 := F6.drew.grown hg7 (by intro e; injection e with e; omega)
                   have R7 := R6.drew.grown hg7 (by intro e; injection e with e; omega)
                   have O7 := O6.drew.past hg7 (by omega)
                   have FA7 := FA.drew.grown hg7 (by intro e; injection e with e; omega)
                   have G7 := gr_trans (gr_drew G6) hg7
                   have c0 := F7.cellAt 0 (v := .int .i64 d) rfl
                   have c1 := F7.cellAt 1 (v := .slice (some ⟨gA, 0, none⟩) k c) rfl
                   have fa7 := FA7.free (k - 1)
                   have ca7 := hg7.cell (w := w6.drew) ca (by simp; omega)
                   have l7 := F7.lt
                   have l8 := FA7.lt
                   have bn0 := World.new_ne w7 _ c0
                   have bn0s := bn0.symm
                   have bn1 := World.new_ne w7 _ ca7
                   have bn1s := bn1.symm
                   have F8 := F7.alloc (.cells #[.int .i64 (-1), .int .i64 d] 3)
                   have FA8 := FA7.alloc (.cells #[.int .i64 (-1), .int .i64 d] 3)
                   have y0 := F8.cellAt 0 (v := .int .i64 d) rfl
                   have y1 := F8.cellAt 1 (v := .slice (some ⟨gA, 0, none⟩) k c) rfl
                   have fa8 := FA8.free (k - 1)
                   have ca8 := (World.grownBy_alloc w7 (.cells #[.int .i64 (-1), .int .i64 d] 3) none).cell ca7 (by simp)
                   obtain ⟨x, hx, hxc⟩ := two_new (-1) d w7.heap.size 3 (show k7 < 2 by omega)
                   have hx0 : -1 ≤ x ∧ x ≤ 101 := by omega
                   obtain ⟨hx0, hx1⟩ := hx0
                   have FZ := (F7.far (p := ⟨gA, k - 1, none⟩) (by simpa using hgAe.symm) (.int .i64 x)).alloc (.cells #[.int .i64 (-1), .int .i64 d] 3)
                   have RZ := (R7.far (p := ⟨gA, k - 1, none⟩) (by simpa using hgAr.symm) (.int .i64 x)).alloc (.cells #[.int .i64 (-1), .int .i64 d] 3)
                   have OZ := (O7.set (k - 1) (.int .i64 x)).alloc (.cells #[.int .i64 (-1), .int .i64 d] 3)
                   have QZ := (R_7.set (b := gA) hgAg (by omega) (k - 1) (.int .i64 x)).alloc (.cells #[.int .i64 (-1), .int .i64 d] 3)
                   have GZ := gr_alloc (gr_put (i := k - 1) G7 (b := gA) (by omega) (.int .i64 x)) (.cells #[.int .i64 (-1), .int .i64 d] 3)
                   clear hx)
                | (go_at_call 37
                   refine (pick_any B g m 2 _ ?_ (by omega) (by omega)).mono ?_
                   · exact (HR6.out.alloc (.cells #[.int .i64 (-1), .int .i64 d] 3)).drew
                   rintro e w7 ⟨k7, rfl, hk71, hk72, R_7, hg7⟩
                   have hk73 := hk72 (by omega)
                   clear hk72
                   have F7 := (F6.alloc (.cells #[.int .i64 (-1), .int .i64 d] 3)).drew.grown hg7 (by intro e; injection e with e; omega)
                   have R7 := (R6.alloc (.cells #[.int .i64 (-1), .int .i64 d] 3)).drew.grown hg7 (by intro e; injection e with e; omega)
                   have O7 := (O6.alloc (.cells #[.int .i64 (-1), .int .i64 d] 3)).drew.past hg7 (by omega)
                   have FA7 := (FA.alloc (.cells #[.int .i64 (-1), .int .i64 d] 3)).drew.grown hg7 (by intro e; injection e with e; omega)
                   have G7 := gr_trans (gr_drew (gr_alloc G6 (.cells #[.int .i64 (-1), .int .i64 d] 3))) hg7
                   have c0 := F7.cellAt 0 (v := .int .i64 d) rfl
                   have c1 := F7.cellAt 1 (v := .slice (some ⟨gA, 0, none⟩) k c) rfl
                   have fa7 := FA7.free (k - 1)
                   have ca7 := hg7.cell (w := (w6.alloc (.cells #[.int .i64 (-1), .int .i64 d] 3)).drew) ((World.grownBy_alloc w6 (.cells #[.int .i64 (-1), .int .i64 d] 3) none).cell ca (by simp)) (by simp; omega)
                   have l7 := F7.lt
                   have l8 := FA7.lt
                   have bn0 := World.new_ne w7 _ c0
                   have bn0s := bn0.symm
                   have bn1 := World.new_ne w7 _ ca7
                   have bn1s := bn1.symm
                   have N7 := (Full.new w6 3 #[.int .i64 (-1), .int .i64 d]).drew.grown hg7 (by intro e; injection e with e; omega)
                   obtain ⟨x, hx, hxc⟩ := two_at N7 (show k7 < 2 by omega)
                   have hx0 : -1 ≤ x ∧ x ≤ 101 := by omega
                   obtain ⟨hx0, hx1⟩ := hx0
                   have FZ := (F7.far (p := ⟨gA, k - 1, none⟩) (by simpa using hgAe.symm) (.int .i64 x))
                   have RZ := (R7.far (p := ⟨gA, k - 1, none⟩) (by simpa using hgAr.symm) (.int .i64 x))
                   have OZ := (O7.set (k - 1) (.int .i64 x))
                   have QZ := (R_7.set (b := gA) hgAg (by omega) (k - 1) (.int .i64 x))
                   have GZ := gr_put (i := k - 1) G7 (b := gA) (by omega) (.int .i64 x)
                   clear hx))
              go_wp2_with fail
              refine hK.out _ _ ?_ (fun hHeld => ?_)
              · (try dsimp only); go_keep
              clear hK K
              refine wpAnyH_ready (rs := [8]) (by kernel_rfl) (by simp) ?_
              refine AllReadyH.cons rfl (fun K hK => ?_) ?_
              · go_simp
                refine hK.out _ _ ?_ (fun hHeld => ?_)
                · (try dsimp only); go_keep
                clear hK K
                refine wpAnyH_take (i := 11) (v := ?v12) rfl (by kernel_rfl) (by kernel_rfl) (by kernel_rfl) (fun _ _ _ h => h) (Or.inl ⟨by rfl, ?h12⟩) (by assumption) ?r12
                case h12 => (intro w hSw; (try dsimp only at hSw); go_simp; all_goals with_reducible rfl)
                try simp only [List.getElem_toArray, List.getElem_cons_zero, List.getElem_cons_succ, Act.put, List.setIfInBounds_toArray, List.set_cons_zero, List.set_cons_succ]
                refine wpAnyH_ready (rs := [12]) (by kernel_rfl) (by simp) ?_
                refine AllReadyH.cons rfl (fun K hK => ?_) ?_
                · go_simp
                  refine hK.out _ _ ?_ (fun hHeld => ?_)
                  · (try dsimp only); go_keep
                  clear hK K
                  refine wpAnyH_take (i := 13) (v := ?v13) rfl (by kernel_rfl) (by kernel_rfl) (by kernel_rfl) (fun _ _ _ h => h) (Or.inl ⟨by rfl, ?h13⟩) (by assumption) ?r13
                  case h13 => (intro w hSw; (try dsimp only at hSw); go_simp; all_goals with_reducible rfl)
                  try simp only [List.getElem_toArray, List.getElem_cons_zero, List.getElem_cons_succ, Act.put, List.setIfInBounds_toArray, List.set_cons_zero, List.set_cons_succ]
                  refine wpAnyH_ready (rs := [14]) (by kernel_rfl) (by simp) ?_
                  refine AllReadyH.cons rfl (fun K hK => ?_) ?_
                  · go_simp
                    refine hK.out _ _ ?_ (fun hHeld => ?_)
                    · (try dsimp only); go_keep
                    clear hK K
                    refine wpAnyH_done (by kernel_rfl) ?_ _
                    have HO := hid (show Own _ (w.heap.size + 1) 3 1 (some ⟨gA, 0, none⟩) k c (ints (xs.set (k - 1) x)) by rw [← ints_setB]; exact OZ)
                    clear OZ c0 c1 r0 r1
                    have c0 := FZ.cellAt 0 (v := .int .i64 d) rfl
                    have c1 := FZ.cellAt 1 (v := .slice (some ⟨gA, 0, none⟩) k c) rfl
                    have r0 := RZ.cellAt 0 (v := .int .i64 0) rfl
                    have r1 := RZ.cellAt 1 (v := .slice none 0 0) rfl
                    have g0 := RZ.free 0
                    have g1 := RZ.free 1
                    go_wp2_with fail
                    refine bodyPost_ret (v := .agg #[.int .i64 d, .slice (some ⟨gA, 0, none⟩) k c]) ?_ rfl ?_
                    · simp [results, Try.results31, go_sem, r0, r1]
                    · exact ⟨d, _, k, c, xs.set (k - 1) x, rfl, ((HO.out.put RZ (by decide) _ _).put (RZ.set 0 _) (by decide) _ _).base_le (by omega), by rw [List.length_set]; exact HLn.out, ⟨by omega, by omega, by rw [List.length_set, HLn.out]; omega, mem_set_bound HM.out ⟨hx0, hx1⟩⟩, by repeat (first | exact QZ | exact R_7 | refine Rd.alloc ?_ _ | refine Rd.set ?_ (by omega) (by omega) _ _), by repeat (first | exact GZ | exact G7 | refine gr_alloc ?_ _ | refine gr_put ?_ (by omega) _)⟩
                  exact AllReadyH.nil
                exact AllReadyH.nil
              exact AllReadyH.nil
            exact AllReadyH.nil
          · have c0 := F6.cellAt 0 (v := .int .i64 d) rfl
            have c1 := F6.cellAt 1 (v := .slice A k c) rfl
            have r0 := R6.cellAt 0 (v := .int .i64 0) rfl
            have r1 := R6.cellAt 1 (v := .slice none 0 0) rfl
            have g0 := R6.free 0
            have g1 := R6.free 1
            go_wp2_with fail
            refine bodyPost_ret (v := .agg #[.int .i64 d, .slice A k c]) ?_ rfl ?_
            · simp [results, Try.results31, go_sem, r0, r1]
            · exact ⟨d, A, k, c, xs, rfl, ((O6.put R6 (by decide) _ _).put (R6.set 0 _) (by decide) _ _).base_le (by omega), HLn.out, ⟨by omega, by omega, by rw [HLn.out]; omega, HM.out⟩, by repeat (first | refine Rd.set ?_ (by omega) (by omega) _ _ | exact (hr6.less (show m ≤ m + 10 by omega))), by repeat (first | refine gr_put ?_ (by omega) _ | exact G6)⟩
end Go.Proofs.Ytfcammfdengdbaa
