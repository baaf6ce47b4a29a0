/- Drawn checkpoints. -/
import Derived.Test.YtjhkmgoephmbpaaInts
import Derived.Test.YtjhkmgoephmbpaaIn
import Derived.Deep.DeepCutAuto
namespace Go.Proofs.Ytjhkmgoephmbpaa
open Go.RowKit

/-- What a drawn checkpoint is at most. -/
structure CkSmall (d : Int) (xs : List Int) : Prop where
  d0 : 0 ≤ d
  d1 : d ≤ 101
  len : xs.length ≤ 9
  mem : ∀ x ∈ xs, 0 ≤ x ∧ x ≤ 1000

/-- A drawn checkpoint out of a reader. -/
def CkRdEnds (T : TypeId) (w : World) (B g m : Nat) (e : Ending) (w' : World) : Prop :=
  ∃ (d : Int) (A : Option Addr) (n c : Nat) (xs : List Int), e = .returned (.agg #[.int .i64 d, .slice A n c]) ∧ Own w' w.heap.size 3 1 A n c (ints xs) ∧ xs.length = n ∧ CkSmall d xs ∧ Rd T w' B g m ∧ w.grownBy w' (some g)

/-- What holds while the checkpoint is made: it lies in block ge, the result's variable in the block that was new first. -/
structure CkAt (w : World) (B g m ge k : Nat) (d a : Int) (xs : List Int) (A : Option Addr) (c : Nat) (wr : World) : Prop where
  len : xs.length = k
  full : Full wr ge 25 #[.int .i64 d, .slice A k c]
  res : Full wr w.heap.size 25 #[.int .i64 0, .slice none 0 0]
  new : w.heap.size < ge
  own : Own wr (w.heap.size + 1) 3 1 A k c (ints xs)
  d0 : 0 ≤ d
  d1 : d ≤ 100
  a0 : 0 ≤ a
  a1 : a ≤ 110 + 4 * k
  mem : ∀ x ∈ xs, 0 ≤ x ∧ x ≤ 1000
  rd : Rd 53 wr B g m
  gr : w.grownBy wr (some g)

set_option maxHeartbeats 2000000 in
theorem ck92_any (B g m : Nat) (w : World) (h : Rd 53 w B g (m + 20)) :
    Calls Try.prog 27 #[.pointer (some ⟨g, 0, none⟩)] w (CkRdEnds 53 w B g m) := by
  have hlt := h.lt
  have hge := h.ge
  have F0 := Full.new w 25 #[.int .i64 0, .slice none 0 0]
  go_enter Try.func27, Try.ntmps27
  go_wp2_with fail
  refine (pick_any B g (m + 19) 8 _ (h.alloc _) (by omega) (by omega)).mono ?_
  rintro e w1 ⟨k1, rfl, hk11, hk12, hr1, hg1⟩
  have hk13 := hk12 (by omega)
  clear hk12
  have F1 := F0.grown hg1 (by intro e; injection e with e; omega)
  have G1 := gr_trans (World.grownBy_alloc w _ (some g)) hg1
  have s1 := F1.lt
  have O1 := Own.empty (base := w.heap.size + 1) (e := 3) (s := 1) w1 (by omega)
  have E1 := Full.newAt (w := w1.alloc (.cells #[] 3)) (t := 25) (cs := #[.int .i64 (k1 : Int), .slice (some ⟨w1.heap.size, 0, none⟩) 0 0]) (H := w1.heap.size + 1) (by simp)
  clear hg1 F0
  obtain ⟨ge, hge1⟩ : ∃ ge, w1.heap.size + 1 = ge := ⟨_, rfl⟩
  rw [hge1] at E1
  have hneg : w.heap.size < ge := by omega
  go_upto_if 13 with (go_at_call 30; refine (pick_any B g (m + 18) 16 _ ((hr1.alloc _).alloc _) (by omega) (by omega)).mono ?_; rintro e w2 ⟨k2, rfl, hk21, hk22, hr2, hg2⟩; have hk23 := hk22 (by omega); clear hk22; have CK : CkAt w B g (m + 18) ge 0 (k1 : Int) 0 [] (some ⟨w1.heap.size, 0, none⟩) 0 w2 := ⟨rfl, E1.grown hg2 (by intro e; injection e with e; omega), ((F1.alloc _).alloc _).grown hg2 (by intro e; injection e with e; omega), hneg, (O1.alloc _).past hg2 (by omega), by omega, by omega, by omega, by omega, by simp, hr2, gr_trans (gr_alloc (gr_alloc G1 _) _) hg2⟩; clear hg2)
  clear F1 O1 E1 G1
  go_cut [] (fun wx => ∃ d : Int, CkAt w B g (m + 17) ge 0 d 0 [] (some ⟨w1.heap.size, 0, none⟩) 0 wx)
  case first =>
    rcases (by omega : k2 < 1 ∨ 1 ≤ k2) with hk | hk
    · go_wp2_with fail
      refine (pick_any B g (m + 17) 5 _ CK.rd (by omega) (by omega)).mono ?_
      rintro e w3 ⟨k3, rfl, hk31, hk32, hr3, hg3⟩
      have hk33 := hk32 (by omega)
      clear hk32
      have F3 := CK.full.grown hg3 (by intro e; injection e with e; omega)
      have c0 := F3.cellAt 0 rfl
      have f0 := F3.free 0
      have CK3 : CkAt w B g (m + 17) ge 0 (96 + (k3 : Int)) 0 [] (some ⟨w1.heap.size, 0, none⟩) 0 (w3.setCell ⟨ge, 0, none⟩ (.int .i64 (96 + (k3 : Int)))) :=
        ⟨rfl, F3.set 0 _, (CK.res.grown hg3 (by intro e; injection e with e; omega)).far (by simp; omega) _, hneg, (CK.own.past hg3 (by omega)).put F3 (by decide) _ _, by omega, by omega, by omega, by omega, by simp, hr3.set (by omega) (by omega) _ _, gr_put (gr_trans CK.gr hg3) (by omega) _⟩
      clear hg3 F3
      go_wp2_with fail
      go_meet
      case rel => exact ⟨_, CK3⟩
    · go_wp2_with fail
      go_meet
      case rel => exact ⟨_, ⟨CK.len, CK.full, CK.res, hneg, CK.own, CK.d0, CK.d1, CK.a0, CK.a1, CK.mem, CK.rd.less (by omega), CK.gr⟩⟩
  case rest =>
    obtain ⟨d, C3⟩ := hcut
    clear CK
    have hd0 := C3.d0
    have hd1 := C3.d1
    have c0 := C3.full.cellAt 0 rfl
    go_wp2_with fail
    refine (pick_any B g (m + 16) 5 _ C3.rd (by omega) (by omega)).mono ?_
    rintro e w4 ⟨k4, rfl, hk41, hk42, hr4, hg4⟩
    have hk43 := hk42 (by omega)
    clear hk42
    have C4 : CkAt w B g (m + 16) ge 0 d 0 [] (some ⟨w1.heap.size, 0, none⟩) 0 w4 := ⟨C3.len, C3.full.grown hg4 (by intro e; injection e with e; omega), C3.res.grown hg4 (by intro e; injection e with e; omega), hneg, C3.own.past hg4 (by omega), hd0, hd1, C3.a0, C3.a1, C3.mem, hr4, gr_trans C3.gr hg4⟩
    clear hg4 C3
    go_wp2_with fail
    refine (pick_any B g (m + 15) 8 _ C4.rd (by omega) (by omega)).mono ?_
    rintro e w5 ⟨k5, rfl, hk51, hk52, hr5, hg5⟩
    have hk53 := hk52 (by omega)
    clear hk52
    have C5 : CkAt w B g (m + 15 - 0) ge 0 d (d + 1) [] (some ⟨w1.heap.size, 0, none⟩) 0 w5 := ⟨C4.len, C4.full.grown hg5 (by intro e; injection e with e; omega), C4.res.grown hg5 (by intro e; injection e with e; omega), hneg, C4.own.past hg5 (by omega), hd0, hd1, by omega, by omega, C4.mem, hr5, gr_trans C4.gr hg5⟩
    clear hg5 C4
    obtain ⟨N, hN, hN9⟩ : ∃ N : Nat, (k4 : Int) + (k5 : Int) / 7 * 5 = (N : Int) ∧ N ≤ 9 := ⟨k4 + k5 / 7 * 5, by omega, by omega⟩
    go_wp2_with fail
    go_loopw [4, 6] (fun v i wr => ∃ (k : Nat) (a : Int) (xs : List Int) (A : Option Addr) (c : Nat), i = .int .i64 k ∧ v = .int .i64 a ∧ k ≤ N ∧ CkAt w B g (m + 15 - k) ge k d a xs A c wr) (fun _ i _ => N - (intOf i).toNat)
    case atStart => exact ⟨0, d + 1, [], _, _, rfl, rfl, by omega, C5⟩
    case round =>
      obtain ⟨k, a, xs, A, c, rfl, rfl, hkN, hat⟩ := hrel
      have ha0 := hat.a0
      have ha1 := hat.a1
      by_cases hlt2 : k < N
      · go_wp2_with fail
        refine (pick_any B g (m + 14 - k) 3 _ (hat.rd.less (by omega)) (by omega) (by omega)).mono ?_
        rintro e w6 ⟨k6, rfl, hk61, hk62, hr6, hg6⟩
        have hk63 := hk62 (by omega)
        clear hk62
        have F6 := hat.full.grown hg6 (by intro e; injection e with e; omega)
        have R6 := hat.res.grown hg6 (by intro e; injection e with e; omega)
        have O6 := hat.own.past hg6 (by omega)
        have G6 := gr_trans hat.gr hg6
        have c1 := F6.cellAt 1 rfl
        have hs6 := Nat.le_trans (Nat.succ_le_of_lt hat.res.lt) hg6.size
        have hAne := O6.ne_full F6 (by decide)
        have hA1 := fun b hb => (O6.block (b := b) hb).1
        clear hg6
        go_wp2_with (at_builtin; refine wpList_push _ rfl _ _ 23 rfl (w.heap.size + 1) 3 Try.underlying23 intInfo rfl (by omega) A k c (ints xs) rfl (O6.alloc (.cells #[.int .i64 (a + (k6 : Int))] 3)) _ 1 #[.int .i64 (a + (k6 : Int))] rfl (Full.newAt (by simp)) rfl (by intro u hu; simp at hu; subst hu; rfl) (by omega) (by omega) (by simp; omega) ?_; intro A' c' wz hown hgz _; have Fz := (F6.alloc (.cells #[.int .i64 (a + (k6 : Int))] 3)).grown hgz (fun e => hAne _ e.symm rfl); have z1 := Fz.cellAt 1 rfl; have zf := Fz.free 1)
        have ST : CkAt w B g (m + 15 - (k + 1)) ge (k + 1) d (a + (k6 : Int) + 1) (xs ++ [a + (k6 : Int)]) A' c' (wz.setCell ⟨ge, 1, none⟩ (.slice A' (k + 1) c')) := by
          have hne := hown.ne_full Fz (by decide)
          have hRz := (hr6.alloc (.cells #[.int .i64 (a + (k6 : Int))] 3)).grown hgz (fun b hb => by have := hA1 b hb; exact ⟨by omega, by omega⟩)
          refine ⟨by simp [hat.len], Fz.set 1 _, ((R6.alloc _).grown hgz (fun e => by have := hA1 _ e.symm; omega)).far (by simp; omega) _, hneg, ?_, hd0, hd1, by omega, by omega, ?_, (hRz.set (by omega) (by omega) _ _).less (by omega), gr_put (gr_then (gr_alloc G6 _) hgz (fun b hb => .inr (by have := hA1 b hb; omega))) (by omega) _⟩
          · rw [ints_app]
            exact hown.put Fz (by decide) _ _
          · intro x hx
            rcases List.mem_append.1 hx with hx | hx
            · exact hat.mem x hx
            · simp at hx
              omega
        clear hown hgz Fz z1 zf hAne hA1 hat F6 R6 O6 G6
        go_wp2_with fail
        go_roundw
        case rel => exact ⟨k + 1, _, _, A', c', by go_num, rfl, by omega, ST⟩
        case measure => simp [intOf]; omega
      · obtain rfl : k = N := by omega
        go_wp2_with fail
        refine (pick_any B g m 24 _ (hat.rd.less (by omega)) (by omega) (by omega)).mono ?_
        rintro e w6 ⟨k6, rfl, hk61, hk62, hr6, hg6⟩
        have hk63 := hk62 (by omega)
        clear hk62
        have F6 := hat.full.grown hg6 (by intro e; injection e with e; omega)
        have R6 := hat.res.grown hg6 (by intro e; injection e with e; omega)
        have O6 := hat.own.past hg6 (by omega)
        have G6 := gr_trans hat.gr hg6
        have hlen := hat.len
        have hmem := hat.mem
        have HLn := hid hlen
        have HM := hid hmem
        clear hlen hmem hg6 hat
        have c0 := F6.cellAt 0 rfl
        have c1 := F6.cellAt 1 rfl
        have f0 := F6.free 0
        have r0 := R6.cellAt 0 rfl
        have r1 := R6.cellAt 1 rfl
        have g0 := R6.free 0
        have g1 := R6.free 1
        have hO1 := (O6.put F6 (show 3 ≠ 25 by decide) 0 (.int .i64 (d + 1)))
        rcases (by omega : k6 < 1 ∨ 1 ≤ k6) with hk | hk
        · have R7 := R6.far (p := ⟨ge, 0, none⟩) (by simp; omega) (.int .i64 (d + 1))
          go_wp2_with fail
          refine bodyPost_ret (v := .agg #[.int .i64 (d + 1), .slice A k c]) ?_ rfl ?_
          · simp [results, Try.results27, go_sem, r0, r1]
          · exact ⟨d + 1, A, k, c, xs, rfl, ((hO1.put R7 (by decide) _ _).put (R7.set 0 _) (by decide) _ _).base_le (by omega), HLn.out, ⟨by omega, by omega, by rw [HLn.out]; omega, HM.out⟩, by repeat (first | refine Rd.set ?_ (by omega) (by omega) _ _ | exact hr6), by repeat (first | refine gr_put ?_ (by omega) _ | exact G6)⟩
        · go_wp2_with fail
          refine bodyPost_ret (v := .agg #[.int .i64 d, .slice A k c]) ?_ rfl ?_
          · simp [results, Try.results27, go_sem, r0, r1]
          · exact ⟨d, A, k, c, xs, rfl, ((O6.put R6 (by decide) _ _).put (R6.set 0 _) (by decide) _ _).base_le (by omega), HLn.out, ⟨by omega, by omega, by rw [HLn.out]; omega, HM.out⟩, by repeat (first | refine Rd.set ?_ (by omega) (by omega) _ _ | exact hr6), by repeat (first | refine gr_put ?_ (by omega) _ | exact G6)⟩

/-- A drawn checkpoint. -/
def CkEnds (w : World) (e : Ending) (w' : World) : Prop :=
  ∃ (d : Int) (A : Option Addr) (n c : Nat) (xs : List Int), e = .returned (.agg #[.int .i64 d, .slice A n c]) ∧ Own w' w.heap.size 3 1 A n c (ints xs) ∧ xs.length = n ∧ CkSmall d xs ∧ w.grownBy w' none
end Go.Proofs.Ytjhkmgoephmbpaa
