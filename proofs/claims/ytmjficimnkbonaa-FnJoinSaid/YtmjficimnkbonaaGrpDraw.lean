/- Drawn groups. -/
import Derived.Test.YtmjficimnkbonaaGrp
import Derived.Test.YtmjficimnkbonaaOf
import Derived.Test.YtmjficimnkbonaaApp
import Derived.Test.YtmjficimnkbonaaOwnSet
import Derived.Deep.RegionHeld3
namespace Go.Proofs.Ytmjficimnkbonaa
open Go.RowKit

theorem strInfo' : (Try.prog.info? 9).map (fun i => (i.zero, i.size, i.bytes)) = some (some (.string ⟨#[]⟩), 1, 16) := by kernel_rfl
structure GrAt (w : World) (B g m ge nb k : Nat) (s : Int) (ms : List ByteArray) (A : Option Addr) (c : Nat) (wr : World) : Prop where
  len : ms.length = k
  full : Full wr ge 25 #[.int .i64 s, .slice A k c]
  res : Full wr w.heap.size 25 #[.int .i64 0, .slice none 0 0]
  new : w.heap.size < ge
  names : Full wr nb 9 #[.string ⟨#[97, 110, 110]⟩, .string ⟨#[98, 111, 98]⟩, .string ⟨#[99, 121]⟩, .string ⟨#[100, 97, 110]⟩, .string ⟨#[101, 118, 101]⟩, .string ⟨#[102, 108, 111]⟩, .string ⟨#[103, 105, 108]⟩]
  nb1 : w.heap.size + 1 ≤ nb
  nne : ∀ b, blockOf A = some b → b ≠ nb
  own : Own wr (w.heap.size + 1) 9 1 A k c (strs ms)
  sz : ∀ m ∈ ms, m.size ≤ 3
  rd : Rd 75 wr B g m
  gr : w.grownBy wr (some g)
/-- A drawn group out of a reader. -/
def GrRdEnds (T : TypeId) (w : World) (B g m : Nat) (e : Ending) (w' : World) : Prop :=
  ∃ (s : Int) (A : Option Addr) (n c : Nat) (ms : List ByteArray), e = .returned (.agg #[.int .i64 s, .slice A n c]) ∧ Own w' w.heap.size 9 1 A n c (strs ms) ∧ ms.length = n ∧ n ≤ 8 ∧ (∀ m ∈ ms, m.size ≤ 3) ∧ 0 ≤ s ∧ s ≤ 9 ∧ Rd T w' B g m ∧ w.grownBy w' (some g)
/-- A drawn group. -/
def GrEnds (w : World) (e : Ending) (w' : World) : Prop :=
  ∃ (s : Int) (A : Option Addr) (n c : Nat) (ms : List ByteArray), e = .returned (.agg #[.int .i64 s, .slice A n c]) ∧ Own w' w.heap.size 9 1 A n c (strs ms) ∧ ms.length = n ∧ n ≤ 8 ∧ (∀ m ∈ ms, m.size ≤ 3) ∧ 0 ≤ s ∧ s ≤ 9 ∧ w.grownBy w' none
theorem lies_new' (w : World) (t : TypeId) (cs : Array Value) : Lies (w.alloc (.cells cs t)) (some ⟨w.heap.size, 0, none⟩) cs.toList :=
  .inr ⟨_, 0, rfl, fun j u hu => by rw [Nat.zero_add]; exact (Full.new w t cs).cellAt j (by simpa using hu)⟩
theorem memAt {k : Nat} (hk : k < 7) : ∃ nm : ByteArray, (#[.string ⟨#[97, 110, 110]⟩, .string ⟨#[98, 111, 98]⟩, .string ⟨#[99, 121]⟩, .string ⟨#[100, 97, 110]⟩, .string ⟨#[101, 118, 101]⟩, .string ⟨#[102, 108, 111]⟩, .string ⟨#[103, 105, 108]⟩] : Array Value)[k]? = some (.string nm) ∧ nm.size ≤ 3 := by
  rcases (by omega : k = 0 ∨ k = 1 ∨ k = 2 ∨ k = 3 ∨ k = 4 ∨ k = 5 ∨ k = 6) with rfl | rfl | rfl | rfl | rfl | rfl | rfl <;> exact ⟨_, rfl, by decide⟩

set_option maxHeartbeats 4000000 in
theorem gr92_any (B g m : Nat) (w : World) (h : Rd 75 w B g (m + 20)) :
    Calls Try.prog 41 #[.pointer (some ⟨g, 0, none⟩)] w (GrRdEnds 75 w B g m) := by
  have hlt := h.lt
  have hge := h.ge
  have F0 := Full.new w 25 #[.int .i64 0, .slice none 0 0]
  go_enter Try.func41, Try.ntmps41
  go_wp2_with fail
  refine (pick_any B g (m + 19) 8 _ (h.alloc _) (by omega) (by omega)).mono ?_
  rintro e w1 ⟨k1, rfl, hk11, hk12, hr1, hg1⟩
  have hk13 := hk12 (by omega)
  clear hk12
  have F1 := F0.grown hg1 (by intro e; injection e with e; omega)
  have G1 := gr_trans (World.grownBy_alloc w _ (some g)) hg1
  have s1 := F1.lt
  have O1 := Own.empty (base := w.heap.size + 1) (e := 9) (s := 1) w1 (by omega)
  have E1 := Full.newAt (w := w1.alloc (.cells #[] 9)) (t := 25) (cs := #[.int .i64 (1 + (k1 : Int)), .slice (some ⟨w1.heap.size, 0, none⟩) 0 0]) (H := w1.heap.size + 1) (by simp)
  have N1 := Full.newAt (w := (w1.alloc (.cells #[] 9)).alloc (.cells #[.int .i64 (1 + (k1 : Int)), .slice (some ⟨w1.heap.size, 0, none⟩) 0 0] 25)) (t := 9) (cs := #[.string ⟨#[97, 110, 110]⟩, .string ⟨#[98, 111, 98]⟩, .string ⟨#[99, 121]⟩, .string ⟨#[100, 97, 110]⟩, .string ⟨#[101, 118, 101]⟩, .string ⟨#[102, 108, 111]⟩, .string ⟨#[103, 105, 108]⟩]) (H := w1.heap.size + 1 + 1) (by simp)
  clear hg1 F0
  have S0 : GrAt w B g (m + 19 - 0) (w1.heap.size + 1) (w1.heap.size + 1 + 1) 0 (1 + (k1 : Int)) [] (some ⟨w1.heap.size, 0, none⟩) 0 (((w1.alloc (.cells #[] 9)).alloc (.cells #[.int .i64 (1 + (k1 : Int)), .slice (some ⟨w1.heap.size, 0, none⟩) 0 0] 25)).alloc (.cells #[.string ⟨#[97, 110, 110]⟩, .string ⟨#[98, 111, 98]⟩, .string ⟨#[99, 121]⟩, .string ⟨#[100, 97, 110]⟩, .string ⟨#[101, 118, 101]⟩, .string ⟨#[102, 108, 111]⟩, .string ⟨#[103, 105, 108]⟩] 9)) :=
    ⟨rfl, E1.alloc _, ((F1.alloc _).alloc _).alloc _, by omega, N1, by omega, (fun b hb => by injection hb with hb; subst hb; simp; omega), (O1.alloc _).alloc _, by simp, ((hr1.alloc _).alloc _).alloc _, gr_alloc (gr_alloc (gr_alloc G1 _) _) _⟩
  obtain ⟨ge, hge1⟩ : ∃ ge, w1.heap.size + 1 = ge := ⟨_, rfl⟩
  obtain ⟨nb, hnb1⟩ : ∃ nb, ge + 1 = nb := ⟨_, rfl⟩
  rw [hge1, hnb1] at S0
  have HS0 := hid S0
  have hgn : ge ≠ nb := by omega
  have hge2 : w.heap.size < ge := by omega
  clear S0 E1 N1 O1 F1 G1
  obtain ⟨s0, hs0⟩ : ∃ s0 : Int, 1 + (k1 : Int) = s0 := ⟨_, rfl⟩
  rw [hs0] at HS0
  have hs1 : 1 ≤ s0 ∧ s0 ≤ 8 := by omega
  go_wp2_with fail
  skip
  go_loopw [5] (fun i wr => ∃ (k n : Nat) (ms : List ByteArray) (A : Option Addr) (c : Nat), i = .int .i64 k ∧ k ≤ 7 ∧ n ≤ k ∧ GrAt w B g (m + 19 - k) ge nb n s0 ms A c wr) (fun i _ => 7 - (intOf i).toNat)
  case atStart => exact ⟨0, 0, [], _, _, rfl, by omega, by omega, HS0.out⟩
  case round =>
    clear HS0 hge1 hnb1 hs0
    obtain ⟨k, n, ms, A, c, rfl, hk7, hnk, hat⟩ := hrel
    have hsz := hat.gr.size
    have hnb1 := hat.nb1
    by_cases hlt2 : k < 7
    · go_wp2_with fail
      refine (pick_any B g (m + 18 - k) 2 _ (hat.rd.less (by omega)) (by omega) (by omega)).mono ?_
      rintro e w6 ⟨k6, rfl, hk61, hk62, hr6, hg6⟩
      have hk63 := hk62 (by omega)
      clear hk62
      have F6 := hat.full.grown hg6 (by intro e; injection e with e; omega)
      have R6 := hat.res.grown hg6 (by intro e; injection e with e; omega)
      have O6 := hat.own.past hg6 (by omega)
      have N6 := hat.names.grown hg6 (by intro e; injection e with e; exact hat.rd.ne_full hat.names (by decide) e)
      have G6 := gr_trans hat.gr hg6
      rcases (by omega : k6 < 1 ∨ 1 ≤ k6) with q | q
      · have hs6 := hg6.size
        have hAne := O6.ne_full F6 (by decide)
        have hA1 := fun b hb => (O6.block (b := b) hb)
        have hAn := hat.nne
        have c1 := F6.cellAt 1 rfl
        obtain ⟨nm, hnm, hnz⟩ := memAt hlt2
        have cn := N6.cellAt k hnm
        have HLn := hid hat.len
        have HSz := hid hat.sz
        have b1 : (0 : Int) ≤ (k : Int) := by omega
        have b2 : (k : Int) < 7 := by omega
        have hnew := N6.lt
        have hgeL := F6.lt
        have ne1 : ge ≠ w6.heap.size := by omega
        have ne2 : w6.heap.size ≠ ge := by omega
        clear hg6 hat
        go_wp2_with fail
        go_region_law
          ((refine step_app _ rfl (.tmp 22) (.tmp 27) 23 rfl (w.heap.size + 1) 9 Try.underlying23 strInfo' rfl (by omega) A n c (strs ms) (by rfl) (O6.drew.alloc (.cells #[.string nm] 9)) (some ⟨w6.heap.size, 0, none⟩) 1 1 [.string nm] (by rfl) (lies_new' _ _ _) (by rfl) (by intro u hu; simp at hu; subst hu; rfl) (by omega) (by omega) (by simp; omega) ?_
            intro A' c' wz hown hgz hbz
            have Fz := (F6.drew.alloc (.cells #[.string nm] 9)).grown hgz (fun e => hAne _ e.symm rfl)
            have Nz := (N6.drew.alloc (.cells #[.string nm] 9)).grown hgz (fun e => hAn _ e.symm rfl)
            have z1 := Fz.cellAt 1 rfl
            have zf := Fz.free 1
            have zn := Nz.cellAt k hnm))
        all_goals
          have ST : GrAt w B g (m + 19 - (k + 1)) ge nb (n + 1) s0 (ms ++ [nm]) A' c' (wz.setCell ⟨ge, 1, none⟩ (.slice A' (n + 1) c')) := by
            have hRz := (hr6.drew.alloc (.cells #[.string nm] 9)).grown hgz (fun b hb => by have := (hA1 b hb).1; exact ⟨by omega, by omega⟩)
            refine ⟨by rw [List.length_append, HLn.out]; rfl, Fz.set 1 _, ((R6.drew.alloc _).grown hgz (fun e => by have := (hA1 _ e.symm).1; omega)).far (by simp; omega) _, hge2, Nz.far (by simpa using hgn.symm) _, hnb1, ?_, ?_, ?_, (hRz.set (by omega) (by omega) _ _).less (by omega), gr_put (gr_then (gr_alloc (gr_drew G6) _) hgz (fun b hb => .inr (by have := (hA1 b hb).1; omega))) (by omega) _⟩
            · intro b hb
              rcases hbz with e | e
              · exact hAn b (by rw [← e]; exact hb)
              · rw [hb] at e
                injection e with e
                simp at e
                omega
            · rw [strs_app]
              exact hown.put Fz (by decide) _ _
            · intro x hx
              rcases List.mem_append.1 hx with hx | hx
              · exact HSz.out x hx
              · rw [List.mem_singleton.1 hx]; exact hnz
          clear hown hgz Fz Nz z1 zf zn hAne hA1 F6 R6 O6 N6 G6
          go_wp2_with fail
          go_roundw
          case rel => exact ⟨k + 1, n + 1, _, A', c', by go_num, by omega, by omega, ST⟩
          case measure => simp [intOf]; omega
      · have ST : GrAt w B g (m + 19 - (k + 1)) ge nb n s0 ms A c w6 := ⟨hat.len, F6, R6, hge2, N6, hnb1, hat.nne, O6, hat.sz, hr6.less (by omega), G6⟩
        clear hg6 hat F6 R6 O6 N6 G6
        go_wp2_with fail
        go_roundw
        case rel => exact ⟨k + 1, n, _, A, c, by go_num, by omega, by omega, ST⟩
        case measure => simp [intOf]; omega
    · obtain rfl : k = 7 := by omega
      go_wp2_with fail
      refine (pick_any B g (m + 10) 24 _ (hat.rd.less (by omega)) (by omega) (by omega)).mono ?_
      rintro e w6 ⟨k6, rfl, hk61, hk62, hr6, hg6⟩
      have hk63 := hk62 (by omega)
      clear hk62
      have F6 := hat.full.grown hg6 (by intro e; injection e with e; omega)
      have R6 := hat.res.grown hg6 (by intro e; injection e with e; omega)
      have O6 := hat.own.past hg6 (by omega)
      have G6 := gr_trans hat.gr hg6
      have HLn := hid hat.len
      have HM := hid hat.sz
      clear hg6 hat
      rcases (by omega : k6 < 1 ∨ k6 = 1 ∨ 2 ≤ k6) with hk | hk | hk
      · go_wp2_with fail
        refine (pick_any B g m 2 _ ((hr6.alloc _).less (by omega)) (by omega) (by omega)).mono ?_
        rintro e w7 ⟨k7, rfl, hk71, hk72, hr7, hg7⟩
        have hk73 := hk72 (by omega)
        clear hk72
        obtain ⟨x, hx, hx0, hx9⟩ : ∃ x : Int, (#[.int .i64 0, .int .i64 9] : Array Value)[k7]? = some (.int .i64 x) ∧ 0 ≤ x ∧ x ≤ 9 := by
          rcases (by omega : k7 = 0 ∨ k7 = 1) with rfl | rfl <;> exact ⟨_, rfl, by omega, by omega⟩
        have hxc := ((Full.new w6 3 #[.int .i64 0, .int .i64 9]).grown hg7 (by intro e; injection e with e; have := hr6.lt; omega)).cellAt k7 hx
        have F7 := (F6.alloc (.cells #[.int .i64 0, .int .i64 9] 3)).grown hg7 (by intro e; injection e with e; omega)
        have R7 := (R6.alloc (.cells #[.int .i64 0, .int .i64 9] 3)).grown hg7 (by intro e; injection e with e; omega)
        have O7 := (O6.alloc (.cells #[.int .i64 0, .int .i64 9] 3)).past hg7 (by omega)
        have G7 := gr_trans (gr_alloc G6 (.cells #[.int .i64 0, .int .i64 9] 3)) hg7
        have c0 := F7.cellAt 0 rfl
        have c1 := F7.cellAt 1 rfl
        have f0 := F7.free 0
        have r0 := R7.cellAt 0 rfl
        have r1 := R7.cellAt 1 rfl
        have g0 := R7.free 0
        have g1 := R7.free 1
        have R8 := R7.far (p := ⟨ge, 0, none⟩) (by simp; omega) (.int .i64 x)
        have hO1 := (O7.put F7 (by decide) 0 (.int .i64 x))
        clear hg7 hx
        go_wp2_with fail
        refine bodyPost_ret (v := .agg #[.int .i64 x, .slice A n c]) ?_ rfl ?_
        · simp [results, Try.results41, go_sem, r0, r1]
        · exact ⟨x, A, n, c, ms, rfl, ((hO1.put R8 (by decide) _ _).put (R8.set 0 _) (by decide) _ _).base_le (by omega), HLn.out, by omega, HM.out, hx0, hx9, by repeat (first | refine Rd.set ?_ (by omega) (by omega) _ _ | exact hr7), by repeat (first | refine gr_put ?_ (by omega) _ | exact G7)⟩
      · have c0 := F6.cellAt 0 rfl
        have c1 := F6.cellAt 1 rfl
        have hAne := O6.ne_full F6 (by decide)
        have hA1 := fun b hb => (O6.block (b := b) hb)
        have hs6 := G6.size
        have hRl := R6.lt
        subst hk
        go_wp2_with (at_builtin; refine wpList_push _ rfl _ _ 23 rfl (w.heap.size + 1) 9 Try.underlying23 strInfo' rfl (by omega) A n c (strs ms) rfl (O6.alloc (.cells #[.string ⟨#[97, 110, 110]⟩] 9)) _ 1 #[.string ⟨#[97, 110, 110]⟩] rfl (Full.newAt (by simp)) rfl (by intro u hu; simp at hu; subst hu; rfl) (by omega) (by omega) (by simp; omega) ?_; intro A' c' wz hown hgz _; have Fz := (F6.alloc (.cells #[.string ⟨#[97, 110, 110]⟩] 9)).grown hgz (fun e => hAne _ e.symm rfl); have Rz := (R6.alloc (.cells #[.string ⟨#[97, 110, 110]⟩] 9)).grown hgz (fun e => by have := (hA1 _ e.symm).1; omega); have z0 := Fz.cellAt 0 rfl; have z1 := Fz.cellAt 1 rfl; have zf := Fz.free 1; have y0 := Rz.cellAt 0 rfl; have y1 := Rz.cellAt 1 rfl; have yf0 := Rz.free 0; have yf1 := Rz.free 1)
        have hRz := (hr6.alloc (.cells #[.string ⟨#[97, 110, 110]⟩] 9)).grown hgz (fun b hb => by have := (hA1 b hb).1; exact ⟨by omega, by omega⟩)
        have Gz := gr_then (gr_alloc G6 (.cells #[.string ⟨#[97, 110, 110]⟩] 9)) hgz (fun b hb => .inr (by have := (hA1 b hb).1; omega))
        have R8 := Rz.far (p := ⟨ge, 1, none⟩) (by simp; omega) (.slice A' (n + 1) c')
        have hO1 := hown.put Fz (by decide) 1 (.slice A' (n + 1) c')
        have HO := hid (((hO1.put R8 (by decide) 0 (.int .i64 s0)).put (R8.set 0 _) (by decide) 1 (.slice A' (n + 1) c')).base_le (show w.heap.size ≤ w.heap.size + 1 by omega))
        clear hown hgz hO1
        go_wp2_with fail
        refine bodyPost_ret (v := .agg #[.int .i64 s0, .slice A' (n + 1) c']) ?_ rfl ?_
        · simp [results, Try.results41, go_sem, y0, y1]
        · refine ⟨s0, A', n + 1, c', ms ++ [⟨#[97, 110, 110]⟩], rfl, by rw [strs_app]; exact HO.out, by rw [List.length_append, HLn.out]; rfl, by omega, ?_, by omega, by omega, by repeat (first | refine Rd.set ?_ (by omega) (by omega) _ _ | exact (hRz.less (show m ≤ m + 10 by omega))), by repeat (first | refine gr_put ?_ (by omega) _ | exact Gz)⟩
          intro x hx
          rcases List.mem_append.1 hx with hx | hx
          · exact HM.out x hx
          · rw [List.mem_singleton.1 hx]; decide
      · have c0 := F6.cellAt 0 rfl
        have c1 := F6.cellAt 1 rfl
        have r0 := R6.cellAt 0 rfl
        have r1 := R6.cellAt 1 rfl
        have g0 := R6.free 0
        have g1 := R6.free 1
        have q0 : ((k6 : Int) == 0) = false := by simp; omega
        have q1 : ((k6 : Int) == 1) = false := by simp; omega
        go_wp2_with fail
        refine bodyPost_ret (v := .agg #[.int .i64 s0, .slice A n c]) ?_ rfl ?_
        · simp [results, Try.results41, go_sem, r0, r1]
        · exact ⟨s0, A, n, c, ms, rfl, ((O6.put R6 (by decide) _ _).put (R6.set 0 _) (by decide) _ _).base_le (by omega), HLn.out, by omega, HM.out, by omega, by omega, by repeat (first | refine Rd.set ?_ (by omega) (by omega) _ _ | exact (hr6.less (show m ≤ m + 10 by omega))), by repeat (first | refine gr_put ?_ (by omega) _ | exact G6)⟩
end Go.Proofs.Ytmjficimnkbonaa
