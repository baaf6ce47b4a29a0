/- A drawn member; a drawn group and a member; two drawn groups. -/
import Derived.Test.YtmjficimnkbonaaGrpDraw
namespace Go.Proofs.Ytmjficimnkbonaa
open Go.RowKit

/-- A drawn text of at most three letters. -/
def SmEnds (T : TypeId) (w : World) (B g m : Nat) (e : Ending) (w' : World) : Prop :=
  ∃ s : ByteArray, e = .returned (.string s) ∧ s.size ≤ 3 ∧ Rd T w' B g m ∧ w.grownBy w' (some g)
set_option maxHeartbeats 1000000 in
theorem mem_any (B g m base : Nat) (s : Int) (A : Option Addr) (n c : Nat) (ms : List ByteArray) (w : World) (h : Rd 75 w B g (m + 3)) (hO : Own w base 9 1 A n c (strs ms)) (hgb : g < base) (hl : ms.length = n) (hn8 : n ≤ 8) (hz : ∀ x ∈ ms, x.size ≤ 3) :
    Calls Try.prog 44 #[.pointer (some ⟨g, 0, none⟩), .agg #[.int .i64 s, .slice A n c]] w (SmEnds 75 w B g m) := by
  have hlt := h.lt
  have hC := hO.cap
  have hCm := hO.max
  unfold maxLen at hCm
  have E0 := Full.new w 25 #[.int .i64 s, .slice A n c]
  have O0 := hO.alloc (.cells #[.int .i64 s, .slice A n c] 25)
  have R0 := h.alloc (.cells #[.int .i64 s, .slice A n c] 25)
  have G0 := gr_alloc (gr_refl w (some g)) (.cells #[.int .i64 s, .slice A n c] 25)
  have HL := hid hl
  have HZ := hid hz
  clear hl hz hO h
  have c1 := E0.cellAt 1 (v := .slice A n c) rfl
  rcases (by omega : n = 0 ∨ 0 < n) with h0 | h0
  · have b0 : decide (0 < n) = false := by simp; omega
    clear h0
    go_enter Try.func44, Try.ntmps44
    go_wp2_with fail
    refine (of_any B g m _ 4 4 [⟨#[122, 111, 101]⟩, ⟨#[98, 111, 98]⟩, ⟨#[65]⟩, ⟨#[101, 118, 101]⟩] _ ((R0.alloc _).less (by omega)) (Full.newAt (by simp)) rfl (by omega) (by omega)).mono ?_
    rintro e w3 ⟨s3, hs3, rfl, R3, hg3⟩
    have hsz : s3.size ≤ 3 := by simp at hs3; rcases hs3 with rfl | rfl | rfl | rfl <;> decide
    have G3 := gr_trans (gr_alloc G0 _) hg3
    clear hs3
    go_wp2_with fail
    go_ret
    exact ⟨s3, rfl, hsz, R3, G3⟩
  · have b0 : decide (0 < n) = true := by simpa using h0
    go_enter Try.func44, Try.ntmps44
    go_wp2_with fail
    refine (pick_any B g (m + 2) 3 _ R0 (by omega) (by omega)).mono ?_
    rintro e w1 ⟨k1, rfl, hk11, hk12, R1, hg1⟩
    have hk13 := hk12 (by omega)
    clear hk12
    have E1 := E0.grown hg1 (by intro e; injection e with e; omega)
    have O1 := O0.past hg1 hgb
    have G1 := gr_trans G0 hg1
    clear hg1 E0 O0 R0 G0 c1
    rcases (by omega : k1 = 0 ∨ 1 ≤ k1) with q | q
    · subst q
      go_wp2_with fail
      refine (of_any B g m _ 4 4 [⟨#[122, 111, 101]⟩, ⟨#[98, 111, 98]⟩, ⟨#[65]⟩, ⟨#[101, 118, 101]⟩] _ ((R1.alloc _).less (by omega)) (Full.new _ _ _) rfl (by omega) (by omega)).mono ?_
      rintro e w3 ⟨s3, hs3, rfl, R3, hg3⟩
      have hsz : s3.size ≤ 3 := by simp at hs3; rcases hs3 with rfl | rfl | rfl | rfl <;> decide
      have G3 := gr_trans (gr_alloc G1 _) hg3
      clear hs3
      go_wp2_with fail
      go_ret
      exact ⟨s3, rfl, hsz, R3, G3⟩
    · obtain ⟨gA, cur, rfl, hgA, FA, hcell⟩ := O1.open_ h0
      obtain ⟨f, hf⟩ : ∃ f : Nat → ByteArray, ∀ k, k < n → (f k).size ≤ 3 ∧ w1.cell? ⟨gA, k, none⟩ = some (.string (f k)) :=
        ⟨fun k => ms.getD k ⟨#[]⟩, fun k hk => by
          have hkl : k < ms.length := by rw [HL.out]; exact hk
          have e : ms.getD k ⟨#[]⟩ = ms[k] := by simp [List.getD, hkl]
          show (ms.getD k ⟨#[]⟩).size ≤ 3 ∧ _ = some (Value.string (ms.getD k ⟨#[]⟩))
          rw [e]
          exact ⟨HZ.out _ (List.getElem_mem hkl), hcell _ _ (strs_at ms k hkl)⟩⟩
      have hF0 := fun k hk => (hf k hk).2
      have HF := hid (fun k hk => (hf k hk).1)
      have nA1 : gA ≠ g := R1.ne_full FA (by decide)
      have c1 := E1.cellAt 1 (v := .slice (some ⟨gA, 0, none⟩) n c) rfl
      have hne1 : w.heap.size ≠ g := by omega
      clear hcell hf FA O1
      go_wp2_with fail
      go_region_held3 (fun w' => w'.cell? ⟨w.heap.size, 1, none⟩ = some (.slice (some ⟨gA, 0, none⟩) n c) ∧ ∀ k, k < n → w'.cell? ⟨gA, k, none⟩ = some (.string (f k))) (refine ⟨?_, ?_⟩ <;> first | (intro k hk; simp [*]; done) | go_keep)
        ((go_at_call 42
          refine (pick_any B g m (n : Int) _ ?_ (by omega) (by omega)).mono ?_
          · exact (R1.drew).less (by omega)
          rintro e w5 ⟨k5, rfl, hk51, hk52, R5, hg5⟩
          have hk53 := hk52 (by omega)
          clear hk52
          have E5 := E1.drew.grown hg5 (by intro e; injection e with e; omega)
          have e1 := E5.cellAt 1 (v := .slice (some ⟨gA, 0, none⟩) n c) rfl
          have G5 := gr_trans (gr_drew G1) hg5
          have hk54 : k5 < n := by omega
          have hF1 : ∀ k, k < n → w5.cell? ⟨gA, k, none⟩ = some (.string (f k)) := fun k hk => World.grownBy.cell hg5 (hF0 k hk) (by simp [blockOf]; omega)))
      all_goals
        have hsz := HF.out k5 hk54
        clear hF0 hF1 hg5
        go_wp2_with fail
        go_ret
        exact ⟨f k5, rfl, hsz, R5, G5⟩

/-- A drawn group and a text. -/
def GsEnds (w : World) (e : Ending) (w' : World) : Prop :=
  ∃ (s : Int) (A : Option Addr) (n c : Nat) (ms : List ByteArray) (x : ByteArray), e = .returned (.tuple #[.agg #[.int .i64 s, .slice A n c], .string x]) ∧ SArg w' A n c ms ∧ n ≤ 8 ∧ (∀ m ∈ ms, m.size ≤ 3) ∧ 0 ≤ s ∧ s ≤ 9 ∧ x.size ≤ 3 ∧ w.grownBy w' none
set_option maxHeartbeats 1000000 in
theorem dgs_any (A : Option Addr) (n c : Nat) (zs : List Int) (w : World) (h : Code w A n c zs) :
    Calls Try.prog 28 #[.slice A n c] w (GsEnds w) := by
  have F0 := Full.new w 25 #[.int .i64 0, .slice none 0 0]
  have G0 := World.grownBy_alloc w (.cells #[.int .i64 0, .slice none 0 0] 25) none
  go_enter Try.func28, Try.ntmps28
  go_wp2_with fail
  refine (open_any A n c zs _ (h.grown G0)).mono ?_
  rintro e w1 ⟨g, rfl, hr1, hg1⟩
  have F1 := F0.grown hg1 (by simp)
  have G1 := gr_0 G0 hg1
  have hB := hr1.ge
  simp at hB
  have hgl := hr1.lt
  have hs1 := G1.size
  clear hg1
  go_wp2_with fail
  refine (gr92_any _ g 90000 _ (hr1.less (by omega))).mono ?_
  rintro e w2 ⟨s, A2, n2, c2, ms, rfl, hO, hl, hn, hsm, h0, h9, hr2, hg2⟩
  have F2 := (F1.grown hg2 (by intro e; injection e with e; omega)).alloc (.cells #[.int .i64 s, .slice A2 n2 c2] 25)
  have G2 := gr_alloc (gr_new G1 hg2 (by omega)) (.cells #[.int .i64 s, .slice A2 n2 c2] 25)
  have X2 := Full.new w2 25 #[.int .i64 s, .slice A2 n2 c2]
  have O2 := hO.alloc (.cells #[.int .i64 s, .slice A2 n2 c2] 25)
  have hxl : w.heap.size < w2.heap.size := by have := F2.lt; have := hg2.size; omega
  have hgl2 : g < w2.heap.size := by have := hg2.size; omega
  obtain ⟨B, R2⟩ : ∃ B, Rd 75 (w2.alloc (.cells #[.int .i64 s, .slice A2 n2 c2] 25)) B g 90000 := ⟨_, hr2.alloc _⟩
  have HL := hid hl
  have HS := hid hsm
  have x0 := X2.cellAt 0 (v := .int .i64 s) rfl
  have x1 := X2.cellAt 1 (v := .slice A2 n2 c2) rfl
  have f0 := F2.free 0
  have f1 := F2.free 1
  have r0 := F2.cellAt 0 (v := .int .i64 0) rfl
  have r1 := F2.cellAt 1 (v := .slice none 0 0) rfl
  have ne1 : w.heap.size ≠ w2.heap.size := by omega
  have ne2 : w2.heap.size ≠ w.heap.size := by omega
  have HG := hid (show w.heap.size ≤ g by omega)
  clear hl hsm hg2 hr2
  go_wp2_with fail
  go_region_held3 (fun w' => w'.cell? ⟨w2.heap.size, 0, none⟩ = some (.int .i64 s) ∧ w'.cell? ⟨w2.heap.size, 1, none⟩ = some (.slice A2 n2 c2)) (go_keep)
    ((go_at_call 44
      refine (mem_any B g 80000 w1.heap.size s A2 n2 c2 ms _ ?_ ?_ hgl HL.out hn HS.out).mono ?_
      · exact (R2.drew).less (by omega)
      · exact O2.drew
      rintro e w5 ⟨x, rfl, hx3, R5, hg5⟩
      have X5 := X2.drew.grown hg5 (by intro e; injection e with e; omega)
      have F5 := F2.drew.grown hg5 (by intro e; injection e with e; omega)
      have O5 := O2.drew.past hg5 hgl
      have G5 := gr_new (gr_drew G2) hg5 HG.out
      have y0 := X5.cellAt 0 (v := .int .i64 s) rfl
      have y1 := X5.cellAt 1 (v := .slice A2 n2 c2) rfl
      have p0 := F5.cellAt 0 (v := .int .i64 0) rfl
      have p1 := F5.cellAt 1 (v := .slice none 0 0) rfl
      have g0 := F5.free 0
      have g1 := F5.free 1))
  all_goals
    have O6 := (O5.put F5 (by decide) 0 (.int .i64 s)).put (F5.set 0 _) (by decide) 1 (.slice A2 n2 c2)
    go_wp2_with fail
    refine bodyPost_ret (v := .tuple #[.agg #[.int .i64 s, .slice A2 n2 c2], .string x]) ?_ rfl ?_
    · simp [results, Try.results28, go_sem, p0, p1]
    · exact ⟨s, A2, n2, c2, ms, x, rfl, SArg.of_own O6 HL.out (fun m hm => by have := HS.out m hm; simp only [maxLen]; omega), hn, HS.out, h0, h9, hx3, gr_put (gr_put G5 (by omega) _) (by omega) _⟩

/-- Two drawn groups. -/
def G2Ends (w : World) (e : Ending) (w' : World) : Prop :=
  ∃ (s : Int) (A : Option Addr) (n c : Nat) (ms : List ByteArray) (r : Int) (B : Option Addr) (m d : Nat) (ns : List ByteArray), e = .returned (.tuple #[.agg #[.int .i64 s, .slice A n c], .agg #[.int .i64 r, .slice B m d]]) ∧ SArg w' A n c ms ∧ SArg w' B m d ns ∧ n ≤ 8 ∧ m ≤ 8 ∧ (∀ m ∈ ms, m.size ≤ 3) ∧ (∀ m ∈ ns, m.size ≤ 3) ∧ w.grownBy w' none
end Go.Proofs.Ytmjficimnkbonaa
