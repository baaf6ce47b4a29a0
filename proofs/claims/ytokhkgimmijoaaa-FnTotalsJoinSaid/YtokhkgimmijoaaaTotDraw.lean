/- l92Totals, DrawTotalsValid. -/
import Derived.Test.YtokhkgimmijoaaaTotsV
import Derived.Test.YtokhkgimmijoaaaApp
import Derived.Test.YtokhkgimmijoaaaOwnSet
import Derived.Deep.RegionHeld3
namespace Go.Proofs.Ytokhkgimmijoaaa
open Go.RowKit

theorem totInfo : (Try.prog.info? 30).map (fun i => (i.zero, i.size, i.bytes)) = some (some (.agg #[.string ⟨#[]⟩, .int .i64 0, .int .i64 0]), 3, 32) := by kernel_rfl
def totNames : List ByteArray := [⟨#[97]⟩, ⟨#[97, 99, 99, 116]⟩, ⟨#[98, 101, 101]⟩, ⟨#[99, 97, 114, 116]⟩, ⟨#[122, 111, 111]⟩]
def TotSmall (l : List Tot) : Prop := ∀ x ∈ l, x.c.size ≤ 4
structure TsAt (w : World) (B g m k n : Nat) (l : List Tot) (A : Option Addr) (c : Nat) (wr : World) : Prop where
  le : n ≤ k
  len : l.length = n
  own : Own wr w.heap.size 30 3 A n c (l.flatMap Tot.cells)
  small : TotSmall l
  names : Full wr (w.heap.size + 1) 9 #[.string ⟨#[97]⟩, .string ⟨#[97, 99, 99, 116]⟩, .string ⟨#[98, 101, 101]⟩, .string ⟨#[99, 97, 114, 116]⟩, .string ⟨#[122, 111, 111]⟩]
  rd : Rd 52 wr B g (m + 40 - 4 * k)
  gr : w.grownBy wr (some g)
/-- Drawn totals out of a reader. -/
def TsRdEnds (T : TypeId) (w : World) (B g m : Nat) (e : Ending) (w' : World) : Prop :=
  ∃ (A : Option Addr) (n c : Nat) (l : List Tot), e = .returned (.slice A n c) ∧ Own w' w.heap.size 30 3 A n c (l.flatMap Tot.cells) ∧ l.length = n ∧ n ≤ 5 ∧ TotSmall l ∧ Rd T w' B g m ∧ w.grownBy w' (some g)

theorem lies_new (w : World) (t : TypeId) (cs : Array Value) : Lies (w.alloc (.cells cs t)) (some ⟨w.heap.size, 0, none⟩) cs.toList :=
  .inr ⟨_, 0, rfl, fun j u hu => by rw [Nat.zero_add]; exact (Full.new w t cs).cellAt j (by simpa using hu)⟩
theorem nameAt {k : Nat} (hk : k < 5) : ∃ nm : ByteArray, (#[.string ⟨#[97]⟩, .string ⟨#[97, 99, 99, 116]⟩, .string ⟨#[98, 101, 101]⟩, .string ⟨#[99, 97, 114, 116]⟩, .string ⟨#[122, 111, 111]⟩] : Array Value)[k]? = some (.string nm) ∧ nm.size ≤ 4 := by
  rcases (by omega : k = 0 ∨ k = 1 ∨ k = 2 ∨ k = 3 ∨ k = 4) with rfl | rfl | rfl | rfl | rfl <;> exact ⟨_, rfl, by decide⟩

set_option maxHeartbeats 2000000 in
theorem ts92_any (B g m : Nat) (w : World) (h : Rd 52 w B g (m + 40)) :
    Calls Try.prog 17 #[.pointer (some ⟨g, 0, none⟩)] w (TsRdEnds 52 w B g m) := by
  have hlt := h.lt
  have hge := h.ge
  have L0 : TsAt w B g m 0 0 [] (some ⟨w.heap.size, 0, none⟩) 0 ((w.alloc (.cells #[] 30)).alloc (.cells #[.string ⟨#[97]⟩, .string ⟨#[97, 99, 99, 116]⟩, .string ⟨#[98, 101, 101]⟩, .string ⟨#[99, 97, 114, 116]⟩, .string ⟨#[122, 111, 111]⟩] 9)) := ⟨by omega, rfl, (Own.empty w (Nat.le_refl _)).alloc _, by simp [TotSmall], Full.newAt (by simp), (h.alloc _).alloc _, gr_alloc (gr_alloc (gr_refl w _) _) _⟩
  have HL0 := hid L0
  clear L0
  go_enter Try.func17, Try.ntmps17
  go_wp2_with fail
  go_loopw [3, 5] (fun v i wr => ∃ (k n : Nat) (l : List Tot) (A : Option Addr) (c : Nat), i = .int .i64 k ∧ v = .slice A n c ∧ k ≤ 5 ∧ TsAt w B g m k n l A c wr) (fun _ i _ => 5 - (intOf i).toNat)
  case atStart => exact ⟨0, 0, [], _, _, rfl, rfl, by omega, HL0.out⟩
  case round =>
    clear HL0
    obtain ⟨k, n, l, A, c, rfl, rfl, hk5, hat⟩ := hrel
    have hle := hat.le
    have hsz := hat.gr.size
    by_cases hlt2 : k < 5
    · go_wp2_with fail
      refine (pick_any B g (m + 39 - 4 * k) 2 _ (hat.rd.less (by omega)) (by omega) (by omega)).mono ?_
      rintro e w1 ⟨k1, rfl, hk11, hk12, R1, hg1⟩
      have hk13 := hk12 (by omega)
      clear hk12
      have O1 := hat.own.past hg1 hlt
      have G1 := gr_trans hat.gr hg1
      have N1 := hat.names.grown hg1 (by intro e; injection e with e; omega)
      rcases (by omega : k1 < 1 ∨ 1 ≤ k1) with q | q
      · go_wp2_with fail
        refine (pick_any B g (m + 38 - 4 * k) 5 _ (R1.less (by omega)) (by omega) (by omega)).mono ?_
        rintro e w2 ⟨k2, rfl, hk21, hk22, R2, hg2⟩
        have hk23 := hk22 (by omega)
        clear hk22
        have O2 := O1.past hg2 hlt
        have G2 := gr_trans G1 hg2
        have N2 := N1.grown hg2 (by intro e; injection e with e; omega)
        go_wp2_with fail
        refine (pick_any B g (m + 37 - 4 * k) 6 _ (R2.less (by omega)) (by omega) (by omega)).mono ?_
        rintro e w3 ⟨k3, rfl, hk31, hk32, R3, hg3⟩
        have hk33 := hk32 (by omega)
        clear hk32
        have O3 := O2.past hg3 hlt
        have G3 := gr_trans G2 hg3
        have N3 := N2.grown hg3 (by intro e; injection e with e; omega)
        clear hg1 hg2 hg3
        obtain ⟨nm, hnm, hnz⟩ := nameAt hlt2
        have nc3 := N3.cellAt k hnm
        have R3b : Rd 52 w3 B g (m + 36 - 4 * k + 1) := R3.less (by omega)
        have hne3 := O3.ne_full N3 (by decide)
        have HLn := hid hat.len
        have HSm := hid hat.small
        have hs3 := G3.size
        have b1 : (0 : Int) ≤ (k : Int) := by omega
        have b2 : (k : Int) < 5 := by omega
        clear hat O1 O2 N1 N2 G1 G2 R1 R2
        go_wp2_with fail
        generalize wrap64 (1 + wrap64 ((k2 : Int) * (1 + (k3 : Int) / 5 * 20))) = q3
        go_region_held3 (fun w' => w'.cell? ⟨w.heap.size + 1, k, none⟩ = some (.string nm)) (go_keep)
          (first
            | (go_at_call_of 22 (Value.int IntKind.i64 200)
               refine (pick_any B g (m + 36 - 4 * k) 200 _ ?_ (by omega) (by omega)).mono ?_
               · exact R3b.drew
               rintro e w4 ⟨k4, rfl, hk41, hk42, R4, hg4⟩
               have O4 := O3.drew.past hg4 hlt
               have G4 := gr_trans (gr_drew G3) hg4
               have N4 := N3.drew.grown hg4 (by intro e; injection e with e; omega)
               have nc4 := N4.cellAt k hnm)
            | (refine step_app _ rfl (.tmp 27) (.tmp 38) 23 rfl w.heap.size 30 Try.underlying23 totInfo rfl (by omega) A n c (l.flatMap Tot.cells) (by rfl) (O4.alloc (.cells #[.string nm, .int .i64 q3, .int .i64 (IntKind.i64.wrap ((k4 : Int) * q3))] 30)) (some ⟨w4.heap.size, 0, none⟩) 1 1 [.string nm, .int .i64 q3, .int .i64 (IntKind.i64.wrap ((k4 : Int) * q3))] (by rfl) (lies_new _ _ _) (by rfl) (by intro u hu; simp at hu; rcases hu with rfl | rfl | rfl <;> rfl) (by omega) (by omega) (by have := G4.size; simp; omega) ?_
               intro A5 c5 w5 hown5 hg5 _
               have N5 := (N4.alloc (.cells #[.string nm, .int .i64 q3, .int .i64 (IntKind.i64.wrap ((k4 : Int) * q3))] 30)).grown hg5 (by intro e; exact hne3 _ e.symm rfl)
               have nc5 := N5.cellAt k hnm))
        have ST : TsAt w B g m (k + 1) (n + 1) (l ++ [⟨nm, q3, IntKind.i64.wrap ((k4 : Int) * q3)⟩]) A5 c5 w5 := by
          refine ⟨by omega, by rw [List.length_append, HLn.out]; rfl, by rw [List.flatMap_append]; exact hown5, ?_, N5, ((R4.alloc _).grown hg5 (fun b hb => by have := (O4.block hb).1; exact ⟨by omega, by omega⟩)).less (by omega), gr_then (gr_alloc G4 _) hg5 (fun b hb => .inr (O4.block hb).1)⟩
          intro x hx
          rcases List.mem_append.1 hx with hx | hx
          · exact HSm.out x hx
          · rw [List.mem_singleton.1 hx]; exact hnz
        clear hown5 hg5 hg4
        go_wp2_with fail
        go_roundw
        case rel => exact ⟨k + 1, n + 1, _, A5, c5, by go_num, by go_num, by omega, ST⟩
        case measure => simp [intOf]; omega
      · have ST : TsAt w B g m (k + 1) n l A c w1 := ⟨by omega, hat.len, O1, hat.small, N1, R1.less (by omega), G1⟩
        clear hg1 hat
        go_wp2_with fail
        go_roundw
        case rel => exact ⟨k + 1, n, _, A, c, by go_num, rfl, by omega, ST⟩
        case measure => simp [intOf]; omega
    · obtain rfl : k = 5 := by omega
      have hlen := hat.len
      rcases (by omega : n = 0 ∨ 0 < n) with h0 | h0
      · have hz : decide (0 < n) = false := by simp; omega
        have HLn := hid hlen
        clear hlen h0
        go_wp2_with fail
        go_ret
        exact ⟨A, n, c, l, rfl, hat.own, HLn.out, by omega, hat.small, hat.rd.less (by omega), hat.gr⟩
      have hz : decide (0 < n) = true := by simpa using h0
      go_wp2_with fail
      refine (pick_any B g (m + 10) 24 _ (hat.rd.less (by omega)) (by omega) (by omega)).mono ?_
      rintro e w1 ⟨k1, rfl, hk11, hk12, R1, hg1⟩
      have hk13 := hk12 (by omega)
      clear hk12
      have O1 := hat.own.past hg1 hlt
      have G1 := gr_trans hat.gr hg1
      have HLn := hid hlen
      have HS := hid hat.small
      clear hlen hg1 hat
      rcases (by omega : 1 ≤ k1 ∨ k1 < 1) with q | q
      · go_wp2_with fail
        go_ret
        exact ⟨A, n, c, l, rfl, O1, HLn.out, by omega, HS.out, R1.less (by omega), G1⟩
      · go_wp2_with fail
        refine (pick_any B g (m + 9) _ _ (R1.less (by omega)) (by omega) (by omega)).mono ?_
        rintro e w2 ⟨k2, rfl, hk21, hk22, R2, hg2⟩
        have hk23 := hk22 (by omega)
        clear hk22
        have O2 := O1.past hg2 hlt
        have G2 := gr_trans G1 hg2
        clear hg2
        go_wp2_with fail
        refine (pick_any B g m 3 _ ((R2.alloc _).less (by omega)) (by omega) (by omega)).mono ?_
        rintro e w3 ⟨k3, rfl, hk31, hk32, R3, hg3⟩
        have hk33 := hk32 (by omega)
        clear hk32
        have O3 := (O2.alloc _).past hg3 hlt
        have G3 := gr_trans (gr_alloc G2 _) hg3
        have F3 := (Full.new w2 3 #[.int .i64 0, .int .i64 99, .int .i64 100]).grown hg3 (by intro e; injection e with e; have := R2.lt; omega)
        obtain ⟨x, hx⟩ : ∃ x : Int, (#[.int .i64 0, .int .i64 99, .int .i64 100] : Array Value)[k3]? = some (.int .i64 x) := by
          rcases (by omega : k3 = 0 ∨ k3 = 1 ∨ k3 = 2) with rfl | rfl | rfl <;> exact ⟨_, rfl⟩
        have hxc := F3.cellAt k3 hx
        have hkl : k2 < l.length := by rw [HLn.out]; omega
        obtain ⟨gA, cur, rfl, hgA, FA, hcell⟩ := O3.open_ h0
        have hfl := fun j (hj : j < 3) => flat_at Tot.cells 3 (fun _ => rfl) l k2 j hkl hj
        have cb := hcell _ _ (hfl 1 (by omega))
        have fb := FA.free (k2 * 3 + 1)
        have b1 : (0 : Int) ≤ (k2 : Int) := by omega
        have b2 : (k2 : Int) < (n : Int) := by omega
        have hFS := flat_set Tot.cells 3 (fun _ => rfl) l k2 1 hkl (by omega) (.int .i64 x) ⟨(l[k2]).c, x, (l[k2]).s⟩ rfl
        have HFS := hid hFS
        have hzc := HS.out _ (List.getElem_mem hkl)
        have HZc := hid hzc
        clear hx hg3 hcell hFS hfl hzc F3
        go_wp2_with fail
        go_ret
        refine ⟨some ⟨gA, 0, none⟩, n, c, l.set k2 ⟨(l[k2]).c, x, (l[k2]).s⟩, rfl, ?_, by rw [List.length_set]; exact HLn.out, by omega, ?_, R3.set (R3.ne_full FA (by decide)) (by omega) _ _, gr_put G3 hgA _⟩
        · rw [← HFS.out]
          exact O3.set _ _
        · intro y hy
          rcases List.mem_or_eq_of_mem_set hy with hy | rfl
          · exact HS.out y hy
          · exact HZc.out

/-- Drawn totals of their own. -/
def TdEnds (w : World) (e : Ending) (w' : World) : Prop :=
  ∃ (A : Option Addr) (n c : Nat) (l : List Tot), e = .returned (.slice A n c) ∧ Own w' w.heap.size 30 3 A n c (l.flatMap Tot.cells) ∧ l.length = n ∧ n ≤ 5 ∧ TotSmall l ∧ w.grownBy w' none
set_option maxHeartbeats 1000000 in
theorem dtv_any (A : Option Addr) (n c : Nat) (zs : List Int) (w : World) (h : Code w A n c zs) :
    Calls Try.prog 7 #[.slice A n c] w (TdEnds w) := by
  go_enter Try.func7, Try.ntmps7
  go_wp2_with fail
  refine (open_any A n c zs _ h).mono ?_
  rintro e w1 ⟨g, rfl, hr1, hg1⟩
  have hB := hr1.ge
  go_wp2_with fail
  refine (ts92_any _ g 90000 _ (hr1.less (by omega))).mono ?_
  rintro e w2 ⟨A2, n2, c2, l, rfl, hO, hl, hn5, hsm, hr2, hg2⟩
  have HLn := hid hl
  clear hl
  go_wp2_with fail
  go_ret
  exact ⟨A2, n2, c2, l, rfl, hO.base_le hg1.size, HLn.out, hn5, hsm, gr_new hg1 hg2 hB⟩
end Go.Proofs.Ytokhkgimmijoaaa
