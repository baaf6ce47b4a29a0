/- The drawn events at the front; the walk of FnEvents. -/
import Derived.Test.YtnggcdgjbajnbaaEvs
import Derived.Test.YtnggcdgjbajnbaaEvsValid
import Derived.Test.YtnggcdgjbajnbaaEvPart
namespace Go.Proofs.Ytnggcdgjbajnbaa
open Go.RowKit

/-- Drawn events. -/
def EvsEnds (w : World) (e : Ending) (w' : World) : Prop :=
  ∃ (A : Option Addr) (n c : Nat) (l : List Ev), e = .returned (.slice A n c) ∧ Own w' w.heap.size 34 3 A n c (l.flatMap Ev.cells) ∧ l.length = n ∧ n ≤ 25 ∧ (∀ x ∈ l, EvSmall x) ∧ w.grownBy w' none

/-- What holds at the head of the loop of DrawEventsValid. -/
structure DrAt (w : World) (B k : Nat) (l : List Ev) (A : Option Addr) (c : Nat) (wr : World) : Prop where
  le : k ≤ 25
  len : l.length = k
  own : Own wr B 34 3 A k c (l.flatMap Ev.cells)
  small : ∀ x ∈ l, EvSmall x
  gr : w.grownBy wr none
  size : B ≤ wr.heap.size

set_option maxHeartbeats 1000000 in
theorem devs_any (A : Option Addr) (n c : Nat) (zs : List Int) (w : World) (h : Code w A n c zs) :
    Calls Try.prog 22 #[.slice A n c] w (EvsEnds w) := by
  go_enter Try.func22, Try.ntmps22
  go_wp2_with fail
  refine (open_any A n c zs _ h).mono ?_
  rintro e w1 ⟨g, rfl, hr1, hg1⟩
  have hB := hr1.ge
  go_wp2_with fail
  refine (pick_any _ g 99999 20 _ hr1 (by omega) (by omega)).mono ?_
  rintro e w2 ⟨k, rfl, hk1, hk2, hr2, hg2⟩
  have hk3 := hk2 (by omega)
  clear hk2
  have G2 := gr_new hg1 hg2 hB
  clear hg2
  rcases (by omega : k < 1 ∨ 1 ≤ k) with hk | hk
  · go_wp2_with fail
    refine (pick_any _ g 99998 2 _ (hr2.alloc _) (by omega) (by omega)).mono ?_
    rintro e w3 ⟨k2, rfl, hk21, hk22, hr3, hg3⟩
    have hk23 := hk22 (by omega)
    clear hk22
    have G3 := gr_new (gr_alloc G2 _) hg3 hB
    have O3 := (Own.empty (e := 34) (s := 3) w2 (Nat.le_refl _)).past hg3 hr2.lt
    have hsz := G2.size
    obtain ⟨N, hN, hN0⟩ : ∃ N : Nat, (N : Int) = 24 + (k2 : Int) ∧ N ≤ 25 := ⟨24 + k2, by omega, by omega⟩
    have hs3 : w2.heap.size ≤ w3.heap.size := by have := hg3.size; simp at this; omega
    clear hg3
    go_wp2_with fail
    go_loopw [4, 6] (fun v i wr => ∃ (k : Nat) (l : List Ev) (A : Option Addr) (c : Nat), i = .int .i64 k ∧ v = .slice A k c ∧ k ≤ N ∧ DrAt w w2.heap.size k l A c wr) (fun _ i _ => N - (intOf i).toNat)
    case atStart => exact ⟨0, [], _, _, rfl, rfl, by omega, by omega, rfl, O3, by simp, G3, hs3⟩
    case round =>
      obtain ⟨k, l, A, c, rfl, rfl, hkN, hat⟩ := hrel
      have hw := hat.size
      by_cases hlt2 : k < N
      · have hOb := hat.own
        go_wp2_with (at_builtin; refine wpList_push _ rfl _ _ 37 rfl w2.heap.size 34 Try.underlying37 evInfo rfl (by omega) A k c (l.flatMap Ev.cells) rfl (hOb.alloc (.cells #[.int .i64 ((k : Int) + 1), .string ⟨#[112, 97, 121]⟩, .int .i64 0] 34)) _ 1 #[.int .i64 ((k : Int) + 1), .string ⟨#[112, 97, 121]⟩, .int .i64 0] rfl (Full.newAt (by simp)) rfl (by intro u hu; simp at hu; rcases hu with rfl | rfl | rfl <;> rfl) (by omega) (by omega) (by simp; omega) ?_; intro A' c' wz hown hgz _)
        have ST : DrAt w w2.heap.size (k + 1) (l ++ [⟨(k : Int) + 1, ⟨#[112, 97, 121]⟩, 0⟩]) A' c' wz := by
          refine ⟨by omega, by simp [hat.len], by simpa [Ev.cells] using hown, ?_, gr_then (gr_alloc hat.gr _) hgz (fun b hb => .inr (by have := (hOb.block hb).1; omega)), Nat.le_trans hw (Nat.le_trans (World.grownBy_alloc _ _ none).size hgz.size)⟩
          intro x hx
          rcases List.mem_append.1 hx with hx | hx
          · exact hat.small x hx
          · simp at hx
            subst hx
            exact ⟨by simp only []; omega, by simp only []; omega, by show (3 : Nat) ≤ 7; omega, by simp only []; omega, by simp only []; omega⟩
        clear hown hgz hat hOb
        go_wp2_with fail
        go_roundw
        case rel => exact ⟨k + 1, _, A', c', by go_num, rfl, by omega, ST⟩
        case measure => simp [intOf]; omega
      · go_wp2_with fail
        go_ret
        exact ⟨A, k, c, l, rfl, hat.own.base_le hsz, hat.len, by omega, hat.small, hat.gr⟩
  · go_wp2_with fail
    refine (evs91_any _ g 90000 6 _ (hr2.less (by omega)) (by omega) (by omega)).mono ?_
    rintro e w3 ⟨A', n', c', l, rfl, hO, hl, hn, hs, hr3, hg3⟩
    go_wp2_with fail
    go_ret
    exact ⟨A', n', c', l, rfl, hO.base_le G2.size, hl, by omega, hs, gr_new G2 hg3 hB⟩

/-- What valid events are. -/
theorem evsB_parts {l : List Ev} (h : evsB l = true) : l.length ≤ 24 ∧ (∀ k (hk : k < l.length), evB l[k] = true) ∧ ∀ j k (hj : j < k) (hk : k < l.length), l[j].id ≠ l[k].id := by
  simp only [evsB, Bool.and_eq_true, decide_eq_true_eq, List.all_eq_true] at h
  refine ⟨h.1.1, fun k hk => h.1.2 _ (List.getElem_mem _), fun j k hj hk e => ?_⟩
  have h1 : j < (l.map Ev.id).length := by rw [List.length_map]; omega
  have h2 : k < (l.map Ev.id).length := by rw [List.length_map]; omega
  have := (List.getElem_inj (h₀ := h1) (h₁ := h2) h.2).1 (by rw [List.getElem_map, List.getElem_map, e])
  omega

set_option maxHeartbeats 1000000 in
theorem events_walk (A : Option Addr) (n c : Nat) (zs : List Int) (w : World) (h : Code w A n c zs) :
    Calls Try.prog 9 #[.slice A n c] w fun e w' => e = .returned (.bool true) ∧ w.grownBy w' none := by
  have hc := h.cap
  have hm := h.max
  unfold maxLen at hm
  by_cases h1 : n > 1048576
  · go_enter Try.func9, Try.ntmps9
    go_wp2
    go_ret
    exact ⟨rfl, gr_refl _ _⟩
  go_enter Try.func9, Try.ntmps9
  go_wp2_with fail
  refine (devs_any A n c zs _ h).mono ?_
  rintro e w1 ⟨B, N, C, l, rfl, hO, hl, hN, hsm, hg1⟩
  have hC := hO.cap
  have hCm := hO.max
  obtain ⟨b, hb⟩ : ∃ b, evsB l = b := ⟨_, rfl⟩
  have hks : ∀ x ∈ l, x.kind.size ≤ maxLen := fun x hx => by have := (hsm x hx).kind; simp only [maxLen]; omega
  have hLi := hO.lies
  have e1 := evsv_is B N C l b w1 hLi hl hC hCm hks hb
  have e2 := fun w hL => sevsv_is B N C l b w hL hl hC hCm hks hb
  have HL := hid hl
  have HB := hid hb
  clear hl hb hO
  unfold maxLen at hCm
  go_wp2_with fail
  refine e1.mono ?_
  rintro e w2 ⟨rfl, hg2⟩
  have hL2 := hLi.grown0 hg2
  have G2 := gr_0 hg1 hg2
  clear e1 hg1 hg2 hLi
  go_wp2_with fail
  refine (e2 _ hL2).mono ?_
  rintro e w3 ⟨rfl, hg3⟩
  have hL3 := hL2.grown0 hg3
  have G3 := gr_0 G2 hg3
  clear e2 hL2 G2 hg3
  cases b
  · go_wp2_with fail
    go_ret
    exact ⟨rfl, G3⟩
  · obtain ⟨p1, p2, p3⟩ := evsB_parts HB.out
    rw [HL.out] at p1
    have P2 := hid p2
    have P3 := hid p3
    clear p2 p3
    go_wp2_with fail
    go_loopw [6] (fun i wr => ∃ k : Nat, i = .int .i64 k ∧ k ≤ N ∧ w3.grownBy wr none) (fun i _ => N - (intOf i).toNat)
    case atStart => exact ⟨0, rfl, by omega, gr_refl _ _⟩
    case round =>
      obtain ⟨k, rfl, hkN, hgr⟩ := hrel
      by_cases hlt : k < N
      · have hkl : k < l.length := by rw [HL.out]; exact hlt
        obtain ⟨g, o, rfl, hg, hcell⟩ := hL3.open_ (by rw [flat_len Ev.cells 3 (fun _ => rfl)]; omega)
        go_wp2_with fail
        obtain ⟨wo, hwo⟩ : ∃ wo : World, wo = wr := ⟨_, rfl⟩
        rw [← hwo] at hgr ⊢
        clear hwo
        go_loopw [7] (fun i wi => ∃ j : Nat, i = .int .i64 j ∧ j ≤ k ∧ wo.grownBy wi none) (fun i _ => k - (intOf i).toNat)
        case atStart => exact ⟨0, rfl, by omega, gr_refl _ _⟩
        case round =>
          obtain ⟨j, rfl, hjk, hgi⟩ := hrel
          obtain ⟨ca, cb, cd⟩ := evAt hcell hkl
          have G4 := gr_0 hgr hgi
          replace ca := G4.cell ca (by simp)
          replace cb := G4.cell cb (by simp)
          replace cd := G4.cell cd (by simp)
          have hks := hks _ (List.getElem_mem hkl)
          have hev := P2.out k hkl
          obtain ⟨x, hx⟩ : ∃ x, x = l[k] := ⟨_, rfl⟩
          rw [← hx] at ca cb cd hks hev
          obtain ⟨i, s, d⟩ := x
          simp only [] at ca cb cd hks
          have HX := hid hx
          clear hx
          have e3 := fun w => evv_is i s d true w hks hev
          clear hev
          by_cases hlt2 : j < k
          · obtain ⟨ra, _, _⟩ := evAt hcell (show j < l.length by omega)
            replace ra := G4.cell ra (by simp)
            have hne := P3.out j k hlt2 hkl
            obtain ⟨i2, hy⟩ : ∃ y, y = l[j].id := ⟨_, rfl⟩
            rw [← hy, ← HX.out] at hne
            rw [← hy] at ra
            clear hy
            have he' : (i2 == i) = false := by simpa using hne
            clear hne
            have b1 : (j : Int) < (N : Int) := by omega
            have b2 : (k : Int) < (N : Int) := by omega
            have b3 : (0 : Int) ≤ (j : Int) := by omega
            have b4 : (0 : Int) ≤ (k : Int) := by omega
            go_wp2_with fail
            go_quiet (fail)
            go_wp2_with fail
            go_roundw
            case rel => exact ⟨j + 1, by go_num, by omega, gr_drewN hgi _⟩
            case measure => simp [intOf]; omega
          · obtain rfl : j = k := by omega
            go_wp2_with fail
            refine (e3 _).mono ?_
            rintro e w5 ⟨rfl, hg5⟩
            go_wp2_with fail
            go_roundw
            case rel => exact ⟨j + 1, by go_num, by omega, gr_0 G4 hg5⟩
            case measure => simp [intOf]; omega
      · obtain rfl : k = N := by omega
        go_wp2_with fail
        go_ret
        exact ⟨ret_bool (by simp; omega), gr_0 G3 hgr⟩
end Go.Proofs.Ytnggcdgjbajnbaa
