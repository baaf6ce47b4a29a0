/- spec.DrawIndexAdd. -/
import Derived.Test.YtnegoaaddaofiaaRowDraw
import Derived.Deep.RegionHeld3
import Derived.OwnWalk
namespace Go.Proofs.Ytnegoaaddaofiaa
open Go.RowKit

/-- An element of a literal of four ints. -/
theorem four_at {w : World} {g : Nat} {t : TypeId} {a b c d : Int} (h : Full w g t #[.int .i64 a, .int .i64 b, .int .i64 c, .int .i64 d]) {k : Nat} (hk : k < 4) : ∃ x : Int, (x = a ∨ x = b ∨ x = c ∨ x = d) ∧ w.cell? ⟨g, k, none⟩ = some (.int .i64 x) := by
  rcases (by omega : k = 0 ∨ k = 1 ∨ k = 2 ∨ k = 3) with rfl | rfl | rfl | rfl
  · exact ⟨a, .inl rfl, h.cellAt 0 rfl⟩
  · exact ⟨b, .inr (.inl rfl), h.cellAt 1 rfl⟩
  · exact ⟨c, .inr (.inr (.inl rfl)), h.cellAt 2 rfl⟩
  · exact ⟨d, .inr (.inr (.inr rfl)), h.cellAt 3 rfl⟩
/-- The same, of a literal that is made in whatever world of this size. -/
theorem four_new (a b c d : Int) (H : Nat) (t : TypeId) {k : Nat} (hk : k < 4) : ∃ x : Int, (x = a ∨ x = b ∨ x = c ∨ x = d) ∧ ∀ w : World, w.heap.size = H → (w.alloc (.cells #[.int .i64 a, .int .i64 b, .int .i64 c, .int .i64 d] t)).cell? ⟨H, k, none⟩ = some (.int .i64 x) := by
  rcases (by omega : k = 0 ∨ k = 1 ∨ k = 2 ∨ k = 3) with rfl | rfl | rfl | rfl
  · exact ⟨a, .inl rfl, fun w h => (Full.newAt h).cellAt 0 rfl⟩
  · exact ⟨b, .inr (.inl rfl), fun w h => (Full.newAt h).cellAt 1 rfl⟩
  · exact ⟨c, .inr (.inr (.inl rfl)), fun w h => (Full.newAt h).cellAt 2 rfl⟩
  · exact ⟨d, .inr (.inr (.inr rfl)), fun w h => (Full.newAt h).cellAt 3 rfl⟩

/-- What DrawIndexAdd leaves. -/
def DiaEnds (w : World) (e : Ending) (w' : World) : Prop :=
  ∃ (A : Option Addr) (n c : Nat) (ors : List RRow) (key : ByteArray) (p : Int), e = .returned (.tuple #[.slice A n c, .string key, .int .i64 p]) ∧ Own w' w.heap.size 33 2 A n c (rcells ors) ∧ ors.length = n ∧ n ≤ 7 ∧ (∀ r ∈ ors, r.ok w') ∧ (spots (rsem ors)).length ≤ 100 ∧ key.size ≤ 10 ∧ (0 ≤ p ∧ p ≤ 100) ∧ w.grownBy w' none
set_option maxHeartbeats 4000000 in
theorem dia_any (A : Option Addr) (n c : Nat) (zs : List Int) (w : World) (h : Code w A n c zs) :
    Calls Try.prog 14 #[.slice A n c] w (DiaEnds w) := by
  go_enter Try.func14, Try.ntmps14
  go_wp2_with fail
  refine (open_any A n c zs _ h).mono ?_
  rintro e w1 ⟨g, rfl, hr1, hg1⟩
  have hB := hr1.ge
  go_wp2_with fail
  refine (rw92_any _ g 90000 _ (hr1.less (by omega))).mono ?_
  rintro e w2 ⟨A2, n2, c2, ors, rfl, hO, hl, hn7, hok, hsp, hr2, hg2⟩
  have HLn := hid (And.intro hl hsp)
  have HOk := hid hok
  have HO := hid hO
  have G2 := hid (gr_new hg1 hg2 hB)
  have s1 := hg1.size
  have hlt := hr1.lt
  obtain ⟨B, R2⟩ : ∃ B, Rd 62 w2 B g 90000 := ⟨_, hr2⟩
  have hl2 := hr2.lt
  have HR2 := hid hr2
  have hge : w.heap.size ≤ g := hB
  clear hl hsp hg1 hg2 hO hok hr2 hB
  go_upto_region 3 with (fail)
  refine wp_region_held_drew (S := (fun w' => w2.grownBy w' (some g))) (by kernel_rfl) ?_ (fun hHeld => ?_)
  · (try dsimp only); (((repeat (first | (with_reducible assumption) | (with_reducible exact gr_refl _ _) | (with_reducible refine gr_alloc ?_ _) | (with_reducible refine gr_drew ?_))); (first | done | fail "left")))
  refine wpAnyH_take (i := 0) (v := ?v1) rfl (by kernel_rfl) (by kernel_rfl) (by kernel_rfl) (fun _ _ _ h => h) (Or.inl ⟨by rfl, ?h1⟩) (by assumption) ?r1
  case h1 => (intro w hSw; (try dsimp only at hSw); go_simp; all_goals with_reducible rfl)
  try simp only [List.getElem_toArray, List.getElem_cons_zero, List.getElem_cons_succ, Act.put, List.setIfInBounds_toArray, List.set_cons_zero, List.set_cons_succ]
  refine wpAnyH_take (i := 1) (v := ?v2) rfl (by kernel_rfl) (by kernel_rfl) (by kernel_rfl) (fun _ _ _ h => h) (Or.inl ⟨by rfl, ?h2⟩) (by assumption) ?r2
  case h2 => (intro w hSw; (try dsimp only at hSw); go_simp; all_goals with_reducible rfl)
  try simp only [List.getElem_toArray, List.getElem_cons_zero, List.getElem_cons_succ, Act.put, List.setIfInBounds_toArray, List.set_cons_zero, List.set_cons_succ]
  refine wpAnyH_take (i := 4) (v := ?v3) rfl (by kernel_rfl) (by kernel_rfl) (by kernel_rfl) (fun _ _ _ h => h) (Or.inl ⟨by rfl, ?h3⟩) (by assumption) ?r3
  case h3 => (intro w hSw; (try dsimp only at hSw); go_simp; all_goals with_reducible rfl)
  try simp only [List.getElem_toArray, List.getElem_cons_zero, List.getElem_cons_succ, Act.put, List.setIfInBounds_toArray, List.set_cons_zero, List.set_cons_succ]
  refine wpAnyH_take (i := 7) (v := ?v4) rfl (by kernel_rfl) (by kernel_rfl) (by kernel_rfl) (fun _ _ _ h => h) (Or.inl ⟨by rfl, ?h4⟩) (by assumption) ?r4
  case h4 => (intro w hSw; (try dsimp only at hSw); go_simp; all_goals with_reducible rfl)
  try simp only [List.getElem_toArray, List.getElem_cons_zero, List.getElem_cons_succ, Act.put, List.setIfInBounds_toArray, List.set_cons_zero, List.set_cons_succ]
  refine wpAnyH_take (i := 10) (v := ?v5) rfl (by kernel_rfl) (by kernel_rfl) (by kernel_rfl) (fun _ _ _ h => h) (Or.inl ⟨by rfl, ?h5⟩) (by assumption) ?r5
  case h5 => (intro w hSw; (try dsimp only at hSw); go_simp; all_goals with_reducible rfl)
  try simp only [List.getElem_toArray, List.getElem_cons_zero, List.getElem_cons_succ, Act.put, List.setIfInBounds_toArray, List.set_cons_zero, List.set_cons_succ]
  refine wpAnyH_ready (rs := [2]) (by kernel_rfl) (by simp) ?_
  refine AllReadyH.cons rfl (fun K hK => ?_) ?_
  · go_simp
    refine hK.out _ _ ?_ (fun hHeld => ?_)
    · (try dsimp only); (((repeat (first | (with_reducible assumption) | (with_reducible exact gr_refl _ _) | (with_reducible refine gr_alloc ?_ _) | (with_reducible refine gr_drew ?_))); (first | done | fail "left")))
    clear hK K
    refine wpAnyH_ready (rs := [3]) (by kernel_rfl) (by simp) ?_
    refine AllReadyH.cons rfl (fun K hK => ?_) ?_
    · go_simp
      (first
        | (go_at_call 23
           refine (of_any B g 80000 _ 6 6 [⟨#[111, 112, 101, 110]⟩, ⟨#[112, 97, 121]⟩, ⟨#[115, 104, 105, 112]⟩, ⟨#[110, 101, 119]⟩, ⟨#[66, 97, 100]⟩, ⟨#[97]⟩] _ ?_ (Full.drew (Full.new _ _ _)) rfl (by omega) (by omega)).mono ?_
           · exact ((R2.alloc _).drew.less (by omega))
           rintro e w3 ⟨s3, hs3, rfl, R3, hg3⟩
           have G3 : w2.grownBy w3 (some g) := gr_trans (gr_drew (gr_alloc (gr_refl w2 _) _)) hg3
           have HS3 := hid hs3
           clear hs3 hg3)
        | (go_at_call_of 26 (Value.int IntKind.i64 10)
           refine (pick_any B g 70000 10 _ ?_ (by omega) (by omega)).mono ?_
           · exact (R3.less (by omega))
           rintro e w4 ⟨k4, rfl, hk41, hk42, R4, hg4⟩
           have hk43 := hk42 (by omega)
           clear hk42
           have G4 : w2.grownBy w4 (some g) := gr_trans G3 hg4
           have i4 : IntKind.i64.wrap (10 + (k4 : Int)) = 10 + (k4 : Int) := IntWalk.i64_in _ (by omega)
           clear hg4)
        | (go_at_call_of 26 (Value.int IntKind.i64 16)
           refine (pick_any B g 60000 16 _ ?_ (by omega) (by omega)).mono ?_
           · exact (R4.less (by omega))
           rintro e w5 ⟨k5, rfl, hk51, hk52, R5, hg5⟩
           have hk53 := hk52 (by omega)
           clear hk52
           have G5 : w2.grownBy w5 (some g) := gr_trans G4 hg5
           clear hg5)
        | (go_at_call_of 26 (Value.int IntKind.i64 4)
           refine (pick_any B g 50000 4 w5 ?_ (by omega) (by omega)).mono ?_
           · exact (R5.less (by omega))
           rintro e w6 ⟨k6, rfl, hk61, hk62, R6, hg6⟩
           have hk63 := hk62 (by omega)
           clear hk62
           have G6 : w2.grownBy w6 (some g) := gr_trans G5 hg6
           obtain ⟨x, hx, hxc⟩ := four_new (10 + (k4 : Int)) (k5 : Int) 99 100 w6.heap.size 3 (show k6 < 4 by omega)
           have hx0 : 0 ≤ x ∧ x ≤ 100 := by omega
           obtain ⟨hx0, hx1⟩ := hx0
           have hxa := hxc w6 rfl
           have b0 : (0 : Int) ≤ (k6 : Int) := by omega
           have b1 : (k6 : Int) < 4 := by omega
           clear hx hxc hg6)
        | (go_at_call_of 26 (Value.int IntKind.i64 4)
           refine (pick_any B g 50000 4 (w5.alloc _) ?_ (by omega) (by omega)).mono ?_
           · exact ((R5.alloc _).less (by omega))
           rintro e w6 ⟨k6, rfl, hk61, hk62, R6, hg6⟩
           have hk63 := hk62 (by omega)
           clear hk62
           have G6 : w2.grownBy w6 (some g) := gr_trans (gr_alloc G5 _) hg6
           have hlt5 := R5.lt
           have F6 := (Full.new w5 3 #[.int .i64 (10 + (k4 : Int)), .int .i64 (k5 : Int), .int .i64 99, .int .i64 100]).grown hg6 (by intro e; injection e with e; omega)
           obtain ⟨x, hx, hxa⟩ := four_at F6 (show k6 < 4 by omega)
           have hx0 : 0 ≤ x ∧ x ≤ 100 := by omega
           obtain ⟨hx0, hx1⟩ := hx0
           have b0 : (0 : Int) ≤ (k6 : Int) := by omega
           have b1 : (k6 : Int) < 4 := by omega
           clear hx hg6 F6))
      go_wp2_with fail
      refine hK.out _ _ ?_ (fun hHeld => ?_)
      · (try dsimp only); (((repeat (first | (with_reducible assumption) | (with_reducible exact gr_refl _ _) | (with_reducible refine gr_alloc ?_ _) | (with_reducible refine gr_drew ?_))); (first | done | fail "left")))
      clear hK K
      refine wpAnyH_ready (rs := [5]) (by kernel_rfl) (by simp) ?_
      refine AllReadyH.cons rfl (fun K hK => ?_) ?_
      · go_simp
        (first
          | (go_at_call 23
             refine (of_any B g 80000 _ 6 6 [⟨#[111, 112, 101, 110]⟩, ⟨#[112, 97, 121]⟩, ⟨#[115, 104, 105, 112]⟩, ⟨#[110, 101, 119]⟩, ⟨#[66, 97, 100]⟩, ⟨#[97]⟩] _ ?_ (Full.drew (Full.new _ _ _)) rfl (by omega) (by omega)).mono ?_
             · exact ((R2.alloc _).drew.less (by omega))
             rintro e w3 ⟨s3, hs3, rfl, R3, hg3⟩
             have G3 : w2.grownBy w3 (some g) := gr_trans (gr_drew (gr_alloc (gr_refl w2 _) _)) hg3
             have HS3 := hid hs3
             clear hs3 hg3)
          | (go_at_call_of 26 (Value.int IntKind.i64 10)
             refine (pick_any B g 70000 10 _ ?_ (by omega) (by omega)).mono ?_
             · exact (R3.less (by omega))
             rintro e w4 ⟨k4, rfl, hk41, hk42, R4, hg4⟩
             have hk43 := hk42 (by omega)
             clear hk42
             have G4 : w2.grownBy w4 (some g) := gr_trans G3 hg4
             have i4 : IntKind.i64.wrap (10 + (k4 : Int)) = 10 + (k4 : Int) := IntWalk.i64_in _ (by omega)
             clear hg4)
          | (go_at_call_of 26 (Value.int IntKind.i64 16)
             refine (pick_any B g 60000 16 _ ?_ (by omega) (by omega)).mono ?_
             · exact (R4.less (by omega))
             rintro e w5 ⟨k5, rfl, hk51, hk52, R5, hg5⟩
             have hk53 := hk52 (by omega)
             clear hk52
             have G5 : w2.grownBy w5 (some g) := gr_trans G4 hg5
             clear hg5)
          | (go_at_call_of 26 (Value.int IntKind.i64 4)
             refine (pick_any B g 50000 4 w5 ?_ (by omega) (by omega)).mono ?_
             · exact (R5.less (by omega))
             rintro e w6 ⟨k6, rfl, hk61, hk62, R6, hg6⟩
             have hk63 := hk62 (by omega)
             clear hk62
             have G6 : w2.grownBy w6 (some g) := gr_trans G5 hg6
             obtain ⟨x, hx, hxc⟩ := four_new (10 + (k4 : Int)) (k5 : Int) 99 100 w6.heap.size 3 (show k6 < 4 by omega)
             have hx0 : 0 ≤ x ∧ x ≤ 100 := by omega
             obtain ⟨hx0, hx1⟩ := hx0
             have hxa := hxc w6 rfl
             have b0 : (0 : Int) ≤ (k6 : Int) := by omega
             have b1 : (k6 : Int) < 4 := by omega
             clear hx hxc hg6)
          | (go_at_call_of 26 (Value.int IntKind.i64 4)
             refine (pick_any B g 50000 4 (w5.alloc _) ?_ (by omega) (by omega)).mono ?_
             · exact ((R5.alloc _).less (by omega))
             rintro e w6 ⟨k6, rfl, hk61, hk62, R6, hg6⟩
             have hk63 := hk62 (by omega)
             clear hk62
             have G6 : w2.grownBy w6 (some g) := gr_trans (gr_alloc G5 _) hg6
             have hlt5 := R5.lt
             have F6 := (Full.new w5 3 #[.int .i64 (10 + (k4 : Int)), .int .i64 (k5 : Int), .int .i64 99, .int .i64 100]).grown hg6 (by intro e; injection e with e; omega)
             obtain ⟨x, hx, hxa⟩ := four_at F6 (show k6 < 4 by omega)
             have hx0 : 0 ≤ x ∧ x ≤ 100 := by omega
             obtain ⟨hx0, hx1⟩ := hx0
             have b0 : (0 : Int) ≤ (k6 : Int) := by omega
             have b1 : (k6 : Int) < 4 := by omega
             clear hx hg6 F6))
        go_wp2_with fail
        refine hK.out _ _ ?_ (fun hHeld => ?_)
        · (try dsimp only); (((repeat (first | (with_reducible assumption) | (with_reducible exact gr_refl _ _) | (with_reducible refine gr_alloc ?_ _) | (with_reducible refine gr_drew ?_))); (first | done | fail "left")))
        clear hK K
        refine wpAnyH_take (i := 6) (v := ?v6) rfl (by kernel_rfl) (by kernel_rfl) (by kernel_rfl) (fun _ _ _ h => h) (Or.inl ⟨by rfl, ?h6⟩) (by assumption) ?r6
        case h6 => (intro w hSw; (try dsimp only at hSw); go_simp; all_goals with_reducible rfl)
        try simp only [List.getElem_toArray, List.getElem_cons_zero, List.getElem_cons_succ, Act.put, List.setIfInBounds_toArray, List.set_cons_zero, List.set_cons_succ]
        refine wpAnyH_ready (rs := [8]) (by kernel_rfl) (by simp) ?_
        refine AllReadyH.cons rfl (fun K hK => ?_) ?_
        · go_simp
          (first
            | (go_at_call 23
               refine (of_any B g 80000 _ 6 6 [⟨#[111, 112, 101, 110]⟩, ⟨#[112, 97, 121]⟩, ⟨#[115, 104, 105, 112]⟩, ⟨#[110, 101, 119]⟩, ⟨#[66, 97, 100]⟩, ⟨#[97]⟩] _ ?_ (Full.drew (Full.new _ _ _)) rfl (by omega) (by omega)).mono ?_
               · exact ((R2.alloc _).drew.less (by omega))
               rintro e w3 ⟨s3, hs3, rfl, R3, hg3⟩
               have G3 : w2.grownBy w3 (some g) := gr_trans (gr_drew (gr_alloc (gr_refl w2 _) _)) hg3
               have HS3 := hid hs3
               clear hs3 hg3)
            | (go_at_call_of 26 (Value.int IntKind.i64 10)
               refine (pick_any B g 70000 10 _ ?_ (by omega) (by omega)).mono ?_
               · exact (R3.less (by omega))
               rintro e w4 ⟨k4, rfl, hk41, hk42, R4, hg4⟩
               have hk43 := hk42 (by omega)
               clear hk42
               have G4 : w2.grownBy w4 (some g) := gr_trans G3 hg4
               have i4 : IntKind.i64.wrap (10 + (k4 : Int)) = 10 + (k4 : Int) := IntWalk.i64_in _ (by omega)
               clear hg4)
            | (go_at_call_of 26 (Value.int IntKind.i64 16)
               refine (pick_any B g 60000 16 _ ?_ (by omega) (by omega)).mono ?_
               · exact (R4.less (by omega))
               rintro e w5 ⟨k5, rfl, hk51, hk52, R5, hg5⟩
               have hk53 := hk52 (by omega)
               clear hk52
               have G5 : w2.grownBy w5 (some g) := gr_trans G4 hg5
               clear hg5)
            | (go_at_call_of 26 (Value.int IntKind.i64 4)
               refine (pick_any B g 50000 4 w5 ?_ (by omega) (by omega)).mono ?_
               · exact (R5.less (by omega))
               rintro e w6 ⟨k6, rfl, hk61, hk62, R6, hg6⟩
               have hk63 := hk62 (by omega)
               clear hk62
               have G6 : w2.grownBy w6 (some g) := gr_trans G5 hg6
               obtain ⟨x, hx, hxc⟩ := four_new (10 + (k4 : Int)) (k5 : Int) 99 100 w6.heap.size 3 (show k6 < 4 by omega)
               have hx0 : 0 ≤ x ∧ x ≤ 100 := by omega
               obtain ⟨hx0, hx1⟩ := hx0
               have hxa := hxc w6 rfl
               have b0 : (0 : Int) ≤ (k6 : Int) := by omega
               have b1 : (k6 : Int) < 4 := by omega
               clear hx hxc hg6)
            | (go_at_call_of 26 (Value.int IntKind.i64 4)
               refine (pick_any B g 50000 4 (w5.alloc _) ?_ (by omega) (by omega)).mono ?_
               · exact ((R5.alloc _).less (by omega))
               rintro e w6 ⟨k6, rfl, hk61, hk62, R6, hg6⟩
               have hk63 := hk62 (by omega)
               clear hk62
               have G6 : w2.grownBy w6 (some g) := gr_trans (gr_alloc G5 _) hg6
               have hlt5 := R5.lt
               have F6 := (Full.new w5 3 #[.int .i64 (10 + (k4 : Int)), .int .i64 (k5 : Int), .int .i64 99, .int .i64 100]).grown hg6 (by intro e; injection e with e; omega)
               obtain ⟨x, hx, hxa⟩ := four_at F6 (show k6 < 4 by omega)
               have hx0 : 0 ≤ x ∧ x ≤ 100 := by omega
               obtain ⟨hx0, hx1⟩ := hx0
               have b0 : (0 : Int) ≤ (k6 : Int) := by omega
               have b1 : (k6 : Int) < 4 := by omega
               clear hx hg6 F6))
          go_wp2_with fail
          refine hK.out _ _ ?_ (fun hHeld => ?_)
          · (try dsimp only); (((repeat (first | (with_reducible assumption) | (with_reducible exact gr_refl _ _) | (with_reducible refine gr_alloc ?_ _) | (with_reducible refine gr_drew ?_))); (first | done | fail "left")))
          clear hK K
          refine wpAnyH_ready (rs := [9, 11]) (by kernel_rfl) (by simp) ?_
          refine AllReadyH.cons rfl (fun K hK => ?_) ?_
          · go_simp
            refine hK.out _ _ ?_ (fun hHeld => ?_)
            · (try dsimp only); (((repeat (first | (with_reducible assumption) | (with_reducible exact gr_refl _ _) | (with_reducible refine gr_alloc ?_ _) | (with_reducible refine gr_drew ?_))); (first | done | fail "left")))
            clear hK K
            refine wpAnyH_ready (rs := [11]) (by kernel_rfl) (by simp) ?_
            refine AllReadyH.cons rfl (fun K hK => ?_) ?_
            · go_simp
              (first
                | (go_at_call 23
                   refine (of_any B g 80000 _ 6 6 [⟨#[111, 112, 101, 110]⟩, ⟨#[112, 97, 121]⟩, ⟨#[115, 104, 105, 112]⟩, ⟨#[110, 101, 119]⟩, ⟨#[66, 97, 100]⟩, ⟨#[97]⟩] _ ?_ (Full.drew (Full.new _ _ _)) rfl (by omega) (by omega)).mono ?_
                   · exact ((R2.alloc _).drew.less (by omega))
                   rintro e w3 ⟨s3, hs3, rfl, R3, hg3⟩
                   have G3 : w2.grownBy w3 (some g) := gr_trans (gr_drew (gr_alloc (gr_refl w2 _) _)) hg3
                   have HS3 := hid hs3
                   clear hs3 hg3)
                | (go_at_call_of 26 (Value.int IntKind.i64 10)
                   refine (pick_any B g 70000 10 _ ?_ (by omega) (by omega)).mono ?_
                   · exact (R3.less (by omega))
                   rintro e w4 ⟨k4, rfl, hk41, hk42, R4, hg4⟩
                   have hk43 := hk42 (by omega)
                   clear hk42
                   have G4 : w2.grownBy w4 (some g) := gr_trans G3 hg4
                   have i4 : IntKind.i64.wrap (10 + (k4 : Int)) = 10 + (k4 : Int) := IntWalk.i64_in _ (by omega)
                   clear hg4)
                | (go_at_call_of 26 (Value.int IntKind.i64 16)
                   refine (pick_any B g 60000 16 _ ?_ (by omega) (by omega)).mono ?_
                   · exact (R4.less (by omega))
                   rintro e w5 ⟨k5, rfl, hk51, hk52, R5, hg5⟩
                   have hk53 := hk52 (by omega)
                   clear hk52
                   have G5 : w2.grownBy w5 (some g) := gr_trans G4 hg5
                   clear hg5)
                | (go_at_call_of 26 (Value.int IntKind.i64 4)
                   refine (pick_any B g 50000 4 w5 ?_ (by omega) (by omega)).mono ?_
                   · exact (R5.less (by omega))
                   rintro e w6 ⟨k6, rfl, hk61, hk62, R6, hg6⟩
                   have hk63 := hk62 (by omega)
                   clear hk62
                   have G6 : w2.grownBy w6 (some g) := gr_trans G5 hg6
                   obtain ⟨x, hx, hxc⟩ := four_new (10 + (k4 : Int)) (k5 : Int) 99 100 w6.heap.size 3 (show k6 < 4 by omega)
                   have hx0 : 0 ≤ x ∧ x ≤ 100 := by omega
                   obtain ⟨hx0, hx1⟩ := hx0
                   have hxa := hxc w6 rfl
                   have b0 : (0 : Int) ≤ (k6 : Int) := by omega
                   have b1 : (k6 : Int) < 4 := by omega
                   clear hx hxc hg6)
                | (go_at_call_of 26 (Value.int IntKind.i64 4)
                   refine (pick_any B g 50000 4 (w5.alloc _) ?_ (by omega) (by omega)).mono ?_
                   · exact ((R5.alloc _).less (by omega))
                   rintro e w6 ⟨k6, rfl, hk61, hk62, R6, hg6⟩
                   have hk63 := hk62 (by omega)
                   clear hk62
                   have G6 : w2.grownBy w6 (some g) := gr_trans (gr_alloc G5 _) hg6
                   have hlt5 := R5.lt
                   have F6 := (Full.new w5 3 #[.int .i64 (10 + (k4 : Int)), .int .i64 (k5 : Int), .int .i64 99, .int .i64 100]).grown hg6 (by intro e; injection e with e; omega)
                   obtain ⟨x, hx, hxa⟩ := four_at F6 (show k6 < 4 by omega)
                   have hx0 : 0 ≤ x ∧ x ≤ 100 := by omega
                   obtain ⟨hx0, hx1⟩ := hx0
                   have b0 : (0 : Int) ≤ (k6 : Int) := by omega
                   have b1 : (k6 : Int) < 4 := by omega
                   clear hx hg6 F6))
              go_wp2_with fail
              refine hK.out _ _ ?_ (fun hHeld => ?_)
              · (try dsimp only); (((repeat (first | (with_reducible assumption) | (with_reducible exact gr_refl _ _) | (with_reducible refine gr_alloc ?_ _) | (with_reducible refine gr_drew ?_))); (first | done | fail "left")))
              clear hK K
              refine wpAnyH_take (i := 12) (v := ?v7) rfl (by kernel_rfl) (by kernel_rfl) (by kernel_rfl) (fun _ _ _ h => h) (Or.inl ⟨by rfl, ?h7⟩) (by assumption) ?r7
              case h7 => (intro w hSw; (try dsimp only at hSw); go_simp; all_goals with_reducible rfl)
              try simp only [List.getElem_toArray, List.getElem_cons_zero, List.getElem_cons_succ, Act.put, List.setIfInBounds_toArray, List.set_cons_zero, List.set_cons_succ]
              refine wpAnyH_take (i := 14) (v := ?v8) rfl (by kernel_rfl) (by kernel_rfl) (by kernel_rfl) (fun _ _ _ h => h) (Or.inl ⟨by rfl, ?h8⟩) (by assumption) ?r8
              case h8 => (intro w hSw; (try dsimp only at hSw); go_simp; all_goals with_reducible rfl)
              try simp only [List.getElem_toArray, List.getElem_cons_zero, List.getElem_cons_succ, Act.put, List.setIfInBounds_toArray, List.set_cons_zero, List.set_cons_succ]
              refine wpAnyH_take (i := 15) (v := ?v9) rfl (by kernel_rfl) (by kernel_rfl) (by kernel_rfl) (fun _ _ _ h => h) (Or.inl ⟨by rfl, ?h9⟩) (by assumption) ?r9
              case h9 => (intro w hSw; (try dsimp only at hSw); go_simp; all_goals with_reducible rfl)
              try simp only [List.getElem_toArray, List.getElem_cons_zero, List.getElem_cons_succ, Act.put, List.setIfInBounds_toArray, List.set_cons_zero, List.set_cons_succ]
              refine wpAnyH_ready (rs := [13]) (by kernel_rfl) (by simp) ?_
              refine AllReadyH.cons rfl (fun K hK => ?_) ?_
              · go_simp
                refine hK.out _ _ ?_ (fun hHeld => ?_)
                · (try dsimp only); (((repeat (first | (with_reducible assumption) | (with_reducible exact gr_refl _ _) | (with_reducible refine gr_alloc ?_ _) | (with_reducible refine gr_drew ?_))); (first | done | fail "left")))
                clear hK K
                refine wpAnyH_take (i := 16) (v := ?v10) rfl (by kernel_rfl) (by kernel_rfl) (by kernel_rfl) (fun _ _ _ h => h) (Or.inl ⟨by rfl, ?h10⟩) (by assumption) ?r10
                case h10 => (intro w hSw; (try dsimp only at hSw); go_simp; all_goals with_reducible rfl)
                try simp only [List.getElem_toArray, List.getElem_cons_zero, List.getElem_cons_succ, Act.put, List.setIfInBounds_toArray, List.set_cons_zero, List.set_cons_succ]
                refine wpAnyH_done (by kernel_rfl) ?_ _
                go_wp2_with fail
                go_ret3
                refine ⟨A2, n2, c2, ors, s3, x, rfl, ?_, HLn.out.1, hn7, ?_, HLn.out.2, ?_, ⟨hx0, hx1⟩, ?_⟩
                · exact (Own.apart HO.out (show w2.grownBy _ (some g) by ((repeat (first | (with_reducible assumption) | (with_reducible exact gr_refl _ _) | (with_reducible refine gr_alloc ?_ _) | (with_reducible refine gr_drew ?_))); (first | done | fail "left"))) (fun b hb e => by injection e with e; have := (HO.out.block hb).1; omega)).base_le s1
                · exact oks_past HOk.out HR2.out (show w2.grownBy _ (some g) by ((repeat (first | (with_reducible assumption) | (with_reducible exact gr_refl _ _) | (with_reducible refine gr_alloc ?_ _) | (with_reducible refine gr_drew ?_))); (first | done | fail "left")))
                · have := HS3.out
                  simp at this
                  rcases this with rfl | rfl | rfl | rfl | rfl | rfl <;> decide
                · exact gr_new G2.out (show w2.grownBy _ (some g) by ((repeat (first | (with_reducible assumption) | (with_reducible exact gr_refl _ _) | (with_reducible refine gr_alloc ?_ _) | (with_reducible refine gr_drew ?_))); (first | done | fail "left"))) hge
              exact AllReadyH.nil
            exact AllReadyH.nil
          refine AllReadyH.cons rfl (fun K hK => ?_) ?_
          · go_simp
            (first
              | (go_at_call 23
                 refine (of_any B g 80000 _ 6 6 [⟨#[111, 112, 101, 110]⟩, ⟨#[112, 97, 121]⟩, ⟨#[115, 104, 105, 112]⟩, ⟨#[110, 101, 119]⟩, ⟨#[66, 97, 100]⟩, ⟨#[97]⟩] _ ?_ (Full.drew (Full.new _ _ _)) rfl (by omega) (by omega)).mono ?_
                 · exact ((R2.alloc _).drew.less (by omega))
                 rintro e w3 ⟨s3, hs3, rfl, R3, hg3⟩
                 have G3 : w2.grownBy w3 (some g) := gr_trans (gr_drew (gr_alloc (gr_refl w2 _) _)) hg3
                 have HS3 := hid hs3
                 clear hs3 hg3)
              | (go_at_call_of 26 (Value.int IntKind.i64 10)
                 refine (pick_any B g 70000 10 _ ?_ (by omega) (by omega)).mono ?_
                 · exact (R3.less (by omega))
                 rintro e w4 ⟨k4, rfl, hk41, hk42, R4, hg4⟩
                 have hk43 := hk42 (by omega)
                 clear hk42
                 have G4 : w2.grownBy w4 (some g) := gr_trans G3 hg4
                 have i4 : IntKind.i64.wrap (10 + (k4 : Int)) = 10 + (k4 : Int) := IntWalk.i64_in _ (by omega)
                 clear hg4)
              | (go_at_call_of 26 (Value.int IntKind.i64 16)
                 refine (pick_any B g 60000 16 _ ?_ (by omega) (by omega)).mono ?_
                 · exact (R4.less (by omega))
                 rintro e w5 ⟨k5, rfl, hk51, hk52, R5, hg5⟩
                 have hk53 := hk52 (by omega)
                 clear hk52
                 have G5 : w2.grownBy w5 (some g) := gr_trans G4 hg5
                 clear hg5)
              | (go_at_call_of 26 (Value.int IntKind.i64 4)
                 refine (pick_any B g 50000 4 w5 ?_ (by omega) (by omega)).mono ?_
                 · exact (R5.less (by omega))
                 rintro e w6 ⟨k6, rfl, hk61, hk62, R6, hg6⟩
                 have hk63 := hk62 (by omega)
                 clear hk62
                 have G6 : w2.grownBy w6 (some g) := gr_trans G5 hg6
                 obtain ⟨x, hx, hxc⟩ := four_new (10 + (k4 : Int)) (k5 : Int) 99 100 w6.heap.size 3 (show k6 < 4 by omega)
                 have hx0 : 0 ≤ x ∧ x ≤ 100 := by omega
                 obtain ⟨hx0, hx1⟩ := hx0
                 have hxa := hxc w6 rfl
                 have b0 : (0 : Int) ≤ (k6 : Int) := by omega
                 have b1 : (k6 : Int) < 4 := by omega
                 clear hx hxc hg6)
              | (go_at_call_of 26 (Value.int IntKind.i64 4)
                 refine (pick_any B g 50000 4 (w5.alloc _) ?_ (by omega) (by omega)).mono ?_
                 · exact ((R5.alloc _).less (by omega))
                 rintro e w6 ⟨k6, rfl, hk61, hk62, R6, hg6⟩
                 have hk63 := hk62 (by omega)
                 clear hk62
                 have G6 : w2.grownBy w6 (some g) := gr_trans (gr_alloc G5 _) hg6
                 have hlt5 := R5.lt
                 have F6 := (Full.new w5 3 #[.int .i64 (10 + (k4 : Int)), .int .i64 (k5 : Int), .int .i64 99, .int .i64 100]).grown hg6 (by intro e; injection e with e; omega)
                 obtain ⟨x, hx, hxa⟩ := four_at F6 (show k6 < 4 by omega)
                 have hx0 : 0 ≤ x ∧ x ≤ 100 := by omega
                 obtain ⟨hx0, hx1⟩ := hx0
                 have b0 : (0 : Int) ≤ (k6 : Int) := by omega
                 have b1 : (k6 : Int) < 4 := by omega
                 clear hx hg6 F6))
            go_wp2_with fail
            refine hK.out _ _ ?_ (fun hHeld => ?_)
            · (try dsimp only); (((repeat (first | (with_reducible assumption) | (with_reducible exact gr_refl _ _) | (with_reducible refine gr_alloc ?_ _) | (with_reducible refine gr_drew ?_))); (first | done | fail "left")))
            clear hK K
            refine wpAnyH_take (i := 14) (v := ?v11) rfl (by kernel_rfl) (by kernel_rfl) (by kernel_rfl) (fun _ _ _ h => h) (Or.inl ⟨by rfl, ?h11⟩) (by assumption) ?r11
            case h11 => (intro w hSw; (try dsimp only at hSw); go_simp; all_goals with_reducible rfl)
            try simp only [List.getElem_toArray, List.getElem_cons_zero, List.getElem_cons_succ, Act.put, List.setIfInBounds_toArray, List.set_cons_zero, List.set_cons_succ]
            refine wpAnyH_take (i := 15) (v := ?v12) rfl (by kernel_rfl) (by kernel_rfl) (by kernel_rfl) (fun _ _ _ h => h) (Or.inl ⟨by rfl, ?h12⟩) (by assumption) ?r12
            case h12 => (intro w hSw; (try dsimp only at hSw); go_simp; all_goals with_reducible rfl)
            try simp only [List.getElem_toArray, List.getElem_cons_zero, List.getElem_cons_succ, Act.put, List.setIfInBounds_toArray, List.set_cons_zero, List.set_cons_succ]
            refine wpAnyH_ready (rs := [9]) (by kernel_rfl) (by simp) ?_
            refine AllReadyH.cons rfl (fun K hK => ?_) ?_
            · go_simp
              refine hK.out _ _ ?_ (fun hHeld => ?_)
              · (try dsimp only); (((repeat (first | (with_reducible assumption) | (with_reducible exact gr_refl _ _) | (with_reducible refine gr_alloc ?_ _) | (with_reducible refine gr_drew ?_))); (first | done | fail "left")))
              clear hK K
              refine wpAnyH_take (i := 12) (v := ?v13) rfl (by kernel_rfl) (by kernel_rfl) (by kernel_rfl) (fun _ _ _ h => h) (Or.inl ⟨by rfl, ?h13⟩) (by assumption) ?r13
              case h13 => (intro w hSw; (try dsimp only at hSw); go_simp; all_goals with_reducible rfl)
              try simp only [List.getElem_toArray, List.getElem_cons_zero, List.getElem_cons_succ, Act.put, List.setIfInBounds_toArray, List.set_cons_zero, List.set_cons_succ]
              refine wpAnyH_ready (rs := [13]) (by kernel_rfl) (by simp) ?_
              refine AllReadyH.cons rfl (fun K hK => ?_) ?_
              · go_simp
                refine hK.out _ _ ?_ (fun hHeld => ?_)
                · (try dsimp only); (((repeat (first | (with_reducible assumption) | (with_reducible exact gr_refl _ _) | (with_reducible refine gr_alloc ?_ _) | (with_reducible refine gr_drew ?_))); (first | done | fail "left")))
                clear hK K
                refine wpAnyH_take (i := 16) (v := ?v14) rfl (by kernel_rfl) (by kernel_rfl) (by kernel_rfl) (fun _ _ _ h => h) (Or.inl ⟨by rfl, ?h14⟩) (by assumption) ?r14
                case h14 => (intro w hSw; (try dsimp only at hSw); go_simp; all_goals with_reducible rfl)
                try simp only [List.getElem_toArray, List.getElem_cons_zero, List.getElem_cons_succ, Act.put, List.setIfInBounds_toArray, List.set_cons_zero, List.set_cons_succ]
                refine wpAnyH_done (by kernel_rfl) ?_ _
                go_wp2_with fail
                go_ret3
                refine ⟨A2, n2, c2, ors, s3, x, rfl, ?_, HLn.out.1, hn7, ?_, HLn.out.2, ?_, ⟨hx0, hx1⟩, ?_⟩
                · exact (Own.apart HO.out (show w2.grownBy _ (some g) by ((repeat (first | (with_reducible assumption) | (with_reducible exact gr_refl _ _) | (with_reducible refine gr_alloc ?_ _) | (with_reducible refine gr_drew ?_))); (first | done | fail "left"))) (fun b hb e => by injection e with e; have := (HO.out.block hb).1; omega)).base_le s1
                · exact oks_past HOk.out HR2.out (show w2.grownBy _ (some g) by ((repeat (first | (with_reducible assumption) | (with_reducible exact gr_refl _ _) | (with_reducible refine gr_alloc ?_ _) | (with_reducible refine gr_drew ?_))); (first | done | fail "left")))
                · have := HS3.out
                  simp at this
                  rcases this with rfl | rfl | rfl | rfl | rfl | rfl <;> decide
                · exact gr_new G2.out (show w2.grownBy _ (some g) by ((repeat (first | (with_reducible assumption) | (with_reducible exact gr_refl _ _) | (with_reducible refine gr_alloc ?_ _) | (with_reducible refine gr_drew ?_))); (first | done | fail "left"))) hge
              exact AllReadyH.nil
            exact AllReadyH.nil
          exact AllReadyH.nil
        exact AllReadyH.nil
      exact AllReadyH.nil
    exact AllReadyH.nil
  exact AllReadyH.nil
end Go.Proofs.Ytnegoaaddaofiaa
