/- A linked list of positions: a further one in its place, and the list read out. -/
import Derived.Test.YtjhkmgoephmbpaaMarkLaw
namespace Go.Proofs.Ytjhkmgoephmbpaa
open Go.RowKit

/-- Of what there was, only the blocks gs may differ. -/
structure Touch (w w' : World) (gs : List Nat) : Prop where
  os : w'.os = w.os
  tape : w'.tape = w.tape
  output : w'.output = w.output
  size : w.heap.size ≤ w'.heap.size
  block : ∀ b, b < w.heap.size → b ∉ gs → w'.heap[b]? = w.heap[b]?
theorem Touch.gr {a b c : World} {row : Option Nat} {gs : List Nat} (h : a.grownBy b row) (k : Touch b c gs) (hgs : ∀ g ∈ gs, a.heap.size ≤ g) : a.grownBy c row :=
  ⟨k.os.trans h.os, k.tape.trans h.tape, k.output.trans h.output, Nat.le_trans h.size k.size, fun i hi hne => (k.block i (Nat.lt_of_lt_of_le hi h.size) (fun hm => by have := hgs i hm; omega)).trans (h.block i hi hne)⟩

/-- What with leaves. -/
def WithEnds (w : World) (gs : List Nat) (xs : List Int) (x : Int) (e : Ending) (w' : World) : Prop :=
  ∃ gs' : List Nat, e = .returned (ptrOf gs') ∧ Chain w' gs' (insA x xs) ∧ gs'.Nodup ∧ (∀ b ∈ gs', b ∈ gs ∨ w.heap.size ≤ b) ∧ Touch w w' gs

set_option maxHeartbeats 1000000 in
theorem pw_any (x : Int) (xs : List Int) : ∀ (gs : List Nat) (w : World), Chain w gs xs → gs.Nodup →
    Calls Try.prog 34 #[ptrOf gs, .int .i64 x] w (WithEnds w gs xs x) := by
  induction xs with
  | nil =>
    intro gs w hc hnd
    cases gs with
    | cons g gs => exact hc.elim
    | nil =>
      clear hc hnd
      unfold ptrOf
      go_enter Try.func34, Try.ntmps34
      go_wp2_with fail
      go_ret
      exact ⟨[w.heap.size], rfl, ⟨Full.new _ _ _, trivial⟩, by simp, by simp, ⟨rfl, rfl, rfl, by simp, fun b hb _ => heap_alloc_old w _ hb⟩⟩
  | cons y ys ih =>
    intro gs w hc hnd
    cases gs with
    | nil => exact hc.elim
    | cons g gs =>
      obtain ⟨F, hch⟩ := hc
      obtain ⟨hng, hnd'⟩ := List.nodup_cons.1 hnd
      obtain ⟨u, hu⟩ := ptrOf_pointer gs
      have HU := hid hu
      have hih := ih gs w hch hnd'
      rw [hu] at hih
      have F0 := F
      rw [hu] at F
      have c0 := F.cellAt 0 rfl
      have c1 := F.cellAt 1 rfl
      have hlt := F.lt
      show Calls Try.prog 34 #[.pointer (some ⟨g, 0, none⟩), .int .i64 x] w _
      clear hu ih
      have HND := hid hnd
      have HNG := hid hng
      have HCH := hid hch
      clear hng hch hnd hnd'
      rcases (by omega : x < y ∨ y ≤ x) with q | q
      · clear hih
        have HI := hid (show insA x (y :: ys) = x :: y :: ys by rw [insA, if_pos q])
        go_enter Try.func34, Try.ntmps34
        go_wp2_with fail
        go_ret
        refine ⟨w.heap.size :: g :: gs, rfl, ?_, ?_, ?_, ⟨rfl, rfl, rfl, by simp, fun b hb _ => heap_alloc_old w _ hb⟩⟩
        · rw [HI.out]
          exact ⟨Full.new _ _ _, F0.alloc _, HCH.out.grown0 (World.grownBy_alloc w _ none)⟩
        · refine List.nodup_cons.2 ⟨fun hm => ?_, HND.out⟩
          rcases List.mem_cons.1 hm with e | hm
          · omega
          · have := HCH.out.lt _ hm
            omega
        · intro b hb
          rcases List.mem_cons.1 hb with rfl | hb
          · exact .inr (Nat.le_refl _)
          · exact .inl hb
      · have HI := hid (show insA x (y :: ys) = y :: insA x ys by rw [insA, if_neg (by omega)])
        go_enter Try.func34, Try.ntmps34
        go_wp2_with fail
        refine hih.mono ?_
        rintro e w1 ⟨gs1, rfl, hc1, hn1, hm1, ht⟩
        obtain ⟨v, hv⟩ := ptrOf_pointer gs1
        rw [hv]
        have HV := hid hv
        have F1 : Full w1 g 48 #[.int .i64 y, .pointer u] := (ht.block g hlt HNG.out).trans F
        have f1 := F1.free 1
        have d1 := F1.cellAt 1 rfl
        have HC1 := hid hc1
        clear hv hc1 hih
        go_wp2_with fail
        go_ret
        have hgn : g ∉ gs1 := fun hm => by
          rcases hm1 g hm with h | h
          · exact HNG.out h
          · omega
        refine ⟨g :: gs1, rfl, ?_, List.nodup_cons.2 ⟨hgn, hn1⟩, ?_, ?_⟩
        · rw [HI.out]
          refine ⟨?_, HC1.out.keep fun b hb => heap_setCell_other _ _ _ _ (fun e : b = g => hgn (e ▸ hb))⟩
          rw [HV.out]
          exact F1.set 1 _
        · intro b hb
          rcases List.mem_cons.1 hb with rfl | hb
          · exact .inl (by simp)
          · rcases hm1 b hb with h | h
            · exact .inl (by simp [h])
            · exact .inr h
        · refine ⟨ht.os, ht.tape, ht.output, by simpa [World.setCell] using ht.size, fun b hb hn => ?_⟩
          rw [heap_setCell_other _ _ _ _ (fun e : b = g => hn (by rw [e]; simp))]
          exact ht.block b hb (fun hm => hn (by simp [hm]))

structure PlAt (w : World) (xs : List Int) (k : Nat) (A : Option Addr) (c : Nat) (wr : World) : Prop where
  own : Own wr w.heap.size 3 1 A k c (ints (xs.take k))
  gr : w.grownBy wr none

set_option maxHeartbeats 1000000 in
theorem pl_any (gs : List Nat) (xs : List Int) (n : Nat) (w : World) (h : Chain w gs xs) (hnd : gs.Nodup) (hn : xs.length = n) (hn2 : n ≤ 100000) :
    Calls Try.prog 35 #[ptrOf gs] w fun e w' => ∃ A c, e = .returned (.slice A n c) ∧ Own w' w.heap.size 3 1 A n c (ints xs) ∧ w.grownBy w' none := by
  have HN := hid hn
  have HL := hid (h.len.trans hn)
  have HH := hid h
  have HD := hid hnd
  clear hn h hnd
  obtain ⟨u0, hu0⟩ := ptrOf_pointer gs
  have HU0 := hid hu0
  rw [hu0]
  clear hu0
  go_enter Try.func35, Try.ntmps35
  go_wp2_with fail
  go_loopw [0, 3] (fun p v wr => ∃ (k : Nat) (A : Option Addr) (c : Nat), p = ptrOf (gs.drop k) ∧ v = .slice A k c ∧ k ≤ n ∧ PlAt w xs k A c wr) (fun p _ _ => n - posOf gs p)
  case atStart => exact ⟨0, _, _, HU0.out.symm, rfl, by omega, ⟨by rw [List.take_zero]; exact Own.empty w (Nat.le_refl _), gr_alloc (gr_refl _ _) _⟩⟩
  case round =>
    obtain ⟨k, A, c, rfl, rfl, hkn, hat⟩ := hrel
    have HP := hid (posOf_drop HD.out (show k ≤ gs.length by rw [HL.out]; exact hkn))
    by_cases hlt : k < n
    · have hkl : k < xs.length := by rw [HN.out]; exact hlt
      have hkg : k < gs.length := by rw [HL.out]; exact hlt
      have HP2 := hid (posOf_drop HD.out (show k + 1 ≤ gs.length by rw [HL.out]; exact hlt))
      have hd := HH.out.drop k
      rw [List.drop_eq_getElem_cons hkl, List.drop_eq_getElem_cons hkg] at hd
      have HE := hid (List.drop_eq_getElem_cons hkg)
      obtain ⟨F, _⟩ := hd
      obtain ⟨x, hx⟩ : ∃ x, xs[k] = x := ⟨_, rfl⟩
      obtain ⟨g, hg⟩ : ∃ g, gs[k] = g := ⟨_, rfl⟩
      obtain ⟨u, hu⟩ := ptrOf_pointer (gs.drop (k + 1))
      rw [hx, hg, hu] at F
      have HT := hid (List.take_succ_eq_append_getElem hkl)
      have HX := hid hx
      have HU := hid hu
      have hp : ptrOf (gs.drop k) = .pointer (some ⟨g, 0, none⟩) := by rw [HE.out, ← hg]; rfl
      have HQ := hid hp
      rw [hp]
      clear hx hg hu hp
      have F1 := F.grown hat.gr (by simp)
      have c0 := F1.cellAt 0 rfl
      have O1 := hat.own
      have G1 := hat.gr
      go_wp2_with (at_builtin; refine wpList_push _ rfl _ _ 23 rfl w.heap.size 3 Try.underlying23 intInfo rfl (by omega) A k c (ints (xs.take k)) rfl (O1.alloc (.cells #[.int .i64 x] 3)) _ 1 #[.int .i64 x] rfl (Full.newAt (by simp)) rfl (by intro u hu; simp at hu; subst hu; rfl) (by omega) (by omega) (Nat.le_trans G1.size (World.grownBy_alloc _ _ none).size) ?_; intro A' c' wz hown hgz _; have Fz := (F1.alloc (.cells #[.int .i64 x] 3)).grown hgz (fun e => by have := (O1.block e.symm).1; have := F.lt; omega); have z1 := Fz.cellAt 1 rfl)
      have ST : PlAt w xs (k + 1) A' c' wz := by
        refine ⟨?_, gr_then (gr_alloc G1 _) hgz (fun b hb => .inr (O1.block hb).1)⟩
        rw [HT.out, ints_app, HX.out]
        exact hown
      clear hown hgz hat Fz
      go_wp2_with fail
      go_roundw
      case rel => exact ⟨k + 1, A', c', HU.out.symm, by go_num, by omega, ST⟩
      case measure => rw [← HU.out, ← HQ.out, HP2.out, HP.out]; omega
    · obtain rfl : k = n := by omega
      have hp : ptrOf (gs.drop k) = .pointer none := by rw [List.drop_of_length_le (by rw [HL.out]; omega)]; rfl
      rw [hp]
      clear hp
      go_wp2_with fail
      go_ret
      exact ⟨A, c, rfl, by have := hat.own; rwa [List.take_of_length_le (by rw [HN.out]; omega)] at this, hat.gr⟩
end Go.Proofs.Ytjhkmgoephmbpaa
