/- Positions as a linked list; CheckHas in impl and in spec; hasInt. -/
import Derived.Test.YtjhkmgoephmbpaaCkS
namespace Go.Proofs.Ytjhkmgoephmbpaa
open Go.RowKit

/-- The pointer to the first of some nodes. -/
def ptrOf : List Nat → Value
  | [] => .pointer none
  | g :: _ => .pointer (some ⟨g, 0, none⟩)

/-- A linked list: the nodes lie in the blocks gs, one behind the other, and tell xs. -/
def Chain (w : World) : List Nat → List Int → Prop
  | [], [] => True
  | g :: gs, x :: xs => Full w g 48 #[.int .i64 x, ptrOf gs] ∧ Chain w gs xs
  | _, _ => False

theorem Chain.keep {w w' : World} {gs : List Nat} {xs : List Int} (h : Chain w gs xs) (hk : ∀ g ∈ gs, w'.heap[g]? = w.heap[g]?) : Chain w' gs xs := by
  induction gs generalizing xs with
  | nil => cases xs <;> exact h
  | cons g gs ih =>
    cases xs with
    | nil => exact h.elim
    | cons x xs => exact ⟨(hk g (List.mem_cons_self)).trans h.1, ih h.2 fun g' hg' => hk g' (List.mem_cons_of_mem _ hg')⟩
theorem Chain.lt {w : World} {gs : List Nat} {xs : List Int} (h : Chain w gs xs) : ∀ g ∈ gs, g < w.heap.size := by
  induction gs generalizing xs with
  | nil => simp
  | cons g gs ih =>
    cases xs with
    | nil => exact h.elim
    | cons x xs =>
      intro g' hg'
      rcases List.mem_cons.1 hg' with rfl | hg'
      · exact h.1.lt
      · exact ih h.2 g' hg'
theorem Chain.grown0 {w w' : World} {gs : List Nat} {xs : List Int} (h : Chain w gs xs) (hg : w.grownBy w' none) : Chain w' gs xs :=
  h.keep fun g hm => hg.block g (h.lt g hm) (by simp)
theorem Chain.drop {w : World} {gs : List Nat} {xs : List Int} (h : Chain w gs xs) (k : Nat) : Chain w (gs.drop k) (xs.drop k) := by
  induction k generalizing gs xs with
  | zero => exact h
  | succ k ih =>
    cases gs with
    | nil => cases xs with
      | nil => exact h
      | cons x xs => exact h.elim
    | cons g gs => cases xs with
      | nil => exact h.elim
      | cons x xs => exact ih h.2
theorem Chain.len {w : World} {gs : List Nat} {xs : List Int} (h : Chain w gs xs) : gs.length = xs.length := by
  induction gs generalizing xs with
  | nil => cases xs with
    | nil => rfl
    | cons x xs => exact h.elim
  | cons g gs ih => cases xs with
    | nil => exact h.elim
    | cons x xs => simp [ih h.2]
theorem ptrOf_pointer (gs : List Nat) : ∃ u, ptrOf gs = .pointer u := by cases gs <;> exact ⟨_, rfl⟩

/-- What placesOf leaves. -/
def PlacesEnds (w : World) (xs : List Int) (e : Ending) (w' : World) : Prop :=
  ∃ gs : List Nat, e = .returned (ptrOf gs) ∧ Chain w' gs xs ∧ gs.Nodup ∧ (∀ g ∈ gs, w.heap.size ≤ g) ∧ w.grownBy w' none

structure PoAt (w : World) (xs : List Int) (k : Nat) (gs : List Nat) (wr : World) : Prop where
  chain : Chain wr gs (xs.drop k)
  nodup : gs.Nodup
  new : ∀ g ∈ gs, w.heap.size ≤ g
  gr : w.grownBy wr none

set_option maxHeartbeats 1000000 in
theorem po_any (A : Option Addr) (c : Nat) (xs : List Int) (w : World) (h : Lies w A (ints xs)) (hc : xs.length ≤ c) (hm : c ≤ maxLen) :
    Calls Try.prog 32 #[.slice A xs.length c] w (PlacesEnds w xs) := by
  unfold maxLen at hm
  obtain ⟨n, hn⟩ : ∃ n, xs.length = n := ⟨_, rfl⟩
  rw [hn] at hc ⊢
  have HN := hid hn
  clear hn
  go_enter Try.func32, Try.ntmps32
  go_wp2_with fail
  go_loopw [3, 4] (fun v i wr => ∃ (k : Nat) (gs : List Nat), i = .int .i64 ((k : Int) - 1) ∧ v = ptrOf gs ∧ k ≤ n ∧ PoAt w xs k gs wr) (fun _ i _ => ((intOf i) + 1).toNat)
  case atStart => exact ⟨n, [], rfl, rfl, by omega, ⟨by rw [List.drop_of_length_le (by rw [HN.out]; omega)]; trivial, List.nodup_nil, by simp, gr_refl _ _⟩⟩
  case round =>
    obtain ⟨k, gs, rfl, rfl, hkn, hat⟩ := hrel
    obtain ⟨u, hu⟩ := ptrOf_pointer gs
    rw [hu]
    have HU := hid hu
    clear hu
    by_cases hlt : 1 ≤ k
    · have hkl : k - 1 < xs.length := by rw [HN.out]; omega
      obtain ⟨g, o, hA, hg, hcell⟩ := h.open_ (by rw [ints_len]; omega)
      obtain rfl := hA
      have cx := hat.gr.cell (intAt hcell hkl) (by simp)
      clear hcell
      obtain ⟨x, hx⟩ : ∃ x, xs[k - 1] = x := ⟨_, rfl⟩
      rw [hx] at cx
      have HX := hid hx
      clear hx
      have b3 : (0 : Int) ≤ (k : Int) - 1 := by omega
      have b4 : (k : Int) - 1 < (n : Int) := by omega
      have b5 : ((k : Int) - 1).toNat = k - 1 := by omega
      go_wp2_with fail
      go_roundw
      case rel =>
        refine ⟨k - 1, wr.heap.size :: gs, congrArg (Value.int .i64) (by omega), rfl, by omega, ?_, List.nodup_cons.2 ⟨fun hm => by have := hat.chain.lt _ hm; omega, hat.nodup⟩, ?_, gr_alloc hat.gr _⟩
        · have e : xs.drop (k - 1) = x :: xs.drop k := by
            rw [List.drop_eq_getElem_cons hkl, HX.out, show k - 1 + 1 = k by omega]
          rw [e]
          refine ⟨?_, hat.chain.grown0 (World.grownBy_alloc wr _ none)⟩
          rw [HU.out]
          exact Full.new _ _ _
        · intro g' hg'
          rcases List.mem_cons.1 hg' with rfl | hg'
          · exact hat.gr.size
          · exact hat.new g' hg'
      case measure => simp [intOf]; omega
    · obtain rfl : k = 0 := by omega
      have b0 : (0 : Int) - 1 < 0 := by omega
      go_wp2_with fail
      go_ret
      refine ⟨gs, ?_, hat.chain, hat.nodup, hat.new, hat.gr⟩
      rw [HU.out]
      rfl
theorem po_is (A : Option Addr) (n c : Nat) (xs : List Int) (w : World) (h : Lies w A (ints xs)) (hn : xs.length = n) (hc : n ≤ c) (hm : c ≤ maxLen) :
    Calls Try.prog 32 #[.slice A n c] w (PlacesEnds w xs) := by
  subst hn
  exact po_any A c xs w h hc hm

set_option maxHeartbeats 400000 in
theorem pv_is (n : Int) (b : Bool) (w : World) (h : inR n 0 99 = b) :
    Calls Try.prog 31 #[.int .i64 n] w fun e w' => e = .returned (.bool b) ∧ w = w' := by
  subst h
  have hA : n < 0 ∨ (0 ≤ n ∧ n ≤ 99) ∨ (0 ≤ n ∧ 99 < n) := by omega
  rcases hA with hA | ⟨hA, hB⟩ | ⟨hA, hB⟩
  · rw [inR_false (.inl hA)]
    go_enter Try.func31, Try.ntmps31
    go_wp2
    go_ret
    exact ⟨rfl, rfl⟩
  · rw [inR_true hA hB]
    go_enter Try.func31, Try.ntmps31
    go_wp2
    go_ret
    exact ⟨ret_bool (by simp <;> omega), rfl⟩
  · rw [inR_false (.inr hB)]
    go_enter Try.func31, Try.ntmps31
    go_wp2
    go_ret
    exact ⟨ret_bool (by simp <;> omega), rfl⟩

def hasB (d : Int) (xs : List Int) (x : Int) : Bool := decide (x ∈ xs) || decide (x < d)
def chB (d : Int) (xs : List Int) (x : Int) : Bool := ckB d xs && inR x 0 99 && hasB d xs x

/-- x is none of the first k. -/
def noneTo (xs : List Int) (x : Int) (k : Nat) : Prop := ∀ y ∈ xs.take k, y ≠ x
theorem noneTo_next {xs : List Int} {x : Int} {k : Nat} (h : noneTo xs x k) (hk : k < xs.length) (hx : xs[k] ≠ x) : noneTo xs x (k + 1) := by
  intro y hy
  rw [List.take_succ_eq_append_getElem hk] at hy
  rcases List.mem_append.1 hy with hy | hy
  · exact h y hy
  · simp at hy
    rw [hy]
    exact hx
theorem noneTo_all {xs : List Int} {x : Int} {k : Nat} (h : noneTo xs x k) (hk : xs.length ≤ k) : x ∉ xs := by
  intro hx
  exact h x (by rw [List.take_of_length_le hk]; exact hx) rfl
theorem hasB_in {d : Int} {xs : List Int} {x : Int} {k : Nat} (hk : k < xs.length) (hx : xs[k] = x) : hasB d xs x = true := by
  have : x ∈ xs := hx ▸ List.getElem_mem hk
  simp [hasB, this]
theorem hasB_out {d : Int} {xs : List Int} {x : Int} (h : x ∉ xs) : hasB d xs x = decide (x < d) := by simp [hasB, h]

set_option maxHeartbeats 1000000 in
theorem hi_any (A : Option Addr) (c : Nat) (xs : List Int) (x : Int) (w : World) (h : Lies w A (ints xs)) (hc : xs.length ≤ c) (hm : c ≤ maxLen) :
    Calls Try.prog 18 #[.slice A xs.length c, .int .i64 x] w fun e w' => e = .returned (.bool (decide (x ∈ xs))) ∧ w = w' := by
  unfold maxLen at hm
  obtain ⟨n, hn⟩ : ∃ n, xs.length = n := ⟨_, rfl⟩
  rw [hn] at hc ⊢
  have HN := hid hn
  clear hn
  go_enter Try.func18, Try.ntmps18
  go_wp2_with fail
  go_loop [5] (fun i => ∃ k : Nat, i = .int .i64 k ∧ k ≤ n ∧ noneTo xs x k) (fun i => n - (intOf i).toNat)
  case atStart => exact ⟨0, rfl, by omega, by intro y hy; simp at hy⟩
  case round =>
    obtain ⟨k, rfl, hkn, hno⟩ := hrel
    have HNo := hid hno
    clear hno
    by_cases hlt : k < n
    · have hkl : k < xs.length := by rw [HN.out]; omega
      obtain ⟨g, o, hA, hg, hcell⟩ := h.open_ (by rw [ints_len]; omega)
      obtain rfl := hA
      have cx := intAt hcell hkl
      clear hcell
      obtain ⟨y, hy⟩ : ∃ y, xs[k] = y := ⟨_, rfl⟩
      rw [hy] at cx
      have HY := hid hy
      clear hy
      rcases (by by_cases h : y = x; exact .inl h; exact .inr h : y = x ∨ y ≠ x) with he | he
      · have he' : (y == x) = true := by simp [he]
        have HE := hid (show decide (x ∈ xs) = true by simp; rw [← he, ← HY.out]; exact List.getElem_mem hkl)
        clear he
        go_wp2_with fail
        go_ret
        exact ⟨ret_bool HE.out.symm, rfl⟩
      · have he' : (y == x) = false := by simp [he]
        have HE := hid (noneTo_next HNo.out hkl (by rw [HY.out]; exact he))
        clear he
        go_wp2_with fail
        go_round
        case rel => exact ⟨k + 1, by go_num, by omega, HE.out⟩
        case measure => simp [intOf]; omega
    · have HE := hid (noneTo_all HNo.out (by rw [HN.out]; omega))
      go_wp2_with fail
      go_ret
      exact ⟨ret_bool (by simp [HE.out]), rfl⟩
theorem hi_is (A : Option Addr) (n c : Nat) (xs : List Int) (x : Int) (b : Bool) (w : World) (h : Lies w A (ints xs)) (hn : xs.length = n) (hc : n ≤ c) (hm : c ≤ maxLen) (hb : decide (x ∈ xs) = b) :
    Calls Try.prog 18 #[.slice A n c, .int .i64 x] w fun e w' => e = .returned (.bool b) ∧ w = w' := by
  subst hn hb
  exact hi_any A c xs x w h hc hm
end Go.Proofs.Ytjhkmgoephmbpaa
