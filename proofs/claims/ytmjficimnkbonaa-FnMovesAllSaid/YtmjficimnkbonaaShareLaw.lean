/- The stripes of members: plain lemmas. -/
import Derived.Test.YtmjficimnkbonaaGrpMoves
namespace Go.Proofs.Ytmjficimnkbonaa
open Go.RowKit

/-- The stripes of the member at place j, of n. -/
def mods (s n j : Nat) : List Int := picks s fun t => decide (t % n = j)
theorem picks_congr {s : Nat} {p q : Nat → Bool} (h : ∀ t, t < s → p t = q t) : picks s p = picks s q := by
  unfold picks
  congr 1
  exact List.filter_congr fun t ht => h t (List.mem_range.1 ht)
theorem ascS_ne {l : List ByteArray} (h : ascS l) {j k : Nat} (hj : j < l.length) (hk : k < l.length) (he : l[j] = l[k]) : j = k := by
  rcases Nat.lt_trichotomy j k with q | q | q
  · have := ascS_at h q hk
    rw [he, sl_irrefl] at this
    cases this
  · exact q
  · have := ascS_at h q hj
    rw [he, sl_irrefl] at this
    cases this
theorem ownr_eq {s : Int} {ms : List ByteArray} (h : grpB s ms = true) {t j : Nat} (hj : j < ms.length) : decide (ownr ms t = ms[j]) = decide (t % ms.length = j) := by
  obtain ⟨_, ⟨h1, _⟩, _, h3⟩ := grpB_iff.1 h
  have hm : t % ms.length < ms.length := Nat.mod_lt _ (by omega)
  rw [ownr_at (j := t % ms.length) rfl hm]
  exact decide_eq_decide.2 ⟨fun e => ascS_ne h3 hm hj e, fun e => by subst e; rfl⟩
theorem share_at {s : Int} {ms : List ByteArray} (h : grpB s ms = true) {j : Nat} (hj : j < ms.length) : shareOf s ms ms[j] = mods s.toNat ms.length j := by
  rw [shareOf_yes h]
  exact picks_congr fun t _ => ownr_eq h hj
theorem share_any {s : Int} {ms : List ByteArray} (h : grpB s ms = true) (m : ByteArray) : shareOf s ms m = [] ∨ ∃ j, j < ms.length ∧ shareOf s ms m = mods s.toNat ms.length j := by
  by_cases hm : m ∈ ms
  · obtain ⟨j, hj, rfl⟩ := List.mem_iff_getElem.1 hm
    exact .inr ⟨j, hj, share_at h hj⟩
  · left
    obtain ⟨_, ⟨h1, _⟩, _, _⟩ := grpB_iff.1 h
    rw [shareOf_yes h, picks, List.filter_eq_nil_iff.2, List.map_nil]
    intro t _
    have ht : t % ms.length < ms.length := Nat.mod_lt _ (by omega)
    simp only [decide_eq_true_eq]
    rw [ownr_at (j := t % ms.length) rfl ht]
    exact fun e => hm (by rw [← e]; exact List.getElem_mem ht)
theorem mods_mem {s n j : Nat} {x : Int} (h : x ∈ mods s n j) : ∃ t : Nat, x = (t : Int) ∧ t < s ∧ t % n = j := by
  obtain ⟨t, ht, rfl⟩ := List.mem_map.1 h
  obtain ⟨h1, h2⟩ := List.mem_filter.1 ht
  exact ⟨t, rfl, List.mem_range.1 h1, by simpa using h2⟩

/- Order. -/
def stepsB (n : Int) : List Int → Bool
  | [] => true
  | [_] => true
  | x :: y :: r => decide (y - x = n) && stepsB n (y :: r)
theorem steps_at {n : Int} {l : List Int} (h : stepsB n l = true) (i : Nat) (hi : i + 1 < l.length) : l[i + 1] - l[i] = n := by
  induction l generalizing i with
  | nil => simp at hi
  | cons x l ih =>
    cases l with
    | nil => simp at hi
    | cons y r =>
      simp only [stepsB, Bool.and_eq_true, decide_eq_true_eq] at h
      cases i with
      | zero => exact h.1
      | succ i => exact ih h.2 i (by simpa using hi)
def headB (n : Int) : List Int → Bool
  | [] => true
  | x :: _ => decide (0 ≤ x ∧ x < n)
theorem head_of {n : Int} {l : List Int} (h : headB n l = true) (h0 : 0 < l.length) : 0 ≤ l[0] ∧ l[0] < n := by
  cases l with
  | nil => simp at h0
  | cons x r => simpa [headB] using h
def orderB (s n j : Nat) : Bool := stepsB (n : Int) (mods s n j) && headB (n : Int) (mods s n j)
theorem order_all : ∀ s, s < 9 → ∀ n, n < 7 → ∀ j, j < n → orderB s n j = true := by decide +kernel
/-- The stripes of a member ascend by the number of members. -/
theorem share_order {s : Int} {ms : List ByteArray} {m : ByteArray} (h : grpB s ms = true) : stepsB (ms.length : Int) (shareOf s ms m) = true ∧ ∀ (h0 : 0 < (shareOf s ms m).length), 0 ≤ (shareOf s ms m)[0] ∧ (shareOf s ms m)[0] < (ms.length : Int) := by
  obtain ⟨⟨h1, h2⟩, ⟨h3, h4⟩, _⟩ := grpB_iff.1 h
  rcases share_any h m with e | ⟨j, hj, e⟩
  · simp only [e]
    exact ⟨rfl, fun h0 => by simp at h0⟩
  · simp only [e]
    have := order_all s.toNat (by omega) ms.length (by omega) j hj
    simp only [orderB, Bool.and_eq_true] at this
    exact ⟨this.1, fun h0 => head_of this.2 h0⟩

/- How many. -/
def lows (s n : Nat) : Nat → Nat
  | 0 => s
  | i + 1 => min (lows s n i) (mods s n i).length
def highs (s n : Nat) : Nat → Nat
  | 0 => 0
  | i + 1 => max (highs s n i) (mods s n i).length
theorem even_all : ∀ s, s < 9 → ∀ n, n < 7 → (∀ j, j < n → (mods s n j).length ≤ highs s n n) ∧ (0 < n → highs s n n ≤ lows s n n + 1) := by decide +kernel
theorem highs_le (s n i : Nat) : highs s n i ≤ s := by
  induction i with
  | zero => exact Nat.zero_le _
  | succ i ih => exact Nat.max_le.2 ⟨ih, picks_len s _⟩
theorem lows_le (s n i : Nat) : lows s n i ≤ s := by
  induction i with
  | zero => exact Nat.le_refl _
  | succ i ih => exact Nat.le_trans (Nat.min_le_left _ _) ih
theorem share_even {s : Int} {ms : List ByteArray} {m : ByteArray} (h : grpB s ms = true) : highs s.toNat ms.length ms.length ≤ lows s.toNat ms.length ms.length + 1 ∧ (shareOf s ms m).length ≤ highs s.toNat ms.length ms.length := by
  obtain ⟨⟨h1, h2⟩, ⟨h3, h4⟩, _⟩ := grpB_iff.1 h
  obtain ⟨a, b⟩ := even_all s.toNat (by omega) ms.length (by omega)
  refine ⟨b (by omega), ?_⟩
  rcases share_any h m with e | ⟨j, hj, e⟩
  · rw [e]; exact Nat.zero_le _
  · rw [e]; exact a j hj

/- Each stripe is of one member. -/
def bump (l : List Int) (x : Int) : List Int := l.set x.toNat (l.getD x.toNat 0 + 1)
def bumps (l : List Int) (xs : List Int) : List Int := xs.foldl bump l
theorem bumps_next {l xs : List Int} {k : Nat} (hk : k < xs.length) : bumps l (xs.take (k + 1)) = bump (bumps l (xs.take k)) xs[k] := by
  unfold bumps
  rw [List.take_succ_eq_append_getElem hk, List.foldl_append]
  rfl
theorem bumps_len (l xs : List Int) : (bumps l xs).length = l.length := by
  unfold bumps
  induction xs generalizing l with
  | nil => rfl
  | cons x xs ih => rw [List.foldl_cons, ih, bump, List.length_set]
def cnts (s n i : Nat) : List Int := (List.range s).map fun t => if t % n < i then 1 else 0
def many (s n : Nat) : Nat → Nat
  | 0 => 0
  | i + 1 => many s n i + (mods s n i).length
theorem cnts_len (s n i : Nat) : (cnts s n i).length = s := by simp [cnts]
theorem cnts_zero (s n : Nat) : cnts s n 0 = List.replicate s 0 := by
  simp [cnts, List.map_const']
def bumpsB (s n i : Nat) : Bool := (bumps (cnts s n i) (mods s n i) == cnts s n (i + 1)) && (List.range (s + 1)).all fun k => (bumps (cnts s n i) ((mods s n i).take k)).all fun x => decide (0 ≤ x ∧ x ≤ 1)
theorem bumps_allB : ∀ s, s < 9 → ∀ n, n < 7 → ∀ i, i < n → bumpsB s n i = true := by decide +kernel
theorem bumps_all (s : Nat) (hs : s < 9) (n : Nat) (hn : n < 7) (i : Nat) (hi : i < n) : bumps (cnts s n i) (mods s n i) = cnts s n (i + 1) ∧ ∀ k, k < s + 1 → ∀ x ∈ bumps (cnts s n i) ((mods s n i).take k), 0 ≤ x ∧ x ≤ 1 := by
  have h := bumps_allB s hs n hn i hi
  simp only [bumpsB, Bool.and_eq_true, List.all_eq_true, beq_iff_eq, decide_eq_true_eq] at h
  exact ⟨h.1, fun k hk => h.2 k (List.mem_range.2 hk)⟩
theorem many_all : ∀ s, s < 9 → ∀ n, n < 7 → 0 < n → many s n n = s ∧ cnts s n n = List.replicate s 1 := by decide +kernel
theorem many_le (s n : Nat) (i : Nat) : many s n i ≤ i * s := by
  induction i with
  | zero => exact Nat.zero_le _
  | succ i ih =>
    have := picks_len s (fun t => decide (t % n = i))
    rw [many, mods, Nat.add_mul]
    omega
theorem share_len {s : Int} {ms : List ByteArray} {m : ByteArray} (h : grpB s ms = true) : ((shareOf s ms m).length : Int) ≤ s := by
  obtain ⟨⟨h1, h2⟩, _⟩ := grpB_iff.1 h
  have := picks_len s.toNat (fun i => decide (ownr ms i = m))
  rw [shareOf_yes h]
  omega

/- What moves. -/
def diff (ms ns : List ByteArray) (t : Nat) : Bool := decide (ownr ms t ≠ ownr ns t)
def cntD (D : Nat → Bool) (xs : List Int) : Nat := xs.countP fun x => D x.toNat
theorem cntD_next {D : Nat → Bool} {xs : List Int} {k : Nat} (hk : k < xs.length) : cntD D (xs.take (k + 1)) = cntD D (xs.take k) + if D xs[k].toNat = true then 1 else 0 := by
  unfold cntD
  rw [List.take_succ_eq_append_getElem hk, List.countP_append, List.countP_singleton]
theorem cntD_le (D : Nat → Bool) (xs : List Int) : cntD D xs ≤ xs.length := List.countP_le_length
def movesTo (D : Nat → Bool) (s n : Nat) : Nat → Nat
  | 0 => 0
  | i + 1 => movesTo D s n i + cntD D (mods s n i)
theorem cntD_picks (D p : Nat → Bool) (s : Nat) : cntD D (picks s p) = (List.range s).countP fun t => p t && D t := by
  unfold cntD picks
  rw [List.countP_map, List.countP_filter]
  refine List.countP_congr fun t _ => ?_
  simp [Bool.and_comm, and_comm]
theorem countP_two (l : List Nat) (p q : Nat → Bool) (h : ∀ t ∈ l, p t = true → q t = true → False) : l.countP p + l.countP q = l.countP fun t => p t || q t := by
  induction l with
  | nil => rfl
  | cons x l ih =>
    have h1 := ih fun t ht => h t (List.mem_cons_of_mem _ ht)
    have h2 := h x (by simp)
    simp only [List.countP_cons]
    cases hp : p x <;> cases hq : q x <;> simp_all <;> omega
theorem movesTo_eq (D : Nat → Bool) (s n i : Nat) : movesTo D s n i = (List.range s).countP fun t => decide (t % n < i) && D t := by
  induction i with
  | zero => simp [movesTo]
  | succ i ih =>
    rw [movesTo, ih, mods, cntD_picks, countP_two]
    · refine List.countP_congr fun t _ => ?_
      cases D t <;> simp
      omega
    · intro t _ h1 h2
      simp at h1 h2
      omega
theorem moves_all {s r : Int} {ms ns : List ByteArray} (h : grpB s ms = true) (h' : grpB r ns = true) (e : s = r) : ((movesTo (diff ms ns) s.toNat ms.length ms.length : Nat) : Int) = movesOf s ms r ns := by
  obtain ⟨_, ⟨h1, _⟩, _⟩ := grpB_iff.1 h
  rw [movesOf_yes h h' e, movesTo_eq]
  congr 1
  rw [picks, List.length_map, ← List.countP_eq_length_filter]
  refine List.countP_congr fun t _ => ?_
  have : t % ms.length < ms.length := Nat.mod_lt _ (by omega)
  simp [this, diff]
/-- A stripe of a member is not the member's in another group if and only if it moves. -/
theorem moves_one {s r : Int} {ms ns : List ByteArray} (h : grpB s ms = true) (h' : grpB r ns = true) (e : s = r) {i : Nat} (hi : i < ms.length) {x : Int} (hx : x ∈ mods s.toNat ms.length i) :
    decide (x ∈ shareOf r ns ms[i]) = !diff ms ns x.toNat := by
  obtain ⟨t, rfl, ht, hti⟩ := mods_mem hx
  rw [Int.toNat_natCast, shareOf_yes h']
  have ho : ownr ms t = ms[i] := ownr_at hti hi
  unfold diff
  rw [ho]
  rw [Bool.eq_iff_iff]
  simp only [decide_eq_true_eq, Bool.not_eq_true', decide_eq_false_iff_not, Classical.not_not, ne_eq]
  constructor
  · intro hm
    obtain ⟨u, hu, he⟩ := List.mem_map.1 hm
    have : u = t := by omega
    subst this
    have := (List.mem_filter.1 hu).2
    exact (of_decide_eq_true this).symm
  · intro q
    exact List.mem_map.2 ⟨t, List.mem_filter.2 ⟨List.mem_range.2 (by omega), decide_eq_true q.symm⟩, rfl⟩
end Go.Proofs.Ytmjficimnkbonaa
