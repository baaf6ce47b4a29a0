/- Words for memory that the walks of this seat share: a slice that reads as a list of cells, a block known whole, the reader of the drawn code. Plain lemmas, no program in sight. -/
import Derived.WalkKit
import Derived.Deep.Draws
namespace Go.Proofs.YtnjbpeojadbclaaDoor
open Go.RowKit

/-- The cells xs lie behind the address A, one behind the other. -/
def Lies (w : World) (A : Option Addr) (xs : List Value) : Prop :=
  xs = [] ∨ ∃ g o, A = some ⟨g, o, none⟩ ∧ ∀ j u, xs[j]? = some u → w.cell? ⟨g, o + j, none⟩ = some u

/-- The block of an address, if it has one. -/
def blockOf : Option Addr → Option Nat
  | some a => some a.block
  | none => none

section
variable {w w' : World} {A : Option Addr} {xs : List Value}

theorem Lies.nil : Lies w A [] := .inl rfl

theorem Lies.open_ (h : Lies w A xs) (hn : 0 < xs.length) : ∃ g o, A = some ⟨g, o, none⟩ ∧ g < w.heap.size ∧ ∀ j u, xs[j]? = some u → w.cell? ⟨g, o + j, none⟩ = some u := by
  rcases h with rfl | ⟨g, o, hA, hc⟩
  · simp at hn
  · have h0 := hc 0 _ (List.getElem?_eq_getElem hn)
    have hg := World.block_lt_of_cell? w _ h0
    exact ⟨g, o, hA, hg, hc⟩

theorem Lies.keep (h : Lies w A xs) (hk : ∀ g o u, A = some ⟨g, o, none⟩ → g < w.heap.size → ∀ j, w.cell? ⟨g, o + j, none⟩ = some u → w'.cell? ⟨g, o + j, none⟩ = some u) : Lies w' A xs := by
  rcases h with rfl | ⟨g, o, hA, hc⟩
  · exact .inl rfl
  · refine .inr ⟨g, o, hA, fun j u hu => ?_⟩
    have h0 := hc j u hu
    exact hk g o u hA (World.block_lt_of_cell? w _ h0) j h0

theorem Lies.below (h : Lies w A xs) {B : Nat} (hb : Below B w w') (hB : w.heap.size ≤ B) : Lies w' A xs :=
  h.keep fun g o _ _ hg j hc => (hb.cell (p := ⟨g, o + j, none⟩) (Nat.lt_of_lt_of_le hg hB)).trans hc

theorem Lies.belowAt (h : Lies w A xs) {B : Nat} (hb : Below B w w') (hB : ∀ g, blockOf A = some g → g < B) : Lies w' A xs :=
  h.keep fun g o _ hA _ j hc => (hb.cell (p := ⟨g, o + j, none⟩) (hB g (by rw [hA]; rfl))).trans hc

theorem Lies.grown (h : Lies w A xs) {row : Option Nat} (hg : w.grownBy w' row) (hne : ∀ g, blockOf A = some g → some g ≠ row) : Lies w' A xs :=
  h.keep fun g o _ hA _ j hc => hg.cell (a := ⟨g, o + j, none⟩) hc (hne g (by rw [hA]; rfl))

theorem Lies.grown0 (h : Lies w A xs) (hg : w.grownBy w' none) : Lies w' A xs := h.grown hg (fun _ _ => by simp)

theorem Lies.alloc (h : Lies w A xs) (o : Obj) : Lies (w.alloc o) A xs :=
  h.grown0 (World.grownBy_alloc w o none)

theorem Lies.drew (h : Lies w A xs) : Lies w.drew A xs := h
theorem Lies.drewN (h : Lies w A xs) (n : Nat) : Lies (w.drewN n) A xs := h

theorem Lies.setCell (h : Lies w A xs) {p : Addr} (hp : ∀ g, blockOf A = some g → g ≠ p.block) (u : Value) : Lies (w.setCell p u) A xs :=
  h.keep fun g o v hA _ j hc => (World.cell?_setCell_other w p ⟨g, o + j, none⟩ u (fun e => hp g (by rw [hA]; rfl) (by rw [e]))).trans hc

theorem Lies.take (h : Lies w A xs) (k : Nat) : Lies w A (xs.take k) := by
  rcases h with rfl | ⟨g, o, hA, hc⟩
  · exact .inl (by simp)
  · refine .inr ⟨g, o, hA, fun j u hu => hc j u ?_⟩
    rw [List.getElem?_take] at hu
    split at hu
    · exact hu
    · cases hu

/-- A cut 's[k:]' as the model writes its address. -/
theorem Lies.cut (h : Lies w A xs) {k cap : Nat} (hk : xs.length ≤ cap) : Lies w (if cap = k then A else A.map (·.add k)) (xs.drop k) := by
  by_cases hc : cap = k
  · exact .inl (by rw [List.drop_eq_nil_iff]; omega)
  · rw [if_neg hc]
    rcases h with rfl | ⟨g, o, hA, hcell⟩
    · exact .inl (by simp)
    · refine .inr ⟨g, o + k, ?_, fun j u hu => ?_⟩
      · rw [hA]
        simp only [Option.map_some, Addr.add]
        split
        · subst_vars; simp
        · rfl
      · rw [List.getElem?_drop] at hu
        have := hcell _ u hu
        rwa [← Nat.add_assoc] at this

theorem Lies.of_own {base : Nat} {e : TypeId} {size n c : Nat} (h : w.ownsRow base e size (.slice A n c) n xs) : Lies w A xs := by
  by_cases hn : xs = []
  · exact .inl hn
  · have hlen := h.1
    have hpos : 0 < n := by
      rcases Nat.eq_zero_or_pos n with h0 | h0
      · subst h0
        exact absurd (List.eq_nil_of_length_eq_zero (by simpa using hlen)) hn
      · exact h0
    rcases h.2 with ⟨hv, _⟩ | ⟨g, cap, cur, hv, _, _, _, _, _, _⟩
    · injection hv with h1 h2
      omega
    · have hA : A = some ⟨g, 0, none⟩ := by injection hv
      refine .inr ⟨g, 0, hA, fun j u hu => ?_⟩
      have := h.cells (g := g) (by rw [hA]; rfl) j u hu
      have hadd : (⟨g, 0, none⟩ : Addr).add j = ⟨g, 0 + j, none⟩ := by unfold Addr.add; split <;> simp_all
      rwa [hadd] at this
end

/-- Block g is wholly the cells cs of element type t, none of them frozen. -/
def Full (w : World) (g : Nat) (t : TypeId) (cs : Array Value) : Prop := w.heap[g]? = some (.cells cs t (0, 0))

section
variable {w w' : World} {g : Nat} {t : TypeId} {cs : Array Value}
theorem Full.lt (h : Full w g t cs) : g < w.heap.size := by
  unfold Full at h
  exact (Array.getElem?_eq_some_iff.1 h).1
theorem Full.cell (h : Full w g t cs) (i : Nat) : w.cell? ⟨g, i, none⟩ = cs[i]? := cell_of_row w g i cs t (0, 0) h
theorem Full.cellAt (h : Full w g t cs) (i : Nat) {v : Value} (hv : cs[i]? = some v) : w.cell? ⟨g, i, none⟩ = some v := (h.cell i).trans hv
theorem Full.free (h : Full w g t cs) (i : Nat) : w.frozen? ⟨g, i, none⟩ = false := frozen_of_row w g i cs t h
theorem Full.new (w : World) (t : TypeId) (cs : Array Value) : Full (w.alloc (.cells cs t)) w.heap.size t cs := heap_alloc_new w _
theorem Full.newAt {w : World} {t : TypeId} {cs : Array Value} {H : Nat} (h : w.heap.size = H) : Full (w.alloc (.cells cs t)) H t cs := h ▸ Full.new w t cs
theorem Full.drew (h : Full w g t cs) : Full w.drew g t cs := h
theorem Full.drewN (h : Full w g t cs) (n : Nat) : Full (w.drewN n) g t cs := h
theorem Full.alloc (h : Full w g t cs) (o : Obj) : Full (w.alloc o) g t cs := (heap_alloc_old w o h.lt).trans h
theorem Full.set (h : Full w g t cs) (i : Nat) (u : Value) : Full (w.setCell ⟨g, i, none⟩ u) g t (cs.setIfInBounds i u) :=
  heap_setCell_same w g i cs t u h
theorem Full.far (h : Full w g t cs) {p : Addr} (hp : g ≠ p.block) (u : Value) : Full (w.setCell p u) g t cs := (heap_setCell_other w p g u hp).trans h
theorem Full.below {B : Nat} (h : Full w g t cs) (hb : Below B w w') (hg : g < B) : Full w' g t cs := (hb.block g hg).trans h
theorem Full.grown {row : Option Nat} (h : Full w g t cs) (hb : w.grownBy w' row) (hg : some g ≠ row) : Full w' g t cs := (hb.block g h.lt hg).trans h
/-- Blocks of different element types are two. -/
theorem Full.ne {g' : Nat} {t' : TypeId} {cs' : Array Value} (h : Full w g t cs) (h' : Full w g' t' cs') (hne : t ≠ t') : g ≠ g' := by
  rintro rfl
  unfold Full at h h'
  rw [h] at h'
  injection h' with h'
  injection h' with _ ht
  exact hne ht
theorem own_ne_full {base : Nat} {e : TypeId} {size n : Nat} {v : Value} {xs : List Value} (h : w.ownsRow base e size v n xs) (hg : Full w g t cs) (hne : e ≠ t) : v.ownBlock = none ∨ v.ownBlock ≠ some g := by
  rcases h.2 with ⟨rfl, _⟩ | ⟨g', cap, cur, rfl, _, hh, _⟩
  · exact .inl rfl
  · refine .inr fun he => ?_
    have : g' = g := by simpa [Value.ownBlock] using he
    subst this
    exact Full.ne (t := e) hh hg hne rfl
end

section
variable {w : World} {g : Nat} {t : TypeId}
/-- An element of a literal of ints. -/
theorem Full.intAt {l : List Int} (h : Full w g t (l.map (Value.int .i64)).toArray) {k : Nat} (hk : k < l.length) : ∃ x, x ∈ l ∧ w.cell? ⟨g, k, none⟩ = some (.int .i64 x) :=
  ⟨l[k], List.getElem_mem _, h.cellAt k (by simp [hk])⟩
theorem Full.strAt {l : List ByteArray} (h : Full w g t (l.map Value.string).toArray) {k : Nat} (hk : k < l.length) : ∃ x, x ∈ l ∧ w.cell? ⟨g, k, none⟩ = some (.string x) :=
  ⟨l[k], List.getElem_mem _, h.cellAt k (by simp [hk])⟩
end

/- What a step leaves of the world before it: only block 'row', and what is new, may differ. -/
section
variable {a b c w : World} {row : Option Nat}
theorem gr_refl (w : World) (row : Option Nat) : w.grownBy w row := ⟨rfl, rfl, rfl, Nat.le_refl _, fun _ _ _ => rfl⟩
theorem gr_trans (h : a.grownBy b row) (k : b.grownBy c row) : a.grownBy c row :=
  ⟨k.os.trans h.os, k.tape.trans h.tape, k.output.trans h.output, Nat.le_trans h.size k.size, fun i hi hn => (k.block i (Nat.lt_of_lt_of_le hi h.size) hn).trans (h.block i hi hn)⟩
theorem gr_drew (h : a.grownBy w row) : a.grownBy w.drew row := ⟨h.os, h.tape, h.output, h.size, h.block⟩
theorem gr_drewN (h : a.grownBy w row) (n : Nat) : a.grownBy (w.drewN n) row := ⟨h.os, h.tape, h.output, h.size, h.block⟩
theorem gr_alloc (h : a.grownBy w row) (o : Obj) : a.grownBy (w.alloc o) row := gr_trans h (World.grownBy_alloc w o row)
theorem gr_set {p : Addr} (h : a.grownBy w row) (hp : some p.block = row ∨ a.heap.size ≤ p.block) (u : Value) : a.grownBy (w.setCell p u) row :=
  ⟨h.os, h.tape, h.output, by simpa [World.setCell] using h.size, fun i hi hne => (heap_setCell_other w p i u (by
    rintro rfl
    rcases hp with hp | hp
    · exact hne hp
    · omega)).trans (h.block i hi hne)⟩
theorem gr_put {b i : Nat} (h : a.grownBy w row) (hb : a.heap.size ≤ b) (u : Value) : a.grownBy (w.setCell ⟨b, i, none⟩ u) row := gr_set h (.inr hb) u
/-- A step that may write 'r', which is new since a, or is 'row'. -/
theorem gr_then {r : Option Nat} (h : a.grownBy b row) (k : b.grownBy c r) (hr : ∀ g, r = some g → some g = row ∨ a.heap.size ≤ g) : a.grownBy c row :=
  ⟨k.os.trans h.os, k.tape.trans h.tape, k.output.trans h.output, Nat.le_trans h.size k.size, fun i hi hne => (k.block i (Nat.lt_of_lt_of_le hi h.size) (fun e => by
    rcases hr i e.symm with e' | e'
    · exact hne e'
    · omega)).trans (h.block i hi hne)⟩
/-- The same, for a block that is new since a. -/
theorem gr_new {g : Nat} (h : a.grownBy b row) (k : b.grownBy c (some g)) (hg : a.heap.size ≤ g) : a.grownBy c row :=
  gr_then h k (fun _ e => by injection e with e; subst e; exact .inr hg)
theorem gr_0 (h : a.grownBy b row) (k : b.grownBy c none) : a.grownBy c row := gr_then h k (fun _ e => by cases e)
theorem gr_below (h : a.grownBy w none) : Below a.heap.size a w := ⟨h.os, h.tape, h.output, h.size, fun k hk => h.block k hk (by simp)⟩
theorem gr_of_below (h : Below a.heap.size a w) (row : Option Nat) : a.grownBy w row := ⟨h.os, h.tape, h.output, h.size, fun k hk _ => h.block k hk⟩
/-- The block that was written was made behind a. -/
theorem gr_drop {g : Nat} (h : a.grownBy w (some g)) {B : Nat} (hB : B ≤ a.heap.size) (hg : B ≤ g) : Below B a w :=
  ⟨h.os, h.tape, h.output, h.size, fun k hk => h.block k (by omega) (by simp; omega)⟩
end

/-- The cells xs lie behind A, in a block below B. -/
def LiesB (w : World) (B : Nat) (A : Option Addr) (xs : List Value) : Prop :=
  xs = [] ∨ ∃ g o, A = some ⟨g, o, none⟩ ∧ g < B ∧ ∀ j u, xs[j]? = some u → w.cell? ⟨g, o + j, none⟩ = some u

section
variable {w w' : World} {B : Nat} {A : Option Addr} {xs : List Value}
theorem LiesB.open_ (h : LiesB w B A xs) (hn : 0 < xs.length) : ∃ g o, A = some ⟨g, o, none⟩ ∧ g < B ∧ ∀ j u, xs[j]? = some u → w.cell? ⟨g, o + j, none⟩ = some u := by
  rcases h with rfl | h
  · simp at hn
  · exact h
theorem LiesB.keep (h : LiesB w B A xs) (hk : ∀ g, g < B → ∀ j u, w.cell? ⟨g, j, none⟩ = some u → w'.cell? ⟨g, j, none⟩ = some u) : LiesB w' B A xs := by
  rcases h with rfl | ⟨g, o, hA, hg, hc⟩
  · exact .inl rfl
  · exact .inr ⟨g, o, hA, hg, fun j u hu => hk g hg _ u (hc j u hu)⟩
theorem LiesB.below (h : LiesB w B A xs) (hb : Below B w w') : LiesB w' B A xs := h.keep fun g hg j _ hc => (hb.cell (p := ⟨g, j, none⟩) hg).trans hc
theorem LiesB.take (h : LiesB w B A xs) (k : Nat) : LiesB w B A (xs.take k) := by
  rcases h with rfl | ⟨g, o, hA, hg, hc⟩
  · exact .inl (by simp)
  · refine .inr ⟨g, o, hA, hg, fun j u hu => hc j u ?_⟩
    rw [List.getElem?_take] at hu
    split at hu
    · exact hu
    · cases hu
end

/-- The code that a law is handed: a slice of bytes. -/
structure Code (w : World) (A : Option Addr) (n c : Nat) (zs : List Int) : Prop where
  lies : LiesB w w.heap.size A (zs.map (Value.int .u8))
  len : zs.length = n
  cap : n ≤ c
  max : c ≤ maxLen
  byte : ∀ z ∈ zs, 0 ≤ z ∧ z ≤ 255

theorem Code.grown {w w' : World} {A : Option Addr} {n c : Nat} {zs : List Int} (h : Code w A n c zs) (hg : w.grownBy w' none) : Code w' A n c zs :=
  ⟨by
    rcases h.lies with h1 | ⟨g, o, hA, hlt, hc⟩
    · exact .inl h1
    · exact .inr ⟨g, o, hA, Nat.lt_of_lt_of_le hlt hg.size, fun j u hu => hg.cell (a := ⟨g, o + j, none⟩) (hc j u hu) (by simp)⟩, h.len, h.cap, h.max, h.byte⟩

/-- The reader of the drawn code lies in block g: its struct's number is T; the bytes lie below block B; m more numbers may be picked. -/
def Rd (T : TypeId) (w : World) (B g m : Nat) : Prop :=
  ∃ (A : Option Addr) (n c : Nat) (zs : List Int) (p : Nat), Full w g T #[.slice A n c, .int .i64 (p : Int)] ∧ LiesB w B A (zs.map (Value.int .u8)) ∧ B ≤ g ∧
    zs.length = n ∧ n ≤ 2000 ∧ (∀ z ∈ zs, 0 ≤ z ∧ z ≤ 255) ∧ p + m ≤ 100000

section
variable {T : TypeId} {w w' : World} {B g m : Nat}
theorem Rd.less (h : Rd T w B g m) {k : Nat} (hk : k ≤ m) : Rd T w B g k := by
  obtain ⟨A, n, c, zs, p, h1, h2, h4, h5, h6, h7, h8⟩ := h
  exact ⟨A, n, c, zs, p, h1, h2, h4, h5, h6, h7, by omega⟩
theorem Rd.lt (h : Rd T w B g m) : g < w.heap.size := by
  obtain ⟨A, n, c, zs, p, h1, _⟩ := h
  exact h1.lt
theorem Rd.ge (h : Rd T w B g m) : B ≤ g := by
  obtain ⟨A, n, c, zs, p, _, _, h4, _⟩ := h
  exact h4
theorem Rd.full (h : Rd T w B g m) : ∃ cs, Full w g T cs := by
  obtain ⟨A, n, c, zs, p, h1, _⟩ := h
  exact ⟨_, h1⟩
theorem Rd.grown (h : Rd T w B g m) {row : Option Nat} (hg : w.grownBy w' row) (hr : ∀ b, row = some b → b ≠ g ∧ B ≤ b) : Rd T w' B g m := by
  obtain ⟨A, n, c, zs, p, h1, h2, h4, h5⟩ := h
  refine ⟨A, n, c, zs, p, h1.grown hg (fun e => (hr g e.symm).1 rfl), h2.keep (fun b hb j u hc => hg.cell (a := ⟨b, j, none⟩) hc (fun e => ?_)), h4, h5⟩
  have := (hr b e.symm).2
  omega
theorem Rd.alloc (h : Rd T w B g m) (o : Obj) : Rd T (w.alloc o) B g m := h.grown (World.grownBy_alloc w o none) (by simp)
theorem Rd.drew (h : Rd T w B g m) : Rd T w.drew B g m := h
theorem Rd.drewN (h : Rd T w B g m) (n : Nat) : Rd T (w.drewN n) B g m := h
theorem Rd.below (h : Rd T w B g m) (hb : Below w.heap.size w w') : Rd T w' B g m := h.grown (gr_of_below hb none) (by simp)
theorem Rd.far (h : Rd T w B g m) {p : Addr} (hp : p.block ≠ g) (hB : B ≤ p.block) (u : Value) : Rd T (w.setCell p u) B g m :=
  h.grown (row := some p.block) (gr_set (gr_refl w _) (.inl rfl) u) (by rintro b hb; injection hb with hb; subst hb; exact ⟨hp, hB⟩)
theorem Rd.set (h : Rd T w B g m) {b : Nat} (hb : b ≠ g) (hB : B ≤ b) (i : Nat) (u : Value) : Rd T (w.setCell ⟨b, i, none⟩ u) B g m := h.far hb hB u
theorem Rd.ne_full (h : Rd T w B g m) {g' : Nat} {t' : TypeId} {cs' : Array Value} (h' : Full w g' t' cs') (hne : t' ≠ T) : g' ≠ g := by
  obtain ⟨cs, hf⟩ := h.full
  exact h'.ne hf hne
end

/-- A fact kept from the walk ('.out' gives it back). -/
theorem hid {p : Prop} (h : p) : Hid p := h
theorem ret_int {k : IntKind} {a b : Int} (h : a = b) : Ending.returned (.int k a) = .returned (.int k b) := by rw [h]
theorem ret_bool {a b : Bool} (h : a = b) : Ending.returned (.bool a) = .returned (.bool b) := by rw [h]

end Go.Proofs.YtnjbpeojadbclaaDoor
