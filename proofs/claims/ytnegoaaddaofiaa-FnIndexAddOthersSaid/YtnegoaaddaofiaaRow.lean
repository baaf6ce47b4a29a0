/- Rows: a key and its positions; slices of rows in memory. -/
import Derived.Test.YtnegoaaddaofiaaInts
import Derived.Test.YtnegoaaddaofiaaOrd
import Derived.Test.YtnegoaaddaofiaaWord
import Derived.Test.YtnegoaaddaofiaaIn
import Derived.Test.YtnegoaaddaofiaaOwnSet
namespace Go.Proofs.Ytnegoaaddaofiaa
open Go.RowKit

/-- A row as it lies in memory: its key, where its positions lie, and what they are. -/
structure RRow where
  k : ByteArray
  a : Option Addr
  n : Nat
  c : Nat
  xs : List Int
def RRow.cells (r : RRow) : List Value := [.string r.k, .slice r.a r.n r.c]
def RRow.sem (r : RRow) : ByteArray × List Int := (r.k, r.xs)
def rcells (rs : List RRow) : List Value := rs.flatMap RRow.cells
def rsem (rs : List RRow) : List (ByteArray × List Int) := rs.map RRow.sem
theorem cells2 (r : RRow) : r.cells.length = 2 := rfl
theorem rcells_len (rs : List RRow) : (rcells rs).length = rs.length * 2 := flat_len RRow.cells 2 cells2 rs
theorem rcells_app (a b : List RRow) : rcells (a ++ b) = rcells a ++ rcells b := by simp [rcells]
theorem rsem_app (a b : List RRow) : rsem (a ++ b) = rsem a ++ rsem b := by simp [rsem]
theorem rsem_len (rs : List RRow) : (rsem rs).length = rs.length := List.length_map _
theorem rsem_take (rs : List RRow) (k : Nat) : (rsem rs).take k = rsem (rs.take k) := by simp [rsem, List.map_take]
theorem rsem_drop (rs : List RRow) (k : Nat) : (rsem rs).drop k = rsem (rs.drop k) := by simp [rsem, List.map_drop]
theorem rsem_at (rs : List RRow) (k : Nat) (h : k < rs.length) : (rsem rs)[k]'(by rw [rsem_len]; exact h) = rs[k].sem := by simp [rsem]
theorem rcells_one (rs : List RRow) : ∀ u ∈ rcells rs, u.oneCell' = true := by
  intro u hu
  obtain ⟨r, _, h⟩ := List.mem_flatMap.1 hu
  simp only [RRow.cells, List.mem_cons, List.not_mem_nil, or_false] at h
  rcases h with rfl | rfl <;> rfl
theorem rcells_key (rs : List RRow) (i : Nat) (h : i < rs.length) : (rcells rs)[i * 2]? = some (.string rs[i].k) := flat_at RRow.cells 2 cells2 rs i 0 h (by omega)
theorem rcells_pos (rs : List RRow) (i : Nat) (h : i < rs.length) : (rcells rs)[i * 2 + 1]? = some (.slice rs[i].a rs[i].n rs[i].c) := flat_at RRow.cells 2 cells2 rs i 1 h (by omega)
theorem rcells_take (rs : List RRow) (k : Nat) : (rcells rs).take (k * 2) = rcells (rs.take k) := flat_take RRow.cells 2 cells2 rs k
theorem rcells_drop (rs : List RRow) (k : Nat) : (rcells rs).drop (k * 2) = rcells (rs.drop k) := flat_drop RRow.cells 2 cells2 rs k

/-- What is known of a row's positions: a slice of ints of somebody's own. -/
structure RRow.ok (w : World) (r : RRow) : Prop where
  own : Own w 0 3 1 r.a r.n r.c (ints r.xs)
  len : r.xs.length = r.n
  key : r.k.size ≤ maxLen
section
variable {w w' : World} {r : RRow}
theorem RRow.ok.grown0 (h : r.ok w) (hg : w.grownBy w' none) : r.ok w' := ⟨h.own.kept0 hg, h.len, h.key⟩
theorem RRow.ok.alloc (h : r.ok w) (o : Obj) : r.ok (w.alloc o) := h.grown0 (World.grownBy_alloc w o none)
theorem RRow.ok.far (h : r.ok w) {row : Option Nat} (hg : w.grownBy w' row) (hne : ∀ b, blockOf r.a = some b → some b ≠ row) : r.ok w' := by
  refine ⟨World.ownsRow.kept h.own hg ?_, h.len, h.key⟩
  rw [own_block]
  cases hA : blockOf r.a with
  | none => exact .inl rfl
  | some b => exact .inr (hne b hA)
theorem RRow.ok.below (h : r.ok w) {b : Nat} (hb : blockOf r.a = some b) : b < w.heap.size := (h.own.block hb).2
theorem RRow.ok.cap (h : r.ok w) : r.n ≤ r.c := h.own.cap
theorem RRow.ok.max (h : r.ok w) : r.c ≤ maxLen := h.own.max
/-- The positions' block is none of another element type. -/
theorem RRow.ok.ne_full (h : r.ok w) {g : Nat} {t : TypeId} {cs : Array Value} (hf : Full w g t cs) (hne : 3 ≠ t) : ∀ b, blockOf r.a = some b → b ≠ g := h.own.ne_full hf hne
end

/-- A slice of rows. -/
structure RArg (w : World) (A : Option Addr) (n c : Nat) (rs : List RRow) : Prop where
  li : Lies w A (rcells rs)
  len : rs.length = n
  cap : n ≤ c
  max : c ≤ maxLen
  ats : ∀ r ∈ rs, r.ok w
section
variable {w w' : World} {A : Option Addr} {n c : Nat} {rs : List RRow}
theorem RArg.grown0 (h : RArg w A n c rs) (hg : w.grownBy w' none) : RArg w' A n c rs := ⟨h.li.grown0 hg, h.len, h.cap, h.max, fun r hr => (h.ats r hr).grown0 hg⟩
theorem RArg.alloc (h : RArg w A n c rs) (o : Obj) : RArg (w.alloc o) A n c rs := h.grown0 (World.grownBy_alloc w o none)
theorem RArg.drewN (h : RArg w A n c rs) (q : Nat) : RArg (w.drewN q) A n c rs := h.grown0 (gr_drewN (gr_refl w none) q)
theorem RArg.nil (w : World) : RArg w none 0 0 [] := ⟨.inl rfl, rfl, Nat.le_refl _, by simp [maxLen], by simp⟩
theorem RArg.of_own {base : Nat} (h : Own w base 33 2 A n c (rcells rs)) (hl : rs.length = n) (ha : ∀ r ∈ rs, r.ok w) : RArg w A n c rs := ⟨h.lies, hl, h.cap, h.max, ha⟩
theorem RArg.below (h : RArg w A n c rs) (hn : 0 < n) : ∀ b, blockOf A = some b → b < w.heap.size := fun b hb => by
  obtain ⟨g', o, rfl, hlt, _⟩ := h.li.open_ (by rw [rcells_len, h.len]; omega)
  injection hb with hb
  rw [← hb]; exact hlt
/-- Where the rows lie. -/
theorem RArg.open_ (h : RArg w A n c rs) (hn : 0 < n) : ∃ g o, A = some ⟨g, o, none⟩ ∧ g < w.heap.size ∧ ∀ i (hi : i < rs.length), ∀ w' : World, w.grownBy w' none → w'.cell? ⟨g, o + i * 2, none⟩ = some (.string rs[i].k) ∧ w'.cell? ⟨g, o + i * 2 + 1, none⟩ = some (.slice rs[i].a rs[i].n rs[i].c) := by
  obtain ⟨g, o, hA, hlt, hc⟩ := h.li.open_ (by rw [rcells_len, h.len]; omega)
  exact ⟨g, o, hA, hlt, fun i hi w' hg => ⟨hg.cell (hc _ _ (rcells_key rs i hi)) (by simp), hg.cell (a := ⟨g, o + i * 2 + 1, none⟩) (by rw [Nat.add_assoc]; exact hc _ _ (rcells_pos rs i hi)) (by simp)⟩⟩
end

/- What is valid. -/
def keysUp (rs : List (ByteArray × List Int)) : Prop := rs.Pairwise fun a b => sl a.1 b.1 = true
def rowOk (r : ByteArray × List Int) : Bool := wordB r.1 && (decide (0 < r.2.length) && asc (-1) 99 r.2)
/-- The positions of all rows. -/
def spots (rs : List (ByteArray × List Int)) : List Int := rs.flatMap fun r => r.2
def IdxOk (rs : List (ByteArray × List Int)) : Prop := (∀ r ∈ rs, rowOk r = true) ∧ keysUp rs ∧ (spots rs).Nodup
noncomputable def idxB (rs : List (ByteArray × List Int)) : Bool := @decide (IdxOk rs) (Classical.propDecidable _)
theorem idxB_iff {rs : List (ByteArray × List Int)} : idxB rs = true ↔ IdxOk rs := by simp [idxB]
theorem idxB_no {rs : List (ByteArray × List Int)} (h : ¬ IdxOk rs) : idxB rs = false := by rw [Bool.eq_false_iff]; exact fun e => h (idxB_iff.1 e)
theorem rowOk_iff {r : ByteArray × List Int} : rowOk r = true ↔ wordB r.1 = true ∧ 0 < r.2.length ∧ asc (-1) 99 r.2 = true := by
  simp only [rowOk, Bool.and_eq_true, decide_eq_true_eq]
theorem spots_take {rs : List (ByteArray × List Int)} {k : Nat} (hk : k < rs.length) : spots (rs.take (k + 1)) = spots (rs.take k) ++ rs[k].2 := by
  rw [List.take_succ_eq_append_getElem hk, spots, List.flatMap_append]
  simp [spots]
theorem IdxOk.take {rs : List (ByteArray × List Int)} (h : IdxOk rs) (k : Nat) : IdxOk (rs.take k) := by
  obtain ⟨h1, h2, h3⟩ := h
  refine ⟨fun r hr => h1 r (List.mem_of_mem_take hr), List.Pairwise.sublist (List.take_sublist k rs) h2, ?_⟩
  have e : spots rs = spots (rs.take k) ++ spots (rs.drop k) := by rw [spots, spots, spots, ← List.flatMap_append, List.take_append_drop]
  rw [e] at h3
  exact (List.nodup_append.1 h3).1
theorem keysUp_at {rs : List (ByteArray × List Int)} (h : keysUp rs) {j k : Nat} (hj : j < k) (hk : k < rs.length) : sl (rs[j]'(by omega)).1 rs[k].1 = true :=
  List.pairwise_iff_getElem.1 h j k (by omega) hk hj
theorem keysUp_next {rs : List (ByteArray × List Int)} {k : Nat} (h : keysUp (rs.take k)) (hk : k < rs.length) (h2 : ∀ (_ : 0 < k), sl (rs[k - 1]'(by omega)).1 rs[k].1 = true) : keysUp (rs.take (k + 1)) := by
  rw [List.take_succ_eq_append_getElem hk]
  unfold keysUp at h ⊢
  rw [List.pairwise_append]
  refine ⟨h, by simp, fun x hx y hy => ?_⟩
  simp at hy
  subst hy
  obtain ⟨j, hj, rfl⟩ := List.mem_iff_getElem.1 hx
  rw [List.length_take] at hj
  rw [List.getElem_take]
  have h3 := h2 (by omega)
  rcases (by omega : j = k - 1 ∨ j < k - 1) with e | e
  · simp only [e]; exact h3
  · have h4 := List.pairwise_iff_getElem.1 h j (k - 1) (by rw [List.length_take]; omega) (by rw [List.length_take]; omega) e
    rw [List.getElem_take, List.getElem_take] at h4
    exact sl_trans h4 h3
/-- What is bad at a row. -/
theorem idxB_row {rs : List (ByteArray × List Int)} {k : Nat} (hk : k < rs.length) (h : rowOk rs[k] = false) : idxB rs = false :=
  idxB_no fun ⟨h1, _⟩ => by have := h1 _ (List.getElem_mem hk); rw [h] at this; cases this
theorem idxB_ord {rs : List (ByteArray × List Int)} {k : Nat} (hk : k < rs.length) (h0 : 0 < k) (h : sl (rs[k - 1]'(by omega)).1 rs[k].1 = false) : idxB rs = false :=
  idxB_no fun ⟨_, h2, _⟩ => by have := keysUp_at h2 (show k - 1 < k by omega) hk; rw [h] at this; cases this
theorem idxB_dup {rs : List (ByteArray × List Int)} (h : ¬ (spots rs).Nodup) : idxB rs = false := idxB_no fun ⟨_, _, h3⟩ => h h3
end Go.Proofs.Ytnegoaaddaofiaa
