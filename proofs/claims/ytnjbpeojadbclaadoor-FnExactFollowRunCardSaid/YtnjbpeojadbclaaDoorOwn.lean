/- Slices that a call builds itself, by a literal and by append of one element at a time; lists of structs as cells. -/
import Derived.Test.YtnjbpeojadbclaaDoorWords
import Derived.Maps.AppendAt
import Derived.OwnWalk
namespace Go.Proofs.YtnjbpeojadbclaaDoor
open Go.RowKit

/-- The slice '.slice A n c' of elements of type e (s cells each) owns the cells xs, in a block from base on. -/
def Own (w : World) (base : Nat) (e : TypeId) (s : Nat) (A : Option Addr) (n c : Nat) (xs : List Value) : Prop := w.ownsRow base e s (.slice A n c) n xs

section
variable {w w' : World} {base : Nat} {e : TypeId} {s n c : Nat} {A : Option Addr} {xs : List Value}
theorem Own.len (h : Own w base e s A n c xs) : xs.length = n * s := h.1
theorem Own.lies (h : Own w base e s A n c xs) : Lies w A xs := Lies.of_own h
theorem Own.block (h : Own w base e s A n c xs) {b : Nat} (hb : blockOf A = some b) : base ≤ b ∧ b < w.heap.size := by
  refine World.ownsRow.lt h b ?_
  cases A with
  | none => simp [blockOf] at hb
  | some a => simpa [blockOf, Value.ownBlock] using hb
theorem own_block (A : Option Addr) (n c : Nat) : (Value.slice A n c).ownBlock = blockOf A := by cases A <;> rfl
theorem Own.cap (h : Own w base e s A n c xs) : n ≤ c := by
  rcases h.2 with ⟨hv, h0⟩ | ⟨g, cap, cur, hv, _, _, hnc, _⟩
  · omega
  · injection hv with _ _ h3
    omega
theorem Own.max (h : Own w base e s A n c xs) : c ≤ maxLen := by
  rcases h.2 with ⟨hv, _⟩ | ⟨g, cap, cur, hv, _, _, _, hcm, _⟩
  · injection hv with _ _ h3
    subst h3
    simp [maxLen]
  · injection hv with _ _ h3
    omega
theorem Own.kept (h : Own w base e s A n c xs) {row : Option Nat} (hg : w.grownBy w' row) (hr : ∀ g, row = some g → g < base) : Own w' base e s A n c xs := by
  refine World.ownsRow.kept h hg ?_
  rw [own_block]
  cases hA : blockOf A with
  | none => exact .inl rfl
  | some b =>
    have hb := h.block hA
    refine .inr fun e => ?_
    have := hr b e.symm
    omega
theorem Own.past (h : Own w base e s A n c xs) {g : Nat} (hg : w.grownBy w' (some g)) (hr : g < base) : Own w' base e s A n c xs :=
  h.kept hg (fun _ e => by injection e with e; omega)
theorem Own.kept0 (h : Own w base e s A n c xs) (hg : w.grownBy w' none) : Own w' base e s A n c xs := h.kept hg (by simp)
/-- A store into a block of another element type. -/
theorem Own.put (h : Own w base e s A n c xs) {g : Nat} {t : TypeId} {cs : Array Value} (hf : Full w g t cs) (hne : e ≠ t) (i : Nat) (u : Value) : Own (w.setCell ⟨g, i, none⟩ u) base e s A n c xs :=
  World.ownsRow.kept h (row := some g) (gr_set (gr_refl w _) (.inl rfl) u) (own_ne_full h hf hne)
/-- A store into a block that is not the slice's. -/
theorem Own.far (h : Own w base e s A n c xs) {g : Nat} (hne : ∀ b, blockOf A = some b → b ≠ g) (i : Nat) (u : Value) : Own (w.setCell ⟨g, i, none⟩ u) base e s A n c xs := by
  refine World.ownsRow.kept h (row := some g) (gr_set (gr_refl w _) (.inl rfl) u) ?_
  rw [own_block]
  cases hA : blockOf A with
  | none => exact .inl rfl
  | some b => exact .inr (fun e => by injection e with e; exact hne b hA e)
theorem Own.ne_full (h : Own w base e s A n c xs) {g : Nat} {t : TypeId} {cs : Array Value} (hf : Full w g t cs) (hne : e ≠ t) : ∀ b, blockOf A = some b → b ≠ g := by
  intro b hb e
  subst e
  rcases own_ne_full h hf hne with h1 | h1
  · rw [own_block, hb] at h1
    cases h1
  · rw [own_block, hb] at h1
    exact h1 rfl
theorem Own.alloc (h : Own w base e s A n c xs) (o : Obj) : Own (w.alloc o) base e s A n c xs := World.ownsRow.alloc h o
theorem Own.drew (h : Own w base e s A n c xs) : Own w.drew base e s A n c xs := h
theorem Own.drewN (h : Own w base e s A n c xs) (k : Nat) : Own (w.drewN k) base e s A n c xs := h
theorem Own.empty (w : World) (hb : base ≤ w.heap.size) : Own (w.alloc (.cells #[] e)) base e s (some ⟨w.heap.size, 0, none⟩) 0 0 [] :=
  World.ownsRow_lit w #[] 0 hb (by simp [maxLen]) (by simp)
theorem Own.nil (w : World) : Own w base e s none 0 0 [] := World.ownsRow_nil w base e s
theorem Own.lit (w : World) (cs : Array Value) (n : Nat) (hb : base ≤ w.heap.size) (hm : n ≤ maxLen) (hs : cs.size = n * s) : Own (w.alloc (.cells cs e)) base e s (some ⟨w.heap.size, 0, none⟩) n n cs.toList :=
  World.ownsRow_lit w cs n hb hm hs
theorem Own.litAt (w : World) (cs : Array Value) (n : Nat) {H : Nat} (hH : w.heap.size = H) (hb : base ≤ H) (hm : n ≤ maxLen) (hs : cs.size = n * s) : Own (w.alloc (.cells cs e)) base e s (some ⟨H, 0, none⟩) n n cs.toList := by
  subst hH
  exact Own.lit w cs n hb hm hs
theorem Own.base_le (h : Own w base e s A n c xs) {b' : Nat} (hb : b' ≤ base) : Own w b' e s A n c xs := by
  refine ⟨h.1, ?_⟩
  rcases h.2 with h2 | ⟨g, cap, cur, hv, hg, r⟩
  · exact .inl h2
  · exact .inr ⟨g, cap, cur, hv, by omega, r⟩
/-- A value that owns is a slice. -/
theorem own_form {v : Value} (h : w.ownsRow base e s v n xs) : ∃ A c, v = .slice A n c := by
  rcases h.2 with ⟨rfl, rfl⟩ | ⟨g, cap, cur, rfl, _⟩
  · exact ⟨_, _, rfl⟩
  · exact ⟨_, _, rfl⟩
end

/-- 'append(out, x)', one element, which the statement has laid in a block of its own. -/
theorem wpList_push {P : Program} (w : World) {ops : Array Oper} {rest : List Oper} {o : Oper} {a : Act} {Q : Exit → Act → World → Prop} (hgd : o.guard = none) (s x : Operand) (t : TypeId)
    (ho : o.op = .call { callee := .builtin .append, args := #[s, x], argTypes := #[t, t] })
    (base : Nat) (e : TypeId) {z : Value} {size bytes : Nat} (ht : P.underlying t = some (.slice e)) (hi : (P.info? e).map (fun i => (i.zero, i.size, i.bytes)) = some (some z, size, bytes))
    (hzs : z.cells.size = size) (hsz : 0 < size)
    (A : Option Addr) (n c : Nat) (xs : List Value) (hs : a.eval s = .slice A n c) (hown : Own w base e size A n c xs)
    (g c1 : Nat) (cs : Array Value) (hx : a.eval x = .slice (some ⟨g, 0, none⟩) 1 c1) (hf : Full w g e cs) (hcs : cs.size = size) (h1 : ∀ u ∈ cs.toList, u.oneCell' = true)
    (h63 : n + 1 ≤ 100000000) (hby : bytes ≤ 1000) (hbase : base ≤ w.heap.size)
    (h : ∀ A' c' w', Own w' base e size A' (n + 1) c' (xs ++ cs.toList) → w.grownBy w' (blockOf A) → (blockOf A' = blockOf A ∨ blockOf A' = some w.heap.size) → wpList P ops Q rest (a.put o.dst (.slice A' (n + 1) c')) w') :
    wpList P ops Q (o :: rest) a w := by
  obtain ⟨i, hi0, hz, hz1, hz2⟩ := info_parts hi
  refine wpList_append_own_at w hgd s x t ho base e i z size bytes ht hi0 hz hz1 hz2 hzs hsz (.slice A n c) n xs hs hown ⟨g, 0, none⟩ 1 c1 cs.toList hx (by simp [hcs]) (fun j u hu => ?_) h1 (by simp only [maxLen]; omega) ?_ hbase ?_
  · have ha : (⟨g, 0, none⟩ : Addr).add j = ⟨g, j, none⟩ := by
      unfold Addr.add
      split
      · subst_vars; rfl
      · simp
    rw [ha, hf.cell j]
    simpa using hu
  · exact Nat.le_trans (Nat.mul_le_mul h63 hby) (by omega)
  · intro v' w' h2 h3 _ h5
    obtain ⟨A', c', rfl⟩ := own_form h2
    rw [own_block] at h3
    rw [own_block, own_block] at h5
    exact h A' c' w' h2 h3 h5

/- Lists of structs as cells. -/
section
variable {α : Type} (f : α → List Value) (s : Nat) (hf : ∀ x, (f x).length = s)
include hf
theorem flat_len (l : List α) : (l.flatMap f).length = l.length * s := by
  induction l with
  | nil => simp
  | cons x l ih => rw [List.flatMap_cons, List.length_append, hf, ih, List.length_cons, Nat.add_mul]; omega
theorem flat_at (l : List α) (i j : Nat) (hi : i < l.length) (hj : j < s) : (l.flatMap f)[i * s + j]? = (f l[i])[j]? := by
  induction l generalizing i with
  | nil => simp at hi
  | cons x l ih =>
    rw [List.flatMap_cons]
    cases i with
    | zero =>
      rw [Nat.zero_mul, Nat.zero_add, List.getElem?_append_left (by rw [hf]; exact hj)]
      rfl
    | succ i =>
      rw [List.getElem?_append_right (by rw [hf, Nat.add_mul]; omega), hf, show (i + 1) * s + j - s = i * s + j by rw [Nat.add_mul]; omega]
      exact ih i (by simpa using hi)
theorem flat_take (l : List α) (k : Nat) : (l.flatMap f).take (k * s) = (l.take k).flatMap f := by
  induction l generalizing k with
  | nil => simp
  | cons x l ih =>
    cases k with
    | zero => simp
    | succ k =>
      rw [List.flatMap_cons, List.take_succ_cons, List.flatMap_cons, List.take_append, hf, List.take_of_length_le (by rw [hf, Nat.add_mul]; omega),
        show (k + 1) * s - s = k * s by rw [Nat.add_mul]; omega, ih]
theorem flat_drop (l : List α) (k : Nat) : (l.flatMap f).drop (k * s) = (l.drop k).flatMap f := by
  induction l generalizing k with
  | nil => simp
  | cons x l ih =>
    cases k with
    | zero => simp
    | succ k =>
      rw [List.flatMap_cons, List.drop_succ_cons, List.drop_append, hf, List.drop_of_length_le (by rw [hf, Nat.add_mul]; omega),
        show (k + 1) * s - s = k * s by rw [Nat.add_mul]; omega, ih, List.nil_append]
end
end Go.Proofs.YtnjbpeojadbclaaDoor
