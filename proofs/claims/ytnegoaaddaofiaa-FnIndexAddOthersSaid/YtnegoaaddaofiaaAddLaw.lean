/- What a further position makes of valid rows. -/
import Derived.Test.YtnegoaaddaofiaaTreeW
import Derived.Test.YtnegoaaddaofiaaFindS
namespace Go.Proofs.Ytnegoaaddaofiaa
open Go.RowKit

abbrev Row2 := ByteArray × List Int
def addL (key : ByteArray) (p : Int) : List Row2 → List Row2
  | [] => [(key, [p])]
  | r :: rs => if r.1 = key then (r.1, r.2 ++ [p]) :: rs else if sl key r.1 = true then (key, [p]) :: r :: rs else r :: addL key p rs
theorem addL_nil (key : ByteArray) (p : Int) : addL key p [] = [(key, [p])] := rfl
theorem addL_cons (key : ByteArray) (p : Int) (r : Row2) (rs : List Row2) : addL key p (r :: rs) = if r.1 = key then (r.1, r.2 ++ [p]) :: rs else if sl key r.1 = true then (key, [p]) :: r :: rs else r :: addL key p rs := rfl
theorem keysUp_cons {r : Row2} {rs : List Row2} : keysUp (r :: rs) ↔ (∀ x ∈ rs, sl r.1 x.1 = true) ∧ keysUp rs := List.pairwise_cons

theorem foldl_done (key : ByteArray) (p : Int) : ∀ (rs : List Row2) (acc : List Row2), (∀ r ∈ rs, r.1 ≠ key) → rs.foldl (addStep key p) (acc, true) = (acc ++ rs, true)
  | [], acc, _ => by simp
  | r :: rs, acc, h => by
    rw [List.foldl_cons, addStep, if_neg (h r List.mem_cons_self), if_neg (by simp), foldl_done key p rs _ (fun x hx => h x (List.mem_cons_of_mem _ hx))]
    simp
theorem foldl_add (key : ByteArray) (p : Int) : ∀ (rs : List Row2) (acc : List Row2), keysUp rs → (if (rs.foldl (addStep key p) (acc, false)).2 = true then (rs.foldl (addStep key p) (acc, false)).1 else (rs.foldl (addStep key p) (acc, false)).1 ++ [(key, [p])]) = acc ++ addL key p rs
  | [], acc, _ => by simp [addL]
  | r :: rs, acc, h => by
    obtain ⟨h1, h2⟩ := keysUp_cons.1 h
    by_cases e : r.1 = key
    · have hs : addStep key p (acc, false) r = (acc ++ [(r.1, r.2 ++ [p])], true) := by rw [addStep, if_pos e]
      rw [List.foldl_cons, hs, foldl_done key p rs _ (fun x hx => by have := h1 x hx; rw [e] at this; exact (sl_ne this).symm), addL, if_pos e]
      simp
    · by_cases q : sl key r.1 = true
      · have hs : addStep key p (acc, false) r = (acc ++ [(key, [p]), r], true) := by rw [addStep, if_neg e, if_pos ⟨rfl, q⟩]
        rw [List.foldl_cons, hs, foldl_done key p rs _ (fun x hx => (sl_ne (sl_trans q (h1 x hx))).symm), addL, if_neg e, if_pos q]
        simp
      · have hs : addStep key p (acc, false) r = (acc ++ [r], false) := by rw [addStep, if_neg e, if_neg (fun x => q x.2)]
        rw [List.foldl_cons, hs, foldl_add key p rs _ h2, addL, if_neg e, if_neg q]
        simp
theorem addR_eq {key : ByteArray} {p : Int} {rs : List Row2} (h : keysUp rs) : addR key p rs = addL key p rs := by
  have := foldl_add key p rs [] h
  rw [List.nil_append] at this
  exact this

theorem addL_left (key : ByteArray) (p : Int) {r : Row2} {R : List Row2} (hr : sl key r.1 = true) : ∀ L : List Row2, addL key p (L ++ r :: R) = addL key p L ++ r :: R
  | [] => by rw [List.nil_append, addL_cons, if_neg (sl_ne hr).symm, if_pos hr]; rfl
  | x :: L => by
    rw [List.cons_append, addL_cons, addL_cons, addL_left key p hr L]
    split
    · rfl
    · split <;> rfl
theorem addL_right (key : ByteArray) (p : Int) {S : List Row2} : ∀ L : List Row2, (∀ x ∈ L, sl x.1 key = true) → addL key p (L ++ S) = L ++ addL key p S
  | [], _ => rfl
  | x :: L, h => by
    have hx := h x List.mem_cons_self
    rw [List.cons_append, addL_cons, if_neg (sl_ne hx), if_neg (by rw [sl_not hx]; simp), addL_right key p L (fun y hy => h y (List.mem_cons_of_mem _ hy))]
    rfl
theorem addT_eq (key : ByteArray) (p : Int) : ∀ T : RT, keysUp (rsem T.rows) → addT key p T = addL key p (rsem T.rows)
  | .nil, _ => rfl
  | .node g r l t, h => by
    rw [rows_node] at h ⊢
    obtain ⟨h1, h2, h3, h4⟩ := keysUp_mid h
    have i1 := addT_eq key p l h1
    have i2 := addT_eq key p t h2
    unfold addT
    by_cases e1 : sl key r.k = true
    · rw [if_pos e1, addL_left key p (r := r.sem) e1, i1]
    · rw [if_neg e1]
      by_cases e2 : sl r.k key = true
      · rw [if_pos e2, addL_right key p (rsem l.rows) (fun x hx => sl_trans (h3 x hx) e2), addL_cons, if_neg (sl_ne (show sl r.sem.1 key = true from e2)), if_neg (show ¬ sl key r.sem.1 = true from e1), i2]
      · have k0 : r.k = key := by
          rcases sl_tri key r.k with q | q | q
          · exact absurd q e1
          · exact q.symm
          · exact absurd q e2
        rw [if_neg e2, addL_right key p (rsem l.rows) (fun x hx => by have := h3 x hx; rw [← k0]; exact this), addL_cons, if_pos (show r.sem.1 = key from k0)]
        rfl

theorem findX_cons (k : ByteArray) (r : Row2) (rs : List Row2) : findX k (r :: rs) = if r.1 = k then r.2 else findX k rs := by
  unfold findX findR
  rw [List.find?_cons]
  by_cases e : r.1 = k
  · simp [e]
  · simp [e]
theorem find_other {key k : ByteArray} (p : Int) (h : k ≠ key) : ∀ rs : List Row2, findX k (addL key p rs) = findX k rs
  | [] => by rw [addL, findX_cons, if_neg (Ne.symm h)]
  | r :: rs => by
    unfold addL
    by_cases e : r.1 = key
    · rw [if_pos e, findX_cons, findX_cons, if_neg (show ¬ r.1 = k from fun x => h (x.symm.trans e)), if_neg (fun x => h (x.symm.trans e))]
    · rw [if_neg e]
      by_cases q : sl key r.1 = true
      · rw [if_pos q, findX_cons, if_neg (Ne.symm h)]
      · rw [if_neg q, findX_cons, findX_cons, find_other p h rs]
theorem find_same {key : ByteArray} (p : Int) : ∀ rs : List Row2, keysUp rs → findX key (addL key p rs) = findX key rs ++ [p]
  | [], _ => by rw [addL, findX_cons, if_pos rfl]; rfl
  | r :: rs, h => by
    obtain ⟨h1, h2⟩ := keysUp_cons.1 h
    unfold addL
    by_cases e : r.1 = key
    · rw [if_pos e, findX_cons, findX_cons, if_pos e, if_pos e]
    · rw [if_neg e]
      by_cases q : sl key r.1 = true
      · rw [if_pos q, findX_cons, if_pos rfl, findX, keys_gt (fun x hx => by
          rcases List.mem_cons.1 hx with rfl | hx
          · exact q
          · exact sl_trans q (h1 x hx))]
        rfl
      · rw [if_neg q, findX_cons, findX_cons, if_neg e, if_neg e, find_same p rs h2]

theorem mem_addL {key : ByteArray} {p : Int} {y : Row2} : ∀ {rs : List Row2}, y ∈ addL key p rs → y ∈ rs ∨ y = (key, [p]) ∨ ∃ r ∈ rs, r.1 = key ∧ y = (key, r.2 ++ [p])
  | [], h => by rw [addL, List.mem_singleton] at h; exact .inr (.inl h)
  | r :: rs, h => by
    unfold addL at h
    split at h
    · rename_i e
      rcases List.mem_cons.1 h with h | h
      · exact .inr (.inr ⟨r, List.mem_cons_self, e, by rw [h, e]⟩)
      · exact .inl (List.mem_cons_of_mem _ h)
    · split at h
      · rcases List.mem_cons.1 h with h | h
        · exact .inr (.inl h)
        · exact .inl h
      · rcases List.mem_cons.1 h with h | h
        · exact .inl (h ▸ List.mem_cons_self)
        · rcases mem_addL h with h | h | ⟨q, hq, h⟩
          · exact .inl (List.mem_cons_of_mem _ h)
          · exact .inr (.inl h)
          · exact .inr (.inr ⟨q, List.mem_cons_of_mem _ hq, h⟩)
theorem keysUp_add {key : ByteArray} {p : Int} : ∀ {rs : List Row2}, keysUp rs → keysUp (addL key p rs)
  | [], _ => by simp [addL, keysUp]
  | r :: rs, h => by
    obtain ⟨h1, h2⟩ := keysUp_cons.1 h
    unfold addL
    by_cases e : r.1 = key
    · rw [if_pos e]; exact keysUp_cons.2 ⟨h1, h2⟩
    · rw [if_neg e]
      by_cases q : sl key r.1 = true
      · rw [if_pos q]
        refine keysUp_cons.2 ⟨fun x hx => ?_, h⟩
        rcases List.mem_cons.1 hx with rfl | hx
        · exact q
        · exact sl_trans q (h1 x hx)
      · rw [if_neg q]
        have hk : sl r.1 key = true := by
          rcases sl_tri r.1 key with x | x | x
          · exact x
          · exact absurd x e
          · exact absurd x q
        refine keysUp_cons.2 ⟨fun x hx => ?_, keysUp_add h2⟩
        rcases mem_addL hx with hx | rfl | ⟨y, _, _, rfl⟩
        · exact h1 x hx
        · exact hk
        · exact hk
theorem spots_cons' (r : Row2) (rs : List Row2) : spots (r :: rs) = r.2 ++ spots rs := by simp [spots]
theorem spots_add {key : ByteArray} {p : Int} : ∀ rs : List Row2, (spots (addL key p rs)).Perm (p :: spots rs)
  | [] => by simp [addL, spots]
  | r :: rs => by
    unfold addL
    split
    · rw [spots_cons', spots_cons']
      change ((r.2 ++ [p]) ++ spots rs).Perm _
      rw [List.append_assoc]
      exact List.perm_middle
    · split
      · rw [spots_cons']; exact List.Perm.refl _
      · rw [spots_cons', spots_cons']
        exact ((spots_add rs).append_left r.2).trans List.perm_middle
theorem lastOf_mem : ∀ {xs : List Int} (lo : Int), xs ≠ [] → lastOf lo xs ∈ xs
  | [], _, h => absurd rfl h
  | [x], _, _ => by simp [lastOf]
  | x :: y :: r, _, _ => List.mem_cons_of_mem _ (by rw [lastOf]; exact lastOf_mem x (by simp))
theorem asc_le_last {hi : Int} : ∀ {xs : List Int} {lo : Int}, asc lo hi xs = true → ∀ x ∈ xs, x ≤ lastOf lo xs
  | [], _, _, x, hx => by cases hx
  | y :: r, lo, h, x, hx => by
    obtain ⟨h1, h2, h3⟩ := asc_head h
    rw [lastOf]
    rcases List.mem_cons.1 hx with rfl | hx
    · exact asc_last h3
    · exact asc_le_last h3 x hx
theorem lastOf_get : ∀ (xs : List Int) (lo : Int) (h : 0 < xs.length), xs[xs.length - 1] = lastOf lo xs
  | [x], _, _ => rfl
  | x :: y :: r, lo, _ => by
    have i := lastOf_get (y :: r) x (by simp)
    rw [lastOf, ← i]
    simp

/-- When a position can be added. -/
noncomputable def iaOk (key : ByteArray) (p : Int) (rs : List Row2) : Bool := idxB rs && (wordB key && (inR p 0 99 && rs.all fun r => decide (lastOf (-1) r.2 < p)))
theorem iaOk_iff {key : ByteArray} {p : Int} {rs : List Row2} : iaOk key p rs = true ↔ IdxOk rs ∧ wordB key = true ∧ (0 ≤ p ∧ p ≤ 99) ∧ ∀ r ∈ rs, lastOf (-1) r.2 < p := by
  simp [iaOk, idxB_iff, inR]
theorem iaOk_lt {key : ByteArray} {p : Int} {rs : List Row2} (h : iaOk key p rs = true) : ∀ x ∈ spots rs, x < p := by
  obtain ⟨⟨h1, _, _⟩, _, _, h4⟩ := iaOk_iff.1 h
  intro x hx
  obtain ⟨r, hr, hx⟩ := List.mem_flatMap.1 hx
  have := asc_le_last (rowOk_iff.1 (h1 r hr)).2.2 x hx
  have := h4 r hr
  omega
theorem ia_valid {key : ByteArray} {p : Int} {rs : List Row2} (h : iaOk key p rs = true) : idxB (addR key p rs) = true := by
  have hl := iaOk_lt h
  obtain ⟨⟨h1, h2, h3⟩, hw, hp, h4⟩ := iaOk_iff.1 h
  rw [addR_eq h2]
  refine idxB_iff.2 ⟨fun r hr => ?_, keysUp_add h2, ?_⟩
  · rcases mem_addL hr with hr | rfl | ⟨q, hq, hk, rfl⟩
    · exact h1 r hr
    · refine rowOk_iff.2 ⟨hw, by simp, ?_⟩
      simp [asc]; omega
    · have hq1 := (rowOk_iff.1 (h1 q hq)).2.2
      have hq2 := h4 q hq
      refine rowOk_iff.2 ⟨hw, by simp, ?_⟩
      rw [asc_app, hq1]
      simp [asc]; omega
  · rw [(spots_add rs).nodup_iff, List.nodup_cons]
    exact ⟨fun hm => by have := hl p hm; omega, h3⟩
theorem ia_same {key : ByteArray} {p : Int} {rs : List Row2} (h : iaOk key p rs = true) : idxFind key (addR key p rs) = idxFind key rs ++ [p] := by
  have hv := ia_valid h
  obtain ⟨h1, _⟩ := iaOk_iff.1 h
  rw [idxFind, if_pos hv, idxFind, if_pos (idxB_iff.2 h1), addR_eq h1.2.1, find_same p rs h1.2.1]
theorem ia_other {key k : ByteArray} {p : Int} {rs : List Row2} (h : iaOk key p rs = true) (hk : k ≠ key) : idxFind k (addR key p rs) = idxFind k rs := by
  have hv := ia_valid h
  obtain ⟨h1, _⟩ := iaOk_iff.1 h
  rw [idxFind, if_pos hv, idxFind, if_pos (idxB_iff.2 h1), addR_eq h1.2.1, find_other p hk]
theorem addL_has (key : ByteArray) (p : Int) : ∀ rs : List Row2, ∃ r ∈ addL key p rs, lastOf (-1) r.2 = p
  | [] => ⟨(key, [p]), by simp [addL], rfl⟩
  | r :: rs => by
    unfold addL
    split
    · exact ⟨_, List.mem_cons_self, lastOf_snoc _ _ _⟩
    · split
      · exact ⟨_, List.mem_cons_self, rfl⟩
      · obtain ⟨q, hq, e⟩ := addL_has key p rs
        exact ⟨q, List.mem_cons_of_mem _ hq, e⟩
theorem ia_twice {key k : ByteArray} {p : Int} {rs : List Row2} (h : iaOk key p rs = true) : iaOk k p (addR key p rs) = false := by
  rw [Bool.eq_false_iff]
  intro e
  obtain ⟨_, _, _, h4⟩ := iaOk_iff.1 e
  obtain ⟨h1, _⟩ := iaOk_iff.1 h
  rw [addR_eq h1.2.1] at h4
  obtain ⟨q, hq, e⟩ := addL_has key p rs
  have := h4 q hq
  omega
theorem idx_mem {rs : List Row2} (h : idxB rs = true) {k : Nat} (hk : k < rs.length) : idxFind rs[k].1 rs = rs[k].2 := by
  obtain ⟨_, h2, _⟩ := idxB_iff.1 h
  rw [idxFind, if_pos h]
  have e : rs = rs.take k ++ rs[k] :: rs.drop (k + 1) := by rw [← List.drop_eq_getElem_cons hk, List.take_append_drop]
  obtain ⟨r, hr⟩ : ∃ r, rs[k] = r := ⟨_, rfl⟩
  rw [hr] at e ⊢
  rw [e] at h2 ⊢
  obtain ⟨_, _, h3, _⟩ := keysUp_mid h2
  unfold findX
  rw [findR, List.find?_append]
  change (((findR r.1 (rs.take k)).or _).map fun r => r.2).getD [] = r.2
  rw [keys_lt h3]
  simp
end Go.Proofs.Ytnegoaaddaofiaa
