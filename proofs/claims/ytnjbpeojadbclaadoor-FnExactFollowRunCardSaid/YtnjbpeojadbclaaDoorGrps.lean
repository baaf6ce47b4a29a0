/- A map of slices of events by names: what a store's groups are, and what a further entry turns. -/
import Derived.Test.YtnjbpeojadbclaaDoorStoreS
import Derived.Test.YtnjbpeojadbclaaDoorApp
import Derived.Maps.Own
import Derived.Maps.OwnOps
import Derived.Maps.OwnSet
import Derived.Maps.RangeWalk
namespace Go.Proofs.YtnjbpeojadbclaaDoor
open Go.RowKit Go.Maps

/-- The events of a stream. -/
def grp (s : ByteArray) (l : List En) : List Ev := (l.filter fun e => decide (e.nm = s)).map En.ev
theorem grp_same {s : ByteArray} {l : List En} {e : En} (h : e.nm = s) : grp s (l ++ [e]) = grp s l ++ [e.ev] := by simp [grp, List.filter_append, h]
theorem grp_other {s : ByteArray} {l : List En} {e : En} (h : e.nm ≠ s) : grp s (l ++ [e]) = grp s l := by simp [grp, List.filter_append, h]
theorem grp_len (s : ByteArray) (l : List En) : (grp s l).length ≤ l.length := by
  rw [grp, List.length_map]
  exact List.length_filter_le _ _
def evcells (l : List Ev) : List Value := l.flatMap Ev.cells
theorem evcells_len (l : List Ev) : (evcells l).length = l.length * 3 := flat_len Ev.cells 3 (fun _ => rfl) l
theorem evcells_app (a b : List Ev) : evcells (a ++ b) = evcells a ++ evcells b := by simp [evcells]
theorem evcells_one (l : List Ev) : ∀ u ∈ evcells l, u.oneCell' = true := by
  intro u hu
  obtain ⟨r, _, h⟩ := List.mem_flatMap.1 hu
  simp only [Ev.cells, List.mem_cons, List.not_mem_nil, or_false] at h
  rcases h with rfl | rfl | rfl <;> rfl

/-- A map's element is a slice: it is told as itself. -/
def hdr : Value → Option (DataW Value × List MemPlace)
  | .slice a n c => some (.held (.slice a n c), [])
  | _ => none
theorem hdr_mk (a : Option Addr) (n c : Nat) : hdr (.slice a n c) = some (.held (.slice a n c), []) := rfl
theorem hdr_inv {v : Value} {y : DataW Value × List MemPlace} (h : hdr v = some y) : ∃ a n c, v = .slice a n c ∧ y = (.held (.slice a n c), []) := by
  cases v <;> simp [hdr] at h
  rename_i a n c
  exact ⟨a, n, c, rfl, h.symm⟩
def klit (s : ByteArray) : Lit := .string s.data.toList
theorem klit_inj {s t : ByteArray} (h : klit s = klit t) : s = t := by
  injection h with h
  exact ByteArray.ext (Array.toList_inj.1 h)
theorem klit_key (s : ByteArray) : WideAt.IsKeyLit (klit s) := by simp [klit, WideAt.IsKeyLit]
def nilS : DataW Value := .held (.slice none 0 0)

/-- Block b is a map that holds the groups of l. -/
structure Grps (w : World) (b n : Nat) (l : List En) (D : DataW Value) : Prop where
  own : w.ownsMap Tryd.prog 9 hdr b n D
  els : ∀ s, ∃ A k c, D.atKey (klit s) nilS = .held (.slice A k c) ∧ Own w (b + 1) 40 3 A k c (evcells (grp s l)) ∧ (grp s l).length = k
  has : ∀ s, Maps.has D (klit s) = false → grp s l = []
  apart : ∀ s s', s ≠ s' → ∀ A k c A' k' c', D.atKey (klit s) nilS = .held (.slice A k c) → D.atKey (klit s') nilS = .held (.slice A' k' c') → ∀ g, blockOf A = some g → blockOf A' ≠ some g
section
variable {w w' : World} {b n : Nat} {l : List En} {D : DataW Value}
theorem Grps.grown0 (h : Grps w b n l D) (hg : w.grownBy w' none) : Grps w' b n l D :=
  ⟨h.own.kept hg (by simp), fun s => let ⟨A, k, c, h1, h2, h3⟩ := h.els s; ⟨A, k, c, h1, h2.kept0 hg, h3⟩, h.has, h.apart⟩
theorem grps_made (w : World) : Grps (w.alloc (.map #[] 0)) w.heap.size 0 [] (.map []) :=
  ⟨World.ownsMap_made _ _ _ _, fun _ => ⟨none, 0, 0, rfl, Own.nil _, rfl⟩, fun _ _ => rfl, fun _ _ _ A k c _ _ _ h1 _ g hg => by
    have h2 : (.held (.slice none 0 0) : DataW Value) = .held (.slice A k c) := h1
    injection h2 with h2
    injection h2 with h2
    subst h2
    cases hg⟩
theorem Grps.isMap (h : Grps w b n l D) : IsMap D := h.own.isMap

/-- A further entry. -/
theorem Grps.next {w5 w6 : World} {A A5 : Option Addr} {k c c5 : Nat} {e : En} (h : Grps w b n l D) (hat : D.atKey (klit e.nm) nilS = .held (.slice A k c))
    (hg5 : w.grownBy w5 (blockOf A)) (ho5 : Own w5 (b + 1) 40 3 A5 (k + 1) c5 (evcells (grp e.nm l ++ [e.ev]))) (hl5 : (grp e.nm l).length = k)
    (hb5 : blockOf A5 = blockOf A ∨ ∃ g, blockOf A5 = some g ∧ w.heap.size ≤ g)
    (ho6 : w6.ownsMap Tryd.prog 9 hdr b (n + 1) (D.put (klit e.nm) (.held (.slice A5 (k + 1) c5)))) (hg6 : w5.grownBy w6 (some b)) :
    Grps w6 b (n + 1) (l ++ [e]) (D.put (klit e.nm) (.held (.slice A5 (k + 1) c5))) := by
  have hsame := fun z => atKey_put_same (H := Value) h.isMap (klit_key e.nm) (.held (.slice A5 (k + 1) c5)) z
  have hoth := fun s (hs : s ≠ e.nm) z => atKey_put_other (H := Value) (D := D) (show klit s ≠ klit e.nm from fun x => hs (klit_inj x)) (.held (.slice A5 (k + 1) c5)) z
  have hnew : ∀ s, s ≠ e.nm → ∀ A' k' c', D.atKey (klit s) nilS = .held (.slice A' k' c') → ∀ g, blockOf A5 = some g → blockOf A' ≠ some g := by
    intro s hs A' k' c' ha g hg hc
    rcases hb5 with h1 | ⟨g2, h1, h2⟩
    · rw [h1] at hg
      exact h.apart e.nm s (fun x => hs x.symm) _ _ _ _ _ _ hat ha g hg hc
    · rw [h1] at hg
      injection hg with hg
      subst hg
      obtain ⟨A2, k2, c2, ha2, ho2, _⟩ := h.els s
      rw [ha] at ha2
      injection ha2 with ha2
      injection ha2 with ha2
      subst ha2
      have := (ho2.block hc).2
      omega
  refine ⟨ho6, fun s => ?_, fun s hs => ?_, fun s s' hne A1 k1 c1 A2 k2 c2 h1 h2 g hg => ?_⟩
  · by_cases e1 : s = e.nm
    · subst e1
      exact ⟨A5, k + 1, c5, hsame _, by rw [grp_same rfl]; exact ho5.past hg6 (by omega), by rw [grp_same rfl, List.length_append, hl5]; rfl⟩
    · obtain ⟨A2, k2, c2, ha2, ho2, hl2⟩ := h.els s
      refine ⟨A2, k2, c2, by rw [hoth s e1]; exact ha2, ?_, by rw [grp_other (fun x => e1 x.symm)]; exact hl2⟩
      rw [grp_other (fun x => e1 x.symm)]
      refine Own.past ?_ hg6 (by omega)
      refine World.ownsRow.kept ho2 hg5 ?_
      rw [own_block]
      cases hb2 : blockOf A2 with
      | none => exact .inl rfl
      | some g => exact .inr (fun x => h.apart s e.nm e1 _ _ _ _ _ _ ha2 hat g hb2 x.symm)
  · by_cases e1 : s = e.nm
    · subst e1
      rw [has_put_same h.isMap (klit_key _)] at hs
      cases hs
    · rw [has_put_other (show klit s ≠ klit e.nm from fun x => e1 (klit_inj x))] at hs
      rw [grp_other (fun x => e1 x.symm)]
      exact h.has s hs
  · by_cases e1 : s = e.nm
    · subst e1
      rw [hsame] at h1
      injection h1 with h1
      injection h1 with h1
      subst h1
      rw [hoth s' (fun x => hne x.symm)] at h2
      exact hnew s' (fun x => hne x.symm) _ _ _ h2 g hg
    · rw [hoth s e1] at h1
      by_cases e2 : s' = e.nm
      · subst e2
        rw [hsame] at h2
        injection h2 with h2
        injection h2 with h2
        subst h2
        exact fun hc => hnew s e1 _ _ _ h1 g hc hg
      · rw [hoth s' e2] at h2
        exact h.apart s s' hne _ _ _ _ _ _ h1 h2 g hg
end
end Go.Proofs.YtnjbpeojadbclaaDoor
