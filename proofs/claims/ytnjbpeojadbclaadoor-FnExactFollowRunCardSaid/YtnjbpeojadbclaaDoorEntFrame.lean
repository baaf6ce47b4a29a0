/- From the row's reading of a slice of entries to what the walks are told of it. -/
import Derived.Test.YtnjbpeojadbclaaDoorCar
import Derived.Test.YtnjbpeojadbclaaDoorRows
import Derived.ProofKit
import Derived.OpenShut
import Derived.ShutString
import Derived.ChangeOld
import Derived.Deep.Slices
import Derived.DataReads
namespace Go.Proofs.YtnjbpeojadbclaaDoor
open Go.ChangeShapes Go.WideShapes Go.ChangeAt Go.RowKit Go.Deep

theorem own : ownKnob Tryd.prog.godebug = none := by kernel_rfl
theorem laidOut : laidOutB Tryd.prog = true := by kernel_rfl
theorem lawsEvent : Tryd.prog.underlying 35 = some (.struct #[⟨ "Id", 3, 0, false, "", "", 0⟩, ⟨ "Kind", 9, 1, false, "", "", 8⟩, ⟨ "Data", 3, 2, false, "", "", 24⟩]) := by kernel_rfl
theorem lawsEntry : Tryd.prog.underlying 37 = some (.struct #[⟨ "Name", 9, 0, false, "", "", 0⟩, ⟨ "Event", 35, 1, false, "", "", 16⟩]) := by kernel_rfl
theorem lawsEntryCells : Tryd.prog.cellsOf 37 = 4 := by kernel_rfl
theorem lawsEventCells : Tryd.prog.cellsOf 35 = 3 := by kernel_rfl
theorem stringCells : Tryd.prog.cellsOf 9 = 1 := by kernel_rfl
theorem intCells : Tryd.prog.cellsOf 3 = 1 := by kernel_rfl

theorem four_of {α : Type} {l : List α} (h : l.length = 4) : ∃ a b c d, l = [a, b, c, d] := by
  match l, h with
  | [a, b, c, d], _ => exact ⟨a, b, c, d, rfl⟩
theorem two_of {α : Type} {l : List α} (h : l.length = 2) : ∃ a b, l = [a, b] := by
  match l, h with
  | [a, b], _ => exact ⟨a, b, rfl⟩
section
variable {H : Type} {enc : TypeId × Value → H} {w : World} {base : Nat} {spare : Nat → Bool} {held : Bool}
theorem ev_cells {fuel : Nat} {c0 c1 c2 : Value} {x : DataW H × List MemPlace} (h : DataW.trod enc Tryd.prog w base spare held fuel 35 [c0, c1, c2] = some x) :
    ∃ (i : Int) (k : ByteArray) (d : Int), c0 = .int .i64 i ∧ c1 = .string k ∧ c2 = .int .i64 d ∧ k.size ≤ maxLen := by
  obtain ⟨xs, n, _, _, _, hlen, hg⟩ := DataW.trod_struct lawsEvent h
  have g0 := hg 0 ⟨ "Id", 3, 0, false, "", "", 0⟩ rfl
  have g1 := hg 1 ⟨ "Kind", 9, 1, false, "", "", 8⟩ rfl
  have g2 := hg 2 ⟨ "Data", 3, 2, false, "", "", 24⟩ rfl
  simp only [intCells] at g0 g2
  simp only [stringCells] at g1
  match xs, hlen with
  | [y0, y1, y2], _ =>
    obtain ⟨i, e0, _, _⟩ := DataW.trod_int (k := .i64) (by kernel_rfl) (x := y0) (by simpa using g0)
    obtain ⟨s, e1, _, hs⟩ := DataW.trod_string (by kernel_rfl) (x := y1) (by simpa using g1)
    obtain ⟨d, e2, _, _⟩ := DataW.trod_int (k := .i64) (by kernel_rfl) (x := y2) (by simpa using g2)
    injection e0 with e0
    injection e1 with e1
    injection e2 with e2
    exact ⟨i, s, d, e0, e1, e2, hs⟩
theorem en_cells {fuel : Nat} {cs : List Value} {x : DataW H × List MemPlace} (h : DataW.trod enc Tryd.prog w base spare held fuel 37 cs = some x) : ∃ e : En, cs = e.cells ∧ e.ok := by
  obtain ⟨xs, n, _, _, hl, hlen, hg⟩ := DataW.trod_struct lawsEntry h
  rw [lawsEntryCells] at hl
  have g0 := hg 0 ⟨ "Name", 9, 0, false, "", "", 0⟩ rfl
  have g1 := hg 1 ⟨ "Event", 35, 1, false, "", "", 16⟩ rfl
  simp only [stringCells] at g0
  simp only [lawsEventCells] at g1
  have hlen2 : xs.length = 2 := hlen
  clear hg h hlen
  obtain ⟨c0, c1, c2, c3, rfl⟩ := four_of hl
  obtain ⟨y0, y1, rfl⟩ := two_of hlen2
  · obtain ⟨s, e0, _, hs⟩ := DataW.trod_string (by kernel_rfl) (x := y0) (by simpa using g0)
    injection e0 with e0
    obtain ⟨i, k, d, e1, e2, e3, hk⟩ := ev_cells (x := y1) (by simpa using g1)
    exact ⟨⟨s, ⟨i, k, d⟩⟩, by rw [e0, e1, e2, e3]; rfl, ⟨hs, hk⟩⟩
end

/-- Elements that lie one behind the other, as one list. -/
theorem ents_pick {w : World} {a : Addr} : ∀ (m : Nat), (∀ i, i < m → ∃ e : En, e.ok ∧ ∀ j u, e.cells[j]? = some u → w.cell? (a.add (i * 4 + j)) = some u) →
    ∃ es : List En, es.length = m ∧ (∀ e ∈ es, e.ok) ∧ ∀ j u, (ecells es)[j]? = some u → w.cell? (a.add j) = some u
  | 0, _ => ⟨[], rfl, by simp, by simp [ecells]⟩
  | m + 1, h => by
    obtain ⟨es, hl, ho, hc⟩ := ents_pick m (fun i hi => h i (by omega))
    obtain ⟨e, heo, hec⟩ := h m (by omega)
    refine ⟨es ++ [e], by simp [hl], fun x hx => ?_, fun j u hj => ?_⟩
    · rcases List.mem_append.1 hx with hx | hx
      · exact ho x hx
      · obtain rfl : x = e := by simpa using hx
        exact heo
    · rw [ecells_app] at hj
      rcases Nat.lt_or_ge j (m * 4) with c | c
      · rw [List.getElem?_append_left (by rw [ecells_len, hl]; exact c)] at hj
        exact hc j u hj
      · rw [List.getElem?_append_right (by rw [ecells_len, hl]; exact c), ecells_len, hl] at hj
        have := hec (j - m * 4) u (by simpa [ecells] using hj)
        rwa [show m * 4 + (j - m * 4) = j by omega] at this

/-- Out of the form's reading of an argument. -/
theorem ents_open {H : Type} {enc : TypeId × Value → H} {W : World} {a0 : Option Addr} {len0 cap0 : Nat} {d0 : DataW H} {p0 : List MemPlace}
    (h0 : DataW.Trod enc Tryd.prog W 0 (fun _ => true) true 22 (.slice a0 len0 cap0) d0 p0) : ∃ es, EArg W a0 len0 cap0 es := by
  obtain ⟨fuel, hf⟩ := h0
  rcases open_slice Tryd.underlying22 hf with ⟨hcs, _⟩ | ⟨x, l, c, m, n, D, Pl, hcs, _, hl, hm, hmm, _, hi⟩
  · simp [Value.cells] at hcs
    obtain ⟨rfl, rfl, rfl⟩ := hcs
    exact ⟨[], EArg.nil W⟩
  · simp [Value.cells] at hcs
    obtain ⟨rfl, rfl, rfl⟩ := hcs
    have hlm : len0 ≤ m := by rw [hmm]; simpa using hl
    rw [lawsEntryCells] at hi
    obtain ⟨es, hle, ho, hc⟩ := ents_pick (w := W) (a := x) len0 (fun i hil => by
      obtain ⟨cs', hcs', ht⟩ := hi i (by omega)
      obtain ⟨e, rfl, heo⟩ := en_cells ht
      obtain ⟨_, _, hat⟩ := World.cells?_some hcs'
      refine ⟨e, heo, fun j u hj => ?_⟩
      have hj4 : j < 4 := by
        have := (List.getElem?_eq_some_iff.1 hj).1
        simpa [En.cells] using this
      have := hat j hj4
      rw [hj, Go.Deep.add_add] at this
      exact this)
    refine ⟨es, ?_, hle, hl, hm, ho⟩
    rcases Nat.eq_zero_or_pos len0 with h0 | h0
    · have : es = [] := List.eq_nil_of_length_eq_zero (by rw [hle]; exact h0)
      rw [this]
      exact Lies.nil
    · obtain ⟨b, off, spot⟩ := x
      have hpos : 0 < (ecells es).length := by rw [ecells_len, hle]; omega
      have hc0 := hc 0 _ (List.getElem?_eq_getElem hpos)
      have hspot : spot = none := by simpa [Addr.add] using World.cell?_spot hc0
      subst hspot
      refine .inr ⟨b, off, rfl, fun j u hu => ?_⟩
      have hcj := hc j u hu
      have ha : (⟨b, off, none⟩ : Addr).add j = ⟨b, off + j, none⟩ := by
        unfold Addr.add
        split
        · subst_vars; simp
        · rfl
      rwa [ha] at hcj
end Go.Proofs.YtnjbpeojadbclaaDoor
