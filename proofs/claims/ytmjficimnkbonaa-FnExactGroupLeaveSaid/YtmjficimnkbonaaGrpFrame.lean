/- From the row's reading of a group to what the walks are told of it. -/
import Derived.Test.YtmjficimnkbonaaFrame
import Derived.Test.YtmjficimnkbonaaGrp
import Derived.SliceStrings
import Derived.Lib.SmallJoins
namespace Go.Proofs.Ytmjficimnkbonaa
open Go.ChangeShapes Go.WideShapes Go.ChangeAt Go.RowKit Go.Lib Go.Joins
open Go.ChangeMaps (open_string shut_string)

theorem sarg_nil (w : World) : SArg w none 0 0 [] := ⟨.inl rfl, rfl, Nat.le_refl _, by simp [maxLen], by simp⟩
theorem sarg_row {w : World} {x : Addr} {len cap : Nat} {zs : List ByteArray} (hl : len ≤ cap) (hm : cap ≤ maxLen) (hz : zs.length = cap)
    (hcell : ∀ i, i < zs.length → w.cell? (x.add i) = some (.string (zs.getD i ByteArray.empty))) (hw : ∀ s ∈ zs, s.size ≤ maxLen) : SArg w (some x) len cap (zs.take len) := by
  refine ⟨?_, by simp; omega, hl, hm, fun z hz' => hw z (List.mem_of_mem_take hz')⟩
  by_cases h0 : zs.take len = []
  · exact .inl (by rw [h0]; rfl)
  · have hpos : 0 < zs.length := by
      rcases Nat.eq_zero_or_pos zs.length with h | h
      · exact absurd (by rw [List.eq_nil_of_length_eq_zero h]; simp) h0
      · exact h
    obtain ⟨b, off, spot⟩ := x
    have hc := hcell 0 hpos
    have hspot : spot = none := by simpa [Addr.add] using World.cell?_spot hc
    subst hspot
    refine .inr ⟨b, off, rfl, fun j u hu => ?_⟩
    unfold strs at hu
    rw [List.getElem?_map, List.getElem?_take] at hu
    split at hu
    · obtain ⟨z, hzj, hu⟩ := Option.map_eq_some_iff.1 hu
      subst hu
      have hj : j < zs.length := (List.getElem?_eq_some_iff.1 hzj).1
      have hcj := hcell j hj
      have ha : (⟨b, off, none⟩ : Addr).add j = ⟨b, off + j, none⟩ := by
        unfold Addr.add
        split
        · subst_vars; simp
        · rfl
      rw [ha] at hcj
      rw [hcj]
      simp [hzj]
    · cases hu

theorem lawsGroup : Try.prog.underlying 35 = some (.struct #[⟨ "Stripes", 3, 0, false, "", "", 0⟩, ⟨ "Members", 23, 1, false, "", "", 8⟩]) := by kernel_rfl

theorem grp_open {H : Type} {enc : TypeId × Value → H} {W : World} {base : Nat} {v : Value} {d0 : DataW H} {p0 : List MemPlace} (hv : Value.okWide Try.prog W .any base 35 v)
    (h0 : DataW.Trod enc Try.prog W 0 (fun _ => true) true 35 v d0 p0) : ∃ (s : Int) (A : Option Addr) (n c : Nat) (ms : List ByteArray), v = .agg #[.int .i64 s, .slice A n c] ∧ SArg W A n c ms := by
  obtain ⟨v0, v1, y0, y1, m, rfl, _, hp, t0, t1⟩ := open_agg2 lawsGroup (by kernel_rfl) (by kernel_rfl) hv h0
  have hlt : ∀ x ∈ y1.2, x.block < W.heap.size := DataW.trod_lt m _ _ _ t1
  obtain ⟨s, e0, _, _⟩ := DataW.trod_int (k := .i64) (by kernel_rfl) t0
  injection e0 with e0
  subst e0
  rcases open_strings Try.underlying23 Try.underlying9 (by kernel_rfl) t1 with ⟨hcs, _⟩ | ⟨x, l, c, zs, hcs, _, hl, hm, hz, hx, hcell, hwz⟩
  · injection hcs with hcs
    subst hcs
    exact ⟨s, _, _, _, [], rfl, sarg_nil W⟩
  · injection hcs with hcs
    subst hcs
    have hz' : zs.length = c := by simpa using hz
    exact ⟨s, _, _, _, zs.take l, rfl, sarg_row hl hm hz' hcell hwz⟩

theorem str_open {H : Type} {enc : TypeId × Value → H} {W : World} {base : Nat} {v : Value} {d0 : DataW H} {p0 : List MemPlace} (hv : Value.okWide Try.prog W .any base 9 v)
    (h0 : DataW.Trod enc Try.prog W 0 (fun _ => true) true 9 v d0 p0) : ∃ s : ByteArray, v = .string s ∧ s.size ≤ maxLen := by
  obtain ⟨s, rfl, _, _, hs⟩ := open_string Try.underlying9 hv h0
  exact ⟨s, rfl, hs⟩
end Go.Proofs.Ytmjficimnkbonaa
