/- From the row's reading of a slice of bytes to what the walks are told of the code. -/
import Derived.Test.YtaiacpihkhjghaaDoorWords
import Derived.Test.YtaiacpihkhjghaaDoorRows
import Derived.ProofKit
import Derived.OpenShut
import Derived.ShutString
import Derived.ChangeOld
namespace Go.Proofs.YtaiacpihkhjghaaDoor
open Go.ChangeShapes Go.WideShapes Go.ChangeAt Go.RowKit

theorem own : ownKnob Tryd.prog.godebug = none := by kernel_rfl
theorem laidOut : laidOutB Tryd.prog = true := by kernel_rfl

theorem code_nil (w : World) : Code w none 0 0 [] := ⟨.inl rfl, rfl, Nat.le_refl _, by simp [maxLen], by simp⟩

theorem code_row {w : World} {x : Addr} {len cap : Nat} {zs : List Int} (hl : len ≤ cap) (hm : cap ≤ maxLen) (hz : zs.length = cap)
    (hcell : ∀ i, i < zs.length → w.cell? (x.add i) = some (.int .u8 (zs.getD i 0))) (hw : ∀ n ∈ zs, (Lit.int .u8 n).wf = true) : Code w (some x) len cap (zs.take len) := by
  refine ⟨?_, by simp; omega, hl, hm, fun z hz' => ?_⟩
  · by_cases h0 : zs.take len = []
    · exact .inl (by rw [h0]; rfl)
    · have hpos : 0 < zs.length := by
        rcases Nat.eq_zero_or_pos zs.length with h | h
        · exact absurd (by rw [List.eq_nil_of_length_eq_zero h]; simp) h0
        · exact h
      obtain ⟨b, off, spot⟩ := x
      have hc := hcell 0 hpos
      have hspot : spot = none := by simpa [Addr.add] using World.cell?_spot hc
      subst hspot
      refine .inr ⟨b, off, rfl, World.block_lt_of_cell? w _ (by simpa [Addr.add] using hc), fun j u hu => ?_⟩
      rw [List.getElem?_map, List.getElem?_take] at hu
      split at hu
      · obtain ⟨z, hzj, hu⟩ := Option.map_eq_some_iff.1 hu
        subst hu
        have hj : j < zs.length := (List.getElem?_eq_some_iff.1 hzj).1
        have hcj := hcell j hj
        have ha : (⟨b, off, none⟩ : Addr).add j = ⟨b, off + j, none⟩ := by
          unfold Addr.add
          split
          · subst_vars; simp
          · rfl
        rw [ha] at hcj
        rw [hcj]
        simp [hzj]
      · cases hu
  · have := hw z (List.mem_of_mem_take hz')
    have := bounds_u8 this
    omega

/-- Out of the form's reading of an argument. -/
theorem code_open {H : Type} {enc : TypeId × Value → H} {W : World} {a0 : Option Addr} {len0 cap0 : Nat} {d0 : DataW H} {p0 : List MemPlace}
    (h0 : DataW.Trod enc Tryd.prog W 0 (fun _ => true) true 22 (.slice a0 len0 cap0) d0 p0) : ∃ zs, Code W a0 len0 cap0 zs := by
  obtain ⟨fuel, hf⟩ := h0
  rcases open_ints Tryd.underlying22 Tryd.underlying5 (by kernel_rfl) hf with ⟨hcs, _⟩ | ⟨x, l, c, zs, hcs, _, hl, hm, hz, _, hcell, hwz⟩
  · simp [Value.cells] at hcs
    obtain ⟨rfl, rfl, rfl⟩ := hcs
    exact ⟨[], code_nil W⟩
  · simp [Value.cells] at hcs
    obtain ⟨rfl, rfl, rfl⟩ := hcs
    exact ⟨_, code_row hl hm (by simpa using hz) hcell hwz⟩
end Go.Proofs.YtaiacpihkhjghaaDoor
