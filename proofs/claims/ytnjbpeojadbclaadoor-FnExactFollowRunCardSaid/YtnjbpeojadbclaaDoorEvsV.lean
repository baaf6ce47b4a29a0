/- Lists of events: what is valid, in impl. -/
import Derived.Test.YtnjbpeojadbclaaDoorEv
import Derived.Test.YtnjbpeojadbclaaDoorOwn
import Derived.BigQuiet
import Derived.Deep.QuietTactic
namespace Go.Proofs.YtnjbpeojadbclaaDoor
open Go.RowKit

def evsB (l : List Ev) : Bool := decide (l.length ≤ 24) && l.all evB && decide ((l.map Ev.id).Nodup)
def evGood (l : List Ev) (k : Nat) : Prop := (l.take k).all evB = true ∧ ((l.take k).map Ev.id).Nodup

section
variable {l : List Ev} {k j : Nat}
theorem evGood_zero (l : List Ev) : evGood l 0 := ⟨rfl, List.nodup_nil⟩
theorem evGood_next (h : evGood l k) (hk : k < l.length) (h1 : evB l[k] = true) (h2 : ∀ j, (hj : j < k) → l[j].id ≠ l[k].id) : evGood l (k + 1) := by
  unfold evGood
  rw [List.take_succ_eq_append_getElem hk]
  refine ⟨by rw [List.all_append, h.1]; simpa using h1, ?_⟩
  rw [List.map_append, List.map_cons, List.map_nil, List.nodup_append]
  refine ⟨h.2, by simp, ?_⟩
  intro a ha b hb
  simp at hb
  subst hb
  obtain ⟨x, hx, rfl⟩ := List.mem_map.1 ha
  obtain ⟨i, hi, rfl⟩ := List.mem_iff_getElem.1 hx
  rw [List.getElem_take]
  exact h2 i (by rw [List.length_take] at hi; omega)
theorem evsB_bad (hk : k < l.length) (h : evB l[k] = false) : evsB l = false := by
  have : l.all evB = false := List.all_eq_false.2 ⟨l[k], List.getElem_mem _, by simp [h]⟩
  simp only [evsB, this, Bool.and_false, Bool.false_and]
theorem evsB_twice (hk : k < l.length) (hj : j < k) (h : l[j].id = l[k].id) : evsB l = false := by
  have : ¬ (l.map Ev.id).Nodup := by
    intro hn
    have h1 : j < (l.map Ev.id).length := by rw [List.length_map]; omega
    have h2 : k < (l.map Ev.id).length := by rw [List.length_map]; omega
    have := (List.getElem_inj (h₀ := h1) (h₁ := h2) hn).1 (by rw [List.getElem_map, List.getElem_map, h])
    omega
  simp only [evsB, this, decide_false, Bool.and_false]
theorem evsB_long (h : 24 < l.length) : evsB l = false := by
  simp only [evsB, show decide (l.length ≤ 24) = false by simp; omega, Bool.false_and]
theorem evsB_good (h : l.length ≤ 24) (h1 : evGood l l.length) : evsB l = true := by
  obtain ⟨h1, h2⟩ := h1
  rw [List.take_length] at h1 h2
  simp only [evsB, h, h1, h2, decide_true, Bool.and_self]
theorem evsB_ok (h1 : evGood l l.length) : evsB l = decide (l.length ≤ 24) := by
  obtain ⟨h1, h2⟩ := h1
  rw [List.take_length] at h1 h2
  simp only [evsB, h1, h2, decide_true, Bool.and_true]
end

/-- The cells of an event of a list. -/
theorem evAt {w : World} {g o : Nat} {l : List Ev} {k : Nat} (hcell : ∀ j u, (l.flatMap Ev.cells)[j]? = some u → w.cell? ⟨g, o + j, none⟩ = some u) (hk : k < l.length) :
    w.cell? ⟨g, o + k * 3, none⟩ = some (.int .i64 l[k].id) ∧ w.cell? ⟨g, o + k * 3 + 1, none⟩ = some (.string l[k].kind) ∧ w.cell? ⟨g, o + k * 3 + 2, none⟩ = some (.int .i64 l[k].data) := by
  have h := fun j (hj : j < 3) => flat_at Ev.cells 3 (fun _ => rfl) l k j hk hj
  exact ⟨hcell _ _ (h 0 (by omega)), hcell _ _ (h 1 (by omega)), hcell _ _ (h 2 (by omega))⟩

set_option maxHeartbeats 1000000 in
theorem evsv_any (A : Option Addr) (c : Nat) (l : List Ev) (w : World) (h : Lies w A (l.flatMap Ev.cells)) (hc : l.length ≤ c) (hm : c ≤ maxLen) (hk : ∀ x ∈ l, x.kind.size ≤ maxLen) :
    Calls Tryd.prog 33 #[.slice A l.length c] w fun e w' => e = .returned (.bool (evsB l)) ∧ w.grownBy w' none := by
  unfold maxLen at hm
  rcases (by omega : l.length = 0 ∨ 24 < l.length ∨ (1 ≤ l.length ∧ l.length ≤ 24)) with h0 | h0 | ⟨h0, h1⟩
  · obtain rfl := List.eq_nil_of_length_eq_zero h0
    rw [show evsB ([] : List Ev) = true by decide]
    go_enter Tryd.func33, Tryd.ntmps33
    go_wp2_with fail
    go_loopw [12] (fun i wr => i = .int .i64 0 ∧ w = wr) (fun _ _ => 0)
    case atStart => exact ⟨rfl, rfl⟩
    case round =>
      obtain ⟨rfl, rfl⟩ := hrel
      go_wp2_with fail
      go_ret
      exact ⟨rfl, gr_refl _ _⟩
  · rw [evsB_long h0]
    go_enter Tryd.func33, Tryd.ntmps33
    go_wp2_with fail
    go_ret
    exact ⟨rfl, gr_refl _ _⟩
  · obtain ⟨g, o, rfl, hg, hcell⟩ := h.open_ (by rw [flat_len Ev.cells 3 (fun _ => rfl)]; omega)
    obtain ⟨n, hn⟩ : ∃ n, l.length = n := ⟨_, rfl⟩
    rw [hn] at hc h0 h1 ⊢
    have HN := hid hn
    clear hn
    go_enter Tryd.func33, Tryd.ntmps33
    go_wp2_with fail
    go_loopw [12] (fun i wr => ∃ k : Nat, i = .int .i64 k ∧ k ≤ n ∧ evGood l k ∧ w.grownBy wr none) (fun i _ => n - (intOf i).toNat)
    case atStart => exact ⟨0, rfl, by omega, evGood_zero l, gr_refl _ _⟩
    case round =>
      obtain ⟨k, rfl, hkn, hgood, hgr⟩ := hrel
      have HG := hid hgood
      clear hgood
      by_cases hlt : k < n
      · have hkl : k < l.length := by rw [HN.out]; exact hlt
        obtain ⟨ca, cb, cd⟩ := evAt hcell hkl
        replace ca := hgr.cell ca (by simp)
        replace cb := hgr.cell cb (by simp)
        replace cd := hgr.cell cd (by simp)
        have hks := hk _ (List.getElem_mem hkl)
        obtain ⟨x, hx⟩ : ∃ x, x = l[k] := ⟨_, rfl⟩
        rw [← hx] at ca cb cd hks
        obtain ⟨i, s, d⟩ := x
        simp only [] at ca cb cd hks
        have HX := hid hx
        clear hx
        obtain ⟨b, hb⟩ : ∃ b, evB ⟨i, s, d⟩ = b := ⟨_, rfl⟩
        have e1 := fun w => evm_is i s d b w hks hb
        have HB := hid hb
        clear hb
        have E := Full.new wr 40 #[.int .i64 i, .string s, .int .i64 d]
        go_wp2_with fail
        refine (e1 _).mono ?_
        rintro e w1 ⟨rfl, hg1⟩
        have E1 := E.grown hg1 (by simp)
        have G1 := gr_0 (gr_alloc hgr (.cells #[.int .i64 i, .string s, .int .i64 d] 40)) hg1
        clear hg1 E e1
        cases b
        · go_wp2_with fail
          go_ret
          exact ⟨ret_bool (evsB_bad hkl (by rw [← HX.out]; exact HB.out)).symm, G1⟩
        · go_wp2_with fail
          obtain ⟨wo, hwo⟩ : ∃ wo : World, wo = w1 := ⟨_, rfl⟩
          rw [← hwo] at E1 G1 ⊢
          clear hwo
          have hwE := E1.lt
          go_loopw [24] (fun i wi => ∃ j : Nat, i = .int .i64 j ∧ j ≤ k ∧ (∀ m, (hm : m < j) → (hk : j ≤ k) → l[m].id ≠ l[k].id) ∧ wo.grownBy wi none) (fun i _ => k - (intOf i).toNat)
          case atStart => exact ⟨0, rfl, by omega, fun m hm => absurd hm (by omega), gr_refl _ _⟩
          case round =>
            obtain ⟨j, rfl, hjk, hno, hgi⟩ := hrel
            have HNO := hid hno
            clear hno
            have E2 := E1.grown hgi (by simp)
            have q0 := E2.cellAt 0 rfl
            by_cases hlt2 : j < k
            · have hjl : j < l.length := by omega
              obtain ⟨ra, rb, rd⟩ := evAt hcell hjl
              have G2 := gr_0 G1 hgi
              replace ra := G2.cell ra (by simp)
              replace rb := G2.cell rb (by simp)
              replace rd := G2.cell rd (by simp)
              obtain ⟨y, hy⟩ : ∃ y, y = l[j] := ⟨_, rfl⟩
              rw [← hy] at ra rb rd
              obtain ⟨i2, s2, d2⟩ := y
              simp only [] at ra rb rd
              have HY := hid hy
              clear hy
              have q1 := fun o => (E2.alloc o).cellAt 0 rfl
              rcases (by by_cases h : i2 = i; exact .inl h; exact .inr h : i2 = i ∨ i2 ≠ i) with he | he
              · have he' : (i2 == i) = true := by simp [he]
                have HE := hid (evsB_twice hkl hlt2 (by rw [← HY.out, ← HX.out]; exact he))
                clear he
                go_wp2_with fail
                go_ret
                exact ⟨ret_bool HE.out.symm, gr_alloc G2 _⟩
              · have he' : (i2 == i) = false := by simp [he]
                have HE := hid he
                clear he
                go_wp2_with fail
                go_roundw
                case rel =>
                  refine ⟨j + 1, by go_num, by omega, fun m hm _ => ?_, gr_alloc hgi _⟩
                  rcases (by omega : m < j ∨ m = j) with h | rfl
                  · exact HNO.out m h (by omega)
                  · rw [← HY.out, ← HX.out]
                    exact HE.out
                case measure => simp [intOf]; omega
            · obtain rfl : j = k := by omega
              have HG2 := hid (evGood_next HG.out hkl (by rw [← HX.out]; exact HB.out) (fun m hm => HNO.out m hm (by omega)))
              have G2 := gr_0 G1 hgi
              go_wp2_with fail
              go_roundw
              case rel => exact ⟨j + 1, by go_num, by omega, HG2.out, G2⟩
              case measure => simp [intOf]; omega
      · obtain rfl : k = n := by omega
        have HE := hid (evsB_good (by rw [HN.out]; exact h1) (by rw [HN.out]; exact HG.out))
        go_wp2_with fail
        go_ret
        exact ⟨ret_bool HE.out.symm, hgr⟩
theorem evsv_is (A : Option Addr) (n c : Nat) (l : List Ev) (b : Bool) (w : World) (h : Lies w A (l.flatMap Ev.cells)) (hn : l.length = n) (hc : n ≤ c) (hm : c ≤ maxLen) (hk : ∀ x ∈ l, x.kind.size ≤ maxLen) (hb : evsB l = b) :
    Calls Tryd.prog 33 #[.slice A n c] w fun e w' => e = .returned (.bool b) ∧ w.grownBy w' none := by
  subst hn hb
  exact evsv_any A c l w h hc hm hk

end Go.Proofs.YtnjbpeojadbclaaDoor
