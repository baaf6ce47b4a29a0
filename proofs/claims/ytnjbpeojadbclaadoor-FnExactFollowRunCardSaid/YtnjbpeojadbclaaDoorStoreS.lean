/- Which stores are valid; spec.StoreValid. -/
import Derived.Test.YtnjbpeojadbclaaDoorEnt
import Derived.BigQuiet
import Derived.Deep.RegionHeld3
namespace Go.Proofs.YtnjbpeojadbclaaDoor
open Go.RowKit

/-- What no two entries of a store may have in common. -/
def En.key (e : En) : ByteArray × Int := (e.nm, e.ev.id)
def storeB (l : List En) : Bool := decide (l.length ≤ 24) && l.all enB && decide ((l.map En.key).Nodup)
def stGood (l : List En) (k : Nat) : Prop := (l.take k).all enB = true ∧ ((l.take k).map En.key).Nodup

section
variable {l : List En} {k j : Nat}
theorem stGood_zero (l : List En) : stGood l 0 := ⟨rfl, List.nodup_nil⟩
theorem stGood_next (h : stGood l k) (hk : k < l.length) (h1 : enB l[k] = true) (h2 : ∀ j, (hj : j < k) → l[j].key ≠ l[k].key) : stGood l (k + 1) := by
  unfold stGood
  rw [List.take_succ_eq_append_getElem hk]
  refine ⟨by rw [List.all_append, h.1]; simpa using h1, ?_⟩
  rw [List.map_append, List.map_cons, List.map_nil, List.nodup_append]
  refine ⟨h.2, by simp, ?_⟩
  intro a ha b hb
  simp at hb
  subst hb
  obtain ⟨x, hx, rfl⟩ := List.mem_map.1 ha
  obtain ⟨i, hi, rfl⟩ := List.mem_iff_getElem.1 hx
  rw [List.getElem_take]
  exact h2 i (by rw [List.length_take] at hi; omega)
theorem storeB_bad (hk : k < l.length) (h : enB l[k] = false) : storeB l = false := by
  have : l.all enB = false := List.all_eq_false.2 ⟨l[k], List.getElem_mem _, by simp [h]⟩
  simp only [storeB, this, Bool.and_false, Bool.false_and]
theorem storeB_twice (hk : k < l.length) (hj : j < k) (h : l[j].key = l[k].key) : storeB l = false := by
  have : ¬ (l.map En.key).Nodup := by
    intro hn
    have h1 : j < (l.map En.key).length := by rw [List.length_map]; omega
    have h2 : k < (l.map En.key).length := by rw [List.length_map]; omega
    have := (List.getElem_inj (h₀ := h1) (h₁ := h2) hn).1 (by rw [List.getElem_map, List.getElem_map, h])
    omega
  simp only [storeB, this, decide_false, Bool.and_false]
theorem storeB_long (h : 24 < l.length) : storeB l = false := by
  simp only [storeB, show decide (l.length ≤ 24) = false by simp; omega, Bool.false_and]
theorem storeB_good (h : l.length ≤ 24) (h1 : stGood l l.length) : storeB l = true := by
  obtain ⟨h1, h2⟩ := h1
  rw [List.take_length] at h1 h2
  simp only [storeB, h, h1, h2, decide_true, Bool.and_self]
theorem storeB_ok (h1 : stGood l l.length) : storeB l = decide (l.length ≤ 24) := by
  obtain ⟨h1, h2⟩ := h1
  rw [List.take_length] at h1 h2
  simp only [storeB, h1, h2, decide_true, Bool.and_true]
end


theorem sev_fit (i : Int) (k : ByteArray) (d : Int) (b : Bool) (w : World) (hk : k.size ≤ maxLen) (hb : evB ⟨i, k, d⟩ = b) :
    Calls Tryd.prog 29 #[.agg #[.int .i64 i, .string k, .int .i64 d]] w fun e w' => e = .returned (.bool b) ∧ w.grownBy w' none := sevm_is i k d b w hk hb

set_option maxHeartbeats 4000000 in
theorem ssv_is (A : Option Addr) (n c : Nat) (l : List En) (b : Bool) (w : World) (h : EArg w A n c l) (hn : n ≤ 1048576) (hb : storeB l = b) :
    Calls Tryd.prog 15 #[.slice A n c] w fun e w' => e = .returned (.bool b) ∧ w.grownBy w' none := by
  have hc := h.cap
  have hm := h.max
  unfold maxLen at hm
  have HN := hid h.len
  have HA := hid h
  have HB := hid hb
  clear h hb
  go_enter Tryd.func15, Tryd.ntmps15
  go_wp2_with fail
  go_loopw [3] (fun i wr => ∃ k : Nat, i = .int .i64 (k : Int) ∧ k ≤ n ∧ stGood l k ∧ w.grownBy wr none) (fun i _ => n - (intOf i).toNat)
  case atStart => exact ⟨0, rfl, by omega, stGood_zero l, gr_refl _ _⟩
  case round =>
    obtain ⟨k, rfl, hkn, hG, hgr⟩ := hrel
    have HG := hid hG
    clear hG
    by_cases hlt : k < n
    · have hkl : k < l.length := by rw [HN.out]; exact hlt
      obtain ⟨g, o, rfl, hgl, hcells⟩ := HA.out.open_ (by omega)
      have cc := hcells k hkl
      have hok := HA.out.ok _ (List.getElem_mem hkl)
      obtain ⟨x, hx⟩ : ∃ x, l[k] = x := ⟨_, rfl⟩
      rw [hx] at cc hok
      obtain ⟨nm, ei, ek, ed⟩ := x
      simp only [] at cc
      have h1 := hok.nm
      have h2 := hok.kind
      simp only [] at h1 h2
      obtain ⟨b1, hb1⟩ : ∃ b, nameB nm = b := ⟨_, rfl⟩
      obtain ⟨b2, hb2⟩ : ∃ b, evB ⟨ei, ek, ed⟩ = b := ⟨_, rfl⟩
      have e1 := snv_is nm b1 wr h1 hb1
      have e2 := fun w => sev_fit ei ek ed b2 w h2 hb2
      have c0 := (cc wr hgr).1
      have p0 : (0 : Int) ≤ (k : Int) := by omega
      have p1 : (k : Int) < (n : Int) := by omega
      have HX := hid hx
      have HE := hid (show enB l[k] = (b1 && b2) by rw [hx, enB, hb1, hb2])
      have HC := hid cc
      have HCs := hid hcells
      clear hx hok hb1 hb2 cc hcells h1 h2
      go_wp2_with fail
      refine e1.mono ?_
      rintro e w1 ⟨rfl, hg1⟩
      have G1 := gr_0 hgr hg1
      clear e1 hg1
      cases b1 with
      | false =>
        obtain rfl : b = false := by rw [← HB.out]; exact storeB_bad hkl (by rw [HE.out]; rfl)
        clear e2
        go_wp2_with fail
        go_ret
        exact ⟨rfl, G1⟩
      | true =>
      have c1 := (HC.out w1 G1).2.1
      have c2 := (HC.out w1 G1).2.2.1
      have c3 := (HC.out w1 G1).2.2.2
      go_wp2_with fail
      refine (e2 _).mono ?_
      rintro e w2 ⟨rfl, hg2⟩
      have G2 := gr_0 G1 hg2
      clear e2 hg2 G1 c1 c2 c3 c0
      cases b2 with
      | false =>
        obtain rfl : b = false := by rw [← HB.out]; exact storeB_bad hkl (by rw [HE.out]; rfl)
        go_wp2_with fail
        go_ret
        exact ⟨rfl, G2⟩
      | true =>
      have HE1 := hid (show enB l[k] = true by rw [HE.out]; rfl)
      clear HE hgr
      go_wp2_with fail
      obtain ⟨wo, hwo⟩ : ∃ wo : World, wo = w2 := ⟨_, rfl⟩
      rw [← hwo] at G2 ⊢
      clear hwo
      go_loopw [4] (fun i wi => ∃ j : Nat, i = .int .i64 (j : Int) ∧ j ≤ k ∧ (∀ m, (hm : m < j) → (hk : j ≤ k) → l[m].key ≠ l[k].key) ∧ wo.grownBy wi none) (fun i _ => k - (intOf i).toNat)
      case atStart => exact ⟨0, rfl, by omega, fun m hm => absurd hm (by omega), gr_refl _ _⟩
      case round =>
        obtain ⟨j, rfl, hjk, hno, hgi⟩ := hrel
        have HNO := hid hno
        clear hno
        by_cases hlt2 : j < k
        · have hjl : j < l.length := by omega
          have cj := fun w' (hg : wr.grownBy w' none) => HCs.out j hjl w' (gr_0 (gr_0 G2 hgi) hg)
          have ck := fun w' (hg : wr.grownBy w' none) => HC.out w' (gr_0 (gr_0 G2 hgi) hg)
          obtain ⟨y, hy⟩ : ∃ y, l[j] = y := ⟨_, rfl⟩
          rw [hy] at cj
          obtain ⟨nm2, ei2, ek2, ed2⟩ := y
          simp only [] at cj
          have q0 := (cj wr (gr_refl _ _)).1
          have q1 := (cj wr (gr_refl _ _)).2.1
          have r0 := (ck wr (gr_refl _ _)).1
          have r1 := (ck wr (gr_refl _ _)).2.1
          have p2 : (0 : Int) ≤ (j : Int) := by omega
          have p3 : (j : Int) < (n : Int) := by omega
          have p4 : (j : Int) < (k : Int) := by omega
          have GI := gr_0 G2 hgi
          have HY := hid hy
          clear cj ck hy
          by_cases e : nm2 = nm
          · have t1 : (nm2.toList == nm.toList) = true := by rw [e]; simp
            by_cases e3 : ei2 = ei
            · have t2 : (ei2 == ei) = true := by simp [e3]
              obtain rfl : b = false := by rw [← HB.out]; exact storeB_twice hkl hlt2 (by rw [HY.out, HX.out, En.key, En.key, e, e3])
              clear e e3
              go_wp2_with fail
              go_quiet (fail)
              go_wp2_with fail
              go_ret
              exact ⟨rfl, gr_drewN GI _⟩
            · have t2 : (ei2 == ei) = false := by simpa using e3
              have HNE := hid (show l[j].key ≠ l[k].key by rw [HY.out, HX.out, En.key, En.key]; intro x; exact e3 (Prod.mk.inj x).2)
              clear e e3
              go_wp2_with fail
              go_quiet (fail)
              go_wp2_with fail
              go_roundw
              case rel =>
                refine ⟨j + 1, by go_num, by omega, fun m hm _ => ?_, gr_drewN hgi _⟩
                rcases (by omega : m < j ∨ m = j) with h | rfl
                · exact HNO.out m h (by omega)
                · exact HNE.out
              case measure => simp [intOf]; omega
          · have e0 : nm2.toList ≠ nm.toList := fun x => e (toList_inj x)
            have t1 : (nm2.toList == nm.toList) = false := by simpa using e0
            have HNE := hid (show l[j].key ≠ l[k].key by rw [HY.out, HX.out, En.key, En.key]; intro x; exact e (Prod.mk.inj x).1)
            clear e e0
            go_wp2_with fail
            go_quiet (fail)
            go_wp2_with fail
            go_roundw
            case rel =>
              refine ⟨j + 1, by go_num, by omega, fun m hm _ => ?_, gr_drewN hgi _⟩
              rcases (by omega : m < j ∨ m = j) with h | rfl
              · exact HNO.out m h (by omega)
              · exact HNE.out
            case measure => simp [intOf]; omega
        · obtain rfl : j = k := by omega
          have HG2 := hid (stGood_next HG.out hkl HE1.out (fun m hm => HNO.out m hm (Nat.le_refl _)))
          go_wp2_with fail
          go_roundw
          case rel => exact ⟨j + 1, by go_num, by omega, HG2.out, gr_0 G2 hgi⟩
          case measure => simp [intOf]; omega
    · obtain rfl : k = n := by omega
      have HX := hid (show decide ((k : Int) ≤ 24) = b by
        have h1 := HG.out
        rw [← HB.out, storeB_ok (by rw [HN.out]; exact h1), HN.out]
        exact decide_eq_decide.2 (by omega))
      go_wp2_with fail
      go_ret
      exact ⟨ret_bool HX.out, hgr⟩
end Go.Proofs.YtnjbpeojadbclaaDoor
