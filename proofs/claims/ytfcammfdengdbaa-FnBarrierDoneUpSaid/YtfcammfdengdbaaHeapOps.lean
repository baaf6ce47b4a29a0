/- container/heap over openHeap: up, down. -/
import Derived.Test.YtfcammfdengdbaaHeapM
namespace Go.Proofs.Ytfcammfdengdbaa
open Go.RowKit

theorem hless_is (base : Nat) (A : Option Addr) (n c : Nat) (xs : List Int) (i j : Nat) (b : Bool) (w : World) (h : Own w base 3 1 A n c (ints xs)) (hl : xs.length = n) (hi : i < n) (hj : j < n) (hb : decide (xs.getD i 0 < xs.getD j 0) = b) :
    Calls Try.prog 63 #[.slice A n c, .int .i64 (i : Int), .int .i64 (j : Int)] w fun e w' => e = .returned (.bool b) ∧ w.grownBy w' none :=
  (hless_any base A n c xs i j b w h hl hi hj hb).mono fun _ _ ⟨q, he, hw⟩ => ⟨he, by rw [hw]; exact gr_drewN (gr_refl _ _) q⟩
theorem Hp.less {w : World} {base hb n c : Nat} {A : Option Addr} {xs : List Int} (h : Hp w base hb A n c xs) {i j : Nat} {b : Bool} (hi : i < n) (hj : j < n) (hb : decide (xs.getD i 0 < xs.getD j 0) = b) :
    Calls Try.prog 63 #[.slice A n c, .int .i64 (i : Int), .int .i64 (j : Int)] w fun e w' => e = .returned (.bool b) ∧ w.grownBy w' none := hless_is base A n c xs i j b w h.own h.len hi hj hb
theorem Hp.swap {w : World} {base hb n c : Nat} {A : Option Addr} {xs : List Int} (h : Hp w base hb A n c xs) {i j : Nat} (hi : i < n) (hj : j < n) :
    Calls Try.prog 66 #[.slice A n c, .int .i64 (i : Int), .int .i64 (j : Int)] w fun e w' => e = .returned (.tuple #[]) ∧ Hp w' base hb A n c (swp xs i j) ∧ w.grownBy w' (blockOf A) := by
  have key : ∀ e w', SwapTo w base A n c xs i j e w' → e = .returned (.tuple #[]) ∧ Hp w' base hb A n c (swp xs i j) ∧ w.grownBy w' (blockOf A) := fun e w' ⟨he, hO, hg⟩ =>
    ⟨he, ⟨h.full.grown hg (fun e => h.ne _ e.symm rfl), hO, by rw [swp_len]; exact h.len, h.ge⟩, hg⟩
  by_cases e : i = j
  · subst e
    exact (hswap_same base A n c xs i w h.own h.len hi).mono key
  · exact (hswap_any base A n c xs i j w h.own h.len hi hj e).mono key

/-- What up leaves. -/
def UpTo (w : World) (base hb : Nat) (A : Option Addr) (n c : Nat) (xs : List Int) (e : Ending) (w' : World) : Prop :=
  ∃ ys : List Int, e = .returned (.tuple #[]) ∧ Hp w' base hb A n c ys ∧ ys.Perm xs ∧ HeapFrom 0 n ys ∧ w.grownBy w' (blockOf A)
set_option maxHeartbeats 1000000 in
theorem up_any (base hb : Nat) (A : Option Addr) (n c : Nat) (xs : List Int) (j : Nat) (w : World) (h : Hp w base hb A n c xs) (hu : UpAt n j xs xs) (hn : n ≤ 1000) :
    Calls Try.prog 44 #[.iface 45 (.pointer (some ⟨hb, 0, none⟩)), .int .i64 (j : Int)] w (UpTo w base hb A n c xs) := by
  have H0 := hid h
  have U0 := hid hu
  clear h hu
  go_enter Try.func44, Try.ntmps44
  go_wp2_with fail
  go_loopw [1] (fun v wr => ∃ (j : Nat) (ys : List Int), v = .int .i64 (j : Int) ∧ UpAt n j xs ys ∧ Hp wr base hb A n c ys ∧ w.grownBy wr (blockOf A)) (fun v _ => (intOf v).toNat)
  case atStart => exact ⟨j, xs, rfl, U0.out, H0.out, gr_refl _ _⟩
  case round =>
    clear H0 U0
    obtain ⟨j, ys, rfl, hu, h, hgr⟩ := hrel
    have hjn := hu.lt
    have HU := hid hu
    have HH := hid h
    have c0 := h.full.cellAt 0 (v := .slice A n c) rfl
    have m1 := meth_less hb _ wr c0
    clear hu
    rcases (by omega : j = 0 ∨ 1 ≤ j) with h0 | h0
    · subst h0
      have HF := hid (up_stop HU.out (.inl rfl))
      clear h c0 m1
      go_wp2_with fail
      go_end0
      exact ⟨ys, rfl, HH.out, HU.out.perm, HF.out, hgr⟩
    · obtain ⟨p, hp⟩ : ∃ p, par j = p := ⟨_, rfl⟩
      have hpj : p < j := by have := par_lt h0; omega
      have q1 : ((j : Int) - 1) / 2 = (p : Int) := by unfold par at hp; omega
      have q2 : ((p : Int) == (j : Int)) = false := by simp; omega
      obtain ⟨b, hb1⟩ : ∃ b, decide (ys.getD j 0 < ys.getD p 0) = b := ⟨_, rfl⟩
      have e1 := h.less hjn (show p < n by omega) hb1
      have HP := hid hp
      have HB1 := hid hb1
      clear hp hb1 h c0
      go_wp2_with fail
      refine e1.mono ?_
      rintro e w1 ⟨rfl, hg1⟩
      have h1 := HH.out.kept0 hg1
      have G1 := gr_0 hgr hg1
      clear e1 m1 hg1
      cases b with
      | false =>
        have HF := hid (up_stop HU.out (.inr (by rw [HP.out]; simpa using HB1.out)))
        have H1 := hid h1
        clear h1 q1
        go_wp2_with fail
        go_end0
        exact ⟨ys, rfl, H1.out, HU.out.perm, HF.out, G1⟩
      | true =>
        have c1 := h1.full.cellAt 0 (v := .slice A n c) rfl
        have m2 := meth_swap hb _ w1 c1
        have e2 := h1.swap (i := p) (j := j) (by omega) hjn
        have HN := hid (up_step HU.out h0 (by rw [HP.out]; simpa using HB1.out) (by rw [h1.len]; exact Nat.le_refl _))
        rw [HP.out] at HN
        clear h1 c1
        go_wp2_with fail
        refine e2.mono ?_
        rintro e w2 ⟨rfl, h2, hg2⟩
        have G2 := gr_trans G1 hg2
        clear e2 m2 hg2
        go_wp2_with fail
        go_roundw
        case rel => exact ⟨p, _, rfl, HN.out, h2, G2⟩
        case measure => simp [intOf]; omega

/-- What down leaves. -/
def DownTo (w : World) (base hb : Nat) (A : Option Addr) (n c : Nat) (xs : List Int) (i0 m : Nat) (e : Ending) (w' : World) : Prop :=
  ∃ (ys : List Int) (b : Bool), e = .returned (.bool b) ∧ Hp w' base hb A n c ys ∧ Downed i0 m xs ys ∧ w.grownBy w' (blockOf A)
theorem less_one {m k : Nat} {ys : List Int} (h1 : 2 * k + 1 < m) (h2 : m ≤ 2 * k + 2) : LessChild m k (2 * k + 1) ys :=
  ⟨.inl rfl, h1, fun i hi h3 e => by rcases par_child h3 e with e | e <;> subst e <;> first | exact Int.le_refl _ | omega⟩
theorem less_left {m k : Nat} {ys : List Int} (h1 : 2 * k + 1 < m) (h : ¬ ys.getD (2 * k + 2) 0 < ys.getD (2 * k + 1) 0) : LessChild m k (2 * k + 1) ys :=
  ⟨.inl rfl, h1, fun i hi h3 e => by rcases par_child h3 e with e | e <;> subst e <;> omega⟩
theorem less_right {m k : Nat} {ys : List Int} (h1 : 2 * k + 2 < m) (h : ys.getD (2 * k + 2) 0 < ys.getD (2 * k + 1) 0) : LessChild m k (2 * k + 2) ys :=
  ⟨.inr rfl, h1, fun i hi h3 e => by rcases par_child h3 e with e | e <;> subst e <;> omega⟩
set_option maxHeartbeats 2000000 in
theorem down_any (base hb : Nat) (A : Option Addr) (n c : Nat) (xs : List Int) (i0 m : Nat) (w : World) (h : Hp w base hb A n c xs) (hd : HeapFrom (i0 + 1) m xs) (hm : m ≤ n) (hn : n ≤ 1000) (hi : i0 ≤ 1000) :
    Calls Try.prog 46 #[.iface 45 (.pointer (some ⟨hb, 0, none⟩)), .int .i64 (i0 : Int), .int .i64 (m : Int)] w (DownTo w base hb A n c xs i0 m) := by
  have H0 := hid h
  have D0 := hid (down_start hd)
  clear h hd
  go_enter Try.func46, Try.ntmps46
  go_wp2_with fail
  go_loopw [7] (fun v wr => ∃ (k : Nat) (ys : List Int), v = .int .i64 (k : Int) ∧ k ≤ 1000 ∧ DownAt i0 m k xs ys ∧ Hp wr base hb A n c ys ∧ w.grownBy wr (blockOf A)) (fun v _ => 1001 - (intOf v).toNat)
  case atStart => exact ⟨i0, xs, rfl, hi, D0.out, H0.out, gr_refl _ _⟩
  case round =>
    clear H0 D0
    obtain ⟨k, ys, rfl, hk, hd, h, hgr⟩ := hrel
    have HD := hid hd
    have HH := hid h
    clear hd
    rcases (by omega : m ≤ 2 * k + 1 ∨ (2 * k + 1 < m ∧ m ≤ 2 * k + 2) ∨ 2 * k + 2 < m) with hc | hc | hc
    · have HF := hid (down_leaf HD.out hc)
      have d1 : decide ((m : Int) ≤ 2 * (k : Int) + 1) = true := by simp; omega
      clear h
      go_wp2_with fail
      go_ret
      exact ⟨ys, _, rfl, HH.out, HF.out, hgr⟩
    · obtain ⟨j1, hj1⟩ : ∃ j1, 2 * k + 1 = j1 := ⟨_, rfl⟩
      have q1 : 2 * (k : Int) + 1 = (j1 : Int) := by omega
      have d1 : decide ((m : Int) ≤ (j1 : Int)) = false := by simp; omega
      have d1' : decide (m ≤ j1) = false := by simp; omega
      have d2 : decide ((j1 : Int) + 1 < (m : Int)) = false := by simp; omega
      have d3 : decide ((j1 : Int) < 0) = false := by simp
      have HC0 := hid (less_one (ys := ys) hc.1 hc.2)
      rw [hj1] at HC0
      have hj1' : j1 < m := by omega
      have hkj : k < j1 := by omega
      obtain ⟨b2, hb2⟩ : ∃ b, decide (ys.getD j1 0 < ys.getD k 0) = b := ⟨_, rfl⟩
      have ce := h.full.cellAt 0 (v := .slice A n c) rfl
      have m2 := meth_less hb _ wr ce
      have e2 := h.less (i := j1) (j := k) (by omega) (by omega) hb2
      have HB2 := hid hb2
      have HC := hid (HC0.out)
      have HHc := hid h
      clear hb2 ce h
      go_wp2_with fail
      refine e2.mono ?_
      rintro e w2 ⟨rfl, hg2⟩
      have h2 := HHc.out.kept0 hg2
      have G2 := gr_0 hgr hg2
      clear e2 m2 hg2
      cases b2 with
      | false =>
        have HF := hid (down_stop HD.out HC.out (by simpa using HB2.out))
        have H2 := hid h2
        clear h2
        go_wp2_with fail
        go_ret
        exact ⟨ys, _, rfl, H2.out, HF.out, G2⟩
      | true =>
        have c2 := h2.full.cellAt 0 (v := .slice A n c) rfl
        have m3 := meth_swap hb _ w2 c2
        have e3 := h2.swap (i := k) (j := j1) (by omega) (by omega)
        have HN := hid (down_step HD.out HC.out (by simpa using HB2.out) (by rw [h2.len]; exact hm))
        clear h2 c2
        go_wp2_with fail
        refine e3.mono ?_
        rintro e w3 ⟨rfl, h3, hg3⟩
        have G3 := gr_trans G2 hg3
        clear e3 m3 hg3
        go_wp2_with fail
        go_roundw
        case rel => exact ⟨j1, _, rfl, by omega, HN.out, h3, G3⟩
        case measure => simp [intOf]; omega
    · obtain ⟨j1, hj1⟩ : ∃ j1, 2 * k + 1 = j1 := ⟨_, rfl⟩
      obtain ⟨j2, hj2⟩ : ∃ j2, 2 * k + 2 = j2 := ⟨_, rfl⟩
      have q1 : 2 * (k : Int) + 1 = (j1 : Int) := by omega
      have q2 : (j1 : Int) + 1 = (j2 : Int) := by omega
      have d1 : decide ((m : Int) ≤ (j1 : Int)) = false := by simp; omega
      have d1' : decide (m ≤ j1) = false := by simp; omega
      have d2 : decide ((j2 : Int) < (m : Int)) = true := by simp; omega
      have d2' : decide (j2 < m) = true := by simp; omega
      have d3 : decide ((j1 : Int) < 0) = false := by simp
      obtain ⟨b1, hb1⟩ : ∃ b, decide (ys.getD j2 0 < ys.getD j1 0) = b := ⟨_, rfl⟩
      have c0 := h.full.cellAt 0 (v := .slice A n c) rfl
      have m1 := meth_less hb _ wr c0
      have e1 := h.less (i := j2) (j := j1) (by omega) (by omega) hb1
      have HCl := hid (fun q => less_left (m := m) (k := k) (ys := ys) (by omega) q)
      have HCr := hid (fun q => less_right (m := m) (k := k) (ys := ys) (by omega) q)
      rw [hj1, hj2] at HCl HCr
      have HB1 := hid hb1
      have hj1' : j1 < m := by omega
      have hj2' : j2 < m := by omega
      have hkj : k < j1 := by omega
      have hkj2 : k < j2 := by omega
      clear hb1 c0 h
      go_wp2_with fail
      refine e1.mono ?_
      rintro e w1 ⟨rfl, hg1⟩
      have h1 := HH.out.kept0 hg1
      have G1 := gr_0 hgr hg1
      clear e1 m1 hg1
      cases b1 with
      | false =>
        obtain ⟨b2, hb2⟩ : ∃ b, decide (ys.getD j1 0 < ys.getD k 0) = b := ⟨_, rfl⟩
        have ce := h1.full.cellAt 0 (v := .slice A n c) rfl
        have m2 := meth_less hb _ w1 ce
        have e2 := h1.less (i := j1) (j := k) (by omega) (by omega) hb2
        have HB2 := hid hb2
        have HC := hid (HCl.out (by simpa using HB1.out))
        have HHc := hid h1
        clear hb2 ce h1
        go_wp2_with fail
        refine e2.mono ?_
        rintro e w2 ⟨rfl, hg2⟩
        have h2 := HHc.out.kept0 hg2
        have G2 := gr_0 G1 hg2
        clear e2 m2 hg2
        cases b2 with
        | false =>
          have HF := hid (down_stop HD.out HC.out (by simpa using HB2.out))
          have H2 := hid h2
          clear h2
          go_wp2_with fail
          go_ret
          exact ⟨ys, _, rfl, H2.out, HF.out, G2⟩
        | true =>
          have c2 := h2.full.cellAt 0 (v := .slice A n c) rfl
          have m3 := meth_swap hb _ w2 c2
          have e3 := h2.swap (i := k) (j := j1) (by omega) (by omega)
          have HN := hid (down_step HD.out HC.out (by simpa using HB2.out) (by rw [h2.len]; exact hm))
          clear h2 c2
          go_wp2_with fail
          refine e3.mono ?_
          rintro e w3 ⟨rfl, h3, hg3⟩
          have G3 := gr_trans G2 hg3
          clear e3 m3 hg3
          go_wp2_with fail
          go_roundw
          case rel => exact ⟨j1, _, rfl, by omega, HN.out, h3, G3⟩
          case measure => simp [intOf]; omega
      | true =>
        obtain ⟨b2, hb2⟩ : ∃ b, decide (ys.getD j2 0 < ys.getD k 0) = b := ⟨_, rfl⟩
        have ce := h1.full.cellAt 0 (v := .slice A n c) rfl
        have m2 := meth_less hb _ w1 ce
        have e2 := h1.less (i := j2) (j := k) (by omega) (by omega) hb2
        have HB2 := hid hb2
        have HC := hid (HCr.out (by simpa using HB1.out))
        have HHc := hid h1
        clear hb2 ce h1
        go_wp2_with fail
        refine e2.mono ?_
        rintro e w2 ⟨rfl, hg2⟩
        have h2 := HHc.out.kept0 hg2
        have G2 := gr_0 G1 hg2
        clear e2 m2 hg2
        cases b2 with
        | false =>
          have HF := hid (down_stop HD.out HC.out (by simpa using HB2.out))
          have H2 := hid h2
          clear h2
          go_wp2_with fail
          go_ret
          exact ⟨ys, _, rfl, H2.out, HF.out, G2⟩
        | true =>
          have c2 := h2.full.cellAt 0 (v := .slice A n c) rfl
          have m3 := meth_swap hb _ w2 c2
          have e3 := h2.swap (i := k) (j := j2) (by omega) (by omega)
          have HN := hid (down_step HD.out HC.out (by simpa using HB2.out) (by rw [h2.len]; exact hm))
          clear h2 c2
          go_wp2_with fail
          refine e3.mono ?_
          rintro e w3 ⟨rfl, h3, hg3⟩
          have G3 := gr_trans G2 hg3
          clear e3 m3 hg3
          go_wp2_with fail
          go_roundw
          case rel => exact ⟨j2, _, rfl, by omega, HN.out, h3, G3⟩
          case measure => simp [intOf]; omega
end Go.Proofs.Ytfcammfdengdbaa
