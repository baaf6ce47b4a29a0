/- spec.l22Most, spec.IndexAdd. -/
import Derived.Test.YtnegoaaddaofiaaIdxAdd
import Derived.Test.YtnegoaaddaofiaaRowSV
import Derived.Test.YtnegoaaddaofiaaRowAdd
import Derived.Deep.RegionHeld3
namespace Go.Proofs.Ytnegoaaddaofiaa
open Go.RowKit

def mostOf (rs : List Row2) : Int := rs.foldl (fun a r => if lastOf (-1) r.2 > a then lastOf (-1) r.2 else a) (-1)
theorem most_next {rs : List Row2} {k : Nat} (hk : k < rs.length) : (mostOf (rs.take k) < lastOf (-1) rs[k].2 → mostOf (rs.take (k + 1)) = lastOf (-1) rs[k].2) ∧ (¬ mostOf (rs.take k) < lastOf (-1) rs[k].2 → mostOf (rs.take (k + 1)) = mostOf (rs.take k)) := by
  have e : mostOf (rs.take (k + 1)) = if lastOf (-1) rs[k].2 > mostOf (rs.take k) then lastOf (-1) rs[k].2 else mostOf (rs.take k) := by
    rw [List.take_succ_eq_append_getElem hk, mostOf, List.foldl_append]; rfl
  exact ⟨fun h => by rw [e, if_pos h], fun h => by rw [e, if_neg h]⟩
theorem most_lt {p : Int} : ∀ (rs : List Row2) (a : Int), rs.foldl (fun a r => if lastOf (-1) r.2 > a then lastOf (-1) r.2 else a) a < p ↔ a < p ∧ ∀ r ∈ rs, lastOf (-1) r.2 < p
  | [], a => by simp
  | r :: rs, a => by
    rw [List.foldl_cons, most_lt rs]
    simp only [List.mem_cons, forall_eq_or_imp]
    split
    · constructor
      · rintro ⟨h1, h2⟩; exact ⟨by omega, h1, h2⟩
      · rintro ⟨_, h1, h2⟩; exact ⟨h1, h2⟩
    · constructor
      · rintro ⟨h1, h2⟩; exact ⟨h1, by omega, h2⟩
      · rintro ⟨h1, _, h2⟩; exact ⟨h1, h2⟩

set_option maxHeartbeats 4000000 in
theorem most_any (A : Option Addr) (n c : Nat) (rs : List RRow) (w : World) (h : RArg w A n c rs) (hn : n ≤ 1000) (hall : ∀ r ∈ rs, r.n ≤ 1000) (hpos : ∀ r ∈ rsem rs, 0 < r.2.length) :
    Calls Try.prog 32 #[.slice A n c] w fun e w' => e = .returned (.int .i64 (mostOf (rsem rs))) ∧ w.grownBy w' none := by
  have hc := h.cap
  have hm := h.max
  unfold maxLen at hm
  have HN := hid h.len
  have HA := hid h
  have HAll := hid hall
  have HPos := hid hpos
  clear h hall hpos
  go_enter Try.func32, Try.ntmps32
  go_wp2_with fail
  go_loopw [3, 4] (fun mv iv wr => ∃ (k : Nat) (m : Int), iv = .int .i64 (k : Int) ∧ mv = .int .i64 m ∧ mostOf ((rsem rs).take k) = m ∧ k ≤ n ∧ w.grownBy wr none) (fun _ iv _ => n - (intOf iv).toNat)
  case atStart => exact ⟨0, -1, rfl, rfl, by simp [mostOf], by omega, gr_refl _ _⟩
  case round =>
    obtain ⟨k, mx, rfl, rfl, hF, hkn, hG⟩ := hrel
    have HF := hid hF
    clear hF
    by_cases hlt : k < n
    · have hkl : k < rs.length := by rw [HN.out]; exact hlt
      have hks : k < (rsem rs).length := by rw [rsem_len]; exact hkl
      have HNext := hid (most_next hks)
      have HRow := hid (HPos.out _ (List.getElem_mem hks))
      have es := rsem_at rs k hkl
      have hrn := HAll.out _ (List.getElem_mem hkl)
      have hra := HA.out.ats _ (List.getElem_mem hkl)
      obtain ⟨g, o, hAe, hgl, hcells⟩ := HA.out.open_ (by omega)
      have cc := hcells k hkl
      clear hcells
      obtain ⟨r, hrr⟩ : ∃ r, rs[k] = r := ⟨_, rfl⟩
      simp only [es, hrr] at HNext HRow cc hrn hra
      obtain ⟨rk, ra, rn, rc, rx⟩ := r
      simp only [RRow.sem] at HNext HRow cc hrn hra
      have hrl : rx.length = rn := hra.len
      have hrc : rn ≤ rc := hra.cap
      have hrm : rc ≤ maxLen := hra.max
      unfold maxLen at hrm
      obtain ⟨m, hm1⟩ : ∃ m, rn = m + 1 := ⟨rn - 1, by have := HRow.out; omega⟩
      subst hm1
      have hml : m < rx.length := by omega
      obtain ⟨ga, oa, hra1, hgal, hci⟩ := hra.own.lies.open_ (by show 0 < (ints rx).length; rw [ints_len]; omega)
      dsimp only at hra1
      subst hra1
      have cz := fun (w' : World) (hg : w.grownBy w' none) => intAt (fun j u hu => hg.cell (hci j u hu) (by simp)) hml
      have cp := fun (w' : World) (hg : w.grownBy w' none) => (cc w' hg).2
      have HLast := hid (show lastOf (-1) rx = rx[m] by rw [← lastOf_get rx (-1) (by omega)]; congr 1; omega)
      obtain ⟨y, hy⟩ : ∃ y, rx[m] = y := ⟨_, rfl⟩
      rw [hy] at cz HLast
      rw [HLast.out, HF.out] at HNext
      have b1 : (0 : Int) ≤ (k : Int) := by omega
      have b2 : (k : Int) < (n : Int) := by omega
      have b3 : (0 : Int) ≤ (m : Int) := by omega
      have b4 : (m : Int) < ((m + 1 : Nat) : Int) := by omega
      have b5 : (m : Int) < (m : Int) + 1 := by omega
      have i4 : IntKind.i64.wrap (((m + 1 : Nat) : Int) - 1) = (m : Int) := by rw [IntWalk.i64_in _ (by omega)]; omega
      have i5 : IntKind.i64.wrap (((m : Int) + 1) - 1) = (m : Int) := by rw [IntWalk.i64_in _ (by omega)]; omega
      have i6 : IntKind.i64.wrap (m : Int) = (m : Int) := IntWalk.i64_in _ (by omega)
      subst hAe
      clear es hrr hra hci hrl hml hy cc HRow HLast HF hgal hgl
      by_cases q : mx < y
      · have HX := hid (show mostOf ((rsem rs).take (k + 1)) = y from HNext.out.1 q)
        clear HNext
        go_wp2_with fail
        go_region_held3 (fun w' => w.grownBy w' none) (((repeat (first | (with_reducible assumption) | (with_reducible exact gr_refl _ _) | (with_reducible refine gr_alloc ?_ _) | (with_reducible refine gr_drew ?_))); (first | done | fail "left"))) (fail)
        all_goals
          go_wp2_with fail
          go_roundw
          case rel => exact ⟨k + 1, y, by go_num, rfl, HX.out, by omega, by ((repeat (first | (with_reducible assumption) | (with_reducible exact gr_refl _ _) | (with_reducible refine gr_alloc ?_ _) | (with_reducible refine gr_drew ?_))); (first | done | fail "left"))⟩
          case measure => simp [intOf]; omega
      · have HX := hid (show mostOf ((rsem rs).take (k + 1)) = mx from HNext.out.2 q)
        clear HNext
        go_wp2_with fail
        go_region_held3 (fun w' => w.grownBy w' none) (((repeat (first | (with_reducible assumption) | (with_reducible exact gr_refl _ _) | (with_reducible refine gr_alloc ?_ _) | (with_reducible refine gr_drew ?_))); (first | done | fail "left"))) (fail)
        all_goals
          go_wp2_with fail
          go_roundw
          case rel => exact ⟨k + 1, mx, by go_num, by rw [if_neg (by omega)], HX.out, by omega, by ((repeat (first | (with_reducible assumption) | (with_reducible exact gr_refl _ _) | (with_reducible refine gr_alloc ?_ _) | (with_reducible refine gr_drew ?_))); (first | done | fail "left"))⟩
          case measure => simp [intOf]; omega
    · have HX := hid (show mostOf (rsem rs) = mx by
        have := HF.out
        rw [List.take_of_length_le (by rw [rsem_len, HN.out]; omega)] at this
        exact this)
      clear HF
      go_wp2_with fail
      go_ret
      exact ⟨by rw [HX.out]; rfl, hG⟩

set_option maxHeartbeats 4000000 in
theorem sia_any (A : Option Addr) (n c : Nat) (rs : List RRow) (key : ByteArray) (p : Int) (ok : Bool) (w : World) (h : RArg w A n c rs) (hkey : key.size ≤ maxLen) (hn : n ≤ 1000) (hsp : (spots (rsem rs)).length ≤ 1000) (hall : ∀ r ∈ rs, r.n ≤ 1000) (hok : iaOk key p (rsem rs) = ok) :
    Calls Try.prog 16 #[.slice A n c, .string key, .int .i64 p] w (IaEnds w ok (if ok = true then addR key p (rsem rs) else [])) := by
  obtain ⟨res, hres⟩ : ∃ res, (if ok = true then addR key p (rsem rs) else []) = res := ⟨_, rfl⟩
  rw [hres]
  have HRes := hid hres
  have HOk := hid hok
  obtain ⟨b1, hb1⟩ : ∃ b, idxB (rsem rs) = b := ⟨_, rfl⟩
  obtain ⟨b2, hb2⟩ : ∃ b, wordB key = b := ⟨_, rfl⟩
  obtain ⟨b3, hb3⟩ : ∃ b, inR p 0 99 = b := ⟨_, rfl⟩
  have e1 := siv_is A n c rs b1 w h hb1 hsp
  have e2 := fun w => sword_is key b2 w hkey hb2
  have e3 := fun w => in_is p 0 99 b3 w hb3
  have HB1 := hid hb1
  have HB2 := hid hb2
  have HB3 := hid hb3
  have HMst := hid (fun w2 (hg : w.grownBy w2 none) (hp : ∀ r ∈ rsem rs, 0 < r.2.length) => most_any A n c rs w2 (h.grown0 hg) hn hall hp)
  have HAdd := hid (fun w2 (hg : w.grownBy w2 none) => add_any A n c rs key p w2 (h.grown0 hg) hkey hn hsp)
  clear hb1 hb2 hb3 h hok hkey hall hsp hres
  go_enter Try.func16, Try.ntmps16
  go_wp2_with fail
  refine e1.mono ?_
  rintro e w1 ⟨rfl, hg1⟩
  clear e1
  cases b1 with
  | false =>
    obtain rfl := ia_bad HOk.out HB1.out HB2.out HB3.out (.inl rfl)
    clear HOk HB1 HB2 HB3 HMst HAdd e2 e3
    go_wp2_with fail
    go_ret2
    rw [← HRes.out]
    exact ia_none hg1
  | true =>
  go_wp2_with fail
  refine (e2 _).mono ?_
  rintro e w_ ⟨rfl, rfl⟩
  clear e2
  cases b2 with
  | false =>
    obtain rfl := ia_bad HOk.out HB1.out HB2.out HB3.out (.inr (.inl rfl))
    clear HOk HB1 HB2 HB3 HMst HAdd e3
    go_wp2_with fail
    go_ret2
    rw [← HRes.out]
    exact ia_none hg1
  | true =>
  go_wp2_with fail
  refine (e3 _).mono ?_
  rintro e w_ ⟨rfl, rfl⟩
  clear e3
  cases b3 with
  | false =>
    obtain rfl := ia_bad HOk.out HB1.out HB2.out HB3.out (.inr (.inr rfl))
    clear HOk HB1 HB2 HB3 HMst HAdd
    go_wp2_with fail
    go_ret2
    rw [← HRes.out]
    exact ia_none hg1
  | true =>
  have e4 := HMst.out w1 hg1 (fun r hr => (rowOk_iff.1 ((idxB_iff.1 HB1.out).1 _ hr)).2.1)
  have hp0 : 0 ≤ p ∧ p ≤ 99 := by have := HB3.out; simpa [inR] using this
  have HLt := hid (most_lt (p := p) (rsem rs) (-1))
  obtain ⟨mx, hmx⟩ : ∃ m, mostOf (rsem rs) = m := ⟨_, rfl⟩
  rw [show (rsem rs).foldl (fun a r => if lastOf (-1) r.2 > a then lastOf (-1) r.2 else a) (-1) = mx from hmx] at HLt
  rw [hmx] at e4
  clear HMst hmx
  go_wp2_with fail
  refine e4.mono ?_
  rintro e w2 ⟨rfl, hg2⟩
  have G2 := gr_0 hg1 hg2
  clear e4 hg2
  by_cases q : p ≤ mx
  · have q1 : decide (p ≤ mx) = true := by simp [q]
    have hf : ok = false := by
      rw [← HOk.out, Bool.eq_false_iff]
      intro e
      have h4 := (iaOk_iff.1 e).2.2.2
      have := HLt.out.2 ⟨by omega, h4⟩
      omega
    subst hf
    clear HOk HB1 HB2 HB3 HAdd HLt
    go_wp2_with fail
    go_ret2
    rw [← HRes.out]
    exact ia_none G2
  · have q1 : decide (p ≤ mx) = false := by simp; omega
    have ht : ok = true := ia_all HOk.out HB1.out HB2.out HB3.out (HLt.out.1 (by omega)).2
    subst ht
    have e5 := HAdd.out w2 G2
    have s2 := G2.size
    clear HOk HB1 HB2 HB3 HAdd HLt q
    go_wp2_with fail
    refine e5.mono ?_
    rintro e w3 ⟨A3, n3, c3, ors, rfl, hO3, hl3, hok3, hr3, hg3⟩
    have HO3 := hid (And.intro (hO3.base_le s2) (And.intro hl3 hok3))
    have HR3 := hid hr3
    have G3 := gr_0 G2 hg3
    clear hO3 hl3 hok3 hr3 hg3 e5
    go_wp2_with fail
    go_ret2
    exact ⟨A3, n3, c3, ors, rfl, HO3.out.1, HO3.out.2.1, HO3.out.2.2, by rw [HR3.out, ← HRes.out]; rfl, G3⟩
end Go.Proofs.Ytnegoaaddaofiaa
