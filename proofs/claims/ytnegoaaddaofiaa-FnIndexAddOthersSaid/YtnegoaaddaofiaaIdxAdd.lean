/- impl.IndexAdd. -/
import Derived.Test.YtnegoaaddaofiaaAddLaw
namespace Go.Proofs.Ytnegoaaddaofiaa
open Go.RowKit

set_option maxHeartbeats 400000 in
theorem pv_is (n : Int) (b : Bool) (w : World) (h : inR n 0 99 = b) :
    Calls Try.prog 27 #[.int .i64 n] w fun e w' => e = .returned (.bool b) ∧ w = w' := by
  subst h
  have hA : n < 0 ∨ (0 ≤ n ∧ n ≤ 99) ∨ (0 ≤ n ∧ 99 < n) := by omega
  rcases hA with hA | ⟨hA, hB⟩ | ⟨hA, hB⟩
  · rw [inR_false (.inl hA)]
    go_enter Try.func27, Try.ntmps27
    go_wp2
    go_ret
    exact ⟨rfl, rfl⟩
  · rw [inR_true hA hB]
    go_enter Try.func27, Try.ntmps27
    go_wp2
    go_ret
    exact ⟨ret_bool (by simp <;> omega), rfl⟩
  · rw [inR_false (.inr hB)]
    go_enter Try.func27, Try.ntmps27
    go_wp2
    go_ret
    exact ⟨ret_bool (by simp <;> omega), rfl⟩

/-- What IndexAdd leaves. -/
def IaEnds (w : World) (ok : Bool) (rs : List Row2) (e : Ending) (w' : World) : Prop :=
  ∃ (A' : Option Addr) (n' c' : Nat) (ors : List RRow), e = .returned (.tuple #[.slice A' n' c', .bool ok]) ∧ Own w' w.heap.size 33 2 A' n' c' (rcells ors) ∧ ors.length = n' ∧ (∀ r ∈ ors, r.ok w') ∧ rsem ors = rs ∧ w.grownBy w' none
theorem ia_none {w w1 : World} (hg : w.grownBy w1 none) : IaEnds w false [] (.returned (.tuple #[.slice (some ⟨w1.heap.size, 0, none⟩) 0 0, .bool false])) (w1.alloc (.cells #[] 33)) :=
  ⟨_, _, _, [], rfl, Own.empty w1 hg.size, rfl, by simp, rfl, gr_alloc hg _⟩
theorem ia_noneAt {w w1 : World} {H : Nat} (hg : w.grownBy w1 none) (hH : w1.heap.size = H) : IaEnds w false [] (.returned (.tuple #[.slice (some ⟨H, 0, none⟩) 0 0, .bool false])) (w1.alloc (.cells #[] 33)) := by
  subst hH
  exact ia_none hg
theorem addT_len (key : ByteArray) (p : Int) : ∀ T : RT, (addT key p T).length ≤ T.rows.length + 1
  | .nil => by simp [addT]
  | .node g r l t => by
    have i1 := addT_len key p l
    have i2 := addT_len key p t
    have e1 : (rsem l.rows).length = l.rows.length := rsem_len _
    have e2 : (rsem t.rows).length = t.rows.length := rsem_len _
    unfold addT
    split
    · (simp [RT.rows, e2]; try omega)
    · split
      · (simp [RT.rows, e1]; try omega)
      · (simp [RT.rows, e1, e2]; try omega)
theorem ia_bad {key : ByteArray} {p : Int} {rs : List Row2} {ok b1 b2 b3 : Bool} (h : iaOk key p rs = ok) (h1 : idxB rs = b1) (h2 : wordB key = b2) (h3 : inR p 0 99 = b3) (hb : b1 = false ∨ b2 = false ∨ b3 = false) : ok = false := by
  rw [← h, iaOk, h1, h2, h3]
  rcases hb with rfl | rfl | rfl <;> simp
theorem ia_all {key : ByteArray} {p : Int} {rs : List Row2} {ok : Bool} (h : iaOk key p rs = ok) (h1 : idxB rs = true) (h2 : wordB key = true) (h3 : inR p 0 99 = true) (ha : ∀ r ∈ rs, lastOf (-1) r.2 < p) : ok = true := by
  rw [← h, iaOk, h1, h2, h3]
  simpa using ha
theorem ia_some {key : ByteArray} {p : Int} {rs : List Row2} {ok : Bool} (h : iaOk key p rs = ok) {k : Nat} (hk : k < rs.length) (ha : p ≤ lastOf (-1) rs[k].2) : ok = false := by
  rw [← h, Bool.eq_false_iff]
  intro e
  have := (iaOk_iff.1 e).2.2.2 _ (List.getElem_mem hk)
  omega
theorem last_next {rs : List Row2} {k : Nat} {p : Int} (hk : k < rs.length) (h : ∀ r ∈ rs.take k, lastOf (-1) r.2 < p) (h2 : lastOf (-1) rs[k].2 < p) : ∀ r ∈ rs.take (k + 1), lastOf (-1) r.2 < p := by
  intro r hr
  rw [List.take_succ_eq_append_getElem hk] at hr
  rcases List.mem_append.1 hr with hr | hr
  · exact h r hr
  · rw [List.mem_singleton.1 hr]; exact h2
theorem same_small {w : World} {B : Nat} {T : RT} {rs : List RRow} (hT : T.At w B) (he : rsem T.rows = rsem rs) (hall : ∀ r ∈ rs, r.n ≤ 1000) (hok : ∀ r ∈ rs, r.xs.length = r.n) : ∀ r ∈ T.rows, r.n ≤ 1000 := by
  intro r hr
  have h1 : r.sem ∈ rsem T.rows := List.mem_map.2 ⟨r, hr, rfl⟩
  rw [he] at h1
  obtain ⟨q, hq, e⟩ := List.mem_map.1 h1
  have h2 := (hT.ok r hr).len
  have h3 := hok q hq
  have h4 := hall q hq
  have h5 : q.xs = r.xs := by injection e
  rw [h5] at h3
  omega

set_option maxHeartbeats 4000000 in
theorem ia_any (A : Option Addr) (n c : Nat) (rs : List RRow) (key : ByteArray) (p : Int) (ok : Bool) (w : World) (h : RArg w A n c rs) (hkey : key.size ≤ maxLen) (hn : n ≤ 1000) (hall : ∀ r ∈ rs, r.n ≤ 1000) (hok : iaOk key p (rsem rs) = ok) :
    Calls Try.prog 15 #[.slice A n c, .string key, .int .i64 p] w (IaEnds w ok (if ok = true then addR key p (rsem rs) else [])) := by
  have hc := h.cap
  have hm := h.max
  unfold maxLen at hm
  have HN := hid h.len
  have HA := hid h
  have HOk := hid hok
  have HKey := hid hkey
  have HAll := hid hall
  obtain ⟨b1, hb1⟩ : ∃ b, idxB (rsem rs) = b := ⟨_, rfl⟩
  obtain ⟨b2, hb2⟩ : ∃ b, wordB key = b := ⟨_, rfl⟩
  obtain ⟨b3, hb3⟩ : ∃ b, inR p 0 99 = b := ⟨_, rfl⟩
  have e1 := iv_is A n c rs b1 w h hb1
  have e2 := fun w => word_is key b2 w hkey hb2
  have e3 := fun w => pv_is p b3 w hb3
  have HB1 := hid hb1
  have HB2 := hid hb2
  have HB3 := hid hb3
  obtain ⟨res, hres⟩ : ∃ res, (if ok = true then addR key p (rsem rs) else []) = res := ⟨_, rfl⟩
  rw [hres]
  have HRes := hid hres
  have HRto := hid (fun w2 (hg : w.grownBy w2 none) => rto_any n A n c rs w2 (Nat.le_refl _) (h.grown0 hg) hn hall)
  clear hb1 hb2 hb3 h hok hkey hall hres
  go_enter Try.func15, Try.ntmps15
  go_wp2_with fail
  refine e1.mono ?_
  rintro e w1 ⟨rfl, hg1⟩
  clear e1
  cases b1 with
  | false =>
    obtain rfl := ia_bad HOk.out HB1.out HB2.out HB3.out (.inl rfl)
    clear HOk HB1 HB2 HB3 HRto e2 e3
    go_wp2_with fail
    go_ret2
    rw [← HRes.out]
    exact ia_none hg1
  | true =>
  go_wp2_with fail
  refine (e2 _).mono ?_
  rintro e w_ ⟨rfl, rfl⟩
  clear e2
  cases b2 with
  | false =>
    obtain rfl := ia_bad HOk.out HB1.out HB2.out HB3.out (.inr (.inl rfl))
    clear HOk HB1 HB2 HB3 HRto e3
    go_wp2_with fail
    go_ret2
    rw [← HRes.out]
    exact ia_none hg1
  | true =>
  go_wp2_with fail
  refine (e3 _).mono ?_
  rintro e w_ ⟨rfl, rfl⟩
  clear e3
  cases b3 with
  | false =>
    obtain rfl := ia_bad HOk.out HB1.out HB2.out HB3.out (.inr (.inr rfl))
    clear HOk HB1 HB2 HB3 HRto
    go_wp2_with fail
    go_ret2
    rw [← HRes.out]
    exact ia_none hg1
  | true =>
  go_wp2_with fail
  go_loopw [26] (fun iv wr => ∃ k : Nat, iv = .int .i64 (k : Int) ∧ k ≤ n ∧ (∀ r ∈ (rsem rs).take k, lastOf (-1) r.2 < p) ∧ w.grownBy wr none) (fun iv _ => n - (intOf iv).toNat)
  case atStart => exact ⟨0, rfl, by omega, by simp, hg1⟩
  case round =>
    obtain ⟨k, rfl, hkn, hF, hG⟩ := hrel
    have HF := hid hF
    clear hF
    by_cases hlt : k < n
    · have hkl : k < rs.length := by rw [HN.out]; exact hlt
      have hks : k < (rsem rs).length := by rw [rsem_len]; exact hkl
      have HSome := hid (fun (ha : p ≤ lastOf (-1) (rsem rs)[k].2) => ia_some HOk.out hks ha)
      have HNext := hid (last_next hks HF.out)
      have HRow := hid ((rowOk_iff.1 ((idxB_iff.1 HB1.out).1 _ (List.getElem_mem hks))).2.1)
      have es := rsem_at rs k hkl
      have hrn := HAll.out _ (List.getElem_mem hkl)
      have hra := (HA.out.ats _ (List.getElem_mem hkl)).grown0 hG
      obtain ⟨g, o, hAe, hgl, hcells⟩ := HA.out.open_ (by omega)
      have cc := hcells k hkl wr hG
      clear hcells
      obtain ⟨r, hrr⟩ : ∃ r, rs[k] = r := ⟨_, rfl⟩
      simp only [es, hrr] at HSome HNext HRow cc hrn hra
      obtain ⟨rk, ra, rn, rc, rx⟩ := r
      simp only [RRow.sem] at HSome HNext HRow cc hrn hra
      obtain ⟨ck, cp⟩ := cc
      have hrl : rx.length = rn := hra.len
      have hrc : rn ≤ rc := hra.cap
      have hrm : rc ≤ maxLen := hra.max
      unfold maxLen at hrm
      obtain ⟨m, hm1⟩ : ∃ m, rn = m + 1 := ⟨rn - 1, by have := HRow.out; omega⟩
      subst hm1
      have hml : m < rx.length := by omega
      obtain ⟨ga, oa, hra1, hgal, hci⟩ := hra.own.lies.open_ (by show 0 < (ints rx).length; rw [ints_len]; omega)
      dsimp only at hra1
      subst hra1
      have cz := intAt (fun j u hu => (World.grownBy_alloc wr (.cells #[.string rk, .slice (some ⟨ga, oa, none⟩) (m + 1) rc] 33) none).cell (hci j u hu) (by simp)) hml
      have HLast := hid (show lastOf (-1) rx = rx[m] by rw [← lastOf_get rx (-1) (by omega)]; congr 1; omega)
      obtain ⟨y, hy⟩ : ∃ y, rx[m] = y := ⟨_, rfl⟩
      rw [hy] at cz HLast
      rw [HLast.out] at HSome HNext
      have b1 : (0 : Int) ≤ (k : Int) := by omega
      have b2 : (k : Int) < (n : Int) := by omega
      have b3 : (0 : Int) ≤ (m : Int) := by omega
      have b4 : (m : Int) < ((m + 1 : Nat) : Int) := by omega
      have i4 : IntKind.i64.wrap (((m + 1 : Nat) : Int) - 1) = (m : Int) := by rw [IntWalk.i64_in _ (by omega)]; omega
      have FR := Full.new wr 33 #[.string rk, .slice (some ⟨ga, oa, none⟩) (m + 1) rc]
      have fr0 := FR.cellAt 0 (v := .string rk) rfl
      have fr1 := FR.cellAt 1 (v := .slice (some ⟨ga, oa, none⟩) (m + 1) rc) rfl
      have G1 := gr_alloc hG (.cells #[.string rk, .slice (some ⟨ga, oa, none⟩) (m + 1) rc] 33)
      subst hAe
      clear es hrr hra hci hrl hml hy FR HRow HLast HF hgal hgl HA HRto
      by_cases q : p ≤ y
      · obtain rfl := HSome.out q
        have q1 : decide (p ≤ y) = true := by simp [q]
        clear HSome HNext HOk
        go_wp2_with fail
        go_ret2
        rw [← HRes.out]
        exact ia_noneAt G1 (by simp)
      · have q1 : decide (p ≤ y) = false := by simp; omega
        have HX := hid (HNext.out (by omega))
        have hk1 : k + 1 ≤ 1000 := by omega
        clear HSome HNext q
        go_wp2_with fail
        go_roundw
        case rel => exact ⟨k + 1, by go_num, by omega, HX.out, G1⟩
        case measure => simp [intOf]; omega
    · obtain rfl := ia_all HOk.out HB1.out HB2.out HB3.out (by
        have := HF.out
        rw [List.take_of_length_le (by rw [rsem_len, HN.out]; omega)] at this
        exact this)
      have HK := hid ((idxB_iff.1 HB1.out).2.1)
      have e4 := HRto.out wr hG
      clear HF HRto
      go_wp2_with fail
      refine e4.mono ?_
      rintro e w2 ⟨T, rfl, hT, hr, hnd, hg2⟩
      clear e4
      obtain ⟨q0, hq0⟩ : ∃ q, T.ptr = q := ⟨_, rfl⟩
      rw [hq0]
      have e5 := wth_any key p HKey.out T w2 wr.heap.size q0 hT hnd hq0 hg2.size (same_small hT hr HAll.out (fun r hr => (HA.out.ats r hr).len))
      have G2 := gr_0 hG hg2
      have s1 := hG.size
      have s2 := hg2.size
      have HTb := hid hT.block
      have HE := hid (show addT key p T = addR key p (rsem rs) by rw [addT_eq key p T (by rw [hr]; exact HK.out), addR_eq HK.out, hr])
      have HLen := hid (show (addT key p T).length ≤ n + 1 by
        have h1 := addT_len key p T
        have h2 : (rsem T.rows).length = T.rows.length := rsem_len _
        rw [hr, rsem_len, HN.out] at h2
        omega)
      clear hT hr hnd hq0 hg2 HK HA
      go_wp2_with fail
      refine e5.mono ?_
      rintro e w3 ⟨T1, q1, rfl, hq1, hT1, hb1, hr1, hu1⟩
      clear e5
      have G3 := hu1.gr G2 (fun i hi => Nat.le_trans s1 (HTb.out i hi).1)
      have s3 := hu1.size
      have HLe := hid (show T1.rows.length ≤ n + 1 by
        have h2 : (rsem T1.rows).length = T1.rows.length := rsem_len _
        rw [hr1] at h2
        have := HLen.out
        omega)
      have e6 := rb_any w3.heap.size T1 (w3.alloc (.cells #[] 33)) wr.heap.size q1 (some ⟨w3.heap.size, 0, none⟩) 0 0 [] (hT1.alloc _) hq1 (Own.empty w3 (Nat.le_refl _)) rfl (by have := HLe.out; omega) (by simp)
      have HT1 := hid hT1
      have HR1 := hid hr1
      clear hT1 hr1 hb1 hu1 hq1
      go_wp2_with fail
      refine e6.mono ?_
      rintro e w4 ⟨A4, n4, c4, rfl, hO4, hl4, hg4, _⟩
      clear e6
      rw [List.nil_append] at hO4 hl4
      have HO4 := hid hO4
      have HL4 := hid hl4
      have HOk4 := hid (RT.At.rowOf (Own.empty w3 (Nat.le_refl _)) hg4 (HT1.out.alloc _)).ok
      have s4 := G3.size
      have HG4 := hid (gr_then (gr_alloc G3 _) hg4 (fun i hi => .inr (by simp [blockOf] at hi; omega)))
      clear hO4 hl4 hg4
      go_wp2_with fail
      go_ret2
      exact ⟨A4, n4, c4, T1.rows, rfl, HO4.out.base_le s4, HL4.out, HOk4.out, by rw [HR1.out, HE.out, ← HRes.out]; rfl, HG4.out⟩
end Go.Proofs.Ytnegoaaddaofiaa
