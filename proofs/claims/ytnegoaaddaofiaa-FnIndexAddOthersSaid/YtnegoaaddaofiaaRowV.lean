/- impl.IndexValid. -/
import Derived.Test.YtnegoaaddaofiaaRow
import Derived.BigQuiet
import Derived.Deep.QuietTactic
import Derived.Deep.DeepCutAuto
namespace Go.Proofs.Ytnegoaaddaofiaa
open Go.RowKit

/-- How often each position is used, as the array of it. -/
def usesA (ps : List Int) : Array Value := ((List.range 100).map fun (p : Nat) => Value.int .i64 (if (p : Int) ∈ ps then 1 else 0)).toArray
def hundred : Array Value := Array.replicate 100 (.int .i64 0)
theorem zero100 : ∀ w : World, (zeroValue 43).run Try.prog w = .ok (.agg hundred) w := fun w => by kernel_rfl
theorem uses_nil : hundred = usesA [] := by
  apply Array.ext'
  simp [hundred, usesA, List.map_const']
theorem uses_at (ps : List Int) (p : Nat) (h : p < 100) : (usesA ps)[p]? = some (.int .i64 (if (p : Int) ∈ ps then 1 else 0)) := by
  simp [usesA, h]
theorem uses_put (ps : List Int) (p : Nat) (h : p < 100) : (usesA ps).setIfInBounds p (.int .i64 1) = usesA (ps ++ [(p : Int)]) := by
  apply Array.ext'
  rw [Array.toList_setIfInBounds]
  unfold usesA
  simp only []
  apply List.ext_getElem
  · simp
  · intro i h1 h2
    simp only [List.length_set, List.length_map, List.length_range] at h1
    rw [List.getElem_set]
    simp only [List.getElem_map, List.getElem_range]
    split
    · rename_i e
      subst e
      simp
    · rename_i e
      have : ¬ (i : Int) = (p : Int) := by omega
      simp [this]
theorem dup_not {rs : List (ByteArray × List Int)} {k j : Nat} (hk : k < rs.length) (hj : j < rs[k].2.length) (h : rs[k].2[j] ∈ spots (rs.take k) ++ rs[k].2.take j) : ¬ (spots rs).Nodup := by
  have e : spots rs = spots (rs.take k) ++ (rs[k].2 ++ spots (rs.drop (k + 1))) := by
    have e1 : rs = rs.take k ++ (rs[k] :: rs.drop (k + 1)) := by rw [← List.drop_eq_getElem_cons hk, List.take_append_drop]
    have e3 : spots (rs.take k ++ (rs[k] :: rs.drop (k + 1))) = spots (rs.take k) ++ (rs[k].2 ++ spots (rs.drop (k + 1))) := by unfold spots; rw [List.flatMap_append, List.flatMap_cons]
    rwa [← e1] at e3
  have e2 : rs[k].2 = rs[k].2.take j ++ (rs[k].2[j] :: rs[k].2.drop (j + 1)) := by rw [← List.drop_eq_getElem_cons hj, List.take_append_drop]
  intro hn
  rw [e, e2, ← List.append_assoc, ← List.append_assoc] at hn
  have h1 := (List.nodup_append.1 (List.nodup_append.1 hn).1).2.2
  exact h1 _ h _ (List.mem_cons.2 (.inl rfl)) rfl
theorem nodup_snoc {l : List Int} {x : Int} (h : l.Nodup) (hx : x ∉ l) : (l ++ [x]).Nodup := by
  rw [List.nodup_append]
  exact ⟨h, by simp, fun a ha b hb => by simp at hb; subst hb; exact fun e => hx (e ▸ ha)⟩
theorem word_q (s : ByteArray) (b : Bool) (w : World) (hs : s.size ≤ maxLen) (h : wordB s = b) :
    Calls Try.prog 20 #[.string s] w fun e w' => e = .returned (.bool b) ∧ w' = w :=
  (word_is s b w hs h).mono fun _ _ ⟨he, hw⟩ => ⟨he, hw.symm⟩
theorem sl_ge' {a b : ByteArray} (h : sl a b = false) : Op.bytesLess b.toList a.toList = true ∨ a = b := by
  rcases sl_tri a b with q | q | q
  · rw [h] at q; cases q
  · exact .inr q
  · exact .inl q
theorem sl_le2 {a b : ByteArray} (h : sl a b = true) : Op.bytesLess b.toList a.toList = false ∧ (b.toList == a.toList) = false := by
  refine ⟨sl_not h, ?_⟩
  rw [beq_bytes]
  exact decide_eq_false (sl_ne h).symm

set_option maxHeartbeats 4000000 in
theorem iv_is (A : Option Addr) (n c : Nat) (rs : List RRow) (b : Bool) (w : World) (h : RArg w A n c rs) (hb : idxB (rsem rs) = b) :
    Calls Try.prog 8 #[.slice A n c] w fun e w' => e = .returned (.bool b) ∧ w.grownBy w' none := by
  have hc := h.cap
  have hm := h.max
  unfold maxLen at hm
  have HN := hid h.len
  have HB := hid hb
  have HZ := zero100
  have HU0 := hid (show Full (w.alloc (.cells hundred 43)) w.heap.size 43 (usesA []) by rw [← uses_nil]; exact Full.new _ _ _)
  have G0 := World.grownBy_alloc w (.cells hundred 43) none
  have HA := hid h
  clear hb
  go_enter Try.func8, Try.ntmps8
  go_wp2_with fail
  clear HZ
  go_loopw [11] (fun iv wr => ∃ k : Nat, iv = .int .i64 (k : Int) ∧ k ≤ n ∧ IdxOk ((rsem rs).take k) ∧ Full wr w.heap.size 43 (usesA (spots ((rsem rs).take k))) ∧ w.grownBy wr none) (fun iv _ => n - (intOf iv).toNat)
  case atStart => exact ⟨0, rfl, by omega, ⟨by simp, by simp [keysUp], by simp [spots]⟩, HU0.out, G0⟩
  case round =>
    clear HU0 G0
    obtain ⟨k, rfl, hkn, hok, hU, hG⟩ := hrel
    have HOk := hid hok
    have HU := hid hU
    clear hok hU
    by_cases hlt : k < n
    · have hkl : k < rs.length := by rw [HN.out]; exact hlt
      have hks : k < (rsem rs).length := by rw [rsem_len]; exact hkl
      have hr := (HA.out.ats _ (List.getElem_mem hkl)).grown0 hG
      have HRow := hid (idxB_row (rs := rsem rs) hks)
      have HOrd := hid (show ∀ p, 0 < k → (rsem rs)[k - 1]? = some p → sl p.1 (rsem rs)[k].1 = false → idxB (rsem rs) = false from fun p h0 hp hs => by
        obtain ⟨_, rfl⟩ := List.getElem?_eq_some_iff.1 hp
        exact idxB_ord (rs := rsem rs) hks h0 hs)
      have HRA := hid (fun (w' : World) (hg : w.grownBy w' none) => ((HA.out.ats _ (List.getElem_mem hkl)).grown0 hg).own)
      have HDup := hid (show ∀ (j : Nat) (y : Int), (rsem rs)[k].2[j]? = some y → y ∈ spots ((rsem rs).take k) ++ (rsem rs)[k].2.take j → idxB (rsem rs) = false from fun j y hy hd => by
        obtain ⟨hj, rfl⟩ := List.getElem?_eq_some_iff.1 hy
        exact idxB_dup (dup_not (rs := rsem rs) hks hj hd))
      have HNext := hid (show ∀ (h1 : rowOk (rsem rs)[k] = true) (h2 : ∀ p, 0 < k → (rsem rs)[k - 1]? = some p → sl p.1 (rsem rs)[k].1 = true) (h3 : (spots ((rsem rs).take k) ++ (rsem rs)[k].2).Nodup), IdxOk ((rsem rs).take (k + 1)) ∧ spots ((rsem rs).take (k + 1)) = spots ((rsem rs).take k) ++ (rsem rs)[k].2 from fun h1 h2 h3 => by
        obtain ⟨a, b, _⟩ := HOk.out
        refine ⟨⟨fun r hr => ?_, keysUp_next b hks (fun h0 => h2 _ h0 (List.getElem?_eq_getElem (by omega))), by rw [spots_take hks]; exact h3⟩, spots_take hks⟩
        rw [List.take_succ_eq_append_getElem hks] at hr
        rcases List.mem_append.1 hr with hr | hr
        · exact a r hr
        · rw [List.mem_singleton.1 hr]; exact h1)
      have hprev : k = 0 ∨ (0 < k ∧ ∃ y : ByteArray, (∀ p, (rsem rs)[k - 1]? = some p → p.1 = y) ∧ ∀ g o, A = some ⟨g, o, none⟩ → (∀ i (hi : i < rs.length), ∀ w' : World, w.grownBy w' none → w'.cell? ⟨g, o + i * 2, none⟩ = some (.string rs[i].k) ∧ w'.cell? ⟨g, o + i * 2 + 1, none⟩ = some (.slice rs[i].a rs[i].n rs[i].c)) → ∀ w' : World, w.grownBy w' none → w'.cell? ⟨g, o + (k - 1) * 2, none⟩ = some (.string y)) := by
        rcases Nat.eq_zero_or_pos k with q | q
        · exact .inl q
        · refine .inr ⟨q, (rs[k - 1]'(by omega)).k, fun p hp => by obtain ⟨hk1, rfl⟩ := List.getElem?_eq_some_iff.1 hp; rw [rsem_at rs (k - 1) (by omega)]; rfl, fun g o _ hc w' hg => (hc (k - 1) (by omega) w' hg).1⟩
      obtain ⟨g, o, hAe, hgl, hcells⟩ := HA.out.open_ (by omega)
      have cc := hcells k hkl wr hG
      have es := rsem_at rs k hkl
      obtain ⟨r, hrr⟩ : ∃ r, rs[k] = r := ⟨_, rfl⟩
      simp only [es, hrr] at HRow HOrd HDup HNext cc hr HRA
      obtain ⟨rk, ra, rn, rc, rx⟩ := r
      simp only [RRow.sem] at HRow HOrd HDup HNext cc hr HRA
      obtain ⟨ck, cp⟩ := cc
      have hrO := hr.own
      have hrl : rx.length = rn := hr.len
      have hrz : rk.size ≤ maxLen := hr.key
      have hrc : rn ≤ rc := hr.cap
      have hrm : rc ≤ maxLen := hr.max
      unfold maxLen at hrm
      simp only at hrO
      have b1 : (0 : Int) ≤ (k : Int) := by omega
      have b2 : (k : Int) < (n : Int) := by omega
      have hsw := hG.size
      have hUl := HU.out.lt
      have FR := Full.new wr 33 #[.string rk, .slice ra rn rc]
      have fr0 := FR.cellAt 0 (v := .string rk) rfl
      have fr1 := FR.cellAt 1 (v := .slice ra rn rc) rfl
      have HRl := hid hrl
      have G1 := gr_alloc hG (.cells #[.string rk, .slice ra rn rc] 33)
      have HRO := hid hrO
      have HpC := hid (fun hcs y (hp : ∀ g o, A = some ⟨g, o, none⟩ → (∀ i (hi : i < rs.length), ∀ w' : World, w.grownBy w' none → w'.cell? ⟨g, o + i * 2, none⟩ = some (.string rs[i].k) ∧ w'.cell? ⟨g, o + i * 2 + 1, none⟩ = some (.slice rs[i].a rs[i].n rs[i].c)) → ∀ w' : World, w.grownBy w' none → w'.cell? ⟨g, o + (k - 1) * 2, none⟩ = some (.string y)) => hp g o hAe hcs _ G1)
      subst hAe
      clear hr hrO hrl es hrr FR
      obtain ⟨bw, hbw⟩ : ∃ b, wordB rk = b := ⟨_, rfl⟩
      have i1 := fun w => word_q rk bw w hrz hbw
      have HBw := hid hbw
      clear hbw
      cases bw with
      | false =>
        have HF := hid (HRow.out (by simp [rowOk, HBw.out]))
        clear hprev hcells HpC
        go_wp2_with fail
        go_quiet ((go_at_call 20; exact Calls.quiet_of_same (i1 _)))
        go_wp2_with fail
        go_ret
        exact ⟨ret_bool (by rw [← HB.out, HF.out]), gr_drewN G1 _⟩
      | true =>
        rcases (by omega : rn = 0 ∨ 0 < rn) with hn0 | hn0
        · have HF := hid (HRow.out (by have := HRl.out; simp [rowOk, HBw.out, this, hn0]))
          have z0 : ((rn : Int) == 0) = true := by simp [hn0]
          have z1 : decide (rn = 0) = true := by simp [hn0]
          clear hprev hcells HpC hn0
          go_wp2_with fail
          go_quiet ((go_at_call 20; exact Calls.quiet_of_same (i1 _)))
          go_wp2_with fail
          go_ret
          exact ⟨ret_bool (by rw [← HB.out, HF.out]), gr_drewN G1 _⟩
        · have z0 : ((rn : Int) == 0) = false := by simp; omega
          have z1 : decide (rn = 0) = false := by simp; omega
          have hN0 := hn0
          rcases hprev with hk0 | ⟨hk0, y, hy, hpc⟩
          · have g0 : decide (0 < k) = false := by simp; omega
            have HOrdOk := hid (show ∀ p, 0 < k → (rsem rs)[k - 1]? = some p → sl p.1 rk = true from fun p h _ => by omega)
            clear hk0 hcells HpC
            go_wp2_with fail
            go_quiet ((go_at_call 20; exact Calls.quiet_of_same (i1 _)))
            have FR2 := Full.new wr 33 #[.string rk, .slice ra rn rc]
            have HU2 := HU.out.alloc (.cells #[.string rk, .slice ra rn rc] 33)
            have fr1 := FR2.cellAt 1 (v := .slice ra rn rc) rfl
            have HU3 := hid HU2
            have HG1 := hid G1
            clear FR2 HU2 G1 HU hG
            try clear cy
            try clear hcells
            try clear HpC
            obtain ⟨wo, hwo⟩ : ∃ wo, wo = wr := ⟨_, rfl⟩
            subst hwo
            go_wp2_with fail
            go_loopw [6, 44] (fun lv iv wr => ∃ j : Nat, iv = .int .i64 (j : Int) ∧ lv = .int .i64 (lastOf (-1) (rx.take j)) ∧ j ≤ rn ∧ asc (-1) 99 (rx.take j) = true ∧ (spots ((rsem rs).take k) ++ rx.take j).Nodup ∧ Full wr w.heap.size 43 (usesA (spots ((rsem rs).take k) ++ rx.take j)) ∧ w.grownBy wr none) (fun _ iv _ => rn - (intOf iv).toNat)
            case atStart => exact ⟨0, rfl, rfl, by omega, rfl, by rw [List.take_zero, List.append_nil]; exact HOk.out.2.2, by rw [List.take_zero, List.append_nil]; exact HU3.out.drewN _, gr_drewN HG1.out _⟩
            case round =>
              clear fr1 HU3 HG1
              obtain ⟨j, rfl, rfl, hjn, hasc, hnd, hU, hG⟩ := hrel
              have HAs := hid hasc
              have HNd := hid hnd
              clear hasc hnd
              by_cases hjt : j < rn
              · have hjl : j < rx.length := by rw [HRl.out]; exact hjt
                obtain ⟨g', o', hAe', _, hcx⟩ := (HRA.out wr hG).lies.open_ (by rw [ints_len]; omega)
                obtain rfl := hAe'
                have cx := intAt hcx hjl
                clear hcx
                have HNotL := hid (asc_not (lo := -1) (hi := 99) hjl)
                have HAscN := hid (asc_next (lo := -1) (hi := 99) hjl HAs.out)
                have HTk := hid (List.take_succ_eq_append_getElem hjl)
                have HDj := hid (HDup.out j _ (List.getElem?_eq_getElem hjl))
                have HLst := hid (last_take (-1) rx j hjl)
                have HLow := hid (asc_last HAs.out)
                have HU := hid hU
                clear hU
                obtain ⟨x, hx⟩ : ∃ x, rx[j] = x := ⟨_, rfl⟩
                obtain ⟨v, hv⟩ : ∃ v, lastOf (-1) (rx.take j) = v := ⟨_, rfl⟩
                rw [hx] at cx HNotL HAscN HTk HDj HLst
                rw [hv] at HNotL HAscN HLow ⊢
                have hv0 : -1 ≤ v := HLow.out
                clear hx hv HLow
                rcases (by omega : x ≤ v ∨ (v < x ∧ 99 < x) ∨ (v < x ∧ x ≤ 99)) with q | ⟨q, q'⟩ | ⟨q, q'⟩
                · have HF := hid (HRow.out (by rw [Bool.eq_false_iff]; intro e; have e2 := (rowOk_iff.1 e).2.2; rw [HNotL.out (.inl q)] at e2; cases e2))
                  go_wp2_with fail
                  go_ret
                  exact ⟨ret_bool (by rw [← HB.out, HF.out]), hG⟩
                · have HF := hid (HRow.out (by rw [Bool.eq_false_iff]; intro e; have e2 := (rowOk_iff.1 e).2.2; rw [HNotL.out (.inr q')] at e2; cases e2))
                  go_wp2_with fail
                  go_ret
                  exact ⟨ret_bool (by rw [← HB.out, HF.out]), hG⟩
                · obtain ⟨p, rfl⟩ : ∃ p : Nat, x = (p : Int) := ⟨x.toNat, by omega⟩
                  have hp : p < 100 := by omega
                  have b5 : (0 : Int) ≤ (p : Int) := by omega
                  have b6 : (p : Int) < 100 := by omega
                  have hAsc2 := hid (HAscN.out q q')
                  by_cases hmem : (p : Int) ∈ spots ((rsem rs).take k) ++ rx.take j
                  · have HF := hid (HDj.out hmem)
                    have cu := HU.out.cellAt p (v := .int .i64 1) (by rw [uses_at _ _ hp, if_pos hmem])
                    go_wp2_with fail
                    go_ret
                    exact ⟨ret_bool (by rw [← HB.out, HF.out]), hG⟩
                  · have cu := HU.out.cellAt p (v := .int .i64 0) (by rw [uses_at _ _ hp, if_neg hmem])
                    have cf := HU.out.free p
                    have HU4 := hid (show Full (wr.setCell ⟨w.heap.size, p, none⟩ (.int .i64 1)) w.heap.size 43 (usesA (spots ((rsem rs).take k) ++ rx.take (j + 1))) by
                      rw [HTk.out, ← List.append_assoc, ← uses_put _ p hp]
                      exact HU.out.set p _)
                    have HND := hid (show (spots ((rsem rs).take k) ++ rx.take (j + 1)).Nodup by
                      rw [HTk.out, ← List.append_assoc]; exact nodup_snoc HNd.out hmem)
                    have HG2 := hid (show w.grownBy (wr.setCell ⟨w.heap.size, p, none⟩ (.int .i64 1)) none from gr_put hG (Nat.le_refl _) _)
                    clear hmem HDj HNotL HAscN HTk
                    go_wp2_with fail
                    go_roundw
                    case rel => exact ⟨j + 1, by go_num, by rw [HLst.out], by omega, hAsc2.out, HND.out, HU4.out, HG2.out⟩
                    case measure => simp [intOf]; omega
              · obtain rfl : j = rn := by omega
                rw [List.take_of_length_le (l := rx) (by rw [HRl.out]; exact Nat.le_refl _)] at HAs HNd hU ⊢
                have HNx := hid (HNext.out (rowOk_iff.2 ⟨HBw.out, (show 0 < rx.length by have := HRl.out; omega), HAs.out⟩) HOrdOk.out HNd.out)
                have HU5 := hid (show Full wr w.heap.size 43 (usesA (spots ((rsem rs).take (k + 1)))) by rw [HNx.out.2]; exact hU)
                clear hU
                go_wp2_with fail
                go_roundw
                case rel => exact ⟨k + 1, by go_num, by omega, HNx.out.1, HU5.out, hG⟩
                case measure => simp [intOf]; omega
          · have g0 : decide (0 < k) = true := by simpa using hk0
            have cy := HpC.out hcells y hpc
            have b3 : (0 : Int) ≤ (k : Int) - 1 := by omega
            have b4 : (k : Int) - 1 < (n : Int) := by omega
            have b5 : ((k : Int) - 1).toNat = k - 1 := by omega
            have wk : IntKind.i64.wrap ((k : Int) - 1) = (k : Int) - 1 := IntWalk.i64_in _ (by omega)
            have HY := hid hy
            clear hpc hcells hy
            obtain ⟨bs, hbs⟩ : ∃ b, sl y rk = b := ⟨_, rfl⟩
            cases bs with
            | false =>
              have HF := hid ((show ∃ p, (rsem rs)[k - 1]? = some p from ⟨_, List.getElem?_eq_getElem (by omega)⟩).elim fun p hp => HOrd.out p hk0 hp (by rw [HY.out p hp]; exact hbs))
              rcases sl_ge' hbs with hl | hl
              · clear hbs
                go_wp2_with fail
                go_quiet ((go_at_call 20; exact Calls.quiet_of_same (i1 _)))
                go_wp2_with fail
                go_ret
                exact ⟨ret_bool (by rw [← HB.out, HF.out]), gr_drewN G1 _⟩
              · subst hl
                have qy : (y.toList == y.toList) = true := by simp
                clear hbs
                go_wp2_with fail
                go_quiet ((go_at_call 20; exact Calls.quiet_of_same (i1 _)))
                go_wp2_with fail
                go_ret
                exact ⟨ret_bool (by rw [← HB.out, HF.out]), gr_drewN G1 _⟩
            | true =>
              obtain ⟨hl1, hl2⟩ := sl_le2 hbs
              have HOrdOk := hid (show ∀ p, 0 < k → (rsem rs)[k - 1]? = some p → sl p.1 rk = true from fun p _ hp => by rw [HY.out p hp]; exact hbs)
              clear hbs
              go_wp2_with fail
              go_quiet ((go_at_call 20; exact Calls.quiet_of_same (i1 _)))
              have FR2 := Full.new wr 33 #[.string rk, .slice ra rn rc]
              have HU2 := HU.out.alloc (.cells #[.string rk, .slice ra rn rc] 33)
              have fr1 := FR2.cellAt 1 (v := .slice ra rn rc) rfl
              have HU3 := hid HU2
              have HG1 := hid G1
              clear FR2 HU2 G1 HU hG
              try clear cy
              try clear hcells
              try clear HpC
              obtain ⟨wo, hwo⟩ : ∃ wo, wo = wr := ⟨_, rfl⟩
              subst hwo
              go_wp2_with fail
              go_loopw [6, 44] (fun lv iv wr => ∃ j : Nat, iv = .int .i64 (j : Int) ∧ lv = .int .i64 (lastOf (-1) (rx.take j)) ∧ j ≤ rn ∧ asc (-1) 99 (rx.take j) = true ∧ (spots ((rsem rs).take k) ++ rx.take j).Nodup ∧ Full wr w.heap.size 43 (usesA (spots ((rsem rs).take k) ++ rx.take j)) ∧ w.grownBy wr none) (fun _ iv _ => rn - (intOf iv).toNat)
              case atStart => exact ⟨0, rfl, rfl, by omega, rfl, by rw [List.take_zero, List.append_nil]; exact HOk.out.2.2, by rw [List.take_zero, List.append_nil]; exact HU3.out.drewN _, gr_drewN HG1.out _⟩
              case round =>
                clear fr1 HU3 HG1
                obtain ⟨j, rfl, rfl, hjn, hasc, hnd, hU, hG⟩ := hrel
                have HAs := hid hasc
                have HNd := hid hnd
                clear hasc hnd
                by_cases hjt : j < rn
                · have hjl : j < rx.length := by rw [HRl.out]; exact hjt
                  obtain ⟨g', o', hAe', _, hcx⟩ := (HRA.out wr hG).lies.open_ (by rw [ints_len]; omega)
                  obtain rfl := hAe'
                  have cx := intAt hcx hjl
                  clear hcx
                  have HNotL := hid (asc_not (lo := -1) (hi := 99) hjl)
                  have HAscN := hid (asc_next (lo := -1) (hi := 99) hjl HAs.out)
                  have HTk := hid (List.take_succ_eq_append_getElem hjl)
                  have HDj := hid (HDup.out j _ (List.getElem?_eq_getElem hjl))
                  have HLst := hid (last_take (-1) rx j hjl)
                  have HLow := hid (asc_last HAs.out)
                  have HU := hid hU
                  clear hU
                  obtain ⟨x, hx⟩ : ∃ x, rx[j] = x := ⟨_, rfl⟩
                  obtain ⟨v, hv⟩ : ∃ v, lastOf (-1) (rx.take j) = v := ⟨_, rfl⟩
                  rw [hx] at cx HNotL HAscN HTk HDj HLst
                  rw [hv] at HNotL HAscN HLow ⊢
                  have hv0 : -1 ≤ v := HLow.out
                  clear hx hv HLow
                  rcases (by omega : x ≤ v ∨ (v < x ∧ 99 < x) ∨ (v < x ∧ x ≤ 99)) with q | ⟨q, q'⟩ | ⟨q, q'⟩
                  · have HF := hid (HRow.out (by rw [Bool.eq_false_iff]; intro e; have e2 := (rowOk_iff.1 e).2.2; rw [HNotL.out (.inl q)] at e2; cases e2))
                    go_wp2_with fail
                    go_ret
                    exact ⟨ret_bool (by rw [← HB.out, HF.out]), hG⟩
                  · have HF := hid (HRow.out (by rw [Bool.eq_false_iff]; intro e; have e2 := (rowOk_iff.1 e).2.2; rw [HNotL.out (.inr q')] at e2; cases e2))
                    go_wp2_with fail
                    go_ret
                    exact ⟨ret_bool (by rw [← HB.out, HF.out]), hG⟩
                  · obtain ⟨p, rfl⟩ : ∃ p : Nat, x = (p : Int) := ⟨x.toNat, by omega⟩
                    have hp : p < 100 := by omega
                    have b5 : (0 : Int) ≤ (p : Int) := by omega
                    have b6 : (p : Int) < 100 := by omega
                    have hAsc2 := hid (HAscN.out q q')
                    by_cases hmem : (p : Int) ∈ spots ((rsem rs).take k) ++ rx.take j
                    · have HF := hid (HDj.out hmem)
                      have cu := HU.out.cellAt p (v := .int .i64 1) (by rw [uses_at _ _ hp, if_pos hmem])
                      go_wp2_with fail
                      go_ret
                      exact ⟨ret_bool (by rw [← HB.out, HF.out]), hG⟩
                    · have cu := HU.out.cellAt p (v := .int .i64 0) (by rw [uses_at _ _ hp, if_neg hmem])
                      have cf := HU.out.free p
                      have HU4 := hid (show Full (wr.setCell ⟨w.heap.size, p, none⟩ (.int .i64 1)) w.heap.size 43 (usesA (spots ((rsem rs).take k) ++ rx.take (j + 1))) by
                        rw [HTk.out, ← List.append_assoc, ← uses_put _ p hp]
                        exact HU.out.set p _)
                      have HND := hid (show (spots ((rsem rs).take k) ++ rx.take (j + 1)).Nodup by
                        rw [HTk.out, ← List.append_assoc]; exact nodup_snoc HNd.out hmem)
                      have HG2 := hid (show w.grownBy (wr.setCell ⟨w.heap.size, p, none⟩ (.int .i64 1)) none from gr_put hG (Nat.le_refl _) _)
                      clear hmem HDj HNotL HAscN HTk
                      go_wp2_with fail
                      go_roundw
                      case rel => exact ⟨j + 1, by go_num, by rw [HLst.out], by omega, hAsc2.out, HND.out, HU4.out, HG2.out⟩
                      case measure => simp [intOf]; omega
                · obtain rfl : j = rn := by omega
                  rw [List.take_of_length_le (l := rx) (by rw [HRl.out]; exact Nat.le_refl _)] at HAs HNd hU ⊢
                  have HNx := hid (HNext.out (rowOk_iff.2 ⟨HBw.out, (show 0 < rx.length by have := HRl.out; omega), HAs.out⟩) HOrdOk.out HNd.out)
                  have HU5 := hid (show Full wr w.heap.size 43 (usesA (spots ((rsem rs).take (k + 1)))) by rw [HNx.out.2]; exact hU)
                  clear hU
                  go_wp2_with fail
                  go_roundw
                  case rel => exact ⟨k + 1, by go_num, by omega, HNx.out.1, HU5.out, hG⟩
                  case measure => simp [intOf]; omega
    · obtain rfl : k = n := by omega
      have HF := hid (show idxB (rsem rs) = true by
        have := HOk.out
        rw [List.take_of_length_le (by rw [rsem_len, HN.out]; exact Nat.le_refl _)] at this
        exact idxB_iff.2 this)
      go_wp2_with fail
      go_ret
      exact ⟨ret_bool (by rw [← HB.out, HF.out]), hG⟩
end Go.Proofs.Ytnegoaaddaofiaa
