/- spec's NameParts. -/
import Derived.Test.YtnjbpeojadbclaaDoorNameOf
import Derived.Test.YtnjbpeojadbclaaDoorOrd
import Derived.OwnWalk
namespace Go.Proofs.YtnjbpeojadbclaaDoor
open Go.RowKit

theorem split_hy {s : ByteArray} {k : Nat} (h : hyAt s.data.toList = some k) : s.data.toList = s.data.toList.take k ++ 45 :: s.data.toList.drop (k + 1) := by
  obtain ⟨h1, h2, _⟩ := hy_some.1 h
  conv => lhs; rw [← List.take_append_drop k s.data.toList]
  rw [List.drop_eq_getElem_cons h1, h2]
theorem num_l1 {l : List UInt8} (h : numB l = true) : l1N l = (numV l : Int) := by
  have h1 := numB_len h
  obtain ⟨h2, _, h3, _⟩ := numB_iff.1 h
  exact l1N_yes h2 (by omega) h3
theorem l1_cases (l : List UInt8) : l1N l = -1 ∨ l1N l = (numV l : Int) := by
  unfold l1N
  split
  · exact .inr rfl
  · exact .inl rfl
theorem name_eq {s : ByteArray} {k : Nat} (h : hyAt s.data.toList = some k) (hv : 0 ≤ l1N (s.data.toList.drop (k + 1))) :
    nameF (cat s.data.toList k) (l1N (s.data.toList.drop (k + 1))) = s ↔ wordB (cat s.data.toList k) = true ∧ numB (s.data.toList.drop (k + 1)) = true := by
  have hsp := split_hy h
  obtain ⟨rest, hrest⟩ : ∃ r, s.data.toList.drop (k + 1) = r := ⟨_, rfl⟩
  obtain ⟨pre, hpre⟩ : ∃ p, s.data.toList.take k = p := ⟨_, rfl⟩
  rw [hrest] at hsp hv ⊢
  rw [hpre] at hsp
  have hc : cat s.data.toList k = ⟨pre.toArray⟩ := by rw [cat, hpre]
  rw [hc]
  constructor
  · intro e
    unfold nameF at e
    split at e
    · rename_i hb
      refine ⟨hb.1, ?_⟩
      have hn := hb.2
      simp only [inR, decide_eq_true_eq] at hn
      have e2 := congrArg (fun b : ByteArray => b.data.toList) e
      simp only [app_data] at e2
      rw [hsp] at e2
      simp only [List.append_assoc, List.singleton_append] at e2
      have e3 := List.append_cancel_left e2
      injection e3 with _ e4
      rw [← e4]
      exact (dec_num (by omega)).1
    · exfalso
      have e2 := congrArg (fun b : ByteArray => b.data.toList) e
      simp only at e2
      rw [hsp] at e2
      simp at e2
  · rintro ⟨hw, hn⟩
    have h1 := num_l1 hn
    have h2 := (numB_iff.1 hn).2.2.2
    rw [h1]
    rw [nameF, if_pos ⟨hw, by simp [inR]; omega⟩, Int.toNat_natCast, num_dec hn]
    apply ByteArray.ext
    apply Array.toList_inj.1
    rw [app_data, app_data, hsp]
    simp

def ptup (o : Option (ByteArray × Nat)) : Value :=
  match o with
  | some q => .tuple #[.string q.1, .int .i64 (q.2 : Int), .bool true]
  | none => .tuple #[.string ⟨#[]⟩, .int .i64 0, .bool false]

theorem ex_drop (s : ByteArray) (k : Nat) : (s.extract k s.size).data.toList = s.data.toList.drop k := by
  rw [ByteArray.data_extract, Array.toList_extract, List.extract_eq_take_drop]
  rw [List.take_of_length_le (by simp)]
theorem ex_take (s : ByteArray) (k : Nat) : s.extract 0 k = cat s.data.toList k := by
  apply ByteArray.ext
  apply Array.toList_inj.1
  rw [ByteArray.data_extract, Array.toList_extract, List.extract_eq_take_drop]
  simp [cat]
theorem cat_size (s : ByteArray) (k : Nat) : (cat s.data.toList k).size ≤ s.size := by
  show (s.data.toList.take k).toArray.size ≤ s.size
  simp
  omega
theorem drop_size (s : ByteArray) (k : Nat) : (s.extract k s.size).size ≤ s.size := by
  rw [ByteArray.size_extract]
  omega

set_option maxHeartbeats 1000000 in
theorem snp_is (s : ByteArray) (o : Option (ByteArray × Nat)) (w : World) (hs : s.size ≤ maxLen) (ho : partsOf s = o) :
    Calls Tryd.prog 35 #[.string s] w fun e w' => e = .returned (ptup o) ∧ w.grownBy w' none := by
  have hs' := hs
  unfold maxLen at hs'
  have HO := hid ho
  clear ho
  cases hk : hyAt s.data.toList with
  | none =>
    have e1 := fun w => l2a_is s (-1) w hs (by rw [hyI, hk])
    obtain rfl : o = none := by rw [← HO.out, parts_none hk]
    clear hk
    go_enter Tryd.func35, Tryd.ntmps35
    go_wp2_with fail
    refine (e1 _).mono ?_
    rintro e w1 ⟨rfl, rfl⟩
    go_wp2_with fail
    go_ret3
    exact ⟨rfl, gr_refl _ _⟩
  | some k =>
    have hks : k < s.size := by
      obtain ⟨hkl, _, _⟩ := hy_some.1 hk
      simpa using hkl
    have e1 := fun w => l2a_is s k w hs (by rw [hyI, hk])
    obtain ⟨v, hv⟩ : ∃ v, l1N (s.data.toList.drop (k + 1)) = v := ⟨_, rfl⟩
    obtain ⟨r, hr⟩ : ∃ r, nameF (cat s.data.toList k) v = r := ⟨_, rfl⟩
    have e2 := fun w => l1n_is (s.extract (k + 1) s.size) v w (Nat.le_trans (drop_size s (k + 1)) hs) (by rw [ex_drop]; exact hv)
    have e3 := fun w => no_is (s.extract 0 k) v r w (by rw [ex_take]; exact Nat.le_trans (cat_size s k) hs) (by rw [ex_take]; exact hr)
    have HV := hid hv
    have HR := hid hr
    clear hv hr
    have HK := hid hk
    have b1 : (0 : Int) ≤ (k : Int) := by omega
    have b2 : (k : Int) < (s.size : Int) := by omega
    have b3 : (k : Int) + 1 ≤ (s.size : Int) := by omega
    have b4 : (0 : Int) ≤ (k : Int) + 1 := by omega
    have b5 : (k : Int) ≤ (s.size : Int) := by omega
    have i1 : IntKind.i64.wrap ((k : Int) + 1) = (k : Int) + 1 := IntWalk.i64_in _ (by omega)
    clear hk
    go_enter Tryd.func35, Tryd.ntmps35
    go_wp2_with fail
    refine (e1 _).mono ?_
    rintro e w1 ⟨rfl, rfl⟩
    go_wp2_with fail
    refine (e2 _).mono ?_
    rintro e w1 ⟨rfl, rfl⟩
    clear e2
    by_cases hv : v < 0
    · obtain rfl : o = none := by
        rw [← HO.out]
        refine parts_num HK.out ?_
        rw [Bool.eq_false_iff]
        intro hn
        have h1 := num_l1 hn
        rw [HV.out] at h1
        omega
      clear e3
      go_wp2_with fail
      go_ret3
      exact ⟨rfl, gr_refl _ _⟩
    · have hv0 : 0 ≤ v := by omega
      have hv1 : decide (v < 0) = false := by simpa using hv0
      have HE := hid (name_eq HK.out (by rw [HV.out]; exact hv0))
      rw [HV.out] at HE
      by_cases q : r = s
      · have q1 : (r.toList == s.toList) = true := by rw [q]; simp
        have hq := HE.out.1 (by rw [HR.out]; exact q)
        have hv2 : v = (numV (s.data.toList.drop (k + 1)) : Int) := by rw [← HV.out]; exact num_l1 hq.2
        have HP := hid (parts_some HK.out hq.1 hq.2)
        have HV2 := hid hv2
        have HC := hid (ex_take s k)
        clear hq hv2 q
        go_wp2_with fail
        refine (e3 _).mono ?_
        rintro e w2 ⟨rfl, hg2⟩
        go_wp2_with fail
        go_ret3
        refine ⟨?_, hg2⟩
        rw [← HO.out, HP.out, ptup, ← HV2.out, ← HC.out]
        rfl
      · have q0 : r.toList ≠ s.toList := fun x => q (toList_inj x)
        have q1 : (r.toList == s.toList) = false := by simpa using q0
        obtain rfl : o = none := by
          rw [← HO.out]
          have hq : ¬ (wordB (cat s.data.toList k) = true ∧ numB (s.data.toList.drop (k + 1)) = true) := fun h => q (by rw [← HR.out]; exact HE.out.2 h)
          cases hw : wordB (cat s.data.toList k) with
          | false => exact parts_word HK.out hw
          | true =>
            refine parts_num HK.out ?_
            rw [Bool.eq_false_iff]
            exact fun h => hq ⟨hw, h⟩
        clear q q0
        go_wp2_with fail
        refine (e3 _).mono ?_
        rintro e w2 ⟨rfl, hg2⟩
        go_wp2_with fail
        go_ret3
        exact ⟨rfl, hg2⟩
end Go.Proofs.YtnjbpeojadbclaaDoor
