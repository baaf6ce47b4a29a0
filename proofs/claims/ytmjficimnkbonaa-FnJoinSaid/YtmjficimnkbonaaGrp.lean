/- Groups: what is valid, in impl and in spec. -/
import Derived.Test.YtmjficimnkbonaaOrd
import Derived.Test.YtmjficimnkbonaaWord
import Derived.Test.YtmjficimnkbonaaIn
import Derived.BigQuiet
import Derived.Deep.QuietTactic
import Derived.Deep.RegionHeld3
namespace Go.Proofs.Ytmjficimnkbonaa
open Go.RowKit

def strs (ms : List ByteArray) : List Value := ms.map Value.string
theorem strs_len (ms : List ByteArray) : (strs ms).length = ms.length := List.length_map _
theorem strs_at (ms : List ByteArray) (k : Nat) (h : k < ms.length) : (strs ms)[k]? = some (.string ms[k]) := by simp [strs, h]
theorem strs_one (ms : List ByteArray) : ∀ u ∈ strs ms, u.oneCell' = true := by
  intro u hu
  obtain ⟨x, _, rfl⟩ := List.mem_map.1 hu
  rfl
theorem strs_app (xs ys : List ByteArray) : strs (xs ++ ys) = strs xs ++ strs ys := by simp [strs]
theorem strAt' {w : World} {g o : Nat} {ms : List ByteArray} {k : Nat} (hcell : ∀ j u, (strs ms)[j]? = some u → w.cell? ⟨g, o + j, none⟩ = some u) (hk : k < ms.length) :
    w.cell? ⟨g, o + k, none⟩ = some (.string ms[k]) := hcell _ _ (strs_at ms k hk)

def ascS (ms : List ByteArray) : Prop := ms.Pairwise fun a b => sl a b = true
def MemsOk (ms : List ByteArray) : Prop := (∀ m ∈ ms, wordB m = true) ∧ ascS ms
def GrpOk (s : Int) (ms : List ByteArray) : Prop := (1 ≤ s ∧ s ≤ 8) ∧ (1 ≤ ms.length ∧ ms.length ≤ 6) ∧ MemsOk ms
noncomputable def grpB (s : Int) (ms : List ByteArray) : Bool := @decide (GrpOk s ms) (Classical.propDecidable _)
theorem grpB_iff {s : Int} {ms : List ByteArray} : grpB s ms = true ↔ GrpOk s ms := by simp [grpB]
theorem grpB_no {s : Int} {ms : List ByteArray} (h : ¬ GrpOk s ms) : grpB s ms = false := by rw [Bool.eq_false_iff]; exact fun e => h (grpB_iff.1 e)
theorem grpB_s {s : Int} {ms : List ByteArray} (h : s < 1 ∨ 8 < s) : grpB s ms = false := grpB_no fun ⟨h1, _⟩ => by omega
theorem grpB_n {s : Int} {ms : List ByteArray} (h : ms.length < 1 ∨ 6 < ms.length) : grpB s ms = false := grpB_no fun ⟨_, h1, _⟩ => by omega
theorem ascS_at {l : List ByteArray} (h : ascS l) {j k : Nat} (hj : j < k) (hk : k < l.length) : sl (l[j]'(by omega)) l[k] = true :=
  List.pairwise_iff_getElem.1 h j k (by omega) hk hj
theorem grpB_word {s : Int} {ms : List ByteArray} {k : Nat} (hk : k < ms.length) (h : wordB ms[k] = false) : grpB s ms = false :=
  grpB_no fun ⟨_, _, h2, _⟩ => by have := h2 _ (List.getElem_mem hk); rw [h] at this; cases this
theorem grpB_ord {s : Int} {ms : List ByteArray} {k : Nat} (hk : k < ms.length) (h0 : 0 < k) (h : sl (ms[k - 1]'(by omega)) ms[k] = false) : grpB s ms = false :=
  grpB_no fun ⟨_, _, _, h3⟩ => by have := ascS_at h3 (show k - 1 < k by omega) hk; rw [h] at this; cases this
theorem memsTo_next {l : List ByteArray} {k : Nat} (h : MemsOk (l.take k)) (hk : k < l.length) (h1 : wordB l[k] = true) (h2 : ∀ (_ : 0 < k), sl (l[k - 1]'(by omega)) l[k] = true) : MemsOk (l.take (k + 1)) := by
  obtain ⟨a, b⟩ := h
  rw [List.take_succ_eq_append_getElem hk]
  refine ⟨fun x hx => ?_, ?_⟩
  · rcases List.mem_append.1 hx with hx | hx
    · exact a x hx
    · rw [List.mem_singleton.1 hx]; exact h1
  · unfold ascS at b ⊢
    rw [List.pairwise_append]
    refine ⟨b, by simp, fun x hx y hy => ?_⟩
    simp at hy
    subst hy
    obtain ⟨j, hj, rfl⟩ := List.mem_iff_getElem.1 hx
    rw [List.length_take] at hj
    rw [List.getElem_take]
    have h3 := h2 (by omega)
    rcases (by omega : j = k - 1 ∨ j < k - 1) with e | e
    · simp only [e]; exact h3
    · have h4 := List.pairwise_iff_getElem.1 b j (k - 1) (by rw [List.length_take]; omega) (by rw [List.length_take]; omega) e
      rw [List.getElem_take, List.getElem_take] at h4
      exact sl_trans h4 h3
theorem grpB_all {s : Int} {ms : List ByteArray} {k : Nat} (h : MemsOk (ms.take k)) (hk : ms.length ≤ k) (h1 : 1 ≤ s ∧ s ≤ 8) (h2 : 1 ≤ ms.length ∧ ms.length ≤ 6) : grpB s ms = true := by
  rw [List.take_of_length_le hk] at h
  exact grpB_iff.2 ⟨h1, h2, h⟩
theorem sl_le' {a b : ByteArray} (h : sl a b = true) : Op.bytesLess b.toList a.toList = false ∧ (b.toList == a.toList) = false := by
  refine ⟨sl_not h, ?_⟩
  rw [beq_bytes]
  exact decide_eq_false (sl_ne h).symm
theorem sl_ge' {a b : ByteArray} (h : sl a b = false) : Op.bytesLess b.toList a.toList = true ∨ a = b := by
  rcases sl_tri a b with q | q | q
  · rw [h] at q; cases q
  · exact .inr q
  · exact .inl q
theorem sword_q' (s : ByteArray) (b : Bool) (w : World) (hs : s.size ≤ maxLen) (h : wordB s = b) :
    Calls Try.prog 48 #[.string s] w fun e w' => e = .returned (.bool b) ∧ w' = w :=
  (sword_is s b w hs h).mono fun _ _ ⟨he, hw⟩ => ⟨he, hw.symm⟩

/-- A slice of texts, as an argument. -/
structure SArg (w : World) (A : Option Addr) (n c : Nat) (ms : List ByteArray) : Prop where
  li : Lies w A (strs ms)
  len : ms.length = n
  cap : n ≤ c
  max : c ≤ maxLen
  sz : ∀ m ∈ ms, m.size ≤ maxLen
section
variable {w w' : World} {A : Option Addr} {n c : Nat} {ms : List ByteArray}
theorem SArg.grown0 (h : SArg w A n c ms) (hg : w.grownBy w' none) : SArg w' A n c ms :=
  ⟨h.li.grown0 hg, h.len, h.cap, h.max, h.sz⟩
theorem SArg.of_own {base : Nat} (h : Own w base 9 1 A n c (strs ms)) (hl : ms.length = n) (hs : ∀ x ∈ ms, x.size ≤ maxLen) : SArg w A n c ms :=
  ⟨h.lies, hl, h.cap, h.max, hs⟩
theorem SArg.alloc (h : SArg w A n c ms) (o : Obj) : SArg (w.alloc o) A n c ms := h.grown0 (World.grownBy_alloc w o none)
end

set_option maxHeartbeats 400000 in
theorem sv_any (s : Int) (w : World) : Calls Try.prog 51 #[.int .i64 s] w fun e w' => e = .returned (.bool (inR s 1 8)) ∧ w = w' := by
  rcases (by omega : s < 1 ∨ (1 ≤ s ∧ s ≤ 8) ∨ (1 ≤ s ∧ 8 < s)) with h | ⟨h, h'⟩ | ⟨h, h'⟩
  · rw [inR_false (.inl h)]
    go_enter Try.func51, Try.ntmps51
    go_wp2
    go_ret
    exact ⟨rfl, rfl⟩
  · rw [inR_true h h']
    go_enter Try.func51, Try.ntmps51
    go_wp2
    go_ret
    exact ⟨rfl, rfl⟩
  · rw [inR_false (.inr h')]
    go_enter Try.func51, Try.ntmps51
    go_wp2
    go_ret
    exact ⟨ret_bool (by simp; omega), rfl⟩
theorem sv_is (s : Int) (b : Bool) (w : World) (h : inR s 1 8 = b) : Calls Try.prog 51 #[.int .i64 s] w fun e w' => e = .returned (.bool b) ∧ w = w' := h ▸ sv_any s w

set_option maxHeartbeats 2000000 in
theorem gv_is (s : Int) (A : Option Addr) (n c : Nat) (ms : List ByteArray) (b : Bool) (w : World) (h : SArg w A n c ms) (hb : grpB s ms = b) :
    Calls Try.prog 18 #[.agg #[.int .i64 s, .slice A n c]] w fun e w' => e = .returned (.bool b) ∧ w.grownBy w' none := by
  have HN := hid h.len
  have HB := hid hb
  have HSz := hid h.sz
  have hc := h.cap
  have hm := h.max
  have hli := h.li
  unfold maxLen at hm
  have E0 := Full.new w 25 #[.int .i64 s, .slice A n c]
  have c0 := E0.cellAt 0 rfl
  have c1 := E0.cellAt 1 rfl
  have G0 := World.grownBy_alloc w (.cells #[.int .i64 s, .slice A n c] 25) none
  clear h hb
  rcases (by omega : (s < 1 ∨ 8 < s) ∨ (1 ≤ s ∧ s ≤ 8)) with hs | ⟨hs1, hs2⟩
  · have e1 := fun w => sv_is s false w (inR_false hs)
    have HF := hid (grpB_s (ms := ms) hs)
    clear hs E0
    go_enter Try.func18, Try.ntmps18
    go_wp2_with fail
    refine (e1 _).mono ?_
    rintro e w_ ⟨rfl, rfl⟩
    go_wp2_with fail
    go_ret
    exact ⟨ret_bool (by rw [← HB.out, HF.out]), G0⟩
  have e1 := fun w => sv_is s true w (inR_true hs1 hs2)
  rcases (by omega : n < 1 ∨ 6 < n ∨ (1 ≤ n ∧ n ≤ 6)) with hn | hn | ⟨hn1, hn2⟩
  · have HF := hid (grpB_n (s := s) (ms := ms) (.inl (by rw [HN.out]; exact hn)))
    obtain rfl : n = 0 := by omega
    clear E0
    go_enter Try.func18, Try.ntmps18
    go_wp2_with fail
    refine (e1 _).mono ?_
    rintro e w_ ⟨rfl, rfl⟩
    go_wp2_with fail
    go_ret
    exact ⟨ret_bool (by rw [← HB.out, HF.out]), G0⟩
  · have HF := hid (grpB_n (s := s) (ms := ms) (.inr (by rw [HN.out]; exact hn)))
    have d1 : decide (n < 1) = false := by simp; omega
    have d2 : decide (6 < n) = true := by simpa using hn
    clear E0
    go_enter Try.func18, Try.ntmps18
    go_wp2_with fail
    refine (e1 _).mono ?_
    rintro e w_ ⟨rfl, rfl⟩
    go_wp2_with fail
    go_ret
    exact ⟨ret_bool (by rw [← HB.out, HF.out]), G0⟩
  · have d1 : decide (n < 1) = false := by simp; omega
    have d2 : decide (6 < n) = false := by simp; omega
    have HE0 := hid E0
    clear E0
    go_enter Try.func18, Try.ntmps18
    go_wp2_with fail
    refine (e1 _).mono ?_
    rintro e w_ ⟨rfl, rfl⟩
    go_wp2_with fail
    clear c0 c1
    go_loopw [24] (fun i wr => ∃ k : Nat, i = .int .i64 k ∧ k ≤ n ∧ MemsOk (ms.take k) ∧ Full wr w.heap.size 25 #[.int .i64 s, .slice A n c] ∧ w.grownBy wr none) (fun i _ => n - (intOf i).toNat)
    case atStart => exact ⟨0, rfl, by omega, ⟨by simp, by simp [ascS]⟩, HE0.out, G0⟩
    case round =>
      clear HE0 G0
      obtain ⟨k, rfl, hkn, hok, hE, hgr⟩ := hrel
      have HO := hid hok
      have c1 := hE.cellAt 1 rfl
      have HE := hid hE
      clear hok hE
      by_cases hlt : k < n
      · have hkl : k < ms.length := by rw [HN.out]; exact hlt
        obtain ⟨g, o, rfl, hg, hcell⟩ := hli.open_ (by rw [strs_len]; omega)
        have ca := hgr.cell (strAt' hcell hkl) (by simp)
        have hcs := HSz.out _ (List.getElem_mem hkl)
        have HBad := hid (grpB_word (s := s) hkl)
        have HNx := hid (memsTo_next HO.out hkl)
        have b1 : (0 : Int) ≤ (k : Int) := by omega
        have b2 : (k : Int) < (n : Int) := by omega
        have hprev : k = 0 ∨ (∃ y : ByteArray, 0 < k ∧ (∀ _ : 0 < k, (ms[k - 1]'(by omega)) = y) ∧ wr.cell? ⟨g, o + (k - 1), none⟩ = some (.string y) ∧ (sl y ms[k] = false → grpB s ms = false)) := by
          rcases Nat.eq_zero_or_pos k with q | q
          · exact .inl q
          · exact .inr ⟨_, q, fun _ => rfl, hgr.cell (strAt' hcell (show k - 1 < ms.length by omega)) (by simp), fun q2 => grpB_ord hkl q q2⟩
        obtain ⟨tc, hz⟩ : ∃ z, ms[k] = z := ⟨_, rfl⟩
        simp only [hz] at ca hcs HBad HNx hprev
        clear hz hcell
        obtain ⟨bw, hbw⟩ : ∃ b, wordB tc = b := ⟨_, rfl⟩
        have e2 := fun w => word_is tc bw w hcs hbw
        have HBw := hid hbw
        clear hbw hcs
        cases bw with
        | false =>
          have HF := hid (HBad.out HBw.out)
          clear HBad HNx hprev
          go_wp2_with fail
          refine (e2 _).mono ?_
          rintro e w_ ⟨rfl, rfl⟩
          go_wp2_with fail
          go_ret
          exact ⟨ret_bool (by rw [← HB.out, HF.out]), hgr⟩
        | true =>
          rcases hprev with hk0 | ⟨y, hk0, hy, cy, hord⟩
          · have HF := hid (HNx.out HBw.out (fun q => by omega))
            have hk' : decide (0 < k) = false := by simp; omega
            clear HBad HNx hk0
            go_wp2_with fail
            refine (e2 _).mono ?_
            rintro e w_ ⟨rfl, rfl⟩
            go_wp2_with fail
            go_roundw
            case rel => exact ⟨k + 1, by go_num, by omega, HF.out, HE.out, hgr⟩
            case measure => simp [intOf]; omega
          · have hk' : decide (0 < k) = true := by simp; omega
            have b3 : (0 : Int) ≤ (k : Int) - 1 := by omega
            have b4 : (k : Int) - 1 < (n : Int) := by omega
            have b5 : ((k : Int) - 1).toNat = k - 1 := by omega
            obtain ⟨bs, hbs⟩ : ∃ b, sl y tc = b := ⟨_, rfl⟩
            cases bs with
            | false =>
              have HF := hid (hord hbs)
              rcases sl_ge' hbs with hl | hl
              · clear HBad HNx hy hord hbs hk0
                go_wp2_with fail
                refine (e2 _).mono ?_
                rintro e w_ ⟨rfl, rfl⟩
                go_wp2_with fail
                go_ret
                exact ⟨ret_bool (by rw [← HB.out, HF.out]), hgr⟩
              · subst hl
                clear HBad HNx hy hord hbs hk0
                go_wp2_with fail
                refine (e2 _).mono ?_
                rintro e w_ ⟨rfl, rfl⟩
                go_wp2_with fail
                go_ret
                exact ⟨ret_bool (by rw [← HB.out, HF.out]), hgr⟩
            | true =>
              have HF := hid (HNx.out HBw.out (fun q => by rw [hy q]; exact hbs))
              obtain ⟨hl, he⟩ := sl_le' hbs
              clear HBad HNx hy hord hbs hk0
              go_wp2_with fail
              refine (e2 _).mono ?_
              rintro e w_ ⟨rfl, rfl⟩
              go_wp2_with fail
              go_roundw
              case rel => exact ⟨k + 1, by go_num, by omega, HF.out, HE.out, hgr⟩
              case measure => simp [intOf]; omega
      · have HF := hid (grpB_all HO.out (by rw [HN.out]; omega) ⟨hs1, hs2⟩ (by rw [HN.out]; omega))
        go_wp2_with fail
        go_ret
        exact ⟨ret_bool (by rw [← HB.out, HF.out]), hgr⟩

set_option maxHeartbeats 2000000 in
theorem sgv_is (s : Int) (A : Option Addr) (n c : Nat) (ms : List ByteArray) (b : Bool) (w : World) (h : SArg w A n c ms) (hb : grpB s ms = b) :
    Calls Try.prog 21 #[.agg #[.int .i64 s, .slice A n c]] w fun e w' => e = .returned (.bool b) ∧ w.grownBy w' none := by
  have HN := hid h.len
  have HB := hid hb
  have HSz := hid h.sz
  have hc := h.cap
  have hm := h.max
  have hli := h.li
  unfold maxLen at hm
  have HE0 := hid (Full.new w 25 #[.int .i64 s, .slice A n c])
  have G0 := World.grownBy_alloc w (.cells #[.int .i64 s, .slice A n c] 25) none
  clear h hb
  go_enter Try.func21, Try.ntmps21
  go_wp2_with fail
  go_loopw [3] (fun i wr => ∃ k : Nat, i = .int .i64 k ∧ k ≤ n ∧ MemsOk (ms.take k) ∧ Full wr w.heap.size 25 #[.int .i64 s, .slice A n c] ∧ w.grownBy wr none) (fun i _ => n - (intOf i).toNat)
  case atStart => exact ⟨0, rfl, by omega, ⟨by simp, by simp [ascS]⟩, HE0.out, G0⟩
  case round =>
    clear HE0 G0
    obtain ⟨k, rfl, hkn, hok, hE, hgr⟩ := hrel
    have HO := hid hok
    have c0 := hE.cellAt 0 rfl
    have c1 := hE.cellAt 1 rfl
    have HE := hid hE
    clear hok hE
    by_cases hlt : k < n
    · have hkl : k < ms.length := by rw [HN.out]; exact hlt
      obtain ⟨g, o, rfl, hg, hcell⟩ := hli.open_ (by rw [strs_len]; omega)
      have ca := hgr.cell (strAt' hcell hkl) (by simp)
      have hcs := HSz.out _ (List.getElem_mem hkl)
      have HBad := hid (grpB_word (s := s) hkl)
      have HNx := hid (memsTo_next HO.out hkl)
      have b1 : (0 : Int) ≤ (k : Int) := by omega
      have b2 : (k : Int) < (n : Int) := by omega
      have hprev : k = 0 ∨ (∃ y : ByteArray, 0 < k ∧ (∀ _ : 0 < k, (ms[k - 1]'(by omega)) = y) ∧ wr.cell? ⟨g, o + (k - 1), none⟩ = some (.string y) ∧ (sl y ms[k] = false → grpB s ms = false)) := by
        rcases Nat.eq_zero_or_pos k with q | q
        · exact .inl q
        · exact .inr ⟨_, q, fun _ => rfl, hgr.cell (strAt' hcell (show k - 1 < ms.length by omega)) (by simp), fun q2 => grpB_ord hkl q q2⟩
      obtain ⟨tc, hz⟩ : ∃ z, ms[k] = z := ⟨_, rfl⟩
      simp only [hz] at ca hcs HBad HNx hprev
      clear hz hcell
      obtain ⟨bw, hbw⟩ : ∃ b, wordB tc = b := ⟨_, rfl⟩
      have e2 := fun w => sword_q' tc bw w hcs hbw
      have HBw := hid hbw
      clear hbw hcs
      cases bw with
      | false =>
        have HF := hid (HBad.out HBw.out)
        clear HBad HNx hprev
        go_wp2_with fail
        refine wp_region_quiet_lit (by kernel_rfl) (by kernel_rfl) ?_
        repeat (any_goals (first | go_big_quiet_step ((go_at_call 48; exact Calls.quiet_of_same (e2 _))) | quiet_step ((go_at_call 48; exact Calls.quiet_of_same (e2 _)))))
        all_goals (refine wpQuiet_nil ?_; intro _ hw'; obtain ⟨nq, hw''⟩ := hw'; subst hw'')
        go_wp2_with fail
        go_ret
        exact ⟨ret_bool (by rw [← HB.out, HF.out]), gr_drewN hgr _⟩
      | true =>
        rcases hprev with hk0 | ⟨y, hk0, hy, cy, hord⟩
        · have HF := hid (HNx.out HBw.out (fun q => by omega))
          have hk' : decide (0 < k) = false := by simp; omega
          clear HBad HNx hk0
          go_wp2_with fail
          refine wp_region_quiet_lit (by kernel_rfl) (by kernel_rfl) ?_
          repeat (any_goals (first | go_big_quiet_step ((go_at_call 48; exact Calls.quiet_of_same (e2 _))) | quiet_step ((go_at_call 48; exact Calls.quiet_of_same (e2 _)))))
          all_goals (refine wpQuiet_nil ?_; intro _ hw'; obtain ⟨nq, hw''⟩ := hw'; subst hw'')
          go_wp2_with fail
          go_roundw
          case rel => exact ⟨k + 1, by go_num, by omega, HF.out, HE.out.drewN _, gr_drewN hgr _⟩
          case measure => simp [intOf]; omega
        · have hk' : decide (0 < k) = true := by simp; omega
          have b3 : (0 : Int) ≤ (k : Int) - 1 := by omega
          have b4 : (k : Int) - 1 < (n : Int) := by omega
          have b5 : ((k : Int) - 1).toNat = k - 1 := by omega
          obtain ⟨bs, hbs⟩ : ∃ b, sl y tc = b := ⟨_, rfl⟩
          cases bs with
          | false =>
            have HF := hid (hord hbs)
            have hl : Op.bytesLess y.toList tc.toList = false := hbs
            clear HBad HNx hy hord hbs hk0
            go_wp2_with fail
            go_quiet ((go_at_call 48; exact Calls.quiet_of_same (e2 _)))
            go_wp2_with fail
            go_ret
            exact ⟨ret_bool (by rw [← HB.out, HF.out]), gr_drewN hgr _⟩
          | true =>
            have HF := hid (HNx.out HBw.out (fun q => by rw [hy q]; exact hbs))
            have hl : Op.bytesLess y.toList tc.toList = true := hbs
            clear HBad HNx hy hord hbs hk0
            go_wp2_with fail
            go_quiet ((go_at_call 48; exact Calls.quiet_of_same (e2 _)))
            go_wp2_with fail
            go_roundw
            case rel => exact ⟨k + 1, by go_num, by omega, HF.out, HE.out.drewN _, gr_drewN hgr _⟩
            case measure => simp [intOf]; omega
    · obtain rfl : k = n := by omega
      rcases (by omega : (s < 1 ∨ 8 < s) ∨ (1 ≤ s ∧ s ≤ 8)) with hs | ⟨hs1, hs2⟩
      · have e3 := fun w => in_is s 1 8 false w (inR_false hs)
        have HF := hid (grpB_s (ms := ms) hs)
        clear hs
        go_wp2_with fail
        refine (e3 _).mono ?_
        rintro e w_ ⟨rfl, rfl⟩
        go_wp2_with fail
        go_ret
        exact ⟨ret_bool (by rw [← HB.out, HF.out]), hgr⟩
      · have e3 := fun w => in_is s 1 8 true w (inR_true hs1 hs2)
        rcases (by omega : (k < 1 ∨ 6 < k) ∨ (1 ≤ k ∧ k ≤ 6)) with hn | ⟨hn1, hn2⟩
        · have e4 := fun w => in_is (k : Int) 1 6 false w (inR_false (by omega))
          have HF := hid (grpB_n (s := s) (ms := ms) (by rw [HN.out]; exact hn))
          clear hn
          go_wp2_with fail
          refine (e3 _).mono ?_
          rintro e w_ ⟨rfl, rfl⟩
          go_wp2_with fail
          refine (e4 _).mono ?_
          rintro e w_ ⟨rfl, rfl⟩
          go_wp2_with fail
          go_ret
          exact ⟨ret_bool (by rw [← HB.out, HF.out]), hgr⟩
        · have e4 := fun w => in_is (k : Int) 1 6 true w (inR_true (by omega) (by omega))
          have HF := hid (grpB_all HO.out (by rw [HN.out]; omega) ⟨hs1, hs2⟩ (by rw [HN.out]; omega))
          go_wp2_with fail
          refine (e3 _).mono ?_
          rintro e w_ ⟨rfl, rfl⟩
          go_wp2_with fail
          refine (e4 _).mono ?_
          rintro e w_ ⟨rfl, rfl⟩
          go_wp2_with fail
          go_ret
          exact ⟨ret_bool (by rw [← HB.out, HF.out]), hgr⟩
end Go.Proofs.Ytmjficimnkbonaa
