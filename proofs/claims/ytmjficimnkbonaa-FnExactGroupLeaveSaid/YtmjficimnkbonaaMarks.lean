/- Marks: the exact laws write them into results and look whether they are still there. -/
import Derived.Test.YtmjficimnkbonaaExGV
import Derived.Laws.IdiomStrings
import Derived.Laws.Concat
import Derived.Lib.QuietBelow
namespace Go.Proofs.Ytmjficimnkbonaa
open Go.RowKit

def digit (k : Nat) : UInt8 := UInt8.ofNat (48 + k % 10)
def mtLoop : Nat → Nat → ByteArray → ByteArray
  | 0, _, out => out
  | f + 1, k, out => if 0 < k then mtLoop f (k / 10) (⟨#[digit k]⟩ ++ out) else out
/-- The text of a mark. -/
def mtxt (k : Nat) : ByteArray := if 0 < k then ⟨#[109]⟩ ++ mtLoop 20 k ⟨#[]⟩ else ⟨#[109, 48]⟩
theorem mtLoop_zero (f : Nat) (out : ByteArray) : mtLoop f 0 out = out := by cases f <;> rfl
theorem mtLoop_step {f k : Nat} {out : ByteArray} (h : 0 < k) : mtLoop (f + 1) k out = mtLoop f (k / 10) (⟨#[digit k]⟩ ++ out) := by rw [mtLoop, if_pos h]
theorem conv1 (w : World) (H : Nat) (x : Int) (b : Nat) (hx : x = (b : Int)) (hb : b < 256) (h : w.cell? ⟨H, 0, none⟩ = some (.int .u8 x)) :
    (convert 22 9 (.slice (some ⟨H, 0, none⟩) 1 1)).run Try.prog w = .ok (.string ⟨#[UInt8.ofNat b]⟩) w := by
  subst hx
  have := run_convert_bytes_back (P := Try.prog) w 22 9 5 ⟨H, 0, none⟩ 1 [UInt8.ofNat b] Try.underlying22 Try.underlying5 Try.underlying9 (fun j hj => by
    obtain rfl : j = 0 := by simpa using hj
    rw [show (⟨H, 0, none⟩ : Addr).add 0 = ⟨H, 0, none⟩ by simp [Addr.add], h]
    simp [UInt8.toNat_ofNat, Nat.mod_eq_of_lt hb])
  exact this

set_option maxHeartbeats 1000000 in
theorem mt_any (k : Nat) (w : World) (hk : k ≤ 100000000) :
    Calls Try.prog 68 #[.int .i64 (k : Int)] w fun e w' => e = .returned (.string (mtxt k)) ∧ w.grownBy w' none := by
  rcases (by omega : k = 0 ∨ 0 < k) with h0 | h0
  · subst h0
    go_enter Try.func68, Try.ntmps68
    go_wp2_with fail
    go_ret
    exact ⟨rfl, gr_refl _ _⟩
  have HM := hid (show mtxt k = ⟨#[109]⟩ ++ mtLoop 20 k ⟨#[]⟩ by rw [mtxt, if_pos h0])
  have d0 : decide ((k : Int) ≤ 0) = false := by simp; omega
  have h0' : (0 : Int) < (k : Int) := by omega
  go_enter Try.func68, Try.ntmps68
  go_wp2_with fail
  clear d0 h0' h0
  go_loopw [0, 3] (fun kv ov wr => ∃ (f k' : Nat) (out : ByteArray), kv = .int .i64 (k' : Int) ∧ ov = .string out ∧ k' < 10 ^ f ∧ k' ≤ 100000000 ∧ out.size + f = 20 ∧ mtLoop f k' out = mtLoop 20 k ⟨#[]⟩ ∧ w.grownBy wr none) (fun kv _ _ => (intOf kv).toNat)
  case atStart => exact ⟨20, k, ⟨#[]⟩, rfl, rfl, by omega, hk, rfl, rfl, gr_refl _ _⟩
  case round =>
    obtain ⟨f, k', out, rfl, rfl, hf, hk', hsz, hml, hgr⟩ := hrel
    have HML := hid hml
    have HSz := hid hsz
    have hso : out.size ≤ 20 := by omega
    clear hml hsz
    rcases (by omega : k' = 0 ∨ 0 < k') with h1 | h1
    · subst h1
      have HF := hid (show mtxt k = ⟨#[109]⟩ ++ out by rw [HM.out, ← HML.out, mtLoop_zero])
      have hadd := run_string_add_sum (P := Try.prog) wr ⟨#[109]⟩ out (by show (1 : Nat) + out.size ≤ _; omega)
      clear hf
      go_wp2_with fail
      go_ret
      exact ⟨by rw [HF.out]; rfl, hgr⟩
    · obtain ⟨f, rfl⟩ : ∃ f', f = f' + 1 := ⟨f - 1, by
        rcases Nat.eq_zero_or_pos f with e | e
        · subst e; simp at hf; omega
        · omega⟩
      have HQ := hid (show k' / 10 < 10 ^ f by rw [Nat.div_lt_iff_lt_mul (by omega)]; rw [Nat.pow_succ] at hf; exact hf)
      have HNx := hid (show mtLoop f (k' / 10) (⟨#[digit k']⟩ ++ out) = mtLoop 20 k ⟨#[]⟩ by rw [← HML.out, mtLoop_step h1])
      obtain ⟨dd, hdd⟩ : ∃ x, k' % 10 = x := ⟨_, rfl⟩
      obtain ⟨q, hq⟩ : ∃ x, k' / 10 = x := ⟨_, rfl⟩
      have hd10 : dd < 10 := by omega
      have hqk : q < k' := by omega
      have HD := hid (show digit k' = UInt8.ofNat (48 + dd) by rw [digit, hdd])
      have m1 : (k' : Int).tmod 10 = (dd : Int) := by rw [← hdd]; simp [Int.tmod]
      have m2 : (k' : Int) % 10 = (dd : Int) := by omega
      have m3 : (k' : Int).tdiv 10 = (q : Int) := by rw [← hq]; simp [Int.tdiv]
      have m4 : (k' : Int) / 10 = (q : Int) := by omega
      have m5 : IntKind.u8.wrap (48 + (dd : Int)) = 48 + (dd : Int) := by
        rcases (by omega : dd = 0 ∨ dd = 1 ∨ dd = 2 ∨ dd = 3 ∨ dd = 4 ∨ dd = 5 ∨ dd = 6 ∨ dd = 7 ∨ dd = 8 ∨ dd = 9) with h | h | h | h | h | h | h | h | h | h <;> subst h <;> rfl
      rw [hq] at HQ HNx
      have kc := conv1 (wr.alloc (.cells #[.int .u8 (48 + (dd : Int))] 5)) wr.heap.size (48 + (dd : Int)) (48 + dd) (by omega) (by omega) ((Full.new _ _ _).cellAt 0 rfl)
      have hadd := run_string_add_sum (P := Try.prog) (wr.alloc (.cells #[.int .u8 (48 + (dd : Int))] 5)) ⟨#[UInt8.ofNat (48 + dd)]⟩ out (by show (1 : Nat) + out.size ≤ _; omega)
      obtain ⟨u, hu⟩ : ∃ u, UInt8.ofNat (48 + dd) = u := ⟨_, rfl⟩
      rw [hu] at kc hadd HD
      have hl := h1
      clear hf hdd hq hu
      go_wp2_with fail
      go_roundw
      case rel => exact ⟨f, q, ⟨#[u]⟩ ++ out, by first | rfl | (congr 1; omega), rfl, HQ.out, by omega, by rw [show (⟨#[u]⟩ ++ out : ByteArray).size = 1 + out.size by rw [ByteArray.size_append]; rfl]; have := HSz.out; omega, by rw [← HD.out]; exact HNx.out, gr_alloc hgr _⟩
      case measure => simp [intOf]; omega

/-- n marks from k on. -/
def marks (k n : Nat) : List ByteArray := (List.range n).map fun i => mtxt (k + i)
theorem marks_next (k n : Nat) : marks k (n + 1) = marks k n ++ [mtxt (k + n)] := by simp [marks, List.range_succ]
theorem marks_len (k n : Nat) : (marks k n).length = n := by simp [marks]
theorem marks_at (k n j : Nat) (h : j < (marks k n).length) : (marks k n)[j] = mtxt (k + j) := by simp [marks]
def MarkTo (w : World) (base : Nat) (A : Option Addr) (n c k : Nat) (e : Ending) (w' : World) : Prop :=
  e = .returned (.int .i64 ((k + n : Nat) : Int)) ∧ Own w' base 9 1 A n c (strs (marks k n)) ∧ w.grownBy w' (blockOf A)
theorem take_set_next {xs : List Value} {v : Value} {l : List ByteArray} {x : ByteArray} {j : Nat} (h : xs.take j = strs l) (hj : j < xs.length) (hv : v = .string x) : (xs.set j v).take (j + 1) = strs (l ++ [x]) := by
  rw [List.take_succ_eq_append_getElem (by rw [List.length_set]; exact hj), List.take_set_of_le (Nat.le_refl j), h, List.getElem_set_self, strs_app, hv]
  rfl
set_option maxHeartbeats 1000000 in
theorem marks_any (base : Nat) (A : Option Addr) (n c k : Nat) (xs : List Value) (w : World) (h : Own w base 9 1 A n c xs) (hn : n ≤ 1048576) (hk : k ≤ 100) :
    Calls Try.prog 62 #[.slice A n c, .int .i64 (k : Int)] w (MarkTo w base A n c k) := by
  have hcap := h.cap
  have hmax := h.max
  unfold maxLen at hmax
  have HO := hid h
  have HL := hid (show xs.length = n by have := h.len; omega)
  clear h
  go_enter Try.func62, Try.ntmps62
  go_wp2_with fail
  go_loopw [1, 5] (fun kv iv wr => ∃ (j : Nat) (ys : List Value), kv = .int .i64 ((k : Int) + (j : Int)) ∧ iv = .int .i64 (j : Int) ∧ j ≤ n ∧ ys.length = n ∧ ys.take j = strs (marks k j) ∧ Own wr base 9 1 A n c ys ∧ w.grownBy wr (blockOf A)) (fun _ iv _ => n - (intOf iv).toNat)
  case atStart => exact ⟨0, xs, by first | rfl | simp, rfl, by omega, HL.out, by simp [marks, strs], HO.out, gr_refl _ _⟩
  case round =>
    clear HO HL
    obtain ⟨j, ys, rfl, rfl, hjn, hyl, hyt, hO, hG⟩ := hrel
    have HYl := hid hyl
    have HYt := hid hyt
    clear hyl hyt
    by_cases hlt : j < n
    · obtain ⟨g, cur, rfl, hbg, FA, hcA⟩ := hO.open_ (by omega)
      have e1 := mt_any (k + j) wr (by omega)
      have q1 : ((k + j : Nat) : Int) = (k : Int) + (j : Int) := by omega
      rw [q1] at e1
      have b1 : (0 : Int) ≤ (j : Int) := by omega
      have b2 : (j : Int) < (n : Int) := by omega
      have HOj := hid hO
      clear q1 hcA FA hO
      go_wp2_with fail
      refine e1.mono ?_
      rintro e w1 ⟨rfl, hg1⟩
      have O1 := HOj.out.kept0 hg1
      have G1 := gr_0 hG hg1
      obtain ⟨g', cur', hge, _, FB, hcB⟩ := O1.open_ (by omega)
      injection hge with hge
      injection hge with hge
      subst hge
      have fa := FB.free j
      obtain ⟨v, cx⟩ : ∃ v, w1.cell? ⟨g, j, none⟩ = some v := ⟨_, hcB j _ (List.getElem?_eq_getElem (by rw [HYl.out]; exact hlt))⟩
      have HO2 := hid (O1.set j (.string (mtxt (k + j))))
      have G2 := gr_set (p := ⟨g, j, none⟩) G1 (.inl rfl) (.string (mtxt (k + j)))
      have HT := hid (show (ys.set j (.string (mtxt (k + j)))).take (j + 1) = strs (marks k (j + 1)) by rw [marks_next]; exact take_set_next HYt.out (by rw [HYl.out]; exact hlt) rfl)
      have i1 : IntKind.i64.wrap ((k : Int) + (j : Int) + 1) = (k : Int) + (j : Int) + 1 := IntWalk.i64_in _ (by omega)
      clear e1 hG hg1 O1 G1 hcB FB
      go_wp2_with fail
      go_roundw
      case rel => exact ⟨j + 1, ys.set j (.string (mtxt (k + j))), by first | rfl | (congr 1; omega) | (congr 1; simp; omega), by go_num, by omega, by rw [List.length_set]; exact HYl.out, HT.out, HO2.out, G2⟩
      case measure => simp [intOf]; omega
    · obtain rfl : j = n := by omega
      have HE := hid (show ys = strs (marks k j) by rw [← HYt.out, List.take_of_length_le (by rw [HYl.out]; exact Nat.le_refl _)])
      go_wp2_with fail
      go_ret
      exact ⟨by first | rfl | (congr 2), by rw [← HE.out]; exact hO, hG⟩

set_option maxHeartbeats 1000000 in
theorem helds_any (A : Option Addr) (n c k : Nat) (w : World) (h : Lies w A (strs (marks k n))) (hc : n ≤ c) (hm : c ≤ maxLen) (hn : n ≤ 1048576) (hk : k ≤ 100) :
    Calls Try.prog 63 #[.slice A n c, .int .i64 (k : Int)] w fun e w' => e = .returned (.int .i64 ((k + n : Nat) : Int)) ∧ w.grownBy w' none := by
  unfold maxLen at hm
  go_enter Try.func63, Try.ntmps63
  go_wp2_with fail
  go_loopw [1, 5] (fun kv iv wr => ∃ j : Nat, kv = .int .i64 ((k : Int) + (j : Int)) ∧ iv = .int .i64 (j : Int) ∧ j ≤ n ∧ w.grownBy wr none) (fun _ iv _ => n - (intOf iv).toNat)
  case atStart => exact ⟨0, by first | rfl | simp, rfl, by omega, gr_refl _ _⟩
  case round =>
    obtain ⟨j, rfl, rfl, hjn, hG⟩ := hrel
    by_cases hlt : j < n
    · have hjl : j < (marks k n).length := by rw [marks_len]; exact hlt
      obtain ⟨g, o, rfl, hg, hcell⟩ := h.open_ (by rw [strs_len, marks_len]; omega)
      have cx := hG.cell (strAt' hcell hjl) (by simp)
      rw [marks_at] at cx
      have e1 := fun w => mt_any (k + j) w (by omega)
      have q1 : ((k + j : Nat) : Int) = (k : Int) + (j : Int) := by omega
      rw [q1] at e1
      obtain ⟨x, hx⟩ : ∃ x, mtxt (k + j) = x := ⟨_, rfl⟩
      rw [hx] at e1 cx
      have k0 := fun d os => cell_regrown cx d os
      have b1 : (0 : Int) ≤ (j : Int) := by omega
      have b2 : (j : Int) < (n : Int) := by omega
      have qx : (x.toList == x.toList) = true := by simp
      have i1 : IntKind.i64.wrap ((k : Int) + (j : Int) + 1) = (k : Int) + (j : Int) + 1 := IntWalk.i64_in _ (by omega)
      clear q1 hx hcell cx
      go_wp2_with fail
      refine wp_region_quiet_below (by kernel_rfl) (by kernel_rfl) ?_
      repeat (first | go_big_quiet_step ((go_at_call 68; refine Calls.regrown_of (v := .string x) ((e1 _).mono ?_); (rintro e w' ⟨he, hg⟩; exact ⟨he, gr_below hg⟩))) | quiet_step ((go_at_call 68; refine Calls.regrown_of (v := .string x) ((e1 _).mono ?_); (rintro e w' ⟨he, hg⟩; exact ⟨he, gr_below hg⟩))))
      refine wpQuiet_nil ?_
      intro _ hw'
      obtain ⟨⟨dq, osq⟩, hw''⟩ := hw'
      subst hw''
      clear k0
      go_wp2_with fail
      go_roundw
      case rel => exact ⟨j + 1, by first | rfl | (congr 1; omega) | (congr 1; simp; omega), by go_num, by omega, gr_0 hG (gr_of_below (below_regrown _ _ _) none)⟩
      case measure => simp [intOf]; omega
    · obtain rfl : j = n := by omega
      go_wp2_with fail
      go_ret
      exact ⟨by first | rfl | (congr 2), hG⟩

set_option maxHeartbeats 400000 in
theorem markg_any (base : Nat) (s : Int) (A : Option Addr) (n c k : Nat) (xs : List Value) (w : World) (h : Own w base 9 1 A n c xs) (hn : n ≤ 1048576) (hk : k ≤ 100) :
    Calls Try.prog 35 #[.agg #[.int .i64 s, .slice A n c], .int .i64 (k : Int)] w (MarkTo w base A n c k) := by
  have e1 := marks_any base A n c k xs _ (h.alloc (.cells #[.int .i64 s, .slice A n c] 25)) hn hk
  have F0 := Full.new w 25 #[.int .i64 s, .slice A n c]
  have c1 := F0.cellAt 1 (v := .slice A n c) rfl
  clear F0 h
  go_enter Try.func35, Try.ntmps35
  go_wp2_with fail
  refine e1.mono ?_
  rintro e w1 ⟨rfl, hO, hg⟩
  clear e1
  go_wp2_with fail
  go_ret
  exact ⟨rfl, hO, gr_trans (World.grownBy_alloc w _ _) hg⟩

set_option maxHeartbeats 400000 in
theorem heldg_any (s : Int) (A : Option Addr) (n c k : Nat) (w : World) (h : Lies w A (strs (marks k n))) (hc : n ≤ c) (hm : c ≤ maxLen) (hn : n ≤ 1048576) (hk : k ≤ 100) :
    Calls Try.prog 36 #[.agg #[.int .i64 s, .slice A n c], .int .i64 (k : Int)] w fun e w' => e = .returned (.int .i64 ((k + n : Nat) : Int)) ∧ w.grownBy w' none := by
  have e1 := helds_any A n c k _ (h.alloc (.cells #[.int .i64 s, .slice A n c] 25)) hc hm hn hk
  have F0 := Full.new w 25 #[.int .i64 s, .slice A n c]
  have c1 := F0.cellAt 1 (v := .slice A n c) rfl
  have d1 : decide (((k + n : Nat) : Int) < 0) = false := by simp; omega
  have d2 : (0 : Int) ≤ ((k + n : Nat) : Int) := by omega
  clear F0 h
  go_enter Try.func36, Try.ntmps36
  go_wp2_with fail
  refine e1.mono ?_
  rintro e w1 ⟨rfl, hg⟩
  clear e1
  go_wp2_with fail
  go_ret
  exact ⟨rfl, gr_0 (World.grownBy_alloc w _ none) hg⟩
end Go.Proofs.Ytmjficimnkbonaa
