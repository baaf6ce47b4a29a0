/- Folding events: in impl and in spec. -/
import Derived.Test.YtigcmdbialbadaaFold
import Derived.Test.YtigcmdbialbadaaEvs
import Derived.Test.YtigcmdbialbadaaEvsValid
import Derived.Deep.RegionLaw
namespace Go.Proofs.Ytigcmdbialbadaa
open Go.RowKit

def stepF (x : Fd) (e : Ev) : Fd := ⟨x.v + 1, x.s + e.data, e.kind⟩
def foldF (x : Fd) (l : List Ev) : Fd := l.foldl stepF x
def sumE (l : List Ev) : Int := (l.map Ev.data).sum
theorem foldF_next (x : Fd) {l : List Ev} {k : Nat} (h : k < l.length) : foldF x (l.take (k + 1)) = stepF (foldF x (l.take k)) l[k] := by
  show (l.take (k + 1)).foldl stepF x = _
  rw [List.take_succ_eq_append_getElem h, List.foldl_append]
  rfl
theorem foldF_app (x : Fd) (l r : List Ev) : foldF x (l ++ r) = foldF (foldF x l) r := by simp [foldF]
theorem foldF_v (x : Fd) (l : List Ev) : (foldF x l).v = x.v + l.length := by
  induction l generalizing x with
  | nil => simp [foldF]
  | cons e l ih =>
    show (foldF (stepF x e) l).v = _
    rw [ih]
    simp [stepF]
    omega
theorem foldF_s (x : Fd) (l : List Ev) : (foldF x l).s = x.s + sumE l := by
  induction l generalizing x with
  | nil => simp [foldF, sumE]
  | cons e l ih =>
    show (foldF (stepF x e) l).s = _
    rw [ih]
    simp [stepF, sumE]
    omega
theorem foldF_t (x : Fd) {l : List Ev} (h : 0 < l.length) : (foldF x l).t = (l[l.length - 1]'(by omega)).kind := by
  have := foldF_next x (l := l) (k := l.length - 1) (by omega)
  rw [List.take_of_length_le (by omega)] at this
  rw [this]
  rfl
theorem sumE_bound {l : List Ev} (h : ∀ e ∈ l, evB e = true) : 0 ≤ sumE l ∧ sumE l ≤ l.length * 999 := by
  induction l with
  | nil => simp [sumE]
  | cons e l ih =>
    have h1 := (evB_parts (h e (by simp))).2.2
    have h2 := ih fun x hx => h x (by simp [hx])
    simp only [sumE, List.map_cons, List.sum_cons, List.length_cons] at h2 ⊢
    omega
def fdOk (x : Fd) : Bool := fdB x.v x.s x.t
theorem fdOk_parts {x : Fd} (h : fdOk x = true) : (-1 ≤ x.v ∧ x.v ≤ 23) ∧ (0 ≤ x.s ∧ x.s ≤ (x.v + 1) * 999) ∧ (x.v = -1 → x.t.size = 0) := by
  simp only [fdOk, fdB, Bool.or_eq_true, Bool.and_eq_true, decide_eq_true_eq] at h
  rcases h with ⟨h1, h2, h3⟩ | ⟨h1, h2, h3⟩
  · exact ⟨by omega, by omega, fun _ => h3⟩
  · exact ⟨by omega, by omega, by omega⟩
theorem evsB_all {l : List Ev} (h : evsB l = true) : l.length ≤ 24 ∧ ∀ e ∈ l, evB e = true := by
  simp only [evsB, Bool.and_eq_true, decide_eq_true_eq, List.all_eq_true] at h
  exact ⟨h.1.1, h.1.2⟩
theorem fold_ok {x : Fd} {l : List Ev} (h : fdOk x = true) (hl : ∀ e ∈ l, evB e = true) : fdOk (foldF x l) = decide (x.v + l.length ≤ 23) := by
  rcases Nat.eq_zero_or_pos l.length with h0 | h0
  · have : l = [] := List.eq_nil_of_length_eq_zero h0
    subst this
    have := (fdOk_parts h).1
    show fdOk x = _
    rw [h, decide_eq_true (by simp; omega)]
  · obtain ⟨p1, p2, _⟩ := fdOk_parts h
    have h1 := foldF_v x l
    have h2 := foldF_s x l
    have h3 := foldF_t x h0
    have h4 := sumE_bound hl
    have h5 := (evB_parts (hl _ (List.getElem_mem (show l.length - 1 < l.length by omega)))).2.1
    rw [← h3] at h5
    have h6 : (foldF x l).v ≠ -1 := by omega
    by_cases q : x.v + l.length ≤ 23
    · rw [decide_eq_true q, fdOk, fdB_word _ (by omega) (by omega) (by omega) (by omega), h5]
    · rw [decide_eq_false q, fdOk, fdB_ver _ _ h6 (by omega)]

def foB (x : Fd) (l : List Ev) : Bool := (fdOk x && evsB l) && fdOk (foldF x l)
def foV (x : Fd) (l : List Ev) : Fd := if foB x l then foldF x l else ⟨0, 0, ⟨#[]⟩⟩
theorem foV_no {x : Fd} {l : List Ev} (h : foB x l = false) : foV x l = ⟨0, 0, ⟨#[]⟩⟩ := by simp [foV, h]
theorem foV_yes {x : Fd} {l : List Ev} (h : foB x l = true) : foV x l = foldF x l := by simp [foV, h]
theorem foB_parts {x : Fd} {l : List Ev} (h : foB x l = true) : fdOk x = true ∧ evsB l = true ∧ fdOk (foldF x l) = true := by
  simp only [foB, Bool.and_eq_true] at h
  exact ⟨h.1.1, h.1.2, h.2⟩

set_option maxHeartbeats 1000000 in
theorem fl_any (g : Nat) (v s : Int) (t : ByteArray) (i : Int) (k : ByteArray) (d : Int) (w : World) (h : Full w g 24 #[.int .i64 v, .int .i64 s, .string t])
    (v0 : -1000000 ≤ v) (v1 : v ≤ 1000000) (s0 : -1000000 ≤ s) (s1 : s ≤ 1000000) (d0 : -1000000 ≤ d) (d1 : d ≤ 1000000) :
    Calls Try.prog 33 #[.agg #[.int .i64 i, .string k, .int .i64 d], .pointer (some ⟨g, 0, none⟩)] w fun e w' =>
      e = .returned (.agg #[.int .i64 (v + 1), .int .i64 (s + d), .string k]) ∧ Full w' g 24 #[.int .i64 (v + 1), .int .i64 (s + d), .string k] ∧ w.grownBy w' (some g) := by
  have hlt := h.lt
  have F := (h.alloc (.cells #[.int .i64 i, .string k, .int .i64 d] 35)).alloc (.cells #[.int .i64 0, .int .i64 0, .string ⟨#[]⟩] 24)
  have E := (Full.new w 35 #[.int .i64 i, .string k, .int .i64 d]).alloc (.cells #[.int .i64 0, .int .i64 0, .string ⟨#[]⟩] 24)
  have R := Full.newAt (w := w.alloc (.cells #[.int .i64 i, .string k, .int .i64 d] 35)) (t := 24) (cs := #[.int .i64 0, .int .i64 0, .string ⟨#[]⟩]) (H := w.heap.size + 1) (by simp)
  have G := gr_alloc (gr_alloc (gr_refl w (some g)) (.cells #[.int .i64 i, .string k, .int .i64 d] 35)) (.cells #[.int .i64 0, .int .i64 0, .string ⟨#[]⟩] 24)
  have c0 := h.cellAt 0 rfl
  have c1 := h.cellAt 1 rfl
  have c2 := h.cellAt 2 rfl
  have f0 := h.free 0
  have f1 := h.free 1
  have f2 := h.free 2
  have n0 : w.heap.size ≠ g := by omega
  have n0s := n0.symm
  have n1 : w.heap.size + 1 ≠ g := by omega
  have n1s := n1.symm
  go_enter Try.func33, Try.ntmps33
  go_wp2_with fail
  refine bodyPost_ret (v := .agg #[.int .i64 (v + 1), .int .i64 (s + d), .string k]) ?_ rfl ⟨rfl, ?_, ?_⟩
  · simp [results, Try.results33, go_sem]
  · exact ((((h.set 0 _).set 1 _).set 2 _).alloc _).alloc _
  · exact gr_alloc (gr_alloc (gr_set (gr_set (gr_set (gr_refl w (some g)) (.inl rfl) _) (.inl rfl) _) (.inl rfl) _) _) _

theorem cell_far {w : World} {a p : Addr} {v : Value} (h : w.cell? a = some v) (hne : a.block ≠ p.block) (u : Value) : (w.setCell p u).cell? a = some v :=
  (World.cell?_setCell_other w p a u (fun e => hne (by rw [e]))).trans h
/-- What holds at the head of the loop of l21On. -/
structure SoAt (w : World) (x : Fd) (l : List Ev) (k : Nat) (wr : World) : Prop where
  box : Full wr w.heap.size 24 #[.int .i64 (foldF x (l.take k)).v, .int .i64 (foldF x (l.take k)).s, .string (foldF x (l.take k)).t]
  res : Full wr (w.heap.size + 1) 24 #[.int .i64 0, .int .i64 0, .string ⟨#[]⟩]
  gr : w.grownBy wr none
theorem fold_bounds (x : Fd) {l : List Ev} (h : ∀ e ∈ l, evB e = true) (k : Nat) (hk : k ≤ l.length) : (foldF x (l.take k)).v = x.v + k ∧ x.s ≤ (foldF x (l.take k)).s ∧ (foldF x (l.take k)).s ≤ x.s + k * 999 := by
  have h1 := foldF_v x (l.take k)
  have h2 := foldF_s x (l.take k)
  have h3 := sumE_bound (l := l.take k) (fun e he => h e (List.mem_of_mem_take he))
  rw [List.length_take, Nat.min_eq_left hk] at h1 h3
  omega

set_option maxHeartbeats 1000000 in
theorem so_any (x : Fd) (A : Option Addr) (n c : Nat) (l : List Ev) (w : World) (h : Lies w A (l.flatMap Ev.cells)) (hn : l.length = n) (hc : n ≤ c) (hm : c ≤ maxLen) (hn1 : n ≤ 24) (hl : ∀ e ∈ l, evB e = true)
    (v0 : -100 ≤ x.v) (v1 : x.v ≤ 1000) (s0 : 0 ≤ x.s) (s1 : x.s ≤ 1000000) :
    Calls Try.prog 25 #[.agg #[.int .i64 x.v, .int .i64 x.s, .string x.t], .slice A n c] w fun e w' =>
      e = .returned (.agg #[.int .i64 (foldF x l).v, .int .i64 (foldF x l).s, .string (foldF x l).t]) ∧ w.grownBy w' none := by
  unfold maxLen at hm
  have HN := hid hn
  have HE := hid hl
  have S0 : SoAt w x l 0 ((w.alloc (.cells #[.int .i64 x.v, .int .i64 x.s, .string x.t] 24)).alloc (.cells #[.int .i64 0, .int .i64 0, .string ⟨#[]⟩] 24)) :=
    ⟨(Full.new w _ _).alloc _, Full.newAt (by simp), gr_alloc (gr_alloc (gr_refl w none) _) _⟩
  obtain ⟨xv, hxv⟩ : ∃ y, x.v = y := ⟨_, rfl⟩
  obtain ⟨xs, hxs⟩ : ∃ y, x.s = y := ⟨_, rfl⟩
  obtain ⟨xt, hxt⟩ : ∃ y, x.t = y := ⟨_, rfl⟩
  rw [hxv] at v0 v1
  rw [hxs] at s0 s1
  simp only [hxv, hxs, hxt] at S0 ⊢
  have HXV := hid hxv
  have HXS := hid hxs
  have HS0 := hid S0
  clear hn hl hxv hxs hxt S0
  go_enter Try.func25, Try.ntmps25
  go_wp2_with fail
  go_loopw [5] (fun i wr => ∃ k : Nat, i = .int .i64 k ∧ k ≤ n ∧ SoAt w x l k wr) (fun i _ => n - (intOf i).toNat)
  case atStart => exact ⟨0, rfl, by omega, HS0.out⟩
  case round =>
    obtain ⟨k, rfl, hkn, hat⟩ := hrel
    have hbd := fold_bounds x HE.out k (by rw [HN.out]; exact hkn)
    rw [HXV.out, HXS.out] at hbd
    have B := hat.box
    have R := hat.res
    have G := hat.gr
    have HNx := hid (fun hk : k < l.length => foldF_next x hk)
    obtain ⟨y, hy⟩ : ∃ y, foldF x (l.take k) = y := ⟨_, rfl⟩
    rw [hy] at hbd B
    obtain ⟨v, s, t⟩ := y
    simp only [] at hbd B
    obtain ⟨hv, hs0, hs1⟩ := hbd
    have HY := hid hy
    have hv0 : -100 ≤ v := by omega
    have hv1 : v ≤ 2000 := by omega
    have hs2 : 0 ≤ s := by omega
    have hs3 : s ≤ 2000000 := by omega
    clear hy hv hs0 hs1 hat
    have b0 := B.cellAt 0 rfl
    have b1 := B.cellAt 1 rfl
    have b2 := B.cellAt 2 rfl
    have bf0 := B.free 0
    have bf1 := B.free 1
    have bf2 := B.free 2
    have hBlt := B.lt
    by_cases hlt : k < n
    · have hkl : k < l.length := by rw [HN.out]; exact hlt
      have HNy := hid (HNx.out hkl)
      obtain ⟨g, o, rfl, hg, hcell⟩ := h.open_ (by rw [flat_len Ev.cells 3 (fun _ => rfl)]; omega)
      obtain ⟨ca, cb, cd⟩ := evAt hcell hkl
      replace ca := G.cell ca (by simp)
      replace cb := G.cell cb (by simp)
      replace cd := G.cell cd (by simp)
      have hev := (evB_parts (HE.out _ (List.getElem_mem hkl))).2.2
      obtain ⟨z, hz⟩ : ∃ z, z = l[k] := ⟨_, rfl⟩
      rw [← hz] at ca cb cd hev
      obtain ⟨i, kd, d⟩ := z
      simp only [] at ca cb cd hev
      obtain ⟨hd0, hd1⟩ := hev
      have HZ := hid hz
      clear hz hcell
      have ne1 : w.heap.size ≠ g := by omega
      have ne2 := ne1.symm
      have x1 : (0 : Int) ≤ (k : Int) := by omega
      have x2 : (k : Int) < (n : Int) := by omega
      have ca1 := cell_far (p := ⟨w.heap.size, 0, none⟩) ca (by simpa using ne2) (.int .i64 (v + 1))
      have cd1 := cell_far (p := ⟨w.heap.size, 0, none⟩) cd (by simpa using ne2) (.int .i64 (v + 1))
      have cb1 := cell_far (p := ⟨w.heap.size, 0, none⟩) cb (by simpa using ne2) (.int .i64 (v + 1))
      have B1 := B.set 0 (.int .i64 (v + 1))
      have e1 := B1.cellAt 1 rfl
      have ef1 := B1.free 1
      clear HNx
      go_wp2_with fail
      have HW := hid (show IntKind.i64.wrap (s + d) = s + d from IntWalk.i64_in _ (by omega))
      go_region_law (fail)
      all_goals
        rw [HW.out]
        go_wp2_with fail
        go_roundw
        case rel =>
          refine ⟨k + 1, by go_num, by omega, ?_, ((((R.far (p := ⟨w.heap.size, 0, none⟩) (by simp) _).far (p := ⟨w.heap.size, 1, none⟩) (by simp) _).far (p := ⟨w.heap.size, 2, none⟩) (by simp) _)).drew, gr_drew (gr_put (gr_put (gr_put G (Nat.le_refl _) _) (Nat.le_refl _) _) (Nat.le_refl _) _)⟩
          rw [HNy.out, HY.out, ← HZ.out]
          exact (((B.set 0 _).set 1 _).set 2 _).drew
        case measure => simp [intOf]; omega
    · obtain rfl : k = n := by omega
      have r0 := R.cellAt 0 rfl
      have r1 := R.cellAt 1 rfl
      have r2 := R.cellAt 2 rfl
      have rf0 := R.free 0
      have rf1 := R.free 1
      have rf2 := R.free 2
      have HF := hid (show foldF x l = ⟨v, s, t⟩ by rw [← HY.out, List.take_of_length_le (by rw [HN.out]; omega)])
      clear HNx
      go_wp2_with fail
      refine bodyPost_ret (v := .agg #[.int .i64 v, .int .i64 s, .string t]) ?_ rfl ⟨?_, ?_⟩
      · simp [results, Try.results25, go_sem, r0, r1, r2]
      · rw [HF.out]
      · repeat (first | refine gr_put ?_ (by omega) _ | exact G)

/-- A copy of a value in the walk's own letters. -/
theorem fd_eta (x : Fd) : x = ⟨x.v, x.s, x.t⟩ := rfl

/-- What FoldOn leaves. -/
def FoTo (w : World) (x : Fd) (b : Bool) (e : Ending) (w' : World) : Prop :=
  e = .returned (.tuple #[.agg #[.int .i64 x.v, .int .i64 x.s, .string x.t], .bool b]) ∧ w.grownBy w' none

/-- What holds at the head of the loop of impl.FoldOn: the variable f, and the folder's own copy of it in block gf. -/
structure FoAt (w : World) (gf : Nat) (x : Fd) (l : List Ev) (k : Nat) (wr : World) : Prop where
  box : Full wr w.heap.size 24 #[.int .i64 (foldF x (l.take k)).v, .int .i64 (foldF x (l.take k)).s, .string (foldF x (l.take k)).t]
  own : Full wr gf 24 #[.int .i64 (foldF x (l.take k)).v, .int .i64 (foldF x (l.take k)).s, .string (foldF x (l.take k)).t]
  res : Full wr (w.heap.size + 1) 24 #[.int .i64 0, .int .i64 0, .string ⟨#[]⟩]
  gr : w.grownBy wr none

theorem folder_any (v s : Int) (t : ByteArray) (w : World) :
    Calls Try.prog 27 #[.agg #[.int .i64 v, .int .i64 s, .string t]] w fun e w' =>
      e = .returned (.func (Fn.func 33) #[] #[.pointer (some ⟨w.heap.size, 0, none⟩)]) ∧ w' = w.alloc (.cells #[.int .i64 v, .int .i64 s, .string t] 24) := by
  go_enter Try.func27, Try.ntmps27
  go_wp2_with fail
  go_ret
  exact ⟨rfl, rfl⟩

set_option maxHeartbeats 2000000 in
theorem fo_any (v0 s0 : Int) (t0 : ByteArray) (A : Option Addr) (n c : Nat) (l : List Ev) (w : World) (h : Lies w A (l.flatMap Ev.cells)) (hn : l.length = n) (hc : n ≤ c) (hm : c ≤ maxLen) (ht : t0.size ≤ maxLen) (hk : ∀ x ∈ l, x.kind.size ≤ maxLen) :
    Calls Try.prog 15 #[.agg #[.int .i64 v0, .int .i64 s0, .string t0], .slice A n c] w (FoTo w (foV ⟨v0, s0, t0⟩ l) (foB ⟨v0, s0, t0⟩ l)) := by
  have hL := (h.alloc (.cells #[.int .i64 v0, .int .i64 s0, .string t0] 24)).alloc (.cells #[.int .i64 0, .int .i64 0, .string ⟨#[]⟩] 24)
  have F := (Full.new w 24 #[.int .i64 v0, .int .i64 s0, .string t0]).alloc (.cells #[.int .i64 0, .int .i64 0, .string ⟨#[]⟩] 24)
  have R := Full.newAt (w := w.alloc (.cells #[.int .i64 v0, .int .i64 s0, .string t0] 24)) (t := 24) (cs := #[.int .i64 0, .int .i64 0, .string ⟨#[]⟩]) (H := w.heap.size + 1) (by simp)
  have G0 := gr_alloc (gr_alloc (gr_refl w none) (.cells #[.int .i64 v0, .int .i64 s0, .string t0] 24)) (.cells #[.int .i64 0, .int .i64 0, .string ⟨#[]⟩] 24)
  have HN := hid hn
  obtain ⟨b1, hb1⟩ : ∃ b, fdB v0 s0 t0 = b := ⟨_, rfl⟩
  obtain ⟨b2, hb2⟩ : ∃ b, evsB l = b := ⟨_, rfl⟩
  have e1 := fun w => fv_is v0 s0 t0 b1 w ht hb1
  have e2 := fun w hL => evsv_is A n c l b2 w hL hn hc hm hk hb2
  have HB1 := hid (show fdOk ⟨v0, s0, t0⟩ = b1 from hb1)
  have HB2 := hid hb2
  have HK := hid hk
  clear hn hb1 hb2 hk
  unfold maxLen at hm
  cases b1 with
  | false =>
    have hno : foB ⟨v0, s0, t0⟩ l = false := by simp [foB, HB1.out]
    rw [foV_no hno, hno]
    clear hno
    go_enter Try.func15, Try.ntmps15
    go_wp2_with fail
    refine (e1 _).mono ?_
    rintro e w1 ⟨rfl, hg1⟩
    have R1 := R.grown hg1 (by simp)
    have r0 := R1.cellAt 0 rfl
    have r1 := R1.cellAt 1 rfl
    have r2 := R1.cellAt 2 rfl
    have q0 := R1.free 0
    have q1 := R1.free 1
    have q2 := R1.free 2
    have G1 := gr_0 G0 hg1
    go_wp2_with fail
    refine bodyPost_ret (v := .tuple #[.agg #[.int .i64 0, .int .i64 0, .string ⟨#[]⟩], .bool false]) ?_ rfl ⟨rfl, ?_⟩
    · simp [results, Try.results15, go_sem, r0, r1, r2]
    · repeat (first | refine gr_put ?_ (by omega) _ | exact G1)
  | true =>
    cases b2 with
    | false =>
      have hno : foB ⟨v0, s0, t0⟩ l = false := by simp [foB, HB2.out]
      rw [foV_no hno, hno]
      clear hno
      go_enter Try.func15, Try.ntmps15
      go_wp2_with fail
      refine (e1 _).mono ?_
      rintro e w1 ⟨rfl, hg1⟩
      have R1 := R.grown hg1 (by simp)
      have L1 := hL.grown0 hg1
      have G1 := gr_0 G0 hg1
      go_wp2_with fail
      refine (e2 _ L1).mono ?_
      rintro e w2 ⟨rfl, hg2⟩
      have R2 := R1.grown hg2 (by simp)
      have r0 := R2.cellAt 0 rfl
      have r1 := R2.cellAt 1 rfl
      have r2 := R2.cellAt 2 rfl
      have q0 := R2.free 0
      have q1 := R2.free 1
      have q2 := R2.free 2
      have G2 := gr_0 G1 hg2
      go_wp2_with fail
      refine bodyPost_ret (v := .tuple #[.agg #[.int .i64 0, .int .i64 0, .string ⟨#[]⟩], .bool false]) ?_ rfl ⟨rfl, ?_⟩
      · simp [results, Try.results15, go_sem, r0, r1, r2]
      · repeat (first | refine gr_put ?_ (by omega) _ | exact G2)
    | true =>
      obtain ⟨hn24, hev⟩ := evsB_all HB2.out
      rw [HN.out] at hn24
      have hp := fdOk_parts HB1.out
      simp only [] at hp
      obtain ⟨⟨pv0, pv1⟩, ⟨ps0, ps1⟩, _⟩ := hp
      have HE := hid hev
      have HO := hid (fold_ok HB1.out hev)
      clear hev
      go_enter Try.func15, Try.ntmps15
      go_wp2_with fail
      refine (e1 _).mono ?_
      rintro e w1 ⟨rfl, hg1⟩
      have R1 := R.grown hg1 (by simp)
      have F1 := F.grown hg1 (by simp)
      have L1 := hL.grown0 hg1
      have G1 := gr_0 G0 hg1
      go_wp2_with fail
      refine (e2 _ L1).mono ?_
      rintro e w2 ⟨rfl, hg2⟩
      have R2 := R1.grown hg2 (by simp)
      have F2 := F1.grown hg2 (by simp)
      have L2 := L1.grown0 hg2
      have G2 := gr_0 G1 hg2
      have c0 := F2.cellAt 0 rfl
      have c1 := F2.cellAt 1 rfl
      have c2 := F2.cellAt 2 rfl
      clear hg1 hg2
      go_wp2_with fail
      refine (folder_any v0 s0 t0 _).mono ?_
      rintro e w3 ⟨rfl, rfl⟩
      have FA : FoAt w w2.heap.size ⟨v0, s0, t0⟩ l 0 (w2.alloc (.cells #[.int .i64 v0, .int .i64 s0, .string t0] 24)) := ⟨F2.alloc _, Full.new _ _ _, R2.alloc _, gr_alloc G2 _⟩
      have hgf := R2.lt
      have hwf := F2.lt
      have HFA := hid FA
      clear FA F F1 F2 R R1 R2 L1 L2 G1 G2 e1 e2 hL c0 c1 c2
      go_wp2_with fail
      go_loopw [22] (fun i wr => ∃ k : Nat, i = .int .i64 k ∧ k ≤ n ∧ FoAt w w2.heap.size ⟨v0, s0, t0⟩ l k wr) (fun i _ => n - (intOf i).toNat)
      case atStart => exact ⟨0, rfl, by omega, HFA.out⟩
      case round =>
        obtain ⟨k, rfl, hkn, hat⟩ := hrel
        have hbd := fold_bounds ⟨v0, s0, t0⟩ HE.out k (by rw [HN.out]; exact hkn)
        have B := hat.box
        have O := hat.own
        have R := hat.res
        have G := hat.gr
        have HNx := hid (fun hk : k < l.length => foldF_next ⟨v0, s0, t0⟩ hk)
        obtain ⟨y, hy⟩ : ∃ y, foldF ⟨v0, s0, t0⟩ (l.take k) = y := ⟨_, rfl⟩
        rw [hy] at hbd B O
        obtain ⟨v, s, t⟩ := y
        simp only [] at hbd B O
        obtain ⟨hv, hs0, hs1⟩ := hbd
        have HY := hid hy
        have hv0 : -100 ≤ v := by omega
        have hv1 : v ≤ 2000 := by omega
        have hs2 : 0 ≤ s := by omega
        have hs3 : s ≤ 1000000 := by omega
        clear hy hv hs0 hs1 hat
        have b0 := B.cellAt 0 rfl
        have b1 := B.cellAt 1 rfl
        have b2 := B.cellAt 2 rfl
        have hOlt := O.lt
        have hRlt := R.lt
        by_cases hlt : k < n
        · have hkl : k < l.length := by rw [HN.out]; exact hlt
          have HNy := hid (HNx.out hkl)
          obtain ⟨g, o, rfl, hg, hcell⟩ := h.open_ (by rw [flat_len Ev.cells 3 (fun _ => rfl)]; omega)
          obtain ⟨ca, cb, cd⟩ := evAt hcell hkl
          replace ca := G.cell ca (by simp)
          replace cb := G.cell cb (by simp)
          replace cd := G.cell cd (by simp)
          have hev := (evB_parts (HE.out _ (List.getElem_mem hkl))).2.2
          obtain ⟨z, hz⟩ : ∃ z, z = l[k] := ⟨_, rfl⟩
          rw [← hz] at ca cb cd hev
          obtain ⟨i, kd, d⟩ := z
          simp only [] at ca cb cd hev
          obtain ⟨hd0, hd1⟩ := hev
          have HZ := hid hz
          clear hz hcell HNx
          go_wp2_with fail
          refine (fl_any w2.heap.size v s t i kd d _ (O.alloc _) (by omega) (by omega) (by omega) (by omega) (by omega) (by omega)).mono ?_
          rintro e w4 ⟨rfl, O4, hg4⟩
          have B4 := (B.alloc _).grown hg4 (by intro e; injection e with e; omega)
          have R4 := (R.alloc _).grown hg4 (by intro e; injection e with e; omega)
          have G4 := gr_new (gr_alloc G _) hg4 (by omega)
          have q0 := B4.cellAt 0 rfl
          have q1 := B4.cellAt 1 rfl
          have q2 := B4.cellAt 2 rfl
          have qf0 := B4.free 0
          have qf1 := B4.free 1
          have qf2 := B4.free 2
          clear hg4
          go_wp2_with fail
          go_roundw
          case rel =>
            refine ⟨k + 1, by go_num, by omega, ?_, ?_, ((R4.far (p := ⟨w.heap.size, 0, none⟩) (by simp) _).far (p := ⟨w.heap.size, 1, none⟩) (by simp) _).far (p := ⟨w.heap.size, 2, none⟩) (by simp) _, gr_put (gr_put (gr_put G4 (Nat.le_refl _) _) (Nat.le_refl _) _) (Nat.le_refl _) _⟩
            · rw [HNy.out, HY.out, ← HZ.out]
              exact ((B4.set 0 _).set 1 _).set 2 _
            · rw [HNy.out, HY.out, ← HZ.out]
              exact ((O4.far (p := ⟨w.heap.size, 0, none⟩) (by simp; omega) _).far (p := ⟨w.heap.size, 1, none⟩) (by simp; omega) _).far (p := ⟨w.heap.size, 2, none⟩) (by simp; omega) _
          case measure => simp [intOf]; omega
        · obtain rfl : k = n := by omega
          have hF : foldF ⟨v0, s0, t0⟩ l = ⟨v, s, t⟩ := by rw [← HY.out, List.take_of_length_le (by rw [HN.out]; omega)]
          have hts : t.size ≤ maxLen := by
            rcases Nat.eq_zero_or_pos l.length with h0 | h0
            · have h1 : l = [] := List.eq_nil_of_length_eq_zero h0
              rw [h1] at hF
              have : (⟨v0, s0, t0⟩ : Fd) = ⟨v, s, t⟩ := hF
              injection this with _ _ e3
              rw [← e3]; exact ht
            · have := foldF_t ⟨v0, s0, t0⟩ h0
              rw [hF] at this
              rw [show t = _ from this]
              exact HK.out _ (List.getElem_mem _)
          have HF := hid hF
          obtain ⟨bb, hbb⟩ : ∃ bb, fdB v s t = bb := ⟨_, rfl⟩
          have e5 := fun w => fv_is v s t bb w hts hbb
          have HB := hid (show foB ⟨v0, s0, t0⟩ l = bb by
            rw [foB, HB1.out, HB2.out, hF, Bool.true_and, Bool.true_and]; exact hbb)
          clear hF hts hbb HNx
          go_wp2_with fail
          refine (e5 _).mono ?_
          rintro e w5 ⟨rfl, hg5⟩
          have B5 := B.grown hg5 (by simp)
          have R5 := R.grown hg5 (by simp)
          have G5 := gr_0 G hg5
          have c0 := B5.cellAt 0 rfl
          have c1 := B5.cellAt 1 rfl
          have c2 := B5.cellAt 2 rfl
          have r0 := R5.cellAt 0 rfl
          have r1 := R5.cellAt 1 rfl
          have r2 := R5.cellAt 2 rfl
          have q0 := R5.free 0
          have q1 := R5.free 1
          have q2 := R5.free 2
          clear e5 hg5
          cases bb with
          | false =>
            go_wp2_with fail
            refine bodyPost_ret (v := .tuple #[.agg #[.int .i64 0, .int .i64 0, .string ⟨#[]⟩], .bool false]) ?_ rfl ⟨by rw [foV_no HB.out, HB.out], ?_⟩
            · simp [results, Try.results15, go_sem, r0, r1, r2]
            · repeat (first | refine gr_put ?_ (by omega) _ | exact G5)
          | true =>
            go_wp2_with fail
            refine bodyPost_ret (v := .tuple #[.agg #[.int .i64 v, .int .i64 s, .string t], .bool true]) ?_ rfl ⟨by rw [foV_yes HB.out, HB.out, HF.out], ?_⟩
            · simp [results, Try.results15, go_sem, r0, r1, r2]
            · repeat (first | refine gr_put ?_ (by omega) _ | exact G5)
end Go.Proofs.Ytigcmdbialbadaa
