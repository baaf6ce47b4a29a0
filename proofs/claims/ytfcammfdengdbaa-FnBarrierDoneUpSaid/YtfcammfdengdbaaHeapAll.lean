/- container/heap over openHeap: Init, Push, Pop; heapOf, drain. -/
import Derived.Test.YtfcammfdengdbaaHeapOps
import Derived.Deep.DeepCutAuto
namespace Go.Proofs.Ytfcammfdengdbaa
open Go.RowKit

theorem Two.toNone {a b : World} {r s : Option Nat} (h : Two a b r s) (hr : ∀ g, r = some g → a.heap.size ≤ g) (hs : ∀ g, s = some g → a.heap.size ≤ g) : a.grownBy b Option.none := h.gr (gr_refl a Option.none) hr hs

theorem assert_int (v : Value) (w : World) : (Instr.typeAssert (.iface 3 v) 20 3 true).run Try.prog w = .ok (.tuple #[v, .bool true]) w := by kernel_rfl

/-- What pushing leaves. -/
def PushTo (w : World) (base hb : Nat) (A : Option Addr) (n : Nat) (xs : List Int) (x : Int) (e : Ending) (w' : World) : Prop :=
  ∃ (A' : Option Addr) (c' : Nat) (ys : List Int), e = .returned (.tuple #[]) ∧ Hp w' base hb A' (n + 1) c' ys ∧ ys.Perm (xs ++ [x]) ∧ (HeapFrom 0 n xs → HeapFrom 0 (n + 1) ys) ∧ Two w w' (some hb) (blockOf A) ∧ (∀ b, blockOf A' = some b → some b = blockOf A ∨ w.heap.size ≤ b)
def PushMTo (w : World) (base hb : Nat) (A : Option Addr) (n : Nat) (xs : List Int) (x : Int) (e : Ending) (w' : World) : Prop :=
  ∃ (A' : Option Addr) (c' : Nat), e = .returned (.tuple #[]) ∧ Hp w' base hb A' (n + 1) c' (xs ++ [x]) ∧ Two w w' (some hb) (blockOf A) ∧ (∀ b, blockOf A' = some b → some b = blockOf A ∨ w.heap.size ≤ b)
set_option maxHeartbeats 1000000 in
theorem hpushm_any (base hb : Nat) (A : Option Addr) (n c : Nat) (xs : List Int) (x : Int) (w : World) (h : Hp w base hb A n c xs) (hn : n ≤ 1000) :
    Calls Try.prog 65 #[.pointer (some ⟨hb, 0, none⟩), .iface 3 (.int .i64 x)] w (PushMTo w base hb A n xs x) := by
  have c0 := h.full.cellAt 0 (v := .slice A n c) rfl
  have hne := h.ne
  have hO := h.own
  have hF := h.full
  have hl := hF.lt
  have hB := h.ge
  have HL := hid h.len
  have ai := fun w => assert_int (.int .i64 x) w
  clear h
  go_enter Try.func65, Try.ntmps65
  go_wp2_with (at_builtin; refine wpList_push _ rfl _ _ 48 rfl base 3 Try.underlying48 intInfo rfl (by omega) A n c (ints xs) rfl (hO.alloc (.cells #[.int .i64 x] 3)) _ 1 #[.int .i64 x] rfl (Full.newAt (by simp)) rfl (by intro u hu; simp at hu; subst hu; rfl) (by omega) (by omega) (by simp; omega) ?_; intro A' c' wz hown hgz hbz; have Fz := (hF.alloc (.cells #[.int .i64 x] 3)).grown hgz (fun e => hne _ e.symm rfl); have z0 := Fz.cellAt 0 (v := .slice A n c) rfl; have zf := Fz.free 0)
  have hT : Two w (wz.setCell ⟨hb, 0, none⟩ (.slice A' (n + 1) c')) (some hb) (blockOf A) :=
    ((Two.none (World.grownBy_alloc w (.cells #[.int .i64 x] 3) none) _ _).trans' (Two.right hgz _)).trans' (Two.left (gr_set (p := ⟨hb, 0, none⟩) (gr_refl wz _) (.inl rfl) _) _)
  have HH : Hp (wz.setCell ⟨hb, 0, none⟩ (.slice A' (n + 1) c')) base hb A' (n + 1) c' (xs ++ [x]) :=
    ⟨Fz.set 0 _, by rw [ints_app]; exact hown.put Fz (by decide) 0 _, by rw [List.length_append, HL.out]; rfl, hB⟩
  have hb' : ∀ b, blockOf A' = some b → some b = blockOf A ∨ w.heap.size ≤ b := fun b hb1 => by
    rcases hbz with e | e
    · exact .inl (by rw [← e, hb1])
    · right
      rw [hb1] at e
      injection e with e
      simp at e
      omega
  have HHb := hid hb'
  clear hown hgz hbz hb' Fz z0 zf hO hF hne c0
  go_end0
  exact ⟨A', c', rfl, HH, hT, HHb.out⟩

/-- What the method Pop leaves. -/
def PopMTo (w : World) (base hb : Nat) (A : Option Addr) (n c : Nat) (xs : List Int) (e : Ending) (w' : World) : Prop :=
  e = .returned (.iface 3 (.int .i64 (xs.getD n 0))) ∧ Hp w' base hb A n c (xs.take n) ∧ w.grownBy w' (some hb)
set_option maxHeartbeats 1000000 in
theorem hpopm_any (base hb : Nat) (A : Option Addr) (n c : Nat) (xs : List Int) (w : World) (h : Hp w base hb A (n + 1) c xs) (hn : n ≤ 1000) :
    Calls Try.prog 64 #[.pointer (some ⟨hb, 0, none⟩)] w (PopMTo w base hb A n c xs) := by
  have c0 := h.full.cellAt 0 (v := .slice A (n + 1) c) rfl
  have f0 := h.full.free 0
  have hF := h.full
  have hcap := h.own.cap
  have hmax := h.own.max
  have hlen := h.len
  have hO := (h.own.take (k := n) (by omega))
  have hB := h.ge
  unfold maxLen at hmax
  obtain ⟨g, cur, hAe, hg, hFA, hcell⟩ := h.own.open_ (by omega)
  have ci := getAt hcell (k := n) (by omega)
  have hne := h.ne g (by rw [hAe]; rfl)
  have HO := hid (show Own w base 3 1 A n c (ints (xs.take n)) by rw [← ints_take]; simpa using hO)
  have HL := hid (show (xs.take n).length = n by rw [List.length_take, hlen]; omega)
  subst hAe
  obtain ⟨x, hx⟩ : ∃ x, xs.getD n 0 = x := ⟨_, rfl⟩
  rw [hx] at ci
  have HX := hid hx
  have HF := hid hF
  clear hx
  clear h hcell hO hlen hF hFA
  go_enter Try.func64, Try.ntmps64
  go_wp2_with fail
  go_ret
  exact ⟨by rw [HX.out]; rfl, ⟨HF.out.set 0 _, HO.out.put HF.out (by decide) 0 _, HL.out, hB⟩, gr_set (p := ⟨hb, 0, none⟩) (gr_refl w _) (.inl rfl) _⟩

set_option maxHeartbeats 1000000 in
theorem hpush_any (base hb : Nat) (A : Option Addr) (n c : Nat) (xs : List Int) (x : Int) (w : World) (h : Hp w base hb A n c xs) (hh : HeapFrom 0 n xs) (hn : n < 1000) :
    Calls Try.prog 39 #[.iface 45 (.pointer (some ⟨hb, 0, none⟩)), .iface 3 (.int .i64 x)] w (PushTo w base hb A n xs x) := by
  have m1 := meth_push hb w
  have e1 := hpushm_any base hb A n c xs x w h (by omega)
  have HU := hid (up_start hh x h.len.symm)
  clear h hh
  go_enter Try.func39, Try.ntmps39
  go_wp2_with fail
  refine e1.mono ?_
  rintro e w1 ⟨A', c', rfl, h1, hT, hb1⟩
  clear m1 e1
  have c1 := h1.full.cellAt 0 (v := .slice A' (n + 1) c') rfl
  have m2 := meth_len hb _ w1 c1
  have e2 := hlen_any A' (n + 1) c' w1
  have e3 := up_any base hb A' (n + 1) c' (xs ++ [x]) n w1 h1 HU.out (by omega)
  have q1 : ((n + 1 : Nat) : Int) - 1 = (n : Int) := by omega
  have q2 : (n : Int) + 1 - 1 = (n : Int) := by omega
  clear c1 h1
  go_wp2_with fail
  refine e2.mono ?_
  rintro e w_ ⟨rfl, rfl⟩
  go_wp2_with fail
  refine e3.mono ?_
  rintro e w3 ⟨ys, rfl, h3, hp, hf, hg⟩
  clear m2 e2 e3 q1 q2
  go_wp2_with fail
  go_end0
  exact ⟨A', c', ys, rfl, h3, hp, fun _ => hf, hT.trans (Two.right hg _) hb1, hb1⟩

/-- What heap.Pop leaves. -/
def PopTo (w : World) (base hb : Nat) (A : Option Addr) (n c : Nat) (xs : List Int) (e : Ending) (w' : World) : Prop :=
  ∃ ys : List Int, e = .returned (.iface 3 (.int .i64 (xs.getD 0 0))) ∧ Hp w' base hb A n c ys ∧ (xs.getD 0 0 :: ys).Perm xs ∧ HeapFrom 0 n ys ∧ Two w w' (some hb) (blockOf A)
theorem pop_perm {n : Nat} {xs zs : List Int} (hl : xs.length = n + 1) (hd : Downed 0 n (swp xs 0 n) zs) : zs.getD n 0 = xs.getD 0 0 ∧ (xs.getD 0 0 :: zs.take n).Perm xs := by
  have e1 : zs.getD n 0 = xs.getD 0 0 := by
    rw [hd.rest n (Nat.le_refl _), swp_at (by omega) (by omega), if_pos rfl]
  have hz : zs.length = n + 1 := by rw [hd.perm.length_eq, swp_len, hl]
  have e2 : zs = zs.take n ++ [zs.getD n 0] := by
    have h1 := List.take_succ_eq_append_getElem (l := zs) (i := n) (by omega)
    rw [List.take_of_length_le (by omega)] at h1
    rw [List.getD_eq_getElem?_getD, List.getElem?_eq_getElem (by omega)]
    exact h1
  refine ⟨e1, ?_⟩
  have h3 : (zs.take n ++ [xs.getD 0 0]).Perm xs := by
    rw [← e1, ← e2]
    exact hd.perm.trans (swp_perm (by omega) (by omega))
  exact (List.perm_append_singleton _ _).symm.trans h3
set_option maxHeartbeats 1000000 in
theorem hpop_any (base hb : Nat) (A : Option Addr) (n c : Nat) (xs : List Int) (w : World) (h : Hp w base hb A (n + 1) c xs) (hh : HeapFrom 0 (n + 1) xs) (hn : n < 1000) :
    Calls Try.prog 45 #[.iface 45 (.pointer (some ⟨hb, 0, none⟩))] w (PopTo w base hb A n c xs) := by
  have c0 := h.full.cellAt 0 (v := .slice A (n + 1) c) rfl
  have m1 := meth_len hb _ w c0
  have m2 := meth_swap hb _ w c0
  have e1 := hlen_any A (n + 1) c w
  have e2 := h.swap (i := 0) (j := n) (by omega) (by omega)
  have q2 : (n : Int) + 1 - 1 = (n : Int) := by omega
  have HP := hid (pop_start hh h.len)
  have HL := hid h.len
  clear h hh c0
  go_enter Try.func45, Try.ntmps45
  go_wp2_with fail
  refine e1.mono ?_
  rintro e w_ ⟨rfl, rfl⟩
  go_wp2_with fail
  refine e2.mono ?_
  rintro e w1 ⟨rfl, h1, hg1⟩
  have e3 := down_any base hb A (n + 1) c (swp xs 0 n) 0 n w1 h1 HP.out (by omega) (by omega) (by omega)
  clear m1 m2 e1 e2 h1
  go_wp2_with fail
  refine e3.mono ?_
  rintro e w2 ⟨zs, b, rfl, h2, hd, hg2⟩
  have e4 := hpopm_any base hb A n c zs w2 h2 (by omega)
  have m3 := meth_pop hb w2
  have HD := hid hd
  clear e3 h2 hd q2
  go_wp2_with fail
  refine e4.mono ?_
  rintro e w3 ⟨rfl, h3, hg3⟩
  clear e4 m3
  have HPp := hid (pop_perm HL.out HD.out)
  go_wp2_with fail
  go_ret
  exact ⟨zs.take n, by rw [← HPp.out.1]; rfl, h3, HPp.out.2, heap_take HD.out.heap, ((Two.right hg1 _).trans' (Two.right hg2 _)).trans' (Two.left hg3 _)⟩

/-- What Init leaves. -/
def InitTo (w : World) (base hb : Nat) (A : Option Addr) (n c : Nat) (xs : List Int) (e : Ending) (w' : World) : Prop :=
  ∃ ys : List Int, e = .returned (.tuple #[]) ∧ Hp w' base hb A n c ys ∧ ys.Perm xs ∧ HeapFrom 0 n ys ∧ w.grownBy w' (blockOf A)
set_option maxHeartbeats 1000000 in
theorem hinit_any (base hb : Nat) (A : Option Addr) (n c : Nat) (xs : List Int) (w : World) (h : Hp w base hb A n c xs) (hn : n ≤ 1000) :
    Calls Try.prog 43 #[.iface 45 (.pointer (some ⟨hb, 0, none⟩))] w (InitTo w base hb A n c xs) := by
  have c0 := h.full.cellAt 0 (v := .slice A n c) rfl
  have m1 := meth_len hb _ w c0
  have e1 := hlen_any A n c w
  have H0 := hid h
  clear h c0
  go_enter Try.func43, Try.ntmps43
  go_wp2_with fail
  refine e1.mono ?_
  rintro e w_ ⟨rfl, rfl⟩
  clear m1 e1
  go_wp2_with fail
  go_loopw [3] (fun v wr => ∃ (k : Nat) (ys : List Int), v = .int .i64 ((k : Int) - 1) ∧ k ≤ 1000 ∧ HeapFrom k n ys ∧ ys.Perm xs ∧ Hp wr base hb A n c ys ∧ w.grownBy wr (blockOf A)) (fun v _ => (intOf v + 1).toNat)
  case atStart => exact ⟨n / 2, xs, by first | rfl | (congr 1; omega) | simp, by omega, heap_leaf xs, List.Perm.refl _, H0.out, gr_refl _ _⟩
  case round =>
    clear H0
    obtain ⟨k, ys, rfl, hk, hf, hp, h, hgr⟩ := hrel
    have HF := hid hf
    have HP := hid hp
    have HH := hid h
    clear hf hp
    rcases (by omega : k = 0 ∨ 1 ≤ k) with h0 | h0
    · subst h0
      clear h
      go_wp2_with fail
      go_end0
      exact ⟨ys, rfl, HH.out, HP.out, HF.out, hgr⟩
    · obtain ⟨p, hp⟩ : ∃ p, k - 1 = p := ⟨_, rfl⟩
      have q1 : (k : Int) - 1 = (p : Int) := by omega
      have d1 : decide ((0 : Int) ≤ (p : Int)) = true := by simp
      have e2 := down_any base hb A n c ys p n wr h (by have := HF.out; rw [show k = p + 1 by omega] at this; exact this) (Nat.le_refl _) hn (by omega)
      clear h hp
      go_wp2_with fail
      refine e2.mono ?_
      rintro e w1 ⟨zs, b, rfl, h1, hd, hg1⟩
      have HD := hid hd
      have G1 := gr_trans hgr hg1
      clear e2 hd hg1
      go_wp2_with fail
      go_roundw
      case rel => exact ⟨p, zs, by first | rfl | (congr 1; omega), by omega, HD.out.heap, HD.out.perm.trans HP.out, h1, G1⟩
      case measure => simp [intOf]; omega

/-- What heapOf leaves. -/
def HeapOfTo (w : World) (n : Nat) (xs : List Int) (e : Ending) (w' : World) : Prop :=
  ∃ (hb : Nat) (A : Option Addr) (c : Nat) (ys : List Int), e = .returned (.pointer (some ⟨hb, 0, none⟩)) ∧ Hp w' w.heap.size hb A n c ys ∧ ys.Perm xs ∧ HeapFrom 0 n ys ∧ w.grownBy w' none
set_option maxHeartbeats 1000000 in
theorem heapOf_any (A : Option Addr) (n c : Nat) (xs : List Int) (w : World) (h : Lies w A (ints xs)) (hn : xs.length = n) (_ : n ≤ c) (_ : c ≤ maxLen) (hle : n ≤ 1000) :
    Calls Try.prog 35 #[.slice A n c] w (HeapOfTo w n xs) := by
  have HLn := hid (show (ints xs).length = n * 1 by rw [ints_len, hn, Nat.mul_one])
  have HN := hid hn
  clear hn
  go_enter Try.func35, Try.ntmps35
  go_upto_region 2 with (at_builtin; refine wpList_app _ rfl _ _ 23 rfl w.heap.size 3 Try.underlying23 intInfo rfl (by omega) (some ⟨w.heap.size, 0, none⟩) 0 0 [] rfl (Own.empty w (Nat.le_refl _)) A n c (ints xs) rfl (h.alloc _) HLn.out (ints_one _) (by omega) (by omega) (by simp) ?_; intro A1 c1 w1 hown hg1 hb1)
  have hO : Own w1 w.heap.size 3 1 A1 n c1 (ints xs) := by simpa using hown
  have e0 : 0 + n = n := by omega
  have G1 : w.grownBy w1 none := gr_then (World.grownBy_alloc w _ none) hg1 (fun b hb => by injection hb with hb; subst hb; exact .inr (Nat.le_refl _))
  have hs1 := G1.size
  have HH : Hp (w1.alloc (.cells #[.slice A1 n c1] 48)) w.heap.size w1.heap.size A1 n c1 xs := ⟨Full.new _ _ _, hO.alloc _, HN.out, hs1⟩
  have e1 := hinit_any w.heap.size w1.heap.size A1 n c1 xs _ HH hle
  have hAb := fun b hb => (hO.block (b := b) hb).1
  clear hown hg1 hb1 hO HH
  try rw [e0]
  clear e0
  go_wp2_with fail
  refine e1.mono ?_
  rintro e w2 ⟨ys, rfl, h2, hp, hf, hg2⟩
  clear e1
  go_wp2_with fail
  go_ret
  exact ⟨w1.heap.size, A1, c1, ys, rfl, h2, hp, hf, gr_then (gr_alloc G1 _) hg2 (fun b hb => .inr (hAb b hb))⟩

/-- What drain leaves. -/
def DrainTo (w : World) (hb : Nat) (A : Option Addr) (n : Nat) (xs : List Int) (e : Ending) (w' : World) : Prop :=
  ∃ (L : Option Addr) (cL : Nat) (ys : List Int), e = .returned (.slice L n cL) ∧ Own w' w.heap.size 3 1 L n cL (ints ys) ∧ ys.length = n ∧ sortedI ys ∧ ys.Perm xs ∧ Two w w' (some hb) (blockOf A)
structure DrAt (w : World) (base hb : Nat) (A : Option Addr) (n c : Nat) (xs : List Int) (L : Option Addr) (k cL : Nat) (out : List Int) (m : Nat) (zs : List Int) (wr : World) : Prop where
  own : Own wr w.heap.size 3 1 L k cL (ints out)
  len : out.length = k
  hp : Hp wr base hb A m c zs
  heap : HeapFrom 0 m zs
  perm : (out ++ zs).Perm xs
  sort : sortedI out
  le : ∀ y ∈ out, ∀ z ∈ zs, y ≤ z
  sum : k + m = n
  two : Two w wr (some hb) (blockOf A)
theorem drain_step {x : Int} {xs out zs zs' : List Int} (hp : (x :: zs').Perm zs) (hx : zs.getD 0 0 = x) (hh : HeapFrom 0 zs.length zs) (h1 : (out ++ zs).Perm xs) (h2 : sortedI out) (h3 : ∀ y ∈ out, ∀ z ∈ zs, y ≤ z) (hz : 0 < zs.length) :
    ((out ++ [x]) ++ zs').Perm xs ∧ sortedI (out ++ [x]) ∧ ∀ y ∈ out ++ [x], ∀ z ∈ zs', y ≤ z := by
  have hm : x ∈ zs := by rw [← hx]; exact getD_mem hz
  have hmin := heap_head hh
  rw [hx] at hmin
  refine ⟨?_, sorted_snoc h2 fun y hy => h3 y hy x hm, fun y hy z hz' => ?_⟩
  · rw [List.append_assoc]
    exact (List.Perm.append_left out hp).trans h1
  · have hz2 : z ∈ zs := hp.subset (by simp [hz'])
    rcases List.mem_append.1 hy with hy | hy
    · exact h3 y hy z hz2
    · rw [List.mem_singleton.1 hy]; exact hmin z hz2
set_option maxHeartbeats 2000000 in
theorem drain_any (base hb : Nat) (A : Option Addr) (n c : Nat) (xs : List Int) (w : World) (h : Hp w base hb A n c xs) (hh : HeapFrom 0 n xs) (hn : n ≤ 1000) :
    Calls Try.prog 40 #[.pointer (some ⟨hb, 0, none⟩)] w (DrainTo w hb A n xs) := by
  have S0 : DrAt w base hb A n c xs (some ⟨w.heap.size, 0, none⟩) 0 0 [] n xs (w.alloc (.cells #[] 3)) :=
    ⟨Own.empty w (Nat.le_refl _), rfl, h.kept0 (World.grownBy_alloc w _ none), hh, List.Perm.refl _, List.Pairwise.nil, by simp, by omega, Two.none (World.grownBy_alloc w _ none) _ _⟩
  have HS0 := hid S0
  have hhb := h.full.lt
  have hAb := fun b hb => (h.own.block (b := b) hb).2
  clear S0 h hh
  go_enter Try.func40, Try.ntmps40
  go_wp2_with fail
  go_loopw [3] (fun v wr => ∃ (L : Option Addr) (k cL : Nat) (out : List Int) (m : Nat) (zs : List Int), v = .slice L k cL ∧ DrAt w base hb A n c xs L k cL out m zs wr) (fun v _ => n - (match v with | .slice _ k _ => k | _ => 0))
  case atStart => exact ⟨_, 0, 0, [], n, xs, rfl, HS0.out⟩
  case round =>
    clear HS0
    obtain ⟨L, k, cL, out, m, zs, rfl, hat⟩ := hrel
    have hsum := hat.sum
    have hsz := hat.two.size
    have c0 := hat.hp.full.cellAt 0 (v := .slice A m c) rfl
    have e1 := hlen_any A m c wr
    have HA := hid hat
    rcases (by omega : m = 0 ∨ 0 < m) with h0 | h0
    · subst h0
      have hzl := hat.hp.len
      have hz0 : zs = [] := List.eq_nil_of_length_eq_zero hzl
      subst hz0
      obtain rfl : k = n := by omega
      clear hat hzl
      go_wp2_with fail
      refine e1.mono ?_
      rintro e w_ ⟨rfl, rfl⟩
      clear e1
      go_wp2_with fail
      go_ret
      exact ⟨L, cL, out, rfl, HA.out.own, HA.out.len, HA.out.sort, by have := HA.out.perm; rwa [List.append_nil] at this, HA.out.two⟩
    · obtain ⟨m, rfl⟩ : ∃ m', m = m' + 1 := ⟨m - 1, by omega⟩
      obtain ⟨gA, cur, hAe, _, hFA, hcell⟩ := hat.hp.own.open_ (by omega)
      have ci := getAt hcell (k := 0) (by rw [hat.hp.len]; omega)
      obtain ⟨x, hx⟩ : ∃ x, zs.getD 0 0 = x := ⟨_, rfl⟩
      rw [hx] at ci
      have HX := hid hx
      have hO := hat.own
      have hLb := fun b hb => (hO.block (b := b) hb).1
      have hgA := hAb gA (by rw [hAe]; rfl)
      have d0 : decide ((0 : Int) < ((m + 1 : Nat) : Int)) = true := by simp
      have d1 : decide ((0 : Int) < (m : Int) + 1) = true := by simp
      have i1 : (0 : Int) < (m : Int) + 1 := by omega
      have hh1 := hat.hp
      have hf1 := hat.heap
      subst hAe
      clear hat hcell hx hFA
      go_wp2_with fail
      refine e1.mono ?_
      rintro e w_ ⟨rfl, rfl⟩
      clear e1
      go_wp2_with (at_builtin; refine wpList_push _ rfl _ _ 23 rfl w.heap.size 3 Try.underlying23 intInfo rfl (by omega) L k cL (ints out) rfl (hO.alloc (.cells #[.int .i64 x] 3)) _ 1 #[.int .i64 x] rfl (Full.newAt (by simp)) rfl (by intro u hu; simp at hu; subst hu; rfl) (by omega) (by omega) (by simp; omega) ?_; intro L3 cL3 w3 hown3 hg3 hb3)
      have hne1 : ∀ b, blockOf L = some b → b ≠ hb ∧ b ≠ gA := fun b hb1 => by have := hLb b hb1; omega
      have h3 : Hp w3 base hb (some ⟨gA, 0, none⟩) (m + 1) c zs := by
        have T3 : Two wr w3 none (blockOf L) := (Two.none (World.grownBy_alloc wr (.cells #[.int .i64 x] 3) none) _ _).trans' (Two.right hg3 _)
        exact ⟨hh1.full.two T3 (by simp) (fun e => (hne1 hb e.symm).1 rfl), hh1.own.two T3 (fun _ _ => by simp) (fun b hb1 e => by injection hb1 with hb1; exact (hne1 b e.symm).2 hb1.symm), hh1.len, hh1.ge⟩
      have T3 : Two w w3 (some hb) (blockOf (some ⟨gA, 0, none⟩)) := HA.out.two.trans (show Two wr w3 (some hb) (blockOf L) from (Two.none (World.grownBy_alloc wr (.cells #[.int .i64 x] 3) none) _ _).trans' (Two.right hg3 _)) (fun b hb1 => .inr (hLb b hb1))
      have e4 := hpop_any base hb (some ⟨gA, 0, none⟩) m c zs w3 h3 hf1 (by omega)
      have hL3 : ∀ b, blockOf L3 = some b → w.heap.size ≤ b := fun b hb1 => (hown3.block hb1).1
      clear hg3 hb3 h3 hO hh1 c0 ci
      go_wp2_with fail
      refine e4.mono ?_
      rintro e w4 ⟨zs', rfl, h4, hp4, hf4, hT4⟩
      have hstep := drain_step (by rw [HX.out] at hp4; exact hp4) HX.out (by rw [HA.out.hp.len]; exact HA.out.heap) HA.out.perm HA.out.sort HA.out.le (by rw [HA.out.hp.len]; omega)
      have ST : DrAt w base hb (some ⟨gA, 0, none⟩) n c xs L3 (k + 1) cL3 (out ++ [x]) m zs' w4 :=
        ⟨by rw [ints_app]; exact hown3.two hT4 (fun b hb1 e => by have := hL3 b hb1; injection e with e; omega) (fun b hb1 e => by have := hL3 b hb1; injection e with e; simp at e; omega),
          by rw [List.length_append, HA.out.len]; rfl, h4, hf4, hstep.1, hstep.2.1, hstep.2.2, by omega, T3.trans' hT4⟩
      clear e4 hp4 hf4 hT4 h4 hstep hown3
      go_wp2_with fail
      go_roundw
      case rel => exact ⟨L3, k + 1, cL3, _, m, zs', by go_num, ST⟩
      case measure => simp; omega
end Go.Proofs.Ytfcammfdengdbaa
