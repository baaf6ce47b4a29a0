/- joined at totals: two ascending lists as one. -/
import Derived.Test.YtokhkgimmijoaaaTotDraw
import Derived.Laws.MakeOwn
import Derived.Deep.DeepCutAuto
namespace Go.Proofs.Ytokhkgimmijoaaa
open Go.RowKit

def lenV : Value → Nat
  | .slice _ n _ => n
  | _ => 0

set_option maxHeartbeats 400000 in
theorem key_any (c : ByteArray) (m s : Int) (w : World) :
    Calls Try.prog 27 #[.agg #[.string c, .int .i64 m, .int .i64 s]] w fun e w' => e = .returned (.string c) ∧ w.grownBy w' none := by
  go_enter Try.func27, Try.ntmps27
  go_wp2_with fail
  go_ret
  exact ⟨rfl, World.grownBy_alloc w _ none⟩

set_option maxHeartbeats 400000 in
theorem both_any (x y : Tot) (w : World) (hx : totB x = true) (hy : totB y = true) :
    Calls Try.prog 28 #[.agg #[.string x.c, .int .i64 x.m, .int .i64 x.s], .agg #[.string y.c, .int .i64 y.m, .int .i64 y.s]] w fun e w' => e = .returned (.agg #[.string (both x y).c, .int .i64 (both x y).m, .int .i64 (both x y).s]) ∧ w.grownBy w' none := by
  obtain ⟨_, ⟨a1, a2⟩, a3, a4⟩ := totB_parts hx
  obtain ⟨_, ⟨b1, b2⟩, b3, b4⟩ := totB_parts hy
  obtain ⟨c, m, s⟩ := x
  obtain ⟨c', m', s'⟩ := y
  simp only [both] at *
  clear hx hy
  have R0 := ((Full.new ((w.alloc (.cells #[.string c, .int .i64 m, .int .i64 s] 30)).alloc (.cells #[.string c', .int .i64 m', .int .i64 s'] 30)) 30 #[.string c, .int .i64 (m + m'), .int .i64 (s + s')]))
  have G0 := gr_alloc (gr_alloc (gr_alloc (gr_refl w none) (.cells #[.string c, .int .i64 m, .int .i64 s] 30)) (.cells #[.string c', .int .i64 m', .int .i64 s'] 30)) (.cells #[.string c, .int .i64 (m + m'), .int .i64 (s + s')] 30)
  have x0 := R0.cellAt 0 rfl
  have x1 := R0.cellAt 1 rfl
  have x2 := R0.cellAt 2 rfl
  clear R0
  go_enter Try.func28, Try.ntmps28
  go_wp2_with fail
  refine bodyPost_ret (v := .agg #[.string c, .int .i64 (m + m'), .int .i64 (s + s')]) ?_ rfl ⟨rfl, G0⟩
  simp [results, Try.results28, go_sem, x0, x1, x2]

structure JnAt (w : World) (la lb : List Tot) (A : Option Addr) (n cA : Nat) (xs : List Tot) (B : Option Addr) (m cB : Nat) (ys : List Tot) (L : Option Addr) (k cL : Nat) (out : List Tot) (wr : World) : Prop where
  lia : Lies wr A (xs.flatMap Tot.cells)
  na : xs.length = n
  ca : n ≤ cA
  ma : cA ≤ maxLen
  ba : ∀ g, blockOf A = some g → g < w.heap.size
  oa : ∀ x ∈ xs, totB x = true
  lib : Lies wr B (ys.flatMap Tot.cells)
  nb : ys.length = m
  cb : m ≤ cB
  mb : cB ≤ maxLen
  bb : ∀ g, blockOf B = some g → g < w.heap.size
  ob : ∀ x ∈ ys, totB x = true
  own : Own wr w.heap.size 30 3 L k cL (out.flatMap Tot.cells)
  no : out.length = k
  le : k + n + m ≤ 1000
  eq : mergeT la lb = out ++ mergeT xs ys
  gr : w.grownBy wr none

/-- A list of totals of its own. -/
def TlTo (w : World) (l : List Tot) (e : Ending) (w' : World) : Prop :=
  ∃ (A : Option Addr) (n c : Nat), e = .returned (.slice A n c) ∧ Own w' w.heap.size 30 3 A n c (l.flatMap Tot.cells) ∧ l.length = n ∧ w.grownBy w' none

theorem tot_len (l : List Tot) : (l.flatMap Tot.cells).length = l.length * 3 := flat_len Tot.cells 3 (fun _ => rfl) l
theorem tail_lies {w : World} {g o : Nat} {x : Tot} {xs : List Tot} (h : Lies w (some ⟨g, o, none⟩) ((x :: xs).flatMap Tot.cells)) : Lies w (some ⟨g, o + 3, none⟩) (xs.flatMap Tot.cells) := by
  have := h.cutN (n := xs.length + 1) (s := 3) (k := 1) (cap := xs.length + 2) (by rw [tot_len]; rfl) (by omega)
  rw [if_neg (by omega)] at this
  simpa [Addr.add, Tot.cells] using this
/-- The cells of the first total. -/
theorem headAt {w : World} {g o : Nat} {c : ByteArray} {m s : Int} {xs : List Tot} (h : ∀ j u, ((⟨c, m, s⟩ :: xs : List Tot).flatMap Tot.cells)[j]? = some u → w.cell? ⟨g, o + j, none⟩ = some u) :
    w.cell? ⟨g, o, none⟩ = some (.string c) ∧ w.cell? ⟨g, o + 1, none⟩ = some (.int .i64 m) ∧ w.cell? ⟨g, o + 2, none⟩ = some (.int .i64 s) :=
  ⟨h 0 _ rfl, h 1 _ rfl, h 2 _ rfl⟩
theorem tail_lies' {w : World} {g o cA : Nat} {x : Tot} {xs : List Tot} (h : Lies w (some ⟨g, o, none⟩) ((x :: xs).flatMap Tot.cells)) (hc : xs.length + 1 ≤ cA) :
    Lies w (if cA = 1 then some ⟨g, o, none⟩ else some ⟨g, o + 3, none⟩) (xs.flatMap Tot.cells) := by
  split
  · have e : xs = [] := List.eq_nil_of_length_eq_zero (by omega)
    subst e
    exact .inl rfl
  · exact tail_lies h
theorem tail_blk {g o cA b : Nat} (h : blockOf (if cA = 1 then some (⟨g, o, none⟩ : Addr) else some ⟨g, o + 3, none⟩) = some b) : b = g := by
  split at h <;> simpa [blockOf] using h.symm
section
variable {w wr w2 w3 : World} {la lb : List Tot} {g o g' o' n cA m cB k cL cL3 : Nat} {x y z : Tot} {xs ys out : List Tot} {L L3 A B : Option Addr} {ob : Obj}
theorem JnAt.fst (h : JnAt w la lb (some ⟨g, o, none⟩) n cA (x :: xs) B m cB ys L k cL out wr) (hg : wr.grownBy w2 none) (hown : Own w3 w.heap.size 30 3 L3 (k + 1) cL3 (out.flatMap Tot.cells ++ x.cells))
    (hg3 : (w2.alloc ob).grownBy w3 (blockOf L)) (hm : mergeT (x :: xs) ys = x :: mergeT xs ys) :
    JnAt w la lb (if cA = 1 then some ⟨g, o, none⟩ else some ⟨g, o + 3, none⟩) (n - 1) (cA - 1) xs B m cB ys L3 (k + 1) cL3 (out ++ [x]) w3 := by
  have hn := h.na
  have hc := h.ca
  have hle := h.le
  have hma := h.ma
  simp only [List.length_cons] at hn
  have hr := fun g hg => (h.own.block (b := g) hg).1
  exact ⟨tail_lies' (((h.lia.grown0 hg).alloc ob).app hg3 h.ba hr) (by omega), by omega, by omega, by omega, fun b hb => by rw [tail_blk hb]; exact h.ba g rfl, fun y hy => h.oa y (by simp [hy]),
    ((h.lib.grown0 hg).alloc ob).app hg3 h.bb hr, h.nb, h.cb, h.mb, h.bb, h.ob, by rw [List.flatMap_append]; simpa [Tot.cells] using hown, by rw [List.length_append, h.no]; rfl, by omega,
    by rw [h.eq, hm, List.append_assoc]; rfl, gr_then (gr_alloc (gr_0 h.gr hg) ob) hg3 (fun b hb => .inr (hr b hb))⟩
theorem JnAt.snd (h : JnAt w la lb A n cA xs (some ⟨g', o', none⟩) m cB (y :: ys) L k cL out wr) (hg : wr.grownBy w2 none) (hown : Own w3 w.heap.size 30 3 L3 (k + 1) cL3 (out.flatMap Tot.cells ++ y.cells))
    (hg3 : (w2.alloc ob).grownBy w3 (blockOf L)) (hm : mergeT xs (y :: ys) = y :: mergeT xs ys) :
    JnAt w la lb A n cA xs (if cB = 1 then some ⟨g', o', none⟩ else some ⟨g', o' + 3, none⟩) (m - 1) (cB - 1) ys L3 (k + 1) cL3 (out ++ [y]) w3 := by
  have hn := h.nb
  have hc := h.cb
  have hle := h.le
  have hma := h.mb
  simp only [List.length_cons] at hn
  have hr := fun g hg => (h.own.block (b := g) hg).1
  exact ⟨((h.lia.grown0 hg).alloc ob).app hg3 h.ba hr, h.na, h.ca, h.ma, h.ba, h.oa, tail_lies' (((h.lib.grown0 hg).alloc ob).app hg3 h.bb hr) (by omega), by omega, by omega, by omega, fun b hb => by rw [tail_blk hb]; exact h.bb g' rfl, fun y hy => h.ob y (by simp [hy]),
    by rw [List.flatMap_append]; simpa [Tot.cells] using hown, by rw [List.length_append, h.no]; rfl, by omega,
    by rw [h.eq, hm, List.append_assoc]; rfl, gr_then (gr_alloc (gr_0 h.gr hg) ob) hg3 (fun b hb => .inr (hr b hb))⟩
theorem JnAt.two (h : JnAt w la lb (some ⟨g, o, none⟩) n cA (x :: xs) (some ⟨g', o', none⟩) m cB (y :: ys) L k cL out wr) (hg : wr.grownBy w2 none) (hown : Own w3 w.heap.size 30 3 L3 (k + 1) cL3 (out.flatMap Tot.cells ++ z.cells))
    (hg3 : (w2.alloc ob).grownBy w3 (blockOf L)) (hm : mergeT (x :: xs) (y :: ys) = z :: mergeT xs ys) :
    JnAt w la lb (if cA = 1 then some ⟨g, o, none⟩ else some ⟨g, o + 3, none⟩) (n - 1) (cA - 1) xs (if cB = 1 then some ⟨g', o', none⟩ else some ⟨g', o' + 3, none⟩) (m - 1) (cB - 1) ys L3 (k + 1) cL3 (out ++ [z]) w3 := by
  have hn := h.na
  have hc := h.ca
  have hn' := h.nb
  have hc' := h.cb
  have hle := h.le
  have hma := h.ma
  have hmb := h.mb
  simp only [List.length_cons] at hn hn'
  have hr := fun g hg => (h.own.block (b := g) hg).1
  exact ⟨tail_lies' (((h.lia.grown0 hg).alloc ob).app hg3 h.ba hr) (by omega), by omega, by omega, by omega, fun b hb => by rw [tail_blk hb]; exact h.ba g rfl, fun y hy => h.oa y (by simp [hy]),
    tail_lies' (((h.lib.grown0 hg).alloc ob).app hg3 h.bb hr) (by omega), by omega, by omega, by omega, fun b hb => by rw [tail_blk hb]; exact h.bb g' rfl, fun y hy => h.ob y (by simp [hy]),
    by rw [List.flatMap_append]; simpa [Tot.cells] using hown, by rw [List.length_append, h.no]; rfl, by omega,
    by rw [h.eq, hm, List.append_assoc]; rfl, gr_then (gr_alloc (gr_0 h.gr hg) ob) hg3 (fun b hb => .inr (hr b hb))⟩
end
theorem merge_lt {x y : Tot} {a b : List Tot} (h : sl x.c y.c = true) : mergeT (x :: a) (y :: b) = x :: mergeT a (y :: b) := by rw [mergeT, if_pos h]
theorem merge_gt {x y : Tot} {a b : List Tot} (h : sl y.c x.c = true) : mergeT (x :: a) (y :: b) = y :: mergeT (x :: a) b := by rw [mergeT, if_neg (by rw [sl_not h]; simp), if_pos h]
theorem merge_eq {x y : Tot} {a b : List Tot} (h : x.c = y.c) : mergeT (x :: a) (y :: b) = both x y :: mergeT a b := by rw [mergeT, h, sl_irrefl]; simp
theorem merge_end {a b : List Tot} (h : a = [] ∨ b = []) : mergeT a b = a ++ b := by
  rcases h with rfl | rfl
  · simp [mergeT]
  · rw [mergeT_nil]; simp

set_option maxHeartbeats 4000000 in
theorem jn_any (A : Option Addr) (n cA : Nat) (la : List Tot) (B : Option Addr) (m cB : Nat) (lb : List Tot) (w : World)
    (hA : Lies w A (la.flatMap Tot.cells)) (hn : la.length = n) (hcA : n ≤ cA) (hMA : cA ≤ maxLen) (hbA : ∀ g, blockOf A = some g → g < w.heap.size) (hoA : ∀ x ∈ la, totB x = true)
    (hB : Lies w B (lb.flatMap Tot.cells)) (hm : lb.length = m) (hcB : m ≤ cB) (hMB : cB ≤ maxLen) (hbB : ∀ g, blockOf B = some g → g < w.heap.size) (hoB : ∀ x ∈ lb, totB x = true) (hle : n + m ≤ 1000) :
    Calls Try.prog 29 #[.slice A n cA, .slice B m cB, .func (.func 27) #[] #[], .func (.func 28) #[] #[]] w (TlTo w (mergeT la lb)) := by
  obtain ⟨i0, hi, hz0, hz1, hz2⟩ := info_parts totInfo
  obtain ⟨wm, hmk, hOm, hgm⟩ := run_make_own (P := Try.prog) w w.heap.size 23 30 i0 _ 3 Try.underlying23 hi hz0 hz1 .i64 .i64 (n + m) (by rw [hz2]; omega) (by simp only [maxLen]; omega) (Nat.le_refl _)
  rw [Int.natCast_add] at hmk
  have S0 : JnAt w la lb A n cA la B m cB lb (some ⟨w.heap.size, 0, none⟩) 0 (n + m) [] wm := ⟨hA.grown0 hgm, hn, hcA, hMA, hbA, hoA, hB.grown0 hgm, hm, hcB, hMB, hbB, hoB, hOm, rfl, by omega, rfl, hgm⟩
  have HS0 := hid S0
  unfold maxLen at hMA hMB
  clear hi hz0 hz1 hz2 hA hB hn hm hOm hgm S0 hbA hbB hoA hoB i0
  go_enter Try.func29, Try.ntmps29
  go_wp2_with fail
  clear hmk
  go_loopw [0, 1, 9] (fun a b v wr => ∃ (A : Option Addr) (n cA : Nat) (xs : List Tot) (B : Option Addr) (m cB : Nat) (ys : List Tot) (L : Option Addr) (k cL : Nat) (out : List Tot), a = .slice A n cA ∧ b = .slice B m cB ∧ v = .slice L k cL ∧ JnAt w la lb A n cA xs B m cB ys L k cL out wr) (fun a b _ _ => lenV a + lenV b)
  case atStart => exact ⟨_, _, _, _, _, _, _, _, _, _, _, _, rfl, rfl, rfl, HS0.out⟩
  case round =>
    clear HS0 hMA hMB hcA hcB hle
    obtain ⟨A, n, cA, xs, B, m, cB, ys, L, k, cL, out, rfl, rfl, rfl, hat⟩ := hrel
    have hle := hat.le
    have hcA := hat.ca
    have hcB := hat.cb
    have hMA := hat.ma
    have hMB := hat.mb
    unfold maxLen at hMA hMB
    have hsz := hat.gr.size
    rcases (by omega : n = 0 ∨ (0 < n ∧ m = 0) ∨ (0 < n ∧ 0 < m)) with h0 | ⟨h0, h0'⟩ | ⟨h0, h0'⟩
    · have b0 : decide (0 < n) = false := by simp; omega
      have HNil := hid (show xs = [] ∨ ys = [] from .inl (List.eq_nil_of_length_eq_zero (by rw [hat.na]; exact h0)))
      clear h0
      have HE := hid hat.eq
      have HNo := hid hat.no
      have hlA : (xs.flatMap Tot.cells).length = n * 3 := by rw [tot_len, hat.na]
      have hlB : (ys.flatMap Tot.cells).length = m * 3 := by rw [tot_len, hat.nb]
      have HLen := hid (show xs.length = n ∧ ys.length = m from ⟨hat.na, hat.nb⟩)
      have HlA := hid hlA
      have HlB := hid hlB
      have hO := hat.own
      have hLA := hat.lia
      have hLB := hat.lib
      have hbB := hat.bb
      have hG := hat.gr
      clear hlA hlB hat
      go_wp2_with (first
        | (at_builtin; refine wpList_app _ rfl (.tmp 79) (.tmp 80) 23 rfl w.heap.size 30 Try.underlying23 totInfo rfl (by omega) L k cL (out.flatMap Tot.cells) rfl hO A n cA (xs.flatMap Tot.cells) rfl hLA HlA.out (tot_one _) (by omega) (by omega) hsz ?_; intro A4 c4 w4 hown4 hg4 _)
        | (at_builtin; refine wpList_app _ rfl (.tmp 82) (.tmp 83) 23 rfl w.heap.size 30 Try.underlying23 totInfo rfl (by omega) A4 (k + n) c4 (out.flatMap Tot.cells ++ xs.flatMap Tot.cells) rfl hown4 B m cB (ys.flatMap Tot.cells) rfl (hLB.app hg4 hbB (fun g hg => (hO.block hg).1)) HlB.out (tot_one _) (by omega) (by omega) (Nat.le_trans hsz hg4.size) ?_; intro A5 c5 w5 hown5 hg5 _))
      go_ret
      refine ⟨A5, k + n + m, c5, rfl, ?_, ?_, gr_then (gr_then hG hg4 (fun g hg => .inr (hO.block hg).1)) hg5 (fun g hg => .inr (hown4.block hg).1)⟩
      · rw [HE.out, merge_end HNil.out, ← List.append_assoc, List.flatMap_append, List.flatMap_append]; exact hown5
      · rw [HE.out, merge_end HNil.out, List.length_append, List.length_append, HNo.out, HLen.out.1, HLen.out.2]; omega
    · have b0 : decide (0 < n) = true := by simpa using h0
      have b1 : decide (0 < m) = false := by simp; omega
      have HNil := hid (show xs = [] ∨ ys = [] from .inr (List.eq_nil_of_length_eq_zero (by rw [hat.nb]; exact h0')))
      clear h0'
      have HE := hid hat.eq
      have HNo := hid hat.no
      have hlA : (xs.flatMap Tot.cells).length = n * 3 := by rw [tot_len, hat.na]
      have hlB : (ys.flatMap Tot.cells).length = m * 3 := by rw [tot_len, hat.nb]
      have HLen := hid (show xs.length = n ∧ ys.length = m from ⟨hat.na, hat.nb⟩)
      have HlA := hid hlA
      have HlB := hid hlB
      have hO := hat.own
      have hLA := hat.lia
      have hLB := hat.lib
      have hbB := hat.bb
      have hG := hat.gr
      clear hlA hlB hat
      go_wp2_with (first
        | (at_builtin; refine wpList_app _ rfl (.tmp 79) (.tmp 80) 23 rfl w.heap.size 30 Try.underlying23 totInfo rfl (by omega) L k cL (out.flatMap Tot.cells) rfl hO A n cA (xs.flatMap Tot.cells) rfl hLA HlA.out (tot_one _) (by omega) (by omega) hsz ?_; intro A4 c4 w4 hown4 hg4 _)
        | (at_builtin; refine wpList_app _ rfl (.tmp 82) (.tmp 83) 23 rfl w.heap.size 30 Try.underlying23 totInfo rfl (by omega) A4 (k + n) c4 (out.flatMap Tot.cells ++ xs.flatMap Tot.cells) rfl hown4 B m cB (ys.flatMap Tot.cells) rfl (hLB.app hg4 hbB (fun g hg => (hO.block hg).1)) HlB.out (tot_one _) (by omega) (by omega) (Nat.le_trans hsz hg4.size) ?_; intro A5 c5 w5 hown5 hg5 _))
      go_ret
      refine ⟨A5, k + n + m, c5, rfl, ?_, ?_, gr_then (gr_then hG hg4 (fun g hg => .inr (hO.block hg).1)) hg5 (fun g hg => .inr (hown4.block hg).1)⟩
      · rw [HE.out, merge_end HNil.out, ← List.append_assoc, List.flatMap_append, List.flatMap_append]; exact hown5
      · rw [HE.out, merge_end HNil.out, List.length_append, List.length_append, HNo.out, HLen.out.1, HLen.out.2]; omega
    · have b0 : decide (0 < n) = true := by simpa using h0
      have b1 : decide (0 < m) = true := by simpa using h0'
      obtain ⟨⟨xc, xm, xs1⟩, xs, rfl⟩ : ∃ x r, xs = x :: r := List.exists_cons_of_ne_nil (fun e => by have := hat.na; rw [e] at this; simp at this; omega)
      obtain ⟨⟨yc, ym, ys1⟩, ys, rfl⟩ : ∃ x r, ys = x :: r := List.exists_cons_of_ne_nil (fun e => by have := hat.nb; rw [e] at this; simp at this; omega)
      obtain ⟨g, o, rfl, hg, hcell⟩ := hat.lia.open_ (by simp [Tot.cells])
      obtain ⟨g', o', rfl, hg', hcell'⟩ := hat.lib.open_ (by simp [Tot.cells])
      obtain ⟨xa, xb, xd⟩ := headAt hcell
      obtain ⟨ya, yb, yd⟩ := headAt hcell'
      have e1 := fun w => key_any xc xm xs1 w
      have e2 := fun w => key_any yc ym ys1 w
      clear hcell hcell'
      have HA := hid hat
      have c1 := fun d os => cell_regrown xa d os
      have c2 := fun d os => cell_regrown xb d os
      have c3 := fun d os => cell_regrown xd d os
      have c4 := fun d os => cell_regrown ya d os
      have c5 := fun d os => cell_regrown yb d os
      have c6 := fun d os => cell_regrown yd d os
      clear hat
      rcases sl_tri xc yc with q | q | q
      · have HQ := hid q
        have hl : Op.bytesLess xc.toList yc.toList = true := q
        clear q
        go_wp2_with fail
        refine wp_region_quiet_below (by kernel_rfl) (by kernel_rfl) ?_
        repeat (first | go_big_quiet_step (((first | (go_at_call_of 27 (Value.int IntKind.i64 xm); refine Calls.regrown_of (v := .string xc) ((e1 _).mono ?_); (rintro e w' ⟨he, hg⟩; exact ⟨he, gr_below hg⟩)) | (go_at_call 27; refine Calls.regrown_of (v := .string yc) ((e2 _).mono ?_); (rintro e w' ⟨he, hg⟩; exact ⟨he, gr_below hg⟩))))) | quiet_step (((first | (go_at_call_of 27 (Value.int IntKind.i64 xm); refine Calls.regrown_of (v := .string xc) ((e1 _).mono ?_); (rintro e w' ⟨he, hg⟩; exact ⟨he, gr_below hg⟩)) | (go_at_call 27; refine Calls.regrown_of (v := .string yc) ((e2 _).mono ?_); (rintro e w' ⟨he, hg⟩; exact ⟨he, gr_below hg⟩))))))
        refine wpQuiet_nil ?_
        intro _ hw'
        obtain ⟨⟨dq, osq⟩, hw''⟩ := hw'
        subst hw''
        have hgq := gr_of_below (below_regrown wr dq osq) none
        generalize Sort.grow (redrawn wr dq) osq = w2 at *
        have O2 := HA.out.own.kept0 hgq
        have G2 := gr_0 HA.out.gr hgq
        have xa2 := hgq.cell xa (by simp)
        have xb2 := hgq.cell xb (by simp)
        have xd2 := hgq.cell xd (by simp)
        clear c1 c2 c3 c4 c5 c6 e1 e2 xa xb xd ya yb yd hl
        go_wp2_with (at_builtin; refine wpList_push _ rfl _ _ 23 rfl w.heap.size 30 Try.underlying23 totInfo rfl (by omega) L k cL (out.flatMap Tot.cells) rfl (O2.alloc (.cells #[.string xc, .int .i64 xm, .int .i64 xs1] 30)) _ 1 #[.string xc, .int .i64 xm, .int .i64 xs1] rfl (Full.newAt (by simp)) rfl (by intro u hu; simp at hu; rcases hu with rfl | rfl | rfl <;> rfl) (by omega) (by omega) (Nat.le_trans G2.size (World.grownBy_alloc _ _ none).size) ?_; intro L3 cL3 w3 hown3 hg3 _)
        have ST := HA.out.fst hgq (x := ⟨xc, xm, xs1⟩) hown3 hg3 (merge_lt HQ.out)
        clear hown3 hg3
        go_wp2_with fail
        go_roundw
        case rel => exact ⟨_, _, _, _, _, _, _, _, _, _, _, _, rfl, rfl, by go_num, ST⟩
        case measure => simp [lenV]; omega
      · have HQ := hid q
        have hl : Op.bytesLess xc.toList yc.toList = false := by rw [q]; exact sl_irrefl yc
        have hl2 : (xc.toList == yc.toList) = true := by rw [q]; simp
        clear q
        go_wp2_with fail
        refine wp_region_quiet_below (by kernel_rfl) (by kernel_rfl) ?_
        repeat (first | go_big_quiet_step (((first | (go_at_call_of 27 (Value.int IntKind.i64 xm); refine Calls.regrown_of (v := .string xc) ((e1 _).mono ?_); (rintro e w' ⟨he, hg⟩; exact ⟨he, gr_below hg⟩)) | (go_at_call 27; refine Calls.regrown_of (v := .string yc) ((e2 _).mono ?_); (rintro e w' ⟨he, hg⟩; exact ⟨he, gr_below hg⟩))))) | quiet_step (((first | (go_at_call_of 27 (Value.int IntKind.i64 xm); refine Calls.regrown_of (v := .string xc) ((e1 _).mono ?_); (rintro e w' ⟨he, hg⟩; exact ⟨he, gr_below hg⟩)) | (go_at_call 27; refine Calls.regrown_of (v := .string yc) ((e2 _).mono ?_); (rintro e w' ⟨he, hg⟩; exact ⟨he, gr_below hg⟩))))))
        refine wpQuiet_nil ?_
        intro _ hw'
        obtain ⟨⟨dq, osq⟩, hw''⟩ := hw'
        subst hw''
        have hgq := gr_of_below (below_regrown wr dq osq) none
        generalize Sort.grow (redrawn wr dq) osq = w2 at *
        have xa2 := hgq.cell xa (by simp)
        have xb2 := hgq.cell xb (by simp)
        have xd2 := hgq.cell xd (by simp)
        have ya2 := hgq.cell ya (by simp)
        have yb2 := hgq.cell yb (by simp)
        have yd2 := hgq.cell yd (by simp)
        clear c1 c2 c3 c4 c5 c6 xa xb xd ya yb yd
        have c1 := fun d os => cell_regrown xa2 d os
        have c2 := fun d os => cell_regrown xb2 d os
        have c3 := fun d os => cell_regrown xd2 d os
        have c4 := fun d os => cell_regrown ya2 d os
        have c5 := fun d os => cell_regrown yb2 d os
        have c6 := fun d os => cell_regrown yd2 d os
        go_wp2_with fail
        refine wp_region_quiet_below (by kernel_rfl) (by kernel_rfl) ?_
        repeat (first | go_big_quiet_step (((first | (go_at_call_of 27 (Value.int IntKind.i64 xm); refine Calls.regrown_of (v := .string xc) ((e1 _).mono ?_); (rintro e w' ⟨he, hg⟩; exact ⟨he, gr_below hg⟩)) | (go_at_call 27; refine Calls.regrown_of (v := .string yc) ((e2 _).mono ?_); (rintro e w' ⟨he, hg⟩; exact ⟨he, gr_below hg⟩))))) | quiet_step (((first | (go_at_call_of 27 (Value.int IntKind.i64 xm); refine Calls.regrown_of (v := .string xc) ((e1 _).mono ?_); (rintro e w' ⟨he, hg⟩; exact ⟨he, gr_below hg⟩)) | (go_at_call 27; refine Calls.regrown_of (v := .string yc) ((e2 _).mono ?_); (rintro e w' ⟨he, hg⟩; exact ⟨he, gr_below hg⟩))))))
        refine wpQuiet_nil ?_
        intro _ hw'
        obtain ⟨⟨dq, osq⟩, hw''⟩ := hw'
        subst hw''
        have hgq2 := gr_0 hgq (gr_of_below (below_regrown w2 dq osq) none)
        have hgq3 := gr_of_below (below_regrown w2 dq osq) none
        generalize Sort.grow (redrawn w2 dq) osq = w5 at *
        have O5 := HA.out.own.kept0 hgq2
        have G5 := gr_0 HA.out.gr hgq2
        have xa5 := hgq3.cell xa2 (by simp)
        have xb5 := hgq3.cell xb2 (by simp)
        have xd5 := hgq3.cell xd2 (by simp)
        have ya5 := hgq3.cell ya2 (by simp)
        have yb5 := hgq3.cell yb2 (by simp)
        have yd5 := hgq3.cell yd2 (by simp)
        clear c1 c2 c3 c4 c5 c6 e1 e2 xa2 xb2 xd2 ya2 yb2 yd2 hgq hgq3
        obtain ⟨z, hz⟩ : ∃ z, both ⟨xc, xm, xs1⟩ ⟨yc, ym, ys1⟩ = z := ⟨_, rfl⟩
        have e3 := fun w => both_any ⟨xc, xm, xs1⟩ ⟨yc, ym, ys1⟩ w (HA.out.oa _ (by simp)) (HA.out.ob _ (by simp))
        rw [hz] at e3
        have HZ := hid hz
        clear hz
        obtain ⟨zc, zm, zs⟩ := z
        simp only [] at e3
        go_wp2_with fail
        go_region_held3 (fun w' => w'.cell? ⟨g, o, none⟩ = some (.string xc) ∧ w'.cell? ⟨g, o + 1, none⟩ = some (.int .i64 xm) ∧ w'.cell? ⟨g, o + 2, none⟩ = some (.int .i64 xs1) ∧ w'.cell? ⟨g', o', none⟩ = some (.string yc) ∧ w'.cell? ⟨g', o' + 1, none⟩ = some (.int .i64 ym) ∧ w'.cell? ⟨g', o' + 2, none⟩ = some (.int .i64 ys1)) (go_keep)
          (first
            | (go_at_call 28
               refine (e3 _).mono ?_
               rintro e w6 ⟨rfl, hg6⟩
               have hgq6 := gr_0 (gr_drew hgq2) hg6
               have O6 := HA.out.own.kept0 hgq6
               have G6 := gr_0 HA.out.gr hgq6
               have k1 := hg6.cell (w := w5.drew) xa5 (by simp)
               have k2 := hg6.cell (w := w5.drew) xb5 (by simp)
               have k3 := hg6.cell (w := w5.drew) xd5 (by simp)
               have k4 := hg6.cell (w := w5.drew) ya5 (by simp)
               have k5 := hg6.cell (w := w5.drew) yb5 (by simp)
               have k6 := hg6.cell (w := w5.drew) yd5 (by simp))
            | (refine step_app _ rfl (.tmp 24) (.tmp 33) 23 rfl w.heap.size 30 Try.underlying23 totInfo rfl (by omega) L k cL (out.flatMap Tot.cells) (by rfl) (O6.alloc (.cells #[.string zc, .int .i64 zm, .int .i64 zs] 30)) (some ⟨w6.heap.size, 0, none⟩) 1 1 [.string zc, .int .i64 zm, .int .i64 zs] (by rfl) (lies_new _ _ _) (by rfl) (by intro u hu; simp at hu; rcases hu with rfl | rfl | rfl <;> rfl) (by omega) (by omega) (by have := G6.size; simp; omega) ?_
               intro L3 cL3 w3 hown3 hg3 _
               have j1 := ((World.grownBy_alloc w6 (.cells #[.string zc, .int .i64 zm, .int .i64 zs] 30) none).cell k1 (by simp))
               have i1 := (HA.out.ba g rfl)
               have i2 := (HA.out.bb g' rfl)
               have hnb : ∀ b, blockOf L = some b → w.heap.size ≤ b := fun b hb => (O6.block hb).1
               have m1 := hg3.cell ((World.grownBy_alloc w6 (.cells #[.string zc, .int .i64 zm, .int .i64 zs] 30) none).cell k1 (by simp)) (fun e => by have := hnb _ e.symm; simp at this; omega)
               have m2 := hg3.cell ((World.grownBy_alloc w6 (.cells #[.string zc, .int .i64 zm, .int .i64 zs] 30) none).cell k2 (by simp)) (fun e => by have := hnb _ e.symm; simp at this; omega)
               have m3 := hg3.cell ((World.grownBy_alloc w6 (.cells #[.string zc, .int .i64 zm, .int .i64 zs] 30) none).cell k3 (by simp)) (fun e => by have := hnb _ e.symm; simp at this; omega)
               have m4 := hg3.cell ((World.grownBy_alloc w6 (.cells #[.string zc, .int .i64 zm, .int .i64 zs] 30) none).cell k4 (by simp)) (fun e => by have := hnb _ e.symm; simp at this; omega)
               have m5 := hg3.cell ((World.grownBy_alloc w6 (.cells #[.string zc, .int .i64 zm, .int .i64 zs] 30) none).cell k5 (by simp)) (fun e => by have := hnb _ e.symm; simp at this; omega)
               have m6 := hg3.cell ((World.grownBy_alloc w6 (.cells #[.string zc, .int .i64 zm, .int .i64 zs] 30) none).cell k6 (by simp)) (fun e => by have := hnb _ e.symm; simp at this; omega)))
        have ST := HA.out.two hgq6 (z := ⟨zc, zm, zs⟩) hown3 hg3 ((merge_eq HQ.out).trans (by rw [HZ.out]))
        clear hown3 hg3 hg6 hgq6 hgq2 m1 m2 m3 m4 m5 m6 k1 k2 k3 k4 k5 k6
        go_wp2_with fail
        go_roundw
        case rel => exact ⟨_, _, _, _, _, _, _, _, _, _, _, _, rfl, rfl, by go_num, ST⟩
        case measure => simp [lenV]; omega
      · have HQ := hid q
        have hl : Op.bytesLess xc.toList yc.toList = false := sl_not q
        have hl2 : (xc.toList == yc.toList) = false := by rw [beq_bytes]; exact decide_eq_false (sl_ne q).symm
        clear q
        go_wp2_with fail
        refine wp_region_quiet_below (by kernel_rfl) (by kernel_rfl) ?_
        repeat (first | go_big_quiet_step (((first | (go_at_call_of 27 (Value.int IntKind.i64 xm); refine Calls.regrown_of (v := .string xc) ((e1 _).mono ?_); (rintro e w' ⟨he, hg⟩; exact ⟨he, gr_below hg⟩)) | (go_at_call 27; refine Calls.regrown_of (v := .string yc) ((e2 _).mono ?_); (rintro e w' ⟨he, hg⟩; exact ⟨he, gr_below hg⟩))))) | quiet_step (((first | (go_at_call_of 27 (Value.int IntKind.i64 xm); refine Calls.regrown_of (v := .string xc) ((e1 _).mono ?_); (rintro e w' ⟨he, hg⟩; exact ⟨he, gr_below hg⟩)) | (go_at_call 27; refine Calls.regrown_of (v := .string yc) ((e2 _).mono ?_); (rintro e w' ⟨he, hg⟩; exact ⟨he, gr_below hg⟩))))))
        refine wpQuiet_nil ?_
        intro _ hw'
        obtain ⟨⟨dq, osq⟩, hw''⟩ := hw'
        subst hw''
        have hgq := gr_of_below (below_regrown wr dq osq) none
        generalize Sort.grow (redrawn wr dq) osq = w2 at *
        have xa2 := hgq.cell xa (by simp)
        have xb2 := hgq.cell xb (by simp)
        have xd2 := hgq.cell xd (by simp)
        have ya2 := hgq.cell ya (by simp)
        have yb2 := hgq.cell yb (by simp)
        have yd2 := hgq.cell yd (by simp)
        clear c1 c2 c3 c4 c5 c6 xa xb xd ya yb yd
        have c1 := fun d os => cell_regrown xa2 d os
        have c2 := fun d os => cell_regrown xb2 d os
        have c3 := fun d os => cell_regrown xd2 d os
        have c4 := fun d os => cell_regrown ya2 d os
        have c5 := fun d os => cell_regrown yb2 d os
        have c6 := fun d os => cell_regrown yd2 d os
        go_wp2_with fail
        refine wp_region_quiet_below (by kernel_rfl) (by kernel_rfl) ?_
        repeat (first | go_big_quiet_step (((first | (go_at_call_of 27 (Value.int IntKind.i64 xm); refine Calls.regrown_of (v := .string xc) ((e1 _).mono ?_); (rintro e w' ⟨he, hg⟩; exact ⟨he, gr_below hg⟩)) | (go_at_call 27; refine Calls.regrown_of (v := .string yc) ((e2 _).mono ?_); (rintro e w' ⟨he, hg⟩; exact ⟨he, gr_below hg⟩))))) | quiet_step (((first | (go_at_call_of 27 (Value.int IntKind.i64 xm); refine Calls.regrown_of (v := .string xc) ((e1 _).mono ?_); (rintro e w' ⟨he, hg⟩; exact ⟨he, gr_below hg⟩)) | (go_at_call 27; refine Calls.regrown_of (v := .string yc) ((e2 _).mono ?_); (rintro e w' ⟨he, hg⟩; exact ⟨he, gr_below hg⟩))))))
        refine wpQuiet_nil ?_
        intro _ hw'
        obtain ⟨⟨dq, osq⟩, hw''⟩ := hw'
        subst hw''
        have hgq2 := gr_0 hgq (gr_of_below (below_regrown w2 dq osq) none)
        have hgq3 := gr_of_below (below_regrown w2 dq osq) none
        generalize Sort.grow (redrawn w2 dq) osq = w5 at *
        have O5 := HA.out.own.kept0 hgq2
        have G5 := gr_0 HA.out.gr hgq2
        have xa5 := hgq3.cell xa2 (by simp)
        have xb5 := hgq3.cell xb2 (by simp)
        have xd5 := hgq3.cell xd2 (by simp)
        have ya5 := hgq3.cell ya2 (by simp)
        have yb5 := hgq3.cell yb2 (by simp)
        have yd5 := hgq3.cell yd2 (by simp)
        clear c1 c2 c3 c4 c5 c6 e1 e2 xa2 xb2 xd2 ya2 yb2 yd2 hgq hgq3
        go_wp2_with (at_builtin; refine wpList_push _ rfl _ _ 23 rfl w.heap.size 30 Try.underlying23 totInfo rfl (by omega) L k cL (out.flatMap Tot.cells) rfl (O5.alloc (.cells #[.string yc, .int .i64 ym, .int .i64 ys1] 30)) _ 1 #[.string yc, .int .i64 ym, .int .i64 ys1] rfl (Full.newAt (by simp)) rfl (by intro u hu; simp at hu; rcases hu with rfl | rfl | rfl <;> rfl) (by omega) (by omega) (Nat.le_trans G5.size (World.grownBy_alloc _ _ none).size) ?_; intro L3 cL3 w3 hown3 hg3 _)
        have ST := HA.out.snd hgq2 (y := ⟨yc, ym, ys1⟩) hown3 hg3 (merge_gt HQ.out)
        clear hown3 hg3
        go_wp2_with fail
        go_roundw
        case rel => exact ⟨_, _, _, _, _, _, _, _, _, _, _, _, rfl, rfl, by go_num, ST⟩
        case measure => simp [lenV]; omega

set_option maxHeartbeats 1000000 in
theorem joined_any (A : Option Addr) (n cA : Nat) (la : List Tot) (B : Option Addr) (m cB : Nat) (lb : List Tot) (w : World)
    (hA : Lies w A (la.flatMap Tot.cells)) (hn : la.length = n) (hcA : n ≤ cA) (hMA : cA ≤ maxLen) (hbA : ∀ g, blockOf A = some g → g < w.heap.size) (hoA : ∀ x ∈ la, totB x = true)
    (hB : Lies w B (lb.flatMap Tot.cells)) (hm : lb.length = m) (hcB : m ≤ cB) (hMB : cB ≤ maxLen) (hbB : ∀ g, blockOf B = some g → g < w.heap.size) (hoB : ∀ x ∈ lb, totB x = true) (hle : n + m ≤ 1000) :
    Calls Try.prog 24 #[.slice A n cA, .slice B m cB] w (TlTo w (mergeT la lb)) := by
  have e1 := jn_any A n cA la B m cB lb w hA hn hcA hMA hbA hoA hB hm hcB hMB hbB hoB hle
  clear hA hn hbA hoA hB hm hbB hoB
  go_enter Try.func24, Try.ntmps24
  go_wp2_with fail
  refine e1.mono ?_
  rintro e w1 ⟨A', n', c', rfl, hO, hl, hg⟩
  have HL := hid hl
  clear hl e1
  go_wp2_with fail
  go_ret
  exact ⟨A', n', c', rfl, hO, HL.out, hg⟩
end Go.Proofs.Ytokhkgimmijoaaa
