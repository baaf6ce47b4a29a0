/- (*rowTree).with, (*rowTree).rowsBehind. -/
import Derived.Test.YtnegoaaddaofiaaTreeF
namespace Go.Proofs.Ytnegoaaddaofiaa
open Go.RowKit

/-- Only the blocks of S and what is new may differ. -/
structure Upto (S : List Nat) (w w' : World) : Prop where
  os : w'.os = w.os
  tape : w'.tape = w.tape
  output : w'.output = w.output
  size : w.heap.size ≤ w'.heap.size
  block : ∀ i, i < w.heap.size → i ∉ S → w'.heap[i]? = w.heap[i]?
section
variable {a b c w w' : World} {S R : List Nat}
theorem Upto.refl (w : World) (S : List Nat) : Upto S w w := ⟨rfl, rfl, rfl, Nat.le_refl _, fun _ _ _ => rfl⟩
theorem Upto.trans (h : Upto S a b) (k : Upto R b c) (hs : ∀ i ∈ R, i ∈ S ∨ a.heap.size ≤ i) : Upto S a c :=
  ⟨k.os.trans h.os, k.tape.trans h.tape, k.output.trans h.output, Nat.le_trans h.size k.size, fun i hi h1 => (k.block i (Nat.lt_of_lt_of_le hi h.size) (fun e => by
    rcases hs i e with e' | e'
    · exact h1 e'
    · omega)).trans (h.block i hi h1)⟩
theorem Upto.of_gr {row : Option Nat} (h : a.grownBy b row) (hr : ∀ i, row = some i → i ∈ S) : Upto S a b :=
  ⟨h.os, h.tape, h.output, h.size, fun i hi hn => h.block i hi (fun e => hn (hr i e.symm))⟩
theorem Upto.sub (h : Upto R a b) (hs : ∀ i ∈ R, i ∈ S) : Upto S a b := ⟨h.os, h.tape, h.output, h.size, fun i hi hn => h.block i hi (fun e => hn (hs i e))⟩
theorem Upto.alloc (h : Upto S a b) (o : Obj) : Upto S a (b.alloc o) := h.trans (Upto.of_gr (World.grownBy_alloc b o none) (by simp)) (fun _ hi => .inl hi)
theorem Upto.put (w : World) (g i : Nat) (u : Value) : Upto [g] w (w.setCell ⟨g, i, none⟩ u) := Upto.of_gr (row := some g) (gr_set (gr_refl w _) (.inl rfl) u) (fun i e => by injection e with e; simp [e])
theorem Upto.gr (h : Upto S b c) (k : a.grownBy b none) (hs : ∀ i ∈ S, a.heap.size ≤ i) : a.grownBy c none :=
  ⟨h.os.trans k.os, h.tape.trans k.tape, h.output.trans k.output, Nat.le_trans k.size h.size, fun i hi hne => (h.block i (Nat.lt_of_lt_of_le hi k.size) (fun e => by have := hs i e; omega)).trans (k.block i hi hne)⟩
theorem Full.upto {g : Nat} {t : TypeId} {cs : Array Value} (h : Full a g t cs) (k : Upto S a b) (hg : g ∉ S) : Full b g t cs := (k.block g h.lt hg).trans h
theorem Own.upto {base : Nat} {e : TypeId} {sz n c : Nat} {A : Option Addr} {xs : List Value} (h : Own a base e sz A n c xs) (k : Upto S a b) (hr : ∀ g, blockOf A = some g → g ∉ S) : Own b base e sz A n c xs := by
  refine ⟨h.1, ?_⟩
  rcases h.2 with h2 | ⟨g, cap, cur, hv, hb, hh, q⟩
  · exact .inl h2
  · have hv' := hv
    injection hv' with e1 _ _
    exact .inr ⟨g, cap, cur, hv, hb, (k.block g (by
      have := (Array.getElem?_eq_some_iff.1 hh).1
      exact this) (hr g (by rw [e1]; rfl))).trans hh, q⟩
theorem RT.At.upto {B : Nat} (k : Upto S a b) : ∀ {T : RT}, T.At a B → (∀ i ∈ T.blocks, i ∉ S) → T.At b B
  | .nil, _, _ => trivial
  | .node g r l t, ⟨h1, h2, h3, h4, h5, h6⟩, hs => by
    simp only [RT.blocks, List.mem_cons, List.mem_append, Option.mem_toList] at hs
    exact ⟨h1, h2.upto k (hs g (.inl rfl)), h3.upto k (fun i hi => hs i (.inr (.inl hi))), h4, RT.At.upto k h5 (fun i hi => hs i (.inr (.inr (.inl hi)))), RT.At.upto k h6 (fun i hi => hs i (.inr (.inr (.inr hi))))⟩
/-- What writes into a block of rows leaves a tree as it is. -/
theorem RT.At.row {B : Nat} {cs : Array Value} {g0 : Nat} (hf : Full a g0 33 cs) (k : a.grownBy b (some g0)) : ∀ {T : RT}, T.At a B → T.At b B
  | .nil, _ => trivial
  | .node g r l t, ⟨h1, h2, h3, h4, h5, h6⟩ =>
    ⟨h1, h2.grown k (fun e => by injection e with e; exact h2.ne hf (by decide) e), h3.apart k (fun i hi e => by injection e with e; exact h3.ne_full hf (by decide) i hi e), h4, RT.At.row hf k h5, RT.At.row hf k h6⟩
theorem RT.At.rowOf {B B0 n c : Nat} {A : Option Addr} {xs : List Value} (ho : Own a B0 33 2 A n c xs) (k : a.grownBy b (blockOf A)) {T : RT} (h : T.At a B) : T.At b B := by
  cases hA : blockOf A with
  | none => rw [hA] at k; exact h.grown0 k
  | some g =>
    obtain ⟨cur, hf⟩ := ho.full hA
    rw [hA] at k
    exact RT.At.row hf k h
end

/-- What the tree's rows are with a position more. -/
def addT (key : ByteArray) (p : Int) : RT → List (ByteArray × List Int)
  | .nil => [(key, [p])]
  | .node _ r l t => if sl key r.k = true then addT key p l ++ r.sem :: rsem t.rows else if sl r.k key = true then rsem l.rows ++ r.sem :: addT key p t else rsem l.rows ++ (r.k, r.xs ++ [p]) :: rsem t.rows

def WthEnds (key : ByteArray) (p : Int) (T : RT) (w : World) (B : Nat) (e : Ending) (w' : World) : Prop :=
  ∃ (T' : RT) (q : Option Addr), e = .returned (.pointer q) ∧ T'.ptr = q ∧ T'.At w' B ∧ (∀ b ∈ T'.blocks, b ∈ T.blocks ∨ w.heap.size ≤ b) ∧ rsem T'.rows = addT key p T ∧ Upto T.blocks w w'

set_option maxHeartbeats 4000000 in
theorem wth_any (key : ByteArray) (p : Int) (hkey : key.size ≤ maxLen) : ∀ (T : RT) (w : World) (B : Nat) (q0 : Option Addr), T.At w B → T.blocks.Nodup → T.ptr = q0 → B ≤ w.heap.size → (∀ r ∈ T.rows, r.n ≤ 1000) →
    Calls Try.prog 28 #[.pointer q0, .string key, .int .i64 p] w (WthEnds key p T w B) := by
  have HKey := hid hkey
  clear hkey
  intro T
  induction T with
  | nil =>
    intro w B q0 _ _ hq hB _
    obtain rfl : none = q0 := hq
    go_enter Try.func28, Try.ntmps28
    go_wp2_with fail
    go_ret
    refine ⟨.node (w.heap.size + 1) ⟨key, some ⟨w.heap.size, 0, none⟩, 1, 1, [p]⟩ .nil .nil, _, rfl, rfl, ⟨by omega, Full.newAt (by simp), (Own.lit w #[.int .i64 p] 1 hB (by simp [maxLen]) rfl).alloc _, ⟨rfl, HKey.out⟩, trivial, trivial⟩, ?_, rfl, (((Upto.refl w _).alloc _).alloc _)⟩
    intro b hb
    simp [RT.blocks, blockOf] at hb
    exact .inr (by omega)
  | node g r l t IHl IHt =>
    intro w B q0 hT hnd hq hB hsm
    obtain rfl : some ⟨g, 0, none⟩ = q0 := hq
    obtain ⟨lp, hlp⟩ : ∃ q, l.ptr = q := ⟨_, rfl⟩
    obtain ⟨tp, htp⟩ : ∃ q, t.ptr = q := ⟨_, rfl⟩
    have HND := hid hnd
    have HSM := hid hsm
    have HBl := hid hT.block
    obtain ⟨hBg, hf, hO, hlen, h5, h6⟩ := hT
    have il := hid (IHl w B lp h5 (by simp only [RT.blocks, List.nodup_cons, List.nodup_append] at hnd; exact hnd.2.2.1.1) hlp hB (fun x hx => hsm x (by simp [RT.rows, hx])))
    have it := hid (IHt w B tp h6 (by simp only [RT.blocks, List.nodup_cons, List.nodup_append] at hnd; exact hnd.2.2.1.2.1) htp hB (fun x hx => hsm x (by simp [RT.rows, hx])))
    have hrn := hsm r (by simp [RT.rows])
    have hgl : g < w.heap.size := hf.lt
    have HF := hid hf
    have HO := hid hO
    have HLen := hid hlen
    have HL := hid (And.intro hlp h5)
    have HT := hid (And.intro htp h6)
    rw [hlp, htp] at hf
    have HF2 := hid hf
    have c0 := hf.cellAt 0 rfl
    have c1 := hf.cellAt 1 rfl
    have c2 := hf.cellAt 2 rfl
    have c3 := hf.cellAt 3 rfl
    obtain ⟨rk, ra, rn, rc, rx⟩ := r
    dsimp only at c0 c1 c2 c3 hrn
    have hnb : g ∉ l.blocks ∧ g ∉ t.blocks ∧ (∀ i, blockOf ra = some i → i ≠ g ∧ i ∉ l.blocks ∧ i ∉ t.blocks) ∧ (∀ i ∈ l.blocks, i ∉ t.blocks) := by
      simp only [RT.blocks, List.nodup_cons, List.nodup_append, List.mem_append, Option.mem_toList, not_or] at hnd
      refine ⟨hnd.1.2.1, hnd.1.2.2, fun i hi => ⟨fun e => hnd.1.1 (by rw [← e]; exact hi), fun hm => hnd.2.2.2 i hi i (.inl hm) rfl, fun hm => hnd.2.2.2 i hi i (.inr hm) rfl⟩, fun i hi hm => hnd.2.2.1.2.2 i hi i hm rfl⟩
    have HNB := hid hnb
    clear hnd hsm hf hO hlen hlp htp h5 h6 IHl IHt hnb
    go_enter Try.func28, Try.ntmps28
    by_cases e1 : sl key rk = true
    · have k1 : Op.bytesLess key.toList rk.toList = true := e1
      have HE := hid (show addT key p (.node g ⟨rk, ra, rn, rc, rx⟩ l t) = addT key p l ++ (rk, rx) :: rsem t.rows by rw [addT, if_pos e1]; rfl)
      clear e1
      go_wp2_with fail
      refine il.out.mono ?_
      rintro e w1 ⟨T1, q1, rfl, hq1, hA1, hb1, hr1, hu1⟩
      have F1 := HF2.out.upto hu1 HNB.out.1
      have d2 := F1.cellAt 2 rfl
      have f2 := F1.free 2
      have hF1 := hid F1
      have hO1 := hid (HO.out.upto hu1 (fun i hi => (HNB.out.2.2.1 i hi).2.1))
      have hS1 := hid (HT.out.2.upto hu1 (fun i (hi : i ∈ t.blocks) (hm : i ∈ l.blocks) => HNB.out.2.2.2 i hm hi))
      have hP := hid (And.intro hq1 hA1)
      have hB1 := hid hb1
      have hR1 := hid hr1
      have hU1 := hid hu1
      have GN : g ∉ T1.blocks := fun hm => by
        rcases hb1 g hm with h | h
        · exact HNB.out.1 h
        · omega
      have HGN := hid GN
      clear F1 hq1 hA1 hb1 hr1 hu1 GN il it
      go_wp2_with fail
      go_ret
      have U2 := Upto.put w1 g 2 (.pointer q1)
      refine ⟨.node g ⟨rk, ra, rn, rc, rx⟩ T1 t, _, rfl, rfl, ⟨hBg, ?_, hO1.out.upto U2 (fun i hi hm => (HNB.out.2.2.1 i hi).1 (List.mem_singleton.1 hm)), HLen.out, ?_, ?_⟩, ?_, ?_, ?_⟩
      · have F2 := hF1.out.set 2 (.pointer q1)
        rw [hP.out.1, HT.out.1]
        exact F2
      · exact hP.out.2.upto U2 (fun i hi hm => by rw [List.mem_singleton.1 hm] at hi; exact HGN.out hi)
      · exact hS1.out.upto U2 (fun i hi hm => by rw [List.mem_singleton.1 hm] at hi; exact HNB.out.2.1 hi)
      · intro b hb
        simp only [RT.blocks, List.mem_cons, List.mem_append, Option.mem_toList] at hb ⊢
        rcases hb with h | h | h | h
        · exact .inl (.inl h)
        · exact .inl (.inr (.inl h))
        · rcases hB1.out b h with h | h
          · exact .inl (.inr (.inr (.inl h)))
          · exact .inr h
        · exact .inl (.inr (.inr (.inr h)))
      · rw [HE.out, rows_node]
        rw [hR1.out]; rfl
      · exact (hU1.out.sub (fun i hi => by simp [RT.blocks, hi])).trans U2 (fun i hi => .inl (by simp at hi; simp [RT.blocks, hi]))
    · have k1 : Op.bytesLess key.toList rk.toList = false := Bool.eq_false_iff.2 e1
      by_cases e2 : sl rk key = true
      · have k0 : key.toList ≠ rk.toList := fun x => sl_ne e2 (toList_inj x).symm
        have k2 : (key.toList == rk.toList) = false := by simpa using k0
        have k3 : Op.bytesLess rk.toList key.toList = true := e2
        have HE := hid (show addT key p (.node g ⟨rk, ra, rn, rc, rx⟩ l t) = rsem l.rows ++ (rk, rx) :: addT key p t by rw [addT, if_neg e1, if_pos e2]; rfl)
        clear e1 e2 k0
        go_wp2_with fail
        refine it.out.mono ?_
        rintro e w1 ⟨T1, q1, rfl, hq1, hA1, hb1, hr1, hu1⟩
        have F1 := HF2.out.upto hu1 HNB.out.2.1
        have d3 := F1.cellAt 3 rfl
        have f3 := F1.free 3
        have hF1 := hid F1
        have hO1 := hid (HO.out.upto hu1 (fun i hi => (HNB.out.2.2.1 i hi).2.2))
        have hS1 := hid (HL.out.2.upto hu1 (fun i (hi : i ∈ l.blocks) (hm : i ∈ t.blocks) => HNB.out.2.2.2 i hi hm))
        have hP := hid (And.intro hq1 hA1)
        have hB1 := hid hb1
        have hR1 := hid hr1
        have hU1 := hid hu1
        have GN : g ∉ T1.blocks := fun hm => by
          rcases hb1 g hm with h | h
          · exact HNB.out.2.1 h
          · omega
        have HGN := hid GN
        clear F1 hq1 hA1 hb1 hr1 hu1 GN il it
        go_wp2_with fail
        go_ret
        have U2 := Upto.put w1 g 3 (.pointer q1)
        refine ⟨.node g ⟨rk, ra, rn, rc, rx⟩ l T1, _, rfl, rfl, ⟨hBg, ?_, hO1.out.upto U2 (fun i hi hm => (HNB.out.2.2.1 i hi).1 (List.mem_singleton.1 hm)), HLen.out, ?_, ?_⟩, ?_, ?_, ?_⟩
        · have F2 := hF1.out.set 3 (.pointer q1)
          rw [HL.out.1, hP.out.1]
          exact F2
        · exact hS1.out.upto U2 (fun i hi hm => by rw [List.mem_singleton.1 hm] at hi; exact HNB.out.1 hi)
        · exact hP.out.2.upto U2 (fun i hi hm => by rw [List.mem_singleton.1 hm] at hi; exact HGN.out hi)
        · intro b hb
          simp only [RT.blocks, List.mem_cons, List.mem_append, Option.mem_toList] at hb ⊢
          rcases hb with h | h | h | h
          · exact .inl (.inl h)
          · exact .inl (.inr (.inl h))
          · exact .inl (.inr (.inr (.inl h)))
          · rcases hB1.out b h with h | h
            · exact .inl (.inr (.inr (.inr h)))
            · exact .inr h
        · rw [HE.out, rows_node]
          rw [hR1.out]; rfl
        · exact (hU1.out.sub (fun i hi => by simp [RT.blocks, hi])).trans U2 (fun i hi => .inl (by simp at hi; simp [RT.blocks, hi]))
      · have k0 : key = rk := by
          rcases sl_tri key rk with q | q | q
          · exact absurd q e1
          · exact q
          · exact absurd q e2
        have k2 : (key.toList == rk.toList) = true := by rw [k0]; simp
        have k3 : Op.bytesLess rk.toList key.toList = false := Bool.eq_false_iff.2 e2
        have HE := hid (show addT key p (.node g ⟨rk, ra, rn, rc, rx⟩ l t) = rsem l.rows ++ (rk, rx ++ [p]) :: rsem t.rows by rw [addT, if_neg e1, if_neg e2])
        clear e1 e2 k0
        have hcap := HO.out.cap
        go_wp2_with (at_builtin; refine wpList_push _ rfl _ _ 29 rfl B 3 Try.underlying29 intInfo rfl (by omega) ra rn rc (ints rx) rfl (HO.out.alloc _) _ 1 #[.int .i64 p] rfl (Full.newAt (by simp)) rfl (by intro u hu; simp at hu; subst hu; rfl) (by omega) (by omega) (by simp; omega) ?_
                     intro A6 c6 w6 hown6 hg6 hb6
                     have F6 := hid ((HF2.out.alloc (.cells #[.int .i64 p] 3)).grown hg6 (fun e => (HNB.out.2.2.1 g e.symm).1 rfl))
                     have f61 := F6.out.cellAt 1 (v := .slice ra rn rc) rfl
                     have f6f := F6.out.free 1
                     have HO6 := hid hown6
                     have HG6 := hid hg6
                     have HB6 := hid hb6
                     clear hown6 hg6 hb6)
        go_ret
        have U1 : Upto (blockOf ra).toList w w6 := ((Upto.refl w _).alloc _).trans (Upto.of_gr (S := (blockOf ra).toList) HG6.out (fun i e => by simp [e])) (fun i hi => .inl hi)
        have U2 := Upto.put w6 g 1 (.slice A6 (rn + 1) c6)
        have hA6 : ∀ i, blockOf A6 = some i → blockOf ra = some i ∨ w.heap.size ≤ i := fun i hi => by
          rcases HB6.out with h | h
          · exact .inl (h ▸ hi)
          · rw [h] at hi; injection hi with hi; simp at hi; exact .inr (by omega)
        refine ⟨.node g ⟨rk, A6, rn + 1, c6, rx ++ [p]⟩ l t, _, rfl, rfl, ⟨hBg, ?_, ?_, ⟨by simp [HLen.out.1], HLen.out.2⟩, ?_, ?_⟩, ?_, ?_, ?_⟩
        · have F7 := F6.out.set 1 (.slice A6 (rn + 1) c6)
          rw [HL.out.1, HT.out.1]
          exact F7
        · have O7 := HO6.out.upto U2 (fun i hi hm => by
            rcases hA6 i hi with h | h
            · exact (HNB.out.2.2.1 i h).1 (List.mem_singleton.1 hm)
            · have := List.mem_singleton.1 hm; omega)
          rw [ints_snoc]
          exact O7
        · exact (HL.out.2.upto U1 (fun i hi hm => (HNB.out.2.2.1 i (Option.mem_toList.1 hm)).2.1 hi)).upto U2 (fun i hi hm => by rw [List.mem_singleton.1 hm] at hi; exact HNB.out.1 hi)
        · exact (HT.out.2.upto U1 (fun i hi hm => (HNB.out.2.2.1 i (Option.mem_toList.1 hm)).2.2 hi)).upto U2 (fun i hi hm => by rw [List.mem_singleton.1 hm] at hi; exact HNB.out.2.1 hi)
        · intro b hb
          simp only [RT.blocks, List.mem_cons, List.mem_append, Option.mem_toList] at hb ⊢
          rcases hb with h | h | h | h
          · exact .inl (.inl h)
          · rcases hA6 b h with h | h
            · exact .inl (.inr (.inl h))
            · exact .inr h
          · exact .inl (.inr (.inr (.inl h)))
          · exact .inl (.inr (.inr (.inr h)))
        · rw [HE.out, rows_node]; rfl
        · exact (U1.sub (fun i hi => by simp [RT.blocks] at hi ⊢; exact .inr (.inl hi))).trans U2 (fun i hi => .inl (by simp at hi; simp [RT.blocks, hi]))

/-- What rowsBehind leaves. -/
def RbEnds (w : World) (B0 : Nat) (A : Option Addr) (rs : List RRow) (e : Ending) (w' : World) : Prop :=
  ∃ (A' : Option Addr) (n' c' : Nat), e = .returned (.slice A' n' c') ∧ Own w' B0 33 2 A' n' c' (rcells rs) ∧ rs.length = n' ∧ w.grownBy w' (blockOf A) ∧ (∀ i, blockOf A' = some i → blockOf A = some i ∨ w.heap.size ≤ i)

set_option maxHeartbeats 4000000 in
theorem rb_any (B0 : Nat) : ∀ (T : RT) (w : World) (B : Nat) (q0 : Option Addr) (A : Option Addr) (n c : Nat) (ors : List RRow), T.At w B → T.ptr = q0 → Own w B0 33 2 A n c (rcells ors) → ors.length = n → n + T.rows.length ≤ 100000 → B0 ≤ w.heap.size →
    Calls Try.prog 29 #[.pointer q0, .slice A n c] w (RbEnds w B0 A (ors ++ T.rows)) := by
  intro T
  induction T with
  | nil =>
    intro w B q0 A n c ors _ hq hO hl _ _
    obtain rfl : none = q0 := hq
    have HO := hid hO
    have HLn := hid hl
    clear hO hl
    go_enter Try.func29, Try.ntmps29
    go_wp2_with fail
    go_ret
    exact ⟨A, n, c, rfl, by simp only [RT.rows, List.append_nil]; exact HO.out, by simp only [RT.rows, List.append_nil]; exact HLn.out, gr_refl _ _, fun i hi => .inl hi⟩
  | node g r l t IHl IHt =>
    intro w B q0 A n c ors hT hq hO hl hn hB0
    obtain rfl : some ⟨g, 0, none⟩ = q0 := hq
    obtain ⟨lp, hlp⟩ : ∃ q, l.ptr = q := ⟨_, rfl⟩
    obtain ⟨tp, htp⟩ : ∃ q, t.ptr = q := ⟨_, rfl⟩
    have hn2 : n + (l.rows.length + (t.rows.length + 1)) ≤ 100000 := by simpa [RT.rows] using hn
    have HTT := hid hT
    have HO := hid hO
    have HLn := hid hl
    have HP := hid (And.intro hlp htp)
    have il := IHl w B lp A n c ors hT.2.2.2.2.1 hlp hO hl (by omega) hB0
    have HIt := hid IHt
    have c2 := hT.2.1.cellAt 2 (v := .pointer lp) (by rw [hlp]; rfl)
    clear IHl IHt hT hO hl hlp htp hn
    go_enter Try.func29, Try.ntmps29
    go_wp2_with fail
    refine il.mono ?_
    rintro e w1 ⟨A1, n1, c1, rfl, hO1, hl1, hg1, hb1⟩
    have hT1 := RT.At.rowOf HO.out hg1 HTT.out
    have d0 := hT1.2.1.cellAt 0 rfl
    have d1 := hT1.2.1.cellAt 1 rfl
    have HT1 := hid hT1
    have HO1 := hid hO1
    have HL1 := hid hl1
    have hn1 : n1 = n + l.rows.length := by rw [← hl1, List.length_append, HLn.out]
    have HG1 := hid hg1
    have HB1 := hid hb1
    have s1 := hg1.size
    have hn1' : n1 + 1 ≤ 100000 := by omega
    have HN1 := hid hn1
    clear hT1 hO1 hl1 hg1 hb1 il c2 hn1
    obtain ⟨rk, ra, rn, rc, rx⟩ := r
    dsimp only at d0 d1
    go_wp2_with (at_builtin; refine wpList_push _ rfl _ _ 23 rfl B0 33 Try.underlying23 rowInfo rfl (by omega) A1 n1 c1 (rcells (ors ++ l.rows)) rfl (HO1.out.alloc _) _ 1 #[.string rk, .slice ra rn rc] rfl (Full.newAt (by simp)) rfl (by intro u hu; simp at hu; rcases hu with rfl | rfl <;> rfl) (by omega) (by omega) (by simp; omega) ?_
                 intro A2 c2 w2 hO2 hg2 hb2
                 have hT2 := RT.At.rowOf (HO1.out.alloc _) hg2 (HT1.out.alloc _)
                 have d3 := hT2.2.1.cellAt 3 (v := .pointer tp) (by rw [HP.out.2]; rfl)
                 have HT2 := hid hT2
                 have HO2 := hid (show Own w2 B0 33 2 A2 (n1 + 1) c2 (rcells (ors ++ l.rows ++ [⟨rk, ra, rn, rc, rx⟩])) by rw [rcells_snoc]; exact hO2)
                 have HG2 := hid hg2
                 have HB2 := hid hb2
                 have s2 := hg2.size
                 clear hT2 hO2 hg2 hb2 d0 d1)
    have s2' : w1.heap.size + 1 ≤ w2.heap.size := by simpa using s2
    refine (HIt.out w2 B tp A2 (n1 + 1) c2 (ors ++ l.rows ++ [⟨rk, ra, rn, rc, rx⟩]) HT2.out.2.2.2.2.2 HP.out.2 HO2.out (by rw [List.length_append, HL1.out]; rfl) (by have := HN1.out; omega) (by omega)).mono ?_
    rintro e w3 ⟨A3, n3, c3, rfl, hO3, hl3, hg3, hb3⟩
    have er : ors ++ (RT.node g ⟨rk, ra, rn, rc, rx⟩ l t).rows = ors ++ l.rows ++ [⟨rk, ra, rn, rc, rx⟩] ++ t.rows := by simp [RT.rows]
    have HE := hid er
    have HO3 := hid hO3
    have HL3 := hid hl3
    have HG3 := hid hg3
    have HB3 := hid hb3
    clear er hO3 hl3 hg3 hb3 d3
    go_wp2_with fail
    go_ret
    have hbb : ∀ i, blockOf A2 = some i → blockOf A = some i ∨ w.heap.size ≤ i := fun i hi => by
      rcases HB2.out with h | h
      · exact HB1.out i (h ▸ hi)
      · rw [h] at hi; injection hi with hi; simp at hi; exact .inr (by omega)
    refine ⟨A3, n3, c3, rfl, by rw [HE.out]; exact HO3.out, by rw [HE.out]; exact HL3.out, gr_then (gr_then (gr_alloc HG1.out _) HG2.out (fun i hi => ?_)) HG3.out (fun i hi => ?_), fun i hi => ?_⟩
    · rcases HB1.out i hi with h | h
      · exact .inl h.symm
      · exact .inr h
    · rcases hbb i hi with h | h
      · exact .inl h.symm
      · exact .inr h
    · rcases HB3.out i hi with h | h
      · exact hbb i h
      · exact .inr (by omega)
end Go.Proofs.Ytnegoaaddaofiaa
