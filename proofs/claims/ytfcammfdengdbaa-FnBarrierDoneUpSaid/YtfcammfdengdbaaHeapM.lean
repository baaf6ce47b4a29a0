/- The methods of openHeap; how they are found through an interface. -/
import Derived.Test.YtfcammfdengdbaaHeapLaw
import Derived.Test.YtfcammfdengdbaaApp
import Derived.Test.YtfcammfdengdbaaOwnSet
import Derived.Test.YtfcammfdengdbaaIn
import Derived.BigQuiet
import Derived.Deep.QuietTactic
import Derived.Deep.RegionHeld3
import Derived.Deep.RegionWith
namespace Go.Proofs.Ytfcammfdengdbaa
open Go.RowKit

/-- Only two blocks, and what is new, may differ. -/
structure Two (w w' : World) (r s : Option Nat) : Prop where
  os : w'.os = w.os
  tape : w'.tape = w.tape
  output : w'.output = w.output
  size : w.heap.size ≤ w'.heap.size
  block : ∀ i, i < w.heap.size → some i ≠ r → some i ≠ s → w'.heap[i]? = w.heap[i]?
section
variable {a b c w w' : World} {r s row : Option Nat}
theorem Two.refl (w : World) (r s : Option Nat) : Two w w r s := ⟨rfl, rfl, rfl, Nat.le_refl _, fun _ _ _ _ => rfl⟩
theorem Two.trans (h : Two a b r s) {s' : Option Nat} (k : Two b c r s') (hs : ∀ g, s' = some g → some g = s ∨ a.heap.size ≤ g) : Two a c r s :=
  ⟨k.os.trans h.os, k.tape.trans h.tape, k.output.trans h.output, Nat.le_trans h.size k.size, fun i hi h1 h2 => (k.block i (Nat.lt_of_lt_of_le hi h.size) h1 (fun e => by
    rcases hs i e.symm with e' | e'
    · exact h2 e'
    · omega)).trans (h.block i hi h1 h2)⟩
theorem Two.trans' (h : Two a b r s) (k : Two b c r s) : Two a c r s := h.trans k (fun _ e => .inl e.symm)
theorem Two.drewN (h : Two a b r s) (n : Nat) : Two a (b.drewN n) r s := ⟨h.os, h.tape, h.output, h.size, h.block⟩
theorem Two.left {g : Option Nat} (h : a.grownBy b g) (s : Option Nat) : Two a b g s := ⟨h.os, h.tape, h.output, h.size, fun i hi h1 _ => h.block i hi h1⟩
theorem Two.right {g : Option Nat} (h : a.grownBy b g) (r : Option Nat) : Two a b r g := ⟨h.os, h.tape, h.output, h.size, fun i hi _ h2 => h.block i hi h2⟩
theorem Two.none (h : a.grownBy b none) (r s : Option Nat) : Two a b r s := ⟨h.os, h.tape, h.output, h.size, fun i hi _ _ => h.block i hi (by simp)⟩
theorem Two.gr (h : Two b c r s) (k : a.grownBy b row) (hr : ∀ g, r = some g → a.heap.size ≤ g) (hs : ∀ g, s = some g → a.heap.size ≤ g) : a.grownBy c row :=
  ⟨h.os.trans k.os, h.tape.trans k.tape, h.output.trans k.output, Nat.le_trans k.size h.size, fun i hi hne => (h.block i (Nat.lt_of_lt_of_le hi k.size) (fun e => by have := hr i e.symm; omega) (fun e => by have := hs i e.symm; omega)).trans (k.block i hi hne)⟩
theorem Full.two {g : Nat} {t : TypeId} {cs : Array Value} (h : Full a g t cs) (k : Two a b r s) (hr : some g ≠ r) (hs : some g ≠ s) : Full b g t cs := (k.block g h.lt hr hs).trans h
theorem Own.two {base : Nat} {e : TypeId} {sz n c : Nat} {A : Option Addr} {xs : List Value} (h : Own a base e sz A n c xs) (k : Two a b r s) (hr : ∀ g, blockOf A = some g → some g ≠ r) (hs : ∀ g, blockOf A = some g → some g ≠ s) : Own b base e sz A n c xs := by
  refine ⟨h.1, ?_⟩
  rcases h.2 with h2 | ⟨g, cap, cur, hv, hb, hh, q⟩
  · exact .inl h2
  · have hv' := hv
    injection hv' with e1 _ _
    exact .inr ⟨g, cap, cur, hv, hb, (k.block g (by
      have := (Array.getElem?_eq_some_iff.1 hh).1
      exact this) (hr g (by rw [e1]; rfl)) (hs g (by rw [e1]; rfl))).trans hh, q⟩
end
/-- A shorter slice of an owned one. -/
theorem Own.take {w : World} {base : Nat} {e : TypeId} {s n c : Nat} {A : Option Addr} {xs : List Value} (h : Own w base e s A n c xs) {k : Nat} (hk : k ≤ n) : Own w base e s A k c (xs.take (k * s)) := by
  refine ⟨by rw [List.length_take, h.1]; exact Nat.min_eq_left (Nat.mul_le_mul_right s hk), ?_⟩
  rcases h.2 with ⟨hv, h0⟩ | ⟨g, cap, cur, hv, hb, hh, h1, h2, h3, h4⟩
  · injection hv with e1 e2 e3
    obtain rfl : k = 0 := by omega
    exact .inl ⟨by rw [e1, e3], rfl⟩
  · injection hv with e1 _ e3
    refine .inr ⟨g, cap, cur, by rw [e1, e3], hb, hh, by omega, h2, h3, ?_⟩
    rw [← h4, List.take_take, Nat.min_eq_left (Nat.mul_le_mul_right s hk)]

set_option maxHeartbeats 400000 in
theorem hlen_any (A : Option Addr) (n c : Nat) (w : World) : Calls Try.prog 36 #[.slice A n c] w fun e w' => e = .returned (.int .i64 (n : Int)) ∧ w = w' := by
  go_enter Try.func36, Try.ntmps36
  go_wp2_with fail
  go_ret
  exact ⟨rfl, rfl⟩

theorem getAt {w : World} {g : Nat} {xs : List Int} {k : Nat} (hcell : ∀ j u, (ints xs)[j]? = some u → w.cell? ⟨g, j, none⟩ = some u) (hk : k < xs.length) :
    w.cell? ⟨g, k, none⟩ = some (.int .i64 (xs.getD k 0)) := by
  have := hcell _ _ (ints_at xs k hk)
  rw [this, List.getD_eq_getElem?_getD, List.getElem?_eq_getElem hk]
  rfl

/-- What Less leaves. -/
def LessTo (w : World) (b : Bool) (e : Ending) (w' : World) : Prop := ∃ q, e = .returned (.bool b) ∧ w' = w.drewN q
set_option maxHeartbeats 400000 in
theorem hless_any (base : Nat) (A : Option Addr) (n c : Nat) (xs : List Int) (i j : Nat) (b : Bool) (w : World) (h : Own w base 3 1 A n c (ints xs)) (hl : xs.length = n) (hi : i < n) (hj : j < n) (hb : decide (xs.getD i 0 < xs.getD j 0) = b) :
    Calls Try.prog 63 #[.slice A n c, .int .i64 (i : Int), .int .i64 (j : Int)] w (LessTo w b) := by
  obtain ⟨g, cur, rfl, _, _, hcell⟩ := h.open_ (by omega)
  have ci := getAt hcell (k := i) (by omega)
  have cj := getAt hcell (k := j) (by omega)
  have i1 : (0 : Int) ≤ (i : Int) := by omega
  have i2 : (i : Int) < (n : Int) := by omega
  have j1 : (0 : Int) ≤ (j : Int) := by omega
  have j2 : (j : Int) < (n : Int) := by omega
  generalize xs.getD i 0 = x at ci hb
  generalize xs.getD j 0 = y at cj hb
  have HB := hid hb
  clear hcell h hl hb
  go_enter Try.func63, Try.ntmps63
  go_wp2_with fail
  go_quiet (fail)
  go_wp2_with fail
  go_ret
  exact ⟨_, ret_bool HB.out, rfl⟩

/-- What Swap leaves. -/
def SwapTo (w : World) (base : Nat) (A : Option Addr) (n c : Nat) (xs : List Int) (i j : Nat) (e : Ending) (w' : World) : Prop :=
  e = .returned (.tuple #[]) ∧ Own w' base 3 1 A n c (ints (swp xs i j)) ∧ w.grownBy w' (blockOf A)
theorem ints_set (xs : List Int) (i : Nat) (v : Int) : (ints xs).set i (.int .i64 v) = ints (xs.set i v) := by simp [ints, List.map_set]
set_option maxHeartbeats 400000 in
theorem hswap_any (base : Nat) (A : Option Addr) (n c : Nat) (xs : List Int) (i j : Nat) (w : World) (h : Own w base 3 1 A n c (ints xs)) (hl : xs.length = n) (hi : i < n) (hj : j < n) (hij : i ≠ j) :
    Calls Try.prog 66 #[.slice A n c, .int .i64 (i : Int), .int .i64 (j : Int)] w (SwapTo w base A n c xs i j) := by
  obtain ⟨g, cur, rfl, _, hF, hcell⟩ := h.open_ (by omega)
  have ci := getAt hcell (k := i) (by omega)
  have cj := getAt hcell (k := j) (by omega)
  have fi := hF.free i
  have fj := hF.free j
  have i1 : (0 : Int) ≤ (i : Int) := by omega
  have i2 : (i : Int) < (n : Int) := by omega
  have j1 : (0 : Int) ≤ (j : Int) := by omega
  have j2 : (j : Int) < (n : Int) := by omega
  have HS1 := hid (show ints (swp xs i j) = ((ints xs).set i (.int .i64 (xs.getD j 0))).set j (.int .i64 (xs.getD i 0)) by rw [ints_set, ints_set]; rfl)
  have HS2 := hid (show ints (swp xs i j) = ((ints xs).set j (.int .i64 (xs.getD i 0))).set i (.int .i64 (xs.getD j 0)) by rw [HS1.out, List.set_comm _ _ hij])
  generalize xs.getD i 0 = x at ci HS1 HS2
  generalize xs.getD j 0 = y at cj HS1 HS2
  have HO := hid h
  clear hcell h hl
  go_enter Try.func66, Try.ntmps66
  go_wp2_with fail
  go_region_law (fail)
  all_goals
    go_end0
    first
      | exact ⟨rfl, by rw [HS1.out]; exact ((HO.out.set i (.int .i64 y)).set j (.int .i64 x)).drew, gr_drew (gr_set (p := ⟨g, j, none⟩) (gr_set (p := ⟨g, i, none⟩) (gr_refl w _) (.inl rfl) _) (.inl rfl) _)⟩
      | exact ⟨rfl, by rw [HS2.out]; exact ((HO.out.set j (.int .i64 x)).set i (.int .i64 y)).drew, gr_drew (gr_set (p := ⟨g, i, none⟩) (gr_set (p := ⟨g, j, none⟩) (gr_refl w _) (.inl rfl) _) (.inl rfl) _)⟩
/-- A place exchanged with itself. -/
theorem hswap_same (base : Nat) (A : Option Addr) (n c : Nat) (xs : List Int) (i : Nat) (w : World) (h : Own w base 3 1 A n c (ints xs)) (hl : xs.length = n) (hi : i < n) :
    Calls Try.prog 66 #[.slice A n c, .int .i64 (i : Int), .int .i64 (i : Int)] w (SwapTo w base A n c xs i i) := by
  obtain ⟨g, cur, rfl, _, hF, hcell⟩ := h.open_ (by omega)
  have ci := getAt hcell (k := i) (by omega)
  have fi := hF.free i
  have i1 : (0 : Int) ≤ (i : Int) := by omega
  have i2 : (i : Int) < (n : Int) := by omega
  have HS1 := hid (show ints (swp xs i i) = ((ints xs).set i (.int .i64 (xs.getD i 0))).set i (.int .i64 (xs.getD i 0)) by rw [ints_set, ints_set]; rfl)
  generalize xs.getD i 0 = x at ci HS1
  have HO := hid h
  clear hcell h hl
  go_enter Try.func66, Try.ntmps66
  go_wp2_with fail
  go_region_law (fail)
  all_goals
    go_end0
    exact ⟨rfl, by rw [HS1.out]; exact ((HO.out.set i (.int .i64 x)).set i (.int .i64 x)).drew, gr_drew (gr_set (p := ⟨g, i, none⟩) (gr_set (p := ⟨g, i, none⟩) (gr_refl w _) (.inl rfl) _) (.inl rfl) _)⟩

/-- A heap in a variable of its own. -/
structure Hp (w : World) (base hb : Nat) (A : Option Addr) (n c : Nat) (xs : List Int) : Prop where
  full : Full w hb 48 #[.slice A n c]
  own : Own w base 3 1 A n c (ints xs)
  len : xs.length = n
  ge : base ≤ hb
section
variable {w w' : World} {base hb n c : Nat} {A : Option Addr} {xs : List Int}
theorem Hp.drewN (h : Hp w base hb A n c xs) (q : Nat) : Hp (w.drewN q) base hb A n c xs := ⟨h.full.drewN q, h.own.drewN q, h.len, h.ge⟩
theorem Hp.kept0 (h : Hp w base hb A n c xs) (hg : w.grownBy w' none) : Hp w' base hb A n c xs := ⟨h.full.grown hg (by simp), h.own.kept0 hg, h.len, h.ge⟩
theorem Hp.ne (h : Hp w base hb A n c xs) : ∀ g, blockOf A = some g → g ≠ hb := h.own.ne_full h.full (by decide)
end

/-- How the methods are found. -/
theorem meth_len (hb : Nat) (v : Value) (w : World) (hc : w.cell? ⟨hb, 0, none⟩ = some v) : (method 183 45 (.pointer (some ⟨hb, 0, none⟩)) "Len").run Try.prog w = .ok (36, v) w := by
  have hi : Try.prog.info? 45 = some Try.t45 := by kernel_rfl
  have hm : (Try.t45.methods.find? (·.name == "Len")).map (fun m => (m.path.toList, m.path.isEmpty, m.func)) = some ([], true, some (36, false)) := by kernel_rfl
  obtain ⟨m, hm, he⟩ := Option.map_eq_some_iff.1 hm
  injection he with he1 he
  injection he with he2 he
  have hu : Try.prog.underlying 45 = some (.pointer 48) := by kernel_rfl
  have ha : (loadVar 48 ⟨hb, 0, none⟩).run Try.prog w = .ok v w := by simp [go_sem, hc]
  unfold method
  simp only [Sem.run_bind, typeInfo, run_program, Result.andThen_ok, hi, Sem.run_pure, hm, he, he1, he2, follow, receiverAt, run_underlying hu, Place.get]
  have hw : ∀ (s : String), (Builtin.ssaWrapNilChk_ #[45] 45 #[.pointer (some ⟨hb, 0, none⟩), strVal "", strVal s]).run Try.prog w = .ok (.pointer (some ⟨hb, 0, none⟩)) w := fun s => rfl
  simp [hw, asAddr, ha]
theorem meth_less (hb : Nat) (v : Value) (w : World) (hc : w.cell? ⟨hb, 0, none⟩ = some v) : (method 183 45 (.pointer (some ⟨hb, 0, none⟩)) "Less").run Try.prog w = .ok (63, v) w := by
  have hi : Try.prog.info? 45 = some Try.t45 := by kernel_rfl
  have hm : (Try.t45.methods.find? (·.name == "Less")).map (fun m => (m.path.toList, m.path.isEmpty, m.func)) = some ([], true, some (63, false)) := by kernel_rfl
  obtain ⟨m, hm, he⟩ := Option.map_eq_some_iff.1 hm
  injection he with he1 he
  injection he with he2 he
  have hu : Try.prog.underlying 45 = some (.pointer 48) := by kernel_rfl
  have ha : (loadVar 48 ⟨hb, 0, none⟩).run Try.prog w = .ok v w := by simp [go_sem, hc]
  unfold method
  simp only [Sem.run_bind, typeInfo, run_program, Result.andThen_ok, hi, Sem.run_pure, hm, he, he1, he2, follow, receiverAt, run_underlying hu, Place.get]
  have hw : ∀ (s : String), (Builtin.ssaWrapNilChk_ #[45] 45 #[.pointer (some ⟨hb, 0, none⟩), strVal "", strVal s]).run Try.prog w = .ok (.pointer (some ⟨hb, 0, none⟩)) w := fun s => rfl
  simp [hw, asAddr, ha]
theorem meth_swap (hb : Nat) (v : Value) (w : World) (hc : w.cell? ⟨hb, 0, none⟩ = some v) : (method 183 45 (.pointer (some ⟨hb, 0, none⟩)) "Swap").run Try.prog w = .ok (66, v) w := by
  have hi : Try.prog.info? 45 = some Try.t45 := by kernel_rfl
  have hm : (Try.t45.methods.find? (·.name == "Swap")).map (fun m => (m.path.toList, m.path.isEmpty, m.func)) = some ([], true, some (66, false)) := by kernel_rfl
  obtain ⟨m, hm, he⟩ := Option.map_eq_some_iff.1 hm
  injection he with he1 he
  injection he with he2 he
  have hu : Try.prog.underlying 45 = some (.pointer 48) := by kernel_rfl
  have ha : (loadVar 48 ⟨hb, 0, none⟩).run Try.prog w = .ok v w := by simp [go_sem, hc]
  unfold method
  simp only [Sem.run_bind, typeInfo, run_program, Result.andThen_ok, hi, Sem.run_pure, hm, he, he1, he2, follow, receiverAt, run_underlying hu, Place.get]
  have hw : ∀ (s : String), (Builtin.ssaWrapNilChk_ #[45] 45 #[.pointer (some ⟨hb, 0, none⟩), strVal "", strVal s]).run Try.prog w = .ok (.pointer (some ⟨hb, 0, none⟩)) w := fun s => rfl
  simp [hw, asAddr, ha]
theorem meth_push (hb : Nat) (w : World) : (method 183 45 (.pointer (some ⟨hb, 0, none⟩)) "Push").run Try.prog w = .ok (65, .pointer (some ⟨hb, 0, none⟩)) w := by kernel_rfl
theorem meth_pop (hb : Nat) (w : World) : (method 183 45 (.pointer (some ⟨hb, 0, none⟩)) "Pop").run Try.prog w = .ok (64, .pointer (some ⟨hb, 0, none⟩)) w := by kernel_rfl
end Go.Proofs.Ytfcammfdengdbaa
