/- Entries: a stream's name and an event; slices of entries in memory; NameValid, Entry.valid. -/
import Derived.Test.YtnjbpeojadbclaaDoorEv
import Derived.Test.YtnjbpeojadbclaaDoorInts
import Derived.Test.YtnjbpeojadbclaaDoorSplit
import Derived.Test.YtnjbpeojadbclaaDoorIsI
namespace Go.Proofs.YtnjbpeojadbclaaDoor
open Go.RowKit

/-- An entry as data. -/
structure En where
  nm : ByteArray
  ev : Ev
def En.cells (e : En) : List Value := [.string e.nm, .int .i64 e.ev.id, .string e.ev.kind, .int .i64 e.ev.data]
def En.val (e : En) : Value := .agg #[.string e.nm, .int .i64 e.ev.id, .string e.ev.kind, .int .i64 e.ev.data]
def ecells (es : List En) : List Value := es.flatMap En.cells
theorem ecells_len (es : List En) : (ecells es).length = es.length * 4 := flat_len En.cells 4 (fun _ => rfl) es
theorem ecells_take (es : List En) (k : Nat) : (ecells es).take (k * 4) = ecells (es.take k) := flat_take En.cells 4 (fun _ => rfl) es k
theorem ecells_app (a b : List En) : ecells (a ++ b) = ecells a ++ ecells b := by simp [ecells]
theorem ecells_one (es : List En) : ∀ u ∈ ecells es, u.oneCell' = true := by
  intro u hu
  obtain ⟨r, _, h⟩ := List.mem_flatMap.1 hu
  simp only [En.cells, List.mem_cons, List.not_mem_nil, or_false] at h
  rcases h with rfl | rfl | rfl | rfl <;> rfl

/-- Texts of a length that Go knows. -/
structure En.ok (e : En) : Prop where
  nm : e.nm.size ≤ maxLen
  kind : e.ev.kind.size ≤ maxLen

/-- A slice of entries. -/
structure EArg (w : World) (A : Option Addr) (n c : Nat) (es : List En) : Prop where
  li : Lies w A (ecells es)
  len : es.length = n
  cap : n ≤ c
  max : c ≤ maxLen
  ok : ∀ e ∈ es, e.ok
section
variable {w w' : World} {A : Option Addr} {n c : Nat} {es : List En}
theorem EArg.grown0 (h : EArg w A n c es) (hg : w.grownBy w' none) : EArg w' A n c es := ⟨h.li.grown0 hg, h.len, h.cap, h.max, h.ok⟩
theorem EArg.alloc (h : EArg w A n c es) (o : Obj) : EArg (w.alloc o) A n c es := h.grown0 (World.grownBy_alloc w o none)
theorem EArg.nil (w : World) : EArg w none 0 0 [] := ⟨.inl rfl, rfl, Nat.le_refl _, by simp [maxLen], by simp⟩
/-- The cells of an entry. -/
theorem EArg.open_ (h : EArg w A n c es) (hn : 0 < n) : ∃ g o, A = some ⟨g, o, none⟩ ∧ g < w.heap.size ∧ ∀ i (hi : i < es.length), ∀ w' : World, w.grownBy w' none →
    w'.cell? ⟨g, o + i * 4, none⟩ = some (.string es[i].nm) ∧ w'.cell? ⟨g, o + i * 4 + 1, none⟩ = some (.int .i64 es[i].ev.id) ∧ w'.cell? ⟨g, o + i * 4 + 2, none⟩ = some (.string es[i].ev.kind) ∧ w'.cell? ⟨g, o + i * 4 + 3, none⟩ = some (.int .i64 es[i].ev.data) := by
  obtain ⟨g, o, hA, hlt, hc⟩ := h.li.open_ (by rw [ecells_len, h.len]; omega)
  refine ⟨g, o, hA, hlt, fun i hi w' hg => ?_⟩
  have q := fun j (hj : j < 4) => flat_at En.cells 4 (fun _ => rfl) es i j hi hj
  exact ⟨hg.cell (hc _ _ (q 0 (by omega))) (by simp), hg.cell (a := ⟨g, o + i * 4 + 1, none⟩) (by rw [Nat.add_assoc]; exact hc _ _ (q 1 (by omega))) (by simp),
    hg.cell (a := ⟨g, o + i * 4 + 2, none⟩) (by rw [Nat.add_assoc]; exact hc _ _ (q 2 (by omega))) (by simp), hg.cell (a := ⟨g, o + i * 4 + 3, none⟩) (by rw [Nat.add_assoc]; exact hc _ _ (q 3 (by omega))) (by simp)⟩
theorem EArg.take (h : EArg w A n c es) {k : Nat} (hk : k ≤ n) : EArg w A k c (es.take k) :=
  ⟨by rw [← ecells_take]; exact h.li.take _, by rw [List.length_take, h.len]; omega, Nat.le_trans hk h.cap, h.max, fun e he => h.ok e (List.mem_of_mem_take he)⟩
theorem EArg.of_own {base : Nat} (h : Own w base 42 4 A n c (ecells es)) (hl : es.length = n) (ho : ∀ e ∈ es, e.ok) : EArg w A n c es := ⟨h.lies, hl, h.cap, h.max, ho⟩
end

/- What is valid. -/
def nameB (s : ByteArray) : Bool := (partsOf s).isSome
def enB (e : En) : Bool := nameB e.nm && evB e.ev

set_option maxHeartbeats 1000000 in
theorem nv_is (s : ByteArray) (b : Bool) (a : Addr) (w : World) (hs : s.size ≤ maxLen) (hE : Sent w a) (hb : nameB s = b) :
    Calls Tryd.prog 37 #[.string s] w fun e w' => e = .returned (.bool b) ∧ w.grownBy w' none := by
  obtain ⟨o, ho⟩ : ∃ o, partsOf s = o := ⟨_, rfl⟩
  have e1 := ns_is s o a w hs hE ho
  have HE := hid hE
  have e2 := is_same a
  have e3 := is_nil a
  rw [nameB, ho] at hb
  clear hE ho
  cases o with
  | none =>
    subst hb
    unfold nsV at e1
    go_enter Tryd.func37, Tryd.ntmps37
    go_wp2_with fail
    refine e1.mono ?_
    rintro e w1 ⟨rfl, hg1⟩
    have ce := (HE.out.grown0 hg1).cell
    clear e1
    go_wp2_with fail
    refine (e2 _).mono ?_
    rintro e w2 ⟨rfl, rfl⟩
    go_wp2_with fail
    go_ret
    exact ⟨rfl, hg1⟩
  | some q =>
    subst hb
    unfold nsV at e1
    go_enter Tryd.func37, Tryd.ntmps37
    go_wp2_with fail
    refine e1.mono ?_
    rintro e w1 ⟨rfl, hg1⟩
    have ce := (HE.out.grown0 hg1).cell
    clear e1
    go_wp2_with fail
    refine (e3 _).mono ?_
    rintro e w2 ⟨rfl, rfl⟩
    go_wp2_with fail
    go_ret
    exact ⟨rfl, hg1⟩

set_option maxHeartbeats 1000000 in
theorem snv_is (s : ByteArray) (b : Bool) (w : World) (hs : s.size ≤ maxLen) (hb : nameB s = b) :
    Calls Tryd.prog 28 #[.string s] w fun e w' => e = .returned (.bool b) ∧ w.grownBy w' none := by
  obtain ⟨o, ho⟩ : ∃ o, partsOf s = o := ⟨_, rfl⟩
  have e1 := snp_is s o w hs ho
  rw [nameB, ho] at hb
  clear ho
  cases o with
  | none =>
    subst hb
    unfold ptup at e1
    go_enter Tryd.func28, Tryd.ntmps28
    go_wp2_with fail
    refine e1.mono ?_
    rintro e w1 ⟨rfl, hg1⟩
    go_wp2_with fail
    go_ret
    exact ⟨rfl, hg1⟩
  | some q =>
    subst hb
    unfold ptup at e1
    go_enter Tryd.func28, Tryd.ntmps28
    go_wp2_with fail
    refine e1.mono ?_
    rintro e w1 ⟨rfl, hg1⟩
    go_wp2_with fail
    go_ret
    exact ⟨rfl, hg1⟩

set_option maxHeartbeats 1000000 in
theorem env_is (s : ByteArray) (i : Int) (k : ByteArray) (d : Int) (b : Bool) (a : Addr) (w : World) (hs : s.size ≤ maxLen) (hk : k.size ≤ maxLen) (hE : Sent w a) (hb : enB ⟨s, ⟨i, k, d⟩⟩ = b) :
    Calls Tryd.prog 31 #[.agg #[.string s, .int .i64 i, .string k, .int .i64 d]] w fun e w' => e = .returned (.bool b) ∧ w.grownBy w' none := by
  obtain ⟨b1, hb1⟩ : ∃ b, nameB s = b := ⟨_, rfl⟩
  obtain ⟨b2, hb2⟩ : ∃ b, evB ⟨i, k, d⟩ = b := ⟨_, rfl⟩
  have F := Full.new w 42 #[.string s, .int .i64 i, .string k, .int .i64 d]
  have G0 := gr_alloc (gr_refl w none) (.cells #[.string s, .int .i64 i, .string k, .int .i64 d] 42)
  have e1 := nv_is s b1 a _ hs (hE.grown0 G0) hb1
  have e2 := fun w => evm_is i k d b2 w hk hb2
  have HB := hid (show b = (b1 && b2) by rw [← hb, enB, hb1, hb2])
  clear hb hb1 hb2 hE
  go_enter Tryd.func31, Tryd.ntmps31
  go_wp2_with fail
  refine e1.mono ?_
  rintro e w1 ⟨rfl, hg1⟩
  have G1 := gr_0 G0 hg1
  have F1 := F.grown hg1 (by simp)
  have c1 := F1.cellAt 1 rfl
  have c2 := F1.cellAt 2 rfl
  have c3 := F1.cellAt 3 rfl
  clear e1 hg1
  cases b1 with
  | false =>
    have hbf : b = false := by rw [HB.out]; rfl
    subst hbf
    clear HB e2
    go_wp2_with fail
    go_ret
    exact ⟨rfl, G1⟩
  | true =>
    go_wp2_with fail
    refine (e2 _).mono ?_
    rintro e w2 ⟨rfl, hg2⟩
    go_wp2_with fail
    go_ret
    exact ⟨ret_bool (by rw [HB.out]; rfl), gr_0 G1 hg2⟩
end Go.Proofs.YtnjbpeojadbclaaDoor
