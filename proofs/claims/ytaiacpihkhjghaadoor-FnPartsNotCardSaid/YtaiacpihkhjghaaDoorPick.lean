/- The reader's own functions: l6Open opens it, pick hands out a number in its range, of a text out of a list. -/
import Derived.Test.YtaiacpihkhjghaaDoorWords
import Derived.Test.YtaiacpihkhjghaaDoorProg
import Derived.WalkSpells
import Derived.WalkLawsBesides
import Derived.BigQuiet
import Derived.Deep.QuietTactic
namespace Go.Proofs.YtaiacpihkhjghaaDoor
open Go.RowKit

theorem ofInt_nat (a : Nat) (ha : a < 9223372036854775808) : (BitVec.ofInt 64 (a : Int)).toNat = a := by
  rw [BitVec.ofInt_natCast, BitVec.toNat_ofNat]
  exact Nat.mod_eq_of_lt (by omega)
/-- '^' of two ints that are not negative is not negative. -/
theorem xor_nonneg (a b : Int) (ha : 0 ≤ a) (ha' : a < 4611686018427387904) (hb : 0 ≤ b) (hb' : b < 4611686018427387904) : 0 ≤ bits .xor .i64 a b := by
  obtain ⟨x, rfl⟩ := Int.eq_ofNat_of_zero_le ha
  obtain ⟨y, rfl⟩ := Int.eq_ofNat_of_zero_le hb
  have hx : x ^^^ y < 2 ^ 63 := Nat.xor_lt_two_pow (by omega) (by omega)
  have e : bits .xor .i64 (x : Int) (y : Int) = ((x ^^^ y : Nat) : Int) := by
    show IntKind.i64.wrap ((BitVec.ofInt 64 (x : Int) ^^^ BitVec.ofInt 64 (y : Int)).toNat : Int) = _
    rw [BitVec.toNat_xor, ofInt_nat x (by omega), ofInt_nat y (by omega), IntKind.wrap_i64]
    omega
  rw [e]
  omega

theorem nat_mod (z n : Int) (hn : 1 ≤ n) : ∃ k : Nat, z % n = (k : Int) ∧ (k : Int) < n :=
  ⟨(z % n).toNat, (Int.toNat_of_nonneg (Int.emod_nonneg _ (by omega))).symm, by
    rw [Int.toNat_of_nonneg (Int.emod_nonneg _ (by omega))]
    exact Int.emod_lt_of_pos _ (by omega)⟩

/-- What pick leaves: a number in its range, and the reader a place further. -/
def PickEnds (T : TypeId) (w : World) (B g m : Nat) (n : Int) (e : Ending) (w' : World) : Prop :=
  ∃ k : Nat, e = .returned (.int .i64 (k : Int)) ∧ k ≤ 100000 ∧ (1 ≤ n → (k : Int) < n) ∧ Rd T w' B g m ∧ w.grownBy w' (some g)

set_option maxHeartbeats 400000 in
theorem pick_any (B g m : Nat) (n : Int) (w : World) (h : Rd 41 w B g (m + 1)) (hn0 : -100000 ≤ n) (hn : n ≤ 100000) :
    Calls Tryd.prog 8 #[.pointer (some ⟨g, 0, none⟩), .int .i64 n] w (PickEnds 41 w B g m n) := by
  obtain ⟨A, len, c, zs, p, hF, hL, hBg, hz, hlen, hby, hp⟩ := h
  have c0 : w.cell? ⟨g, 0, none⟩ = some (.slice A len c) := hF.cellAt 0 rfl
  have c1 : w.cell? ⟨g, 1, none⟩ = some (.int .i64 (p : Int)) := hF.cellAt 1 rfl
  have f1 : w.frozen? ⟨g, 1, none⟩ = false := hF.free 1
  have R : Rd 41 (w.setCell ⟨g, 1, none⟩ (.int .i64 ((p : Int) + 1))) B g m :=
    ⟨A, len, c, zs, p + 1, hF.set 1 _, hL.below ((Below.refl _ _).setCell (p := ⟨g, 1, none⟩) hBg _), hBg, hz, hlen, hby, by omega⟩
  have G : w.grownBy (w.setCell ⟨g, 1, none⟩ (.int .i64 ((p : Int) + 1))) (some g) := gr_set (gr_refl w _) (.inl rfl) _
  by_cases h1 : n < 1
  · go_enter Tryd.func8, Tryd.ntmps8
    go_wp2
    go_ret
    exact ⟨0, rfl, by omega, by omega, R, G⟩
  · have h1' : 1 ≤ n := by omega
    by_cases h2 : len = 0
    · subst h2
      go_enter Tryd.func8, Tryd.ntmps8
      go_wp2
      go_ret
      exact ⟨0, rfl, by omega, by omega, R, G⟩
    · have h2' : ((len : Int) == 0) = false := by simp; omega
      obtain ⟨gb, o, rfl, hgB, hc⟩ := hL.open_ (by simp; omega)
      have hcell : ∀ k, k < len → (w.setCell ⟨g, 1, none⟩ (.int .i64 ((p : Int) + 1))).cell? ⟨gb, o + k, none⟩ = some (.int .u8 (zs.getD k 0)) := fun k hk => by
        rw [World.cell?_setCell_other _ _ _ _ (by intro e; injection e with e; omega)]
        exact hc k _ (by simp [show k < zs.length by omega])
      have hb : ∀ k, 0 ≤ zs.getD k 0 ∧ zs.getD k 0 ≤ 255 := fun k => by
        rcases Nat.lt_or_ge k zs.length with hk | hk
        · exact hby _ (by simp [List.getD_eq_getElem?_getD, hk])
        · simp [List.getD_eq_getElem?_getD, hk]
      clear hc hby hL hF
      by_cases h3 : p < len
      · have hx := hcell p h3
        have hb0 := hb p
        generalize zs.getD p 0 = z at hx hb0
        obtain ⟨hb0, hb1⟩ := hb0
        clear hcell hb
        have Rh := hid R
        have Gh := hid G
        clear R G
        go_enter Tryd.func8, Tryd.ntmps8
        go_wp2
        go_ret
        obtain ⟨k, hk, hk2⟩ := nat_mod z n h1'
        exact ⟨k, ret_int hk, by omega, fun _ => hk2, Rh.out, Gh.out⟩
      · have hx1 := hcell (p % len) (Nat.mod_lt _ (by omega))
        have hx2 := hcell ((p * 7 + 3) % len) (Nat.mod_lt _ (by omega))
        have hb1 := hb (p % len)
        have hb2 := hb ((p * 7 + 3) % len)
        generalize zs.getD (p % len) 0 = z1 at hx1 hb1
        generalize zs.getD ((p * 7 + 3) % len) 0 = z2 at hx2 hb2
        obtain ⟨hb1, hb1'⟩ := hb1
        obtain ⟨hb2, hb2'⟩ := hb2
        clear hcell hb
        have Rh := hid R
        have Gh := hid G
        clear R G
        have hq : p / len ≤ p := Nat.div_le_self _ _
        have i1 : (0 : Int) ≤ (p : Int) % (len : Int) := Int.emod_nonneg _ (by omega)
        have i2 : (p : Int) % (len : Int) < (len : Int) := Int.emod_lt_of_pos _ (by omega)
        have i3 : (0 : Int) ≤ ((p : Int) * 7 + 3) % (len : Int) := Int.emod_nonneg _ (by omega)
        have i4 : ((p : Int) * 7 + 3) % (len : Int) < (len : Int) := Int.emod_lt_of_pos _ (by omega)
        have q1 : (0 : Int) ≤ (p : Int) / (len : Int) := Int.ediv_nonneg (by omega) (by omega)
        have q2 : (p : Int) / (len : Int) ≤ 100000 := by
          have : (p : Int) / (len : Int) ≤ (p : Int) := Int.ediv_le_self _ (by omega)
          omega
        have d1 := Int.ediv_nonneg (show (0 : Int) ≤ z1 * 131 + z2 * 1117 + (p : Int) * 29 + (p : Int) / (len : Int) * 53 by omega) (show (0 : Int) ≤ 64 by omega)
        have d2 := Int.ediv_le_self (64 : Int) (show (0 : Int) ≤ z1 * 131 + z2 * 1117 + (p : Int) * 29 + (p : Int) / (len : Int) * 53 by omega)
        have x0 := xor_nonneg (z1 * 131 + z2 * 1117 + (p : Int) * 29 + (p : Int) / (len : Int) * 53) ((z1 * 131 + z2 * 1117 + (p : Int) * 29 + (p : Int) / (len : Int) * 53) / 64) (by omega) (by omega) (by omega) (by omega)
        clear d1 d2
        go_enter Tryd.func8, Tryd.ntmps8
        go_wp2
        go_quiet (fail)
        go_wp2
        go_ret
        obtain ⟨k, hk, hk2⟩ := nat_mod (bits BinOp.xor IntKind.i64 (z1 * 131 + z2 * 1117 + (p : Int) * 29 + (p : Int) / (len : Int) * 53) ((z1 * 131 + z2 * 1117 + (p : Int) * 29 + (p : Int) / (len : Int) * 53) / 64)) n h1'
        exact ⟨k, ret_int hk, by omega, fun _ => hk2, Rh.out.drewN _, gr_drewN Gh.out _⟩

/-- What l6Open leaves: a reader at the code's head. -/
def OpenEnds (T : TypeId) (w : World) (e : Ending) (w' : World) : Prop :=
  ∃ g : Nat, e = .returned (.pointer (some ⟨g, 0, none⟩)) ∧ Rd T w' w.heap.size g 100000 ∧ w.grownBy w' none

set_option maxHeartbeats 400000 in
theorem open_any (A : Option Addr) (n c : Nat) (zs : List Int) (w : World) (h : Code w A n c zs) :
    Calls Tryd.prog 7 #[.slice A n c] w (OpenEnds 41 w) := by
  obtain ⟨hl, hn, hc, hm, hb⟩ := h
  unfold maxLen at hm
  by_cases h1 : n > 2000
  · go_enter Tryd.func7, Tryd.ntmps7
    go_wp2
    go_ret
    exact ⟨w.heap.size, rfl, ⟨A, 2000, c, zs.take 2000, 0, Full.new _ _ _, by rw [List.map_take]; exact (hl.take 2000).below ((Below.refl _ _).alloc (Nat.le_refl _) _), Nat.le_refl _, by simp; omega, Nat.le_refl _,
      fun z hz => hb z (List.mem_of_mem_take hz), by omega⟩, World.grownBy_alloc _ _ _⟩
  · go_enter Tryd.func7, Tryd.ntmps7
    go_wp2
    go_ret
    exact ⟨w.heap.size, rfl, ⟨A, n, c, zs, 0, Full.new _ _ _, hl.below ((Below.refl _ _).alloc (Nat.le_refl _) _), Nat.le_refl _, hn, by omega, hb, by omega⟩, World.grownBy_alloc _ _ _⟩
end Go.Proofs.YtaiacpihkhjghaaDoor
