/- The order of texts, and ascending lists of them: plain lemmas. -/
import Derived.Test.YtnjbpeojadbclaaDoorOwn
namespace Go.Proofs.YtnjbpeojadbclaaDoor
open Go.RowKit

theorem bl_irrefl (x : List UInt8) : Op.bytesLess x x = false := by
  induction x with
  | nil => rfl
  | cons a x ih => simp [Op.bytesLess, ih]
theorem bl_trans {x y z : List UInt8} (h : Op.bytesLess x y = true) (h' : Op.bytesLess y z = true) : Op.bytesLess x z = true := by
  induction x generalizing y z with
  | nil =>
    cases z with
    | nil => cases y <;> simp [Op.bytesLess] at h'
    | cons c z => rfl
  | cons a x ih =>
    cases y with
    | nil => simp [Op.bytesLess] at h
    | cons b y =>
      cases z with
      | nil => simp [Op.bytesLess] at h'
      | cons c z =>
        simp only [Op.bytesLess, Bool.or_eq_true, Bool.and_eq_true, decide_eq_true_eq, beq_iff_eq, UInt8.lt_iff_toNat_lt] at h h' ⊢
        rcases h with h | ⟨h, h1⟩
        · rcases h' with h' | ⟨h', h1'⟩
          · exact .inl (by omega)
          · subst h'; exact .inl h
        · subst h
          rcases h' with h' | ⟨h', h1'⟩
          · exact .inl h'
          · exact .inr ⟨h', ih h1 h1'⟩
theorem bl_tri (x y : List UInt8) : Op.bytesLess x y = true ∨ x = y ∨ Op.bytesLess y x = true := by
  induction x generalizing y with
  | nil =>
    cases y with
    | nil => exact .inr (.inl rfl)
    | cons b y => exact .inl rfl
  | cons a x ih =>
    cases y with
    | nil => exact .inr (.inr rfl)
    | cons b y =>
      simp only [Op.bytesLess, Bool.or_eq_true, Bool.and_eq_true, decide_eq_true_eq, beq_iff_eq, UInt8.lt_iff_toNat_lt]
      rcases (by omega : a.toNat < b.toNat ∨ a.toNat = b.toNat ∨ b.toNat < a.toNat) with q | q | q
      · exact .inl (.inl q)
      · have e : a = b := UInt8.toNat_inj.1 q
        subst e
        rcases ih y with r | r | r
        · exact .inl (.inr ⟨rfl, r⟩)
        · exact .inr (.inl (by rw [r]))
        · exact .inr (.inr (.inr ⟨rfl, r⟩))
      · exact .inr (.inr (.inl q))

/-- Whether a text is less. -/
def sl (a b : ByteArray) : Bool := Op.bytesLess a.toList b.toList
theorem sl_irrefl (a : ByteArray) : sl a a = false := bl_irrefl _
theorem sl_trans {a b c : ByteArray} (h : sl a b = true) (h' : sl b c = true) : sl a c = true := bl_trans h h'
theorem toList_inj {a b : ByteArray} (h : a.toList = b.toList) : a = b := by
  rw [ByteArray.toList_eq, ByteArray.toList_eq] at h
  cases a; cases b
  exact congrArg ByteArray.mk (Array.toList_inj.1 h)
theorem sl_tri (a b : ByteArray) : sl a b = true ∨ a = b ∨ sl b a = true := by
  rcases bl_tri a.toList b.toList with h | h | h
  · exact .inl h
  · exact .inr (.inl (toList_inj h))
  · exact .inr (.inr h)
theorem sl_ne {a b : ByteArray} (h : sl a b = true) : a ≠ b := by rintro rfl; rw [sl_irrefl] at h; cases h
theorem sl_not {a b : ByteArray} (h : sl a b = true) : sl b a = false := by
  cases hb : sl b a with
  | false => rfl
  | true => have := sl_trans h hb; rw [sl_irrefl] at this; cases this
theorem beq_bytes (a b : ByteArray) : (a.toList == b.toList) = decide (a = b) := by
  by_cases h : a = b
  · subst h; simp
  · rw [decide_eq_false h]
    simpa using fun e => h (toList_inj e)
end Go.Proofs.YtnjbpeojadbclaaDoor
