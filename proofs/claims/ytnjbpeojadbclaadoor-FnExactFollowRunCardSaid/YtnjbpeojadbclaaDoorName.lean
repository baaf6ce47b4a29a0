/- Names of streams in plain Lean: a word, a hyphen, a number of at most 999 without leading zeros. -/
import Derived.Test.YtnjbpeojadbclaaDoorWord
import Derived.Lib.Bytealg
namespace Go.Proofs.YtnjbpeojadbclaaDoor
open Go.RowKit

def digit (c : UInt8) : Bool := decide (48 ≤ c.toNat ∧ c.toNat ≤ 57)
/-- What digits tell. -/
def numV (l : List UInt8) : Nat := l.foldl (fun n c => 10 * n + (c.toNat - 48)) 0
theorem numV_snoc (l : List UInt8) (c : UInt8) : numV (l ++ [c]) = 10 * numV l + (c.toNat - 48) := by simp [numV]
theorem foldl_ge (l : List UInt8) : ∀ a : Nat, a ≤ l.foldl (fun n (c : UInt8) => 10 * n + (c.toNat - 48)) a := by
  induction l with
  | nil => intro a; exact Nat.le_refl _
  | cons c l ih => intro a; exact Nat.le_trans (show a ≤ 10 * a + (c.toNat - 48) by omega) (ih _)
theorem numV_take (l : List UInt8) (k : Nat) : numV (l.take k) ≤ numV l := by
  conv => rhs; rw [← List.take_append_drop k l]
  rw [numV, numV, List.foldl_append]
  exact foldl_ge _ _
/-- Whether a text is a number of at most 999. -/
def numB (l : List UInt8) : Bool := decide (1 ≤ l.length) && (decide (l.length ≤ 1 ∨ l[0]? ≠ some 48) && (l.all digit && decide (numV l ≤ 999)))
theorem numB_iff {l : List UInt8} : numB l = true ↔ 1 ≤ l.length ∧ (l.length ≤ 1 ∨ l[0]? ≠ some 48) ∧ l.all digit = true ∧ numV l ≤ 999 := by
  simp only [numB, Bool.and_eq_true, decide_eq_true_eq]

/-- Three digits at the most. -/
theorem numB_len {l : List UInt8} (h : numB l = true) : l.length ≤ 3 := by
  obtain ⟨h1, h2, h3, h4⟩ := numB_iff.1 h
  match l, h1, h2, h3, h4 with
  | [_], _, _, _, _ => simp
  | [_, _], _, _, _, _ => simp
  | [_, _, _], _, _, _, _ => simp
  | a :: b :: c :: d :: r, _, h2, h3, h4 =>
    exfalso
    have ha : a ≠ 48 := by
      rcases h2 with h | h
      · simp at h
      · simpa using h
    have hd : digit a = true := by
      simp only [List.all_cons, Bool.and_eq_true] at h3
      exact h3.1
    have ha2 : 49 ≤ a.toNat := by
      have : a.toNat ≠ 48 := fun e => ha (UInt8.toNat_inj.1 e)
      simp [digit] at hd
      omega
    have hf := foldl_ge r (10 * (10 * (10 * (10 * 0 + (a.toNat - 48)) + (b.toNat - 48)) + (c.toNat - 48)) + (d.toNat - 48))
    have hn : numV (a :: b :: c :: d :: r) = r.foldl (fun n (c : UInt8) => 10 * n + (c.toNat - 48)) (10 * (10 * (10 * (10 * 0 + (a.toNat - 48)) + (b.toNat - 48)) + (c.toNat - 48)) + (d.toNat - 48)) := rfl
    rw [← hn] at hf
    omega

/-- A digit's sign. -/
def sgn (d : Nat) : UInt8 := UInt8.ofNat (48 + d)
theorem sgn_nat {d : Nat} (h : d < 10) : (sgn d).toNat = 48 + d := by
  rw [sgn, UInt8.toNat_ofNat']
  omega
theorem sgn_of {c : UInt8} (h : digit c = true) : sgn (c.toNat - 48) = c := by
  simp [digit] at h
  apply UInt8.toNat_inj.1
  rw [sgn_nat (by omega)]
  omega
/-- A number below 1000 in decimals. -/
def decL (n : Nat) : List UInt8 := if n < 10 then [sgn n] else if n < 100 then [sgn (n / 10), sgn (n % 10)] else [sgn (n / 100), sgn (n / 10 % 10), sgn (n % 10)]
theorem decL_step {n : Nat} (h1 : 10 ≤ n) (h2 : n < 1000) : decL n = decL (n / 10) ++ [sgn (n % 10)] := by
  unfold decL
  rw [if_neg (by omega)]
  by_cases h : n < 100
  · rw [if_pos h, if_pos (by omega)]; rfl
  · rw [if_neg h, if_neg (by omega), if_pos (by omega), show n / 100 = n / 10 / 10 by omega]; rfl
theorem digit_sgn {d : Nat} (h : d < 10) : digit (sgn d) = true := by
  simp [digit, sgn_nat h]
  omega
theorem sgn_zero {d : Nat} (h : d < 10) (h0 : 0 < d) : sgn d ≠ 48 := by
  intro e
  have := congrArg UInt8.toNat e
  rw [sgn_nat h] at this
  have h48 : (48 : UInt8).toNat = 48 := rfl
  omega
/-- A number in decimals is one, and tells itself. -/
theorem dec_num {n : Nat} (h : n ≤ 999) : numB (decL n) = true ∧ numV (decL n) = n := by
  unfold decL
  split
  · rename_i h1
    have e := sgn_nat h1
    refine ⟨numB_iff.2 ⟨by simp, by simp, by simp [digit_sgn h1], ?_⟩, ?_⟩ <;> simp [numV, e] <;> omega
  · split
    · rename_i h1 h2
      have e1 := sgn_nat (show n / 10 < 10 by omega)
      have e2 := sgn_nat (show n % 10 < 10 by omega)
      have hv : numV [sgn (n / 10), sgn (n % 10)] = n := by simp [numV, e1, e2]; omega
      refine ⟨numB_iff.2 ⟨by simp, .inr (by simpa using sgn_zero (show n / 10 < 10 by omega) (by omega)), by simp [digit_sgn (show n / 10 < 10 by omega), digit_sgn (show n % 10 < 10 by omega)], by omega⟩, hv⟩
    · rename_i h1 h2
      have e1 := sgn_nat (show n / 100 < 10 by omega)
      have e2 := sgn_nat (show n / 10 % 10 < 10 by omega)
      have e3 := sgn_nat (show n % 10 < 10 by omega)
      have hv : numV [sgn (n / 100), sgn (n / 10 % 10), sgn (n % 10)] = n := by simp [numV, e1, e2, e3]; omega
      refine ⟨numB_iff.2 ⟨by simp, .inr (by simpa using sgn_zero (show n / 100 < 10 by omega) (by omega)), by simp [digit_sgn (show n / 100 < 10 by omega), digit_sgn (show n / 10 % 10 < 10 by omega), digit_sgn (show n % 10 < 10 by omega)], by omega⟩, hv⟩
/-- A number is what its value is in decimals. -/
theorem num_dec {l : List UInt8} (h : numB l = true) : decL (numV l) = l := by
  have hl := numB_len h
  obtain ⟨h1, h2, h3, h4⟩ := numB_iff.1 h
  match l, h1, hl, h2, h3 with
  | [a], _, _, _, h3 =>
    simp only [List.all_cons, List.all_nil, Bool.and_true] at h3
    have hd := h3
    simp [digit] at hd
    have hv : numV [a] = a.toNat - 48 := by simp [numV]
    rw [hv, decL, if_pos (by omega), sgn_of h3]
  | [a, b], _, _, h2, h3 =>
    simp only [List.all_cons, List.all_nil, Bool.and_true, Bool.and_eq_true] at h3
    obtain ⟨ha, hb⟩ := h3
    have hda := ha
    have hdb := hb
    simp [digit] at hda hdb
    have ha0 : a.toNat ≠ 48 := by
      rcases h2 with h | h
      · simp at h
      · intro e; exact h (by simpa using UInt8.toNat_inj.1 (show a.toNat = (48 : UInt8).toNat from e))
    have hv : numV [a, b] = 10 * (a.toNat - 48) + (b.toNat - 48) := by simp [numV]
    rw [hv, decL, if_neg (by omega), if_pos (by omega), show (10 * (a.toNat - 48) + (b.toNat - 48)) / 10 = a.toNat - 48 by omega, show (10 * (a.toNat - 48) + (b.toNat - 48)) % 10 = b.toNat - 48 by omega, sgn_of ha, sgn_of hb]
  | [a, b, c], _, _, h2, h3 =>
    simp only [List.all_cons, List.all_nil, Bool.and_true, Bool.and_eq_true] at h3
    obtain ⟨ha, hb, hc⟩ := h3
    have hda := ha
    have hdb := hb
    have hdc := hc
    simp [digit] at hda hdb hdc
    have ha0 : a.toNat ≠ 48 := by
      rcases h2 with h | h
      · simp at h
      · intro e; exact h (by simpa using UInt8.toNat_inj.1 (show a.toNat = (48 : UInt8).toNat from e))
    have hv : numV [a, b, c] = 10 * (10 * (a.toNat - 48) + (b.toNat - 48)) + (c.toNat - 48) := by simp [numV]
    rw [hv, decL, if_neg (by omega), if_neg (by omega), show (10 * (10 * (a.toNat - 48) + (b.toNat - 48)) + (c.toNat - 48)) / 100 = a.toNat - 48 by omega, show (10 * (10 * (a.toNat - 48) + (b.toNat - 48)) + (c.toNat - 48)) / 10 % 10 = b.toNat - 48 by omega, show (10 * (10 * (a.toNat - 48) + (b.toNat - 48)) + (c.toNat - 48)) % 10 = c.toNat - 48 by omega, sgn_of ha, sgn_of hb, sgn_of hc]

/- The first hyphen. -/
def hyAt (l : List UInt8) : Option Nat := l.findIdx? (fun c => decide (c = 45))
theorem hy_some {l : List UInt8} {k : Nat} : hyAt l = some k ↔ ∃ h : k < l.length, l[k] = 45 ∧ ∀ j (hj : j < k), l[j]'(by omega) ≠ 45 := by
  rw [hyAt, List.findIdx?_eq_some_iff_getElem]
  constructor
  · rintro ⟨h, h1, h2⟩
    exact ⟨h, by simpa using h1, fun j hj => by simpa using h2 j hj⟩
  · rintro ⟨h, h1, h2⟩
    exact ⟨h, by simpa using h1, fun j hj => by simpa using h2 j hj⟩
theorem hy_none {l : List UInt8} : hyAt l = none ↔ ∀ c ∈ l, c ≠ 45 := by
  rw [hyAt, List.findIdx?_eq_none_iff]
  simp
theorem hy_index : ∀ l : List UInt8, Go.Lib.indexByte l 45 = match hyAt l with | some k => (k : Int) | none => -1
  | [] => rfl
  | c :: l => by
    have ih := hy_index l
    rw [Go.Lib.indexByte, hyAt, List.findIdx?_cons]
    by_cases hc : c = 45
    · simp [hc]
    · rw [show (c == 45) = false by simpa using hc]
      simp only [hc, decide_false, Bool.false_eq_true, if_false]
      rw [ih]
      cases h : hyAt l with
      | none => rw [show l.findIdx? (fun c => decide (c = 45)) = none from h]; rfl
      | some k =>
        rw [show l.findIdx? (fun c => decide (c = 45)) = some k from h]
        simp only [Option.map_some]
        rw [if_neg (by simp)]
        show ((k : Int) + 1) = ((k + 1 : Nat) : Int)
        omega

/- A name's parts. -/
def cat (l : List UInt8) (k : Nat) : ByteArray := ⟨(l.take k).toArray⟩
def partsOf (s : ByteArray) : Option (ByteArray × Nat) :=
  match hyAt s.data.toList with
  | none => none
  | some k => if wordB (cat s.data.toList k) = true ∧ numB (s.data.toList.drop (k + 1)) = true then some (cat s.data.toList k, numV (s.data.toList.drop (k + 1))) else none

theorem parts_none {s : ByteArray} (h : hyAt s.data.toList = none) : partsOf s = none := by simp [partsOf, h]
theorem parts_word {s : ByteArray} {k : Nat} (h : hyAt s.data.toList = some k) (hw : wordB (cat s.data.toList k) = false) : partsOf s = none := by simp [partsOf, h, hw]
theorem parts_num {s : ByteArray} {k : Nat} (h : hyAt s.data.toList = some k) (hw : numB (s.data.toList.drop (k + 1)) = false) : partsOf s = none := by simp [partsOf, h, hw]
theorem parts_some {s : ByteArray} {k : Nat} (h : hyAt s.data.toList = some k) (hw : wordB (cat s.data.toList k) = true) (hn : numB (s.data.toList.drop (k + 1)) = true) : partsOf s = some (cat s.data.toList k, numV (s.data.toList.drop (k + 1))) := by simp [partsOf, h, hw, hn]

/-- Behind a name with a further letter there is no number. -/
theorem parts_more {s : ByteArray} {q : ByteArray × Nat} (h : partsOf s = some q) : partsOf (s ++ ⟨#[97]⟩) = none := by
  cases hk : hyAt s.data.toList with
  | none => rw [parts_none hk] at h; cases h
  | some k =>
    obtain ⟨hl, h1, h2⟩ := hy_some.1 hk
    have hl' := hl
    have e : (s ++ ⟨#[97]⟩ : ByteArray).data.toList = s.data.toList ++ [97] := by rw [app_data]
    have hk2 : hyAt (s ++ ⟨#[97]⟩ : ByteArray).data.toList = some k := by
      rw [e, hy_some]
      refine ⟨by rw [List.length_append]; omega, by rw [List.getElem_append_left hl]; exact h1, fun j hj => ?_⟩
      rw [List.getElem_append_left (by omega)]
      exact h2 j hj
    refine parts_num hk2 ?_
    rw [e, List.drop_append_of_le_length (by omega), Bool.eq_false_iff]
    intro hn
    have h3 := (numB_iff.1 hn).2.2.1
    rw [List.all_append] at h3
    simp [digit] at h3
/-- Nor is there a word ahead of a hyphen that stands at the front. -/
theorem parts_front (s : ByteArray) : partsOf (⟨#[45]⟩ ++ s) = none := by
  have e : (⟨#[45]⟩ ++ s : ByteArray).data.toList = 45 :: s.data.toList := by rw [app_data]; rfl
  have hk : hyAt (⟨#[45]⟩ ++ s : ByteArray).data.toList = some 0 := by
    rw [e, hy_some]
    exact ⟨by simp, rfl, fun j hj => absurd hj (by omega)⟩
  refine parts_word hk (word_size _ (.inl ?_))
  show ((⟨#[45]⟩ ++ s : ByteArray).data.toList.take 0).toArray.size < 1
  simp
end Go.Proofs.YtnjbpeojadbclaaDoor
