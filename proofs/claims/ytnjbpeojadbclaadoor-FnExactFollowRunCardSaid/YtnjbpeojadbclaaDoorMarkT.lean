/- The texts of marks: laws.markText. -/
import Derived.Test.YtnjbpeojadbclaaDoorIn
import Derived.Laws.IdiomStrings
import Derived.Laws.Concat
namespace Go.Proofs.YtnjbpeojadbclaaDoor
open Go.RowKit

def mdigit (k : Nat) : UInt8 := UInt8.ofNat (48 + k % 10)
def mtLoop : Nat → Nat → ByteArray → ByteArray
  | 0, _, out => out
  | f + 1, k, out => if 0 < k then mtLoop f (k / 10) (⟨#[mdigit k]⟩ ++ out) else out
/-- The text of a mark. -/
def mtxt (k : Nat) : ByteArray := if 0 < k then ⟨#[109]⟩ ++ mtLoop 20 k ⟨#[]⟩ else ⟨#[109, 48]⟩
theorem mtLoop_zero (f : Nat) (out : ByteArray) : mtLoop f 0 out = out := by cases f <;> rfl
theorem mtLoop_step {f k : Nat} {out : ByteArray} (h : 0 < k) : mtLoop (f + 1) k out = mtLoop f (k / 10) (⟨#[mdigit k]⟩ ++ out) := by rw [mtLoop, if_pos h]
theorem mconv1 (w : World) (H : Nat) (x : Int) (b : Nat) (hx : x = (b : Int)) (hb : b < 256) (h : w.cell? ⟨H, 0, none⟩ = some (.int .u8 x)) :
    (convert 61 9 (.slice (some ⟨H, 0, none⟩) 1 1)).run Tryd.prog w = .ok (.string ⟨#[UInt8.ofNat b]⟩) w := by
  subst hx
  have := run_convert_bytes_back (P := Tryd.prog) w 61 9 5 ⟨H, 0, none⟩ 1 [UInt8.ofNat b] Tryd.underlying61 Tryd.underlying5 Tryd.underlying9 (fun j hj => by
    obtain rfl : j = 0 := by simpa using hj
    rw [show (⟨H, 0, none⟩ : Addr).add 0 = ⟨H, 0, none⟩ by simp [Addr.add], h]
    simp [UInt8.toNat_ofNat, Nat.mod_eq_of_lt hb])
  exact this

set_option maxHeartbeats 1000000 in
theorem mt_any (k : Nat) (w : World) (hk : k ≤ 100000000) :
    Calls Tryd.prog 22 #[.int .i64 (k : Int)] w fun e w' => e = .returned (.string (mtxt k)) ∧ w.grownBy w' none := by
  rcases (by omega : k = 0 ∨ 0 < k) with h0 | h0
  · subst h0
    go_enter Tryd.func22, Tryd.ntmps22
    go_wp2_with fail
    go_ret
    exact ⟨rfl, gr_refl _ _⟩
  have HM := hid (show mtxt k = ⟨#[109]⟩ ++ mtLoop 20 k ⟨#[]⟩ by rw [mtxt, if_pos h0])
  have d0 : decide ((k : Int) ≤ 0) = false := by simp; omega
  have h0' : (0 : Int) < (k : Int) := by omega
  go_enter Tryd.func22, Tryd.ntmps22
  go_wp2_with fail
  clear d0 h0' h0
  go_loopw [0, 3] (fun kv ov wr => ∃ (f k' : Nat) (out : ByteArray), kv = .int .i64 (k' : Int) ∧ ov = .string out ∧ k' < 10 ^ f ∧ k' ≤ 100000000 ∧ out.size + f = 20 ∧ mtLoop f k' out = mtLoop 20 k ⟨#[]⟩ ∧ w.grownBy wr none) (fun kv _ _ => (intOf kv).toNat)
  case atStart => exact ⟨20, k, ⟨#[]⟩, rfl, rfl, by omega, hk, rfl, rfl, gr_refl _ _⟩
  case round =>
    obtain ⟨f, k', out, rfl, rfl, hf, hk', hsz, hml, hgr⟩ := hrel
    have HML := hid hml
    have HSz := hid hsz
    have hso : out.size ≤ 20 := by omega
    clear hml hsz
    rcases (by omega : k' = 0 ∨ 0 < k') with h1 | h1
    · subst h1
      have HF := hid (show mtxt k = ⟨#[109]⟩ ++ out by rw [HM.out, ← HML.out, mtLoop_zero])
      have hadd := run_string_add_sum (P := Tryd.prog) wr ⟨#[109]⟩ out (by show (1 : Nat) + out.size ≤ _; omega)
      clear hf
      go_wp2_with fail
      go_ret
      exact ⟨by rw [HF.out]; rfl, hgr⟩
    · obtain ⟨f, rfl⟩ : ∃ f', f = f' + 1 := ⟨f - 1, by
        rcases Nat.eq_zero_or_pos f with e | e
        · subst e; simp at hf; omega
        · omega⟩
      have HQ := hid (show k' / 10 < 10 ^ f by rw [Nat.div_lt_iff_lt_mul (by omega)]; rw [Nat.pow_succ] at hf; exact hf)
      have HNx := hid (show mtLoop f (k' / 10) (⟨#[mdigit k']⟩ ++ out) = mtLoop 20 k ⟨#[]⟩ by rw [← HML.out, mtLoop_step h1])
      obtain ⟨dd, hdd⟩ : ∃ x, k' % 10 = x := ⟨_, rfl⟩
      obtain ⟨q, hq⟩ : ∃ x, k' / 10 = x := ⟨_, rfl⟩
      have hd10 : dd < 10 := by omega
      have hqk : q < k' := by omega
      have HD := hid (show mdigit k' = UInt8.ofNat (48 + dd) by rw [mdigit, hdd])
      have m1 : (k' : Int).tmod 10 = (dd : Int) := by rw [← hdd]; simp [Int.tmod]
      have m2 : (k' : Int) % 10 = (dd : Int) := by omega
      have m3 : (k' : Int).tdiv 10 = (q : Int) := by rw [← hq]; simp [Int.tdiv]
      have m4 : (k' : Int) / 10 = (q : Int) := by omega
      have m5 : IntKind.u8.wrap (48 + (dd : Int)) = 48 + (dd : Int) := by
        rcases (by omega : dd = 0 ∨ dd = 1 ∨ dd = 2 ∨ dd = 3 ∨ dd = 4 ∨ dd = 5 ∨ dd = 6 ∨ dd = 7 ∨ dd = 8 ∨ dd = 9) with h | h | h | h | h | h | h | h | h | h <;> subst h <;> rfl
      rw [hq] at HQ HNx
      have kc := mconv1 (wr.alloc (.cells #[.int .u8 (48 + (dd : Int))] 5)) wr.heap.size (48 + (dd : Int)) (48 + dd) (by omega) (by omega) ((Full.new _ _ _).cellAt 0 rfl)
      have hadd := run_string_add_sum (P := Tryd.prog) (wr.alloc (.cells #[.int .u8 (48 + (dd : Int))] 5)) ⟨#[UInt8.ofNat (48 + dd)]⟩ out (by show (1 : Nat) + out.size ≤ _; omega)
      obtain ⟨u, hu⟩ : ∃ u, UInt8.ofNat (48 + dd) = u := ⟨_, rfl⟩
      rw [hu] at kc hadd HD
      have hl := h1
      clear hf hdd hq hu
      go_wp2_with fail
      go_roundw
      case rel => exact ⟨f, q, ⟨#[u]⟩ ++ out, by first | rfl | (congr 1; omega), rfl, HQ.out, by omega, by rw [show (⟨#[u]⟩ ++ out : ByteArray).size = 1 + out.size by rw [ByteArray.size_append]; rfl]; have := HSz.out; omega, by rw [← HD.out]; exact HNx.out, gr_alloc hgr _⟩
      case measure => simp [intOf]; omega

end Go.Proofs.YtnjbpeojadbclaaDoor
