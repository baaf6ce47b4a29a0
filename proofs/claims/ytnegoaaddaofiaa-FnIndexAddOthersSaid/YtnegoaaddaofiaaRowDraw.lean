/- l92Rows, DrawIndexValid. -/
import Derived.Test.YtnegoaaddaofiaaRowAdd
import Derived.Test.YtnegoaaddaofiaaOf
namespace Go.Proofs.Ytnegoaaddaofiaa
open Go.RowKit

def dnN (b : Bool) : Nat := if b = true then 0 else 1
theorem spots_app (a b : List (ByteArray × List Int)) : spots (a ++ b) = spots a ++ spots b := by simp [spots]
theorem spots_cons (r : ByteArray × List Int) (b : List (ByteArray × List Int)) : spots (r :: b) = r.2 ++ spots b := by simp [spots]
theorem step_len (key : ByteArray) (p : Int) (s : List (ByteArray × List Int) × Bool) (r : ByteArray × List Int) :
    (addStep key p s r).1.length + dnN (addStep key p s r).2 ≤ s.1.length + dnN s.2 + 1 ∧ (spots (addStep key p s r).1).length + dnN (addStep key p s r).2 ≤ (spots s.1).length + dnN s.2 + r.2.length + 1 := by
  obtain ⟨l, d⟩ := s
  unfold addStep
  split
  · cases d <;> simp [dnN, spots] <;> omega
  · split
    · rename_i h
      obtain ⟨rfl, _⟩ := h
      simp [dnN, spots]
      omega
    · cases d <;> simp [dnN, spots]
theorem fold_len (key : ByteArray) (p : Int) : ∀ (rs : List (ByteArray × List Int)) (s : List (ByteArray × List Int) × Bool),
    (rs.foldl (addStep key p) s).1.length + dnN (rs.foldl (addStep key p) s).2 ≤ s.1.length + dnN s.2 + rs.length ∧ (spots (rs.foldl (addStep key p) s).1).length + dnN (rs.foldl (addStep key p) s).2 ≤ (spots s.1).length + dnN s.2 + (spots rs).length + rs.length
  | [], s => by simp [spots]
  | r :: rs, s => by
    have h1 := fold_len key p rs (addStep key p s r)
    have h2 := step_len key p s r
    rw [List.foldl_cons, spots_cons, List.length_append, List.length_cons]
    omega
theorem addR_len (key : ByteArray) (p : Int) (rs : List (ByteArray × List Int)) : (addR key p rs).length ≤ rs.length + 1 ∧ (spots (addR key p rs)).length ≤ (spots rs).length + rs.length + 1 := by
  have h := fold_len key p rs ([], false)
  change (addPre key p rs).1.length + dnN (addPre key p rs).2 ≤ _ ∧ (spots (addPre key p rs).1).length + dnN (addPre key p rs).2 ≤ _ at h
  obtain ⟨h1, h2⟩ := h
  unfold addR
  split
  · rename_i e
    rw [e] at h1 h2
    simp [dnN, spots] at h1 h2 ⊢
    omega
  · rename_i e
    have e' : (addPre key p rs).2 = false := by simpa using e
    rw [e'] at h1 h2
    rw [spots_app]
    simp [dnN, spots] at h1 h2 ⊢
    omega

theorem oks_past {w w' : World} {B g m : Nat} {ors : List RRow} (h : ∀ r ∈ ors, r.ok w) (hr : Rd 62 w B g m) (hg : w.grownBy w' (some g)) : ∀ r ∈ ors, r.ok w' := by
  intro r hm
  obtain ⟨cs, hf⟩ := hr.full
  exact (h r hm).far hg (fun b hb e => by injection e with e; exact (h r hm).ne_full hf (by decide) b hb e)

structure RwAt (w : World) (B g m k : Nat) (A : Option Addr) (n c : Nat) (ors : List RRow) (wr : World) : Prop where
  own : Own wr w.heap.size 33 2 A n c (rcells ors)
  len : ors.length = n
  le : n ≤ k
  ok : ∀ r ∈ ors, r.ok wr
  sp : (spots (rsem ors)).length ≤ 10 * k
  rd : Rd 62 wr B g (m + 14 - 2 * k)
  gr : w.grownBy wr (some g)
def RwEnds (w : World) (B g m : Nat) (e : Ending) (w' : World) : Prop :=
  ∃ (A : Option Addr) (n c : Nat) (ors : List RRow), e = .returned (.slice A n c) ∧ Own w' w.heap.size 33 2 A n c (rcells ors) ∧ ors.length = n ∧ n ≤ 7 ∧ (∀ r ∈ ors, r.ok w') ∧ (spots (rsem ors)).length ≤ 100 ∧ Rd 62 w' B g m ∧ w.grownBy w' (some g)

set_option maxHeartbeats 2000000 in
theorem rw92_any (B g m : Nat) (w : World) (h : Rd 62 w B g (m + 16)) :
    Calls Try.prog 18 #[.pointer (some ⟨g, 0, none⟩)] w (RwEnds w B g m) := by
  have hlt := h.lt
  have hge := h.ge
  have HO0 := hid (Own.empty (base := w.heap.size) (e := 33) (s := 2) w (Nat.le_refl _))
  have H0 := hid h
  go_enter Try.func18, Try.ntmps18
  go_wp2_with fail
  refine (pick_any B g (m + 15) 7 _ (h.alloc _) (by omega) (by omega)).mono ?_
  rintro e w1 ⟨N, rfl, hk11, hk12, R1, hg1⟩
  have hN := hk12 (by omega)
  have L0 := hid (show RwAt w B g m 0 (some ⟨w.heap.size, 0, none⟩) 0 0 [] w1 from ⟨HO0.out.past hg1 hlt, rfl, by omega, by simp, by simp [rsem, spots], R1.less (by omega), gr_trans (gr_alloc (gr_refl w _) _) hg1⟩)
  clear hk12 h R1 hg1 HO0 H0
  go_wp2_with fail
  go_loopw [3, 5, 6] (fun ov av iv wr => ∃ (k p : Nat) (A : Option Addr) (n c : Nat) (ors : List RRow), iv = .int .i64 (k : Int) ∧ av = .int .i64 (p : Int) ∧ ov = .slice A n c ∧ k ≤ N ∧ p ≤ 2 * k ∧ RwAt w B g m k A n c ors wr) (fun _ _ iv _ => N - (intOf iv).toNat)
  case atStart => exact ⟨0, 0, _, _, _, [], rfl, rfl, rfl, by omega, by omega, L0.out⟩
  case round =>
    clear L0
    obtain ⟨k, p, A, n, c, ors, rfl, rfl, rfl, hkN, hp, hat⟩ := hrel
    have hle := hat.le
    have hsz := hat.gr.size
    have HAt := hid hat
    clear hat
    by_cases hlt2 : k < N
    · go_wp2_with fail
      refine (pick_any B g (m + 13 - 2 * k) 2 _ (HAt.out.rd.less (by omega)) (by omega) (by omega)).mono ?_
      rintro e w2 ⟨k2, rfl, hk21, hk22, R2, hg2⟩
      have hk23 := hk22 (by omega)
      have O2 := HAt.out.own.past hg2 hlt
      have K2 := oks_past HAt.out.ok HAt.out.rd hg2
      have G2 := gr_trans HAt.out.gr hg2
      have HLn := hid HAt.out.len
      have HSp := hid HAt.out.sp
      clear hk22 hg2 HAt
      obtain ⟨q, hq⟩ : ∃ q : Nat, p + 1 + k2 = q := ⟨_, rfl⟩
      have hq2 : q ≤ 2 * (k + 1) := by omega
      have hw1 : IntKind.i64.wrap ((p : Int) + 1) = (p : Int) + 1 := IntWalk.i64_in _ (by omega)
      have hw2 : IntKind.i64.wrap ((p : Int) + 1 + (k2 : Int)) = (q : Int) := by rw [IntWalk.i64_in _ (by omega)]; omega
      clear hq
      go_wp2_with fail
      refine (of_any B g (m + 12 - 2 * k) _ 3 3 [⟨#[111, 112, 101, 110]⟩, ⟨#[112, 97, 121]⟩, ⟨#[115, 104, 105, 112]⟩] _ ((R2.alloc _).less (by omega)) (Full.new _ _ _) rfl (by omega) (by omega)).mono ?_
      rintro e w3 ⟨s, hs, rfl, R3, hg3⟩
      have O3 := (O2.alloc _).past hg3 hlt
      have K3 := oks_past (fun r hr => (K2 r hr).alloc _) (R2.alloc _) hg3
      have G3 := gr_trans (gr_alloc G2 _) hg3
      have hsz3 : s.size ≤ maxLen := by simp at hs; rcases hs with rfl | rfl | rfl <;> decide
      clear hs hg3 O2 K2 G2 R2
      have e1 := add_any A n c ors s (q : Int) w3 (RArg.of_own O3 HLn.out K3) hsz3 (by omega) (by have := HSp.out; omega)
      have hs3 := G3.size
      go_wp2_with fail
      refine e1.mono ?_
      rintro e w4 ⟨A4, n4, c4, ors4, rfl, O4, hl4, K4, hs4, hg4⟩
      have hlen := addR_len s (q : Int) (rsem ors)
      rw [← hs4, rsem_len, rsem_len, hl4, HLn.out] at hlen
      have hsp := HSp.out
      have ST := hid (show RwAt w B g m (k + 1) A4 n4 c4 ors4 w4 from ⟨O4.base_le hs3, hl4, by omega, K4, by omega, (R3.grown hg4 (by simp)).less (by omega), gr_0 G3 hg4⟩)
      clear e1 O3 K3 G3 R3 O4 K4 hl4 hs4 hg4 hlen hsp hw1 hw2
      go_wp2_with fail
      go_roundw
      case rel => exact ⟨k + 1, q, A4, n4, c4, ors4, by go_num, rfl, rfl, by omega, by omega, ST.out⟩
      case measure => simp [intOf]; omega
    · obtain rfl : k = N := by omega
      go_wp2_with fail
      refine (pick_any B g m 24 _ (HAt.out.rd.less (by omega)) (by omega) (by omega)).mono ?_
      rintro e w2 ⟨k2, rfl, hk21, hk22, R2, hg2⟩
      have hk23 := hk22 (by omega)
      have O2 := HAt.out.own.past hg2 hlt
      have K2 := oks_past HAt.out.ok HAt.out.rd hg2
      have HG2 := hid (gr_trans HAt.out.gr hg2)
      have HLn := hid HAt.out.len
      have HSp := hid HAt.out.sp
      have HS := hid (RS.of O2 K2)
      have hs2 := HG2.out.size
      have HR2 := hid R2
      clear hk22 hg2 HAt O2 K2 R2
      rcases (by omega : k2 = 0 ∨ k2 = 1 ∨ 2 ≤ k2) with q | q | q
      · subst q
        go_wp2_with (at_builtin; refine wpList_push _ rfl _ _ 23 rfl w.heap.size 33 Try.underlying23 rowInfo rfl (by omega) A n c (rcells ors) rfl (HS.out.alloc _).own _ 1 #[.string ⟨#[122, 111, 111]⟩, .slice none 0 0] rfl (Full.newAt (by simp)) rfl (by intro u hu; simp at hu; rcases hu with rfl | rfl <;> rfl) (by omega) (by omega) (by simp; omega) ?_
                     intro A6 c6 w6 hown6 hg6 _
                     have ok6 := hid ((HS.out.alloc _).push (r := ⟨⟨#[122, 111, 111]⟩, none, 0, 0, []⟩) ⟨Own.nil _, rfl, (show (3 : Nat) ≤ maxLen by simp [maxLen])⟩ hg6)
                     have HG6 := hid (gr_then (gr_alloc HG2.out _) hg6 (fun b hb => .inr (HS.out.own.block hb).1))
                     have HR6 := hid ((HR2.out.alloc _).grown hg6 (fun b hb => by have := (HS.out.own.block hb).1; exact ⟨by omega, by omega⟩))
                     have HO6 := hid hown6
                     clear hown6 hg6)
        go_ret
        exact ⟨A6, n + 1, c6, ors ++ [⟨⟨#[122, 111, 111]⟩, none, 0, 0, []⟩], rfl, by rw [rcells_snoc]; exact HO6.out, by rw [List.length_append, HLn.out]; rfl, by omega, ok6.out, by rw [rsem_app, spots_app, List.length_append]; have := HSp.out; simp [rsem, RRow.sem, spots] at this ⊢; omega, HR6.out, HG6.out⟩
      · subst q
        go_wp2_with (at_builtin; refine wpList_push _ rfl _ _ 23 rfl w.heap.size 33 Try.underlying23 rowInfo rfl (by omega) A n c (rcells ors) rfl ((HS.out.alloc _).alloc _).own _ 1 #[.string ⟨#[122, 111, 111]⟩, .slice (some ⟨w2.heap.size, 0, none⟩) 1 1] rfl (Full.newAt (by simp)) rfl (by intro u hu; simp at hu; rcases hu with rfl | rfl <;> rfl) (by omega) (by omega) (by simp; omega) ?_
                     intro A6 c6 w6 hown6 hg6 _
                     have ok6 := hid (((HS.out.alloc (.cells #[.int .i64 (p : Int)] 3)).alloc _).push (r := ⟨⟨#[122, 111, 111]⟩, some ⟨w2.heap.size, 0, none⟩, 1, 1, [(p : Int)]⟩) ⟨(Own.lit w2 #[.int .i64 (p : Int)] 1 (Nat.zero_le _) (by simp [maxLen]) rfl).alloc _, rfl, (show (3 : Nat) ≤ maxLen by simp [maxLen])⟩ hg6)
                     have HG6 := hid (gr_then (gr_alloc (gr_alloc HG2.out _) _) hg6 (fun b hb => .inr (HS.out.own.block hb).1))
                     have HR6 := hid (((HR2.out.alloc _).alloc _).grown hg6 (fun b hb => by have := (HS.out.own.block hb).1; exact ⟨by omega, by omega⟩))
                     have HO6 := hid hown6
                     clear hown6 hg6)
        go_ret
        exact ⟨A6, n + 1, c6, ors ++ [⟨⟨#[122, 111, 111]⟩, some ⟨w2.heap.size, 0, none⟩, 1, 1, [(p : Int)]⟩], rfl, by rw [rcells_snoc]; exact HO6.out, by rw [List.length_append, HLn.out]; rfl, by omega, ok6.out, by rw [rsem_app, spots_app, List.length_append]; have := HSp.out; simp [rsem, RRow.sem, spots] at this ⊢; omega, HR6.out, HG6.out⟩
      · have q0 : ((k2 : Int) == 0) = false := by simp; omega
        have q1 : ((k2 : Int) == 1) = false := by simp; omega
        go_wp2_with fail
        go_ret
        exact ⟨A, n, c, ors, rfl, HS.out.own, HLn.out, by omega, HS.out.ok, by have := HSp.out; omega, HR2.out.less (by omega), HG2.out⟩

/-- What DrawIndexValid leaves. -/
def DivEnds (w : World) (e : Ending) (w' : World) : Prop :=
  ∃ (A : Option Addr) (n c : Nat) (ors : List RRow), e = .returned (.slice A n c) ∧ Own w' w.heap.size 33 2 A n c (rcells ors) ∧ ors.length = n ∧ n ≤ 7 ∧ (∀ r ∈ ors, r.ok w') ∧ (spots (rsem ors)).length ≤ 100 ∧ w.grownBy w' none
set_option maxHeartbeats 1000000 in
theorem div_any (A : Option Addr) (n c : Nat) (zs : List Int) (w : World) (h : Code w A n c zs) :
    Calls Try.prog 7 #[.slice A n c] w (DivEnds w) := by
  go_enter Try.func7, Try.ntmps7
  go_wp2_with fail
  refine (open_any A n c zs _ h).mono ?_
  rintro e w1 ⟨g, rfl, hr1, hg1⟩
  have hB := hr1.ge
  go_wp2_with fail
  refine (rw92_any _ g 90000 _ (hr1.less (by omega))).mono ?_
  rintro e w2 ⟨A2, n2, c2, ors, rfl, hO, hl, hn7, hok, hsp, hr2, hg2⟩
  have HLn := hid hl
  have HSp := hid hsp
  clear hl hsp
  go_wp2_with fail
  go_ret
  exact ⟨A2, n2, c2, ors, rfl, hO.base_le hg1.size, HLn.out, hn7, hok, HSp.out, gr_new hg1 hg2 hB⟩
end Go.Proofs.Ytnegoaaddaofiaa
