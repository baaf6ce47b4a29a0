/- (*rowTree).find, impl.IndexFind. -/
import Derived.Test.YtnegoaaddaofiaaTree
import Derived.Test.YtnegoaaddaofiaaRowV
namespace Go.Proofs.Ytnegoaaddaofiaa
open Go.RowKit

def RT.find (key : ByteArray) : RT → Option (Nat × RRow)
  | .nil => none
  | .node g r l t => if r.k = key then some (g, r) else if sl key r.k = true then RT.find key l else RT.find key t
def fptr : Option (Nat × RRow) → Option Addr
  | none => none
  | some (g, _) => some ⟨g, 0, none⟩
/-- What rows tell of a key. -/
def findR (key : ByteArray) (rs : List (ByteArray × List Int)) : Option (ByteArray × List Int) := rs.find? fun r => decide (r.1 = key)
def findX (key : ByteArray) (rs : List (ByteArray × List Int)) : List Int := ((findR key rs).map fun r => r.2).getD []
noncomputable def idxFind (key : ByteArray) (rs : List (ByteArray × List Int)) : List Int := if idxB rs = true then findX key rs else []

theorem keys_lt {rs : List (ByteArray × List Int)} {key : ByteArray} (h : ∀ r ∈ rs, sl r.1 key = true) : findR key rs = none := by
  rw [findR, List.find?_eq_none]
  intro r hr e
  have e' : r.1 = key := by simpa using e
  exact sl_ne (h r hr) e'
theorem keys_gt {rs : List (ByteArray × List Int)} {key : ByteArray} (h : ∀ r ∈ rs, sl key r.1 = true) : findR key rs = none := by
  rw [findR, List.find?_eq_none]
  intro r hr e
  have e' : r.1 = key := by simpa using e
  exact sl_ne (h r hr) e'.symm
theorem keysUp_mid {a b : List (ByteArray × List Int)} {r : ByteArray × List Int} (h : keysUp (a ++ r :: b)) : keysUp a ∧ keysUp b ∧ (∀ x ∈ a, sl x.1 r.1 = true) ∧ (∀ x ∈ b, sl r.1 x.1 = true) := by
  unfold keysUp at h ⊢
  rw [List.pairwise_append, List.pairwise_cons] at h
  exact ⟨h.1, h.2.1.2, fun x hx => h.2.2 x hx r List.mem_cons_self, h.2.1.1⟩
theorem rows_node (g : Nat) (r : RRow) (l t : RT) : rsem (RT.node g r l t).rows = rsem l.rows ++ r.sem :: rsem t.rows := by simp [RT.rows, rsem]
theorem find_law (key : ByteArray) : ∀ T : RT, keysUp (rsem T.rows) → findR key (rsem T.rows) = (T.find key).map (fun q => q.2.sem)
  | .nil, _ => rfl
  | .node g r l t, h => by
    rw [rows_node] at h ⊢
    obtain ⟨h1, h2, h3, h4⟩ := keysUp_mid h
    have i1 := find_law key l h1
    have i2 := find_law key t h2
    unfold RT.find
    rw [findR, List.find?_append, List.find?_cons]
    change (findR key (rsem l.rows)).or (match decide (r.k = key) with | true => some r.sem | false => findR key (rsem t.rows)) = _
    by_cases e : r.k = key
    · rw [if_pos e, decide_eq_true e, keys_lt (fun x hx => by have := h3 x hx; rw [← e]; exact this)]
      rfl
    · rw [if_neg e, decide_eq_false e]
      by_cases q : sl key r.k = true
      · rw [if_pos q, ← i1, keys_gt (rs := rsem t.rows) (fun x hx => sl_trans q (h4 x hx))]
        cases findR key (rsem l.rows) <;> rfl
      · rw [if_neg q, ← i2, keys_lt (rs := rsem l.rows) (fun x hx => sl_trans (h3 x hx) (by
          rcases sl_tri r.k key with q' | q' | q'
          · exact q'
          · exact absurd q' e
          · exact absurd q' q))]
        rfl
theorem RT.find_at {w : World} {B : Nat} {key : ByteArray} {g : Nat} {r : RRow} : ∀ {T : RT}, T.At w B → T.find key = some (g, r) → ∃ lp tp, Full w g 64 #[.string r.k, .slice r.a r.n r.c, .pointer lp, .pointer tp] ∧ Own w B 3 1 r.a r.n r.c (ints r.xs) ∧ (r.xs.length = r.n ∧ r.k.size ≤ maxLen)
  | .nil, _, e => by cases e
  | .node g' r' l t, ⟨_, h2, h3, h4, h5, h6⟩, e => by
    unfold RT.find at e
    split at e
    · injection e with e
      injection e with e1 e2
      subst e1; subst e2
      exact ⟨_, _, h2, h3, h4⟩
    · split at e
      · exact RT.find_at h5 e
      · exact RT.find_at h6 e

set_option maxHeartbeats 2000000 in
theorem fnd_any (T : RT) (q0 : Option Addr) (key : ByteArray) (w : World) (h : T.At w 0) (hq : T.ptr = q0) :
    Calls Try.prog 25 #[.pointer q0, .string key] w fun e w' => e = .returned (.pointer (fptr (T.find key))) ∧ w = w' := by
  have HA := hid (And.intro h hq)
  clear h hq
  go_enter Try.func25, Try.ntmps25
  go_wp2_with fail
  go_loopg [0] T.size (fun m p wr => ∃ (S : RT) (q : Option Addr), p = .pointer q ∧ S.ptr = q ∧ S.size = m ∧ S.At w 0 ∧ S.find key = T.find key ∧ w = wr)
  case atStart => exact ⟨T, q0, rfl, HA.out.2, rfl, HA.out.1, rfl, rfl⟩
  case round =>
    obtain ⟨S, q, rfl, hq, hm, hS, hF, rfl⟩ := hrel
    have HF := hid hF
    have HM := hid hm
    clear hF hm HA
    cases S with
    | nil =>
      obtain rfl : none = q := hq
      have HE := hid (show fptr (T.find key) = none by rw [← HF.out]; rfl)
      clear hS HF HM
      go_wp2_with fail
      go_ret
      exact ⟨by rw [HE.out]; rfl, rfl⟩
    | node g r l t =>
      obtain ⟨_, hf, _, _, h5, h6⟩ := hS
      obtain rfl : some ⟨g, 0, none⟩ = q := hq
      obtain ⟨lp, hlp⟩ : ∃ q, l.ptr = q := ⟨_, rfl⟩
      obtain ⟨tp, htp⟩ : ∃ q, t.ptr = q := ⟨_, rfl⟩
      rw [hlp, htp] at hf
      have c0 := hf.cellAt 0 rfl
      have c2 := hf.cellAt 2 rfl
      have c3 := hf.cellAt 3 rfl
      obtain ⟨rk, ra, rn, rc, rx⟩ := r
      dsimp only at c0 c2 c3
      have HL := hid (And.intro hlp h5)
      have HT := hid (And.intro htp h6)
      clear hf hlp htp h5 h6
      by_cases e : rk = key
      · have e1 : (rk.toList != key.toList) = false := by rw [e]; simp
        have e2 : (rk.toList == key.toList) = true := by rw [e]; simp
        have HE := hid (show fptr (T.find key) = some ⟨g, 0, none⟩ by rw [← HF.out, RT.find, if_pos e]; rfl)
        clear e HF HM HL HT
        go_wp2_with fail
        go_ret
        exact ⟨by rw [HE.out]; rfl, rfl⟩
      · have e0 : rk.toList ≠ key.toList := fun x => e (toList_inj x)
        have e1 : (rk.toList != key.toList) = true := by simpa using e0
        have e2 : (rk.toList == key.toList) = false := by simpa using e0
        by_cases q : sl key rk = true
        · have e3 : Op.bytesLess key.toList rk.toList = true := q
          have HE := hid (show l.find key = T.find key by rw [← HF.out, RT.find, if_neg e, if_pos q])
          clear e e0 HF HT q
          go_wp2_with fail
          go_roundg l.size
          case measure => have := HM.out; simp only [RT.size] at this; omega
          case rel => exact ⟨l, lp, rfl, HL.out.1, rfl, HL.out.2, HE.out, rfl⟩
        · have e3 : Op.bytesLess key.toList rk.toList = false := Bool.eq_false_iff.2 q
          have HE := hid (show t.find key = T.find key by rw [← HF.out, RT.find, if_neg e, if_neg q])
          clear e e0 HF HL q
          go_wp2_with fail
          go_roundg t.size
          case measure => have := HM.out; simp only [RT.size] at this; omega
          case rel => exact ⟨t, tp, rfl, HT.out.1, rfl, HT.out.2, HE.out, rfl⟩

/-- What IndexFind leaves. -/
def IfEnds (w : World) (fr : List Int) (e : Ending) (w' : World) : Prop :=
  ∃ (A : Option Addr) (n c : Nat), e = .returned (.slice A n c) ∧ Own w' w.heap.size 3 1 A n c (ints fr) ∧ fr.length = n ∧ w.grownBy w' none

set_option maxHeartbeats 2000000 in
theorem if_any (A : Option Addr) (n c : Nat) (rs : List RRow) (key : ByteArray) (w : World) (h : RArg w A n c rs) (hn : n ≤ 1000) (hall : ∀ r ∈ rs, r.n ≤ 1000) :
    Calls Try.prog 11 #[.slice A n c, .string key] w (IfEnds w (idxFind key (rsem rs))) := by
  obtain ⟨b, hb⟩ : ∃ b, idxB (rsem rs) = b := ⟨_, rfl⟩
  have e1 := iv_is A n c rs b w h hb
  have HB := hid hb
  have e2 := fun w2 (hg : w.grownBy w2 none) => rto_any n A n c rs w2 (Nat.le_refl _) (h.grown0 hg) hn hall
  clear hb h hall
  go_enter Try.func11, Try.ntmps11
  go_wp2_with fail
  refine e1.mono ?_
  rintro e w1 ⟨rfl, hg1⟩
  clear e1
  cases b with
  | false =>
    have HE := hid (show idxFind key (rsem rs) = [] by rw [idxFind, if_neg (by rw [HB.out]; simp)])
    clear HB e2
    go_wp2_with fail
    go_ret
    rw [HE.out]
    exact ⟨_, _, _, rfl, Own.empty w1 hg1.size, rfl, gr_alloc hg1 _⟩
  | true =>
    have HE := hid (show idxFind key (rsem rs) = findX key (rsem rs) by rw [idxFind, if_pos HB.out])
    have HK := hid ((idxB_iff.1 HB.out).2.1)
    clear HB
    go_wp2_with fail
    refine (e2 _ hg1).mono ?_
    rintro e w2 ⟨T, rfl, hT, hr, _, hg2⟩
    obtain ⟨q0, hq0⟩ : ∃ q, T.ptr = q := ⟨_, rfl⟩
    rw [hq0]
    have e3 := fnd_any T q0 key w2 (hT.base_le (Nat.zero_le _)) hq0
    have HTT := hid hT
    have HLaw := hid (show findR key (rsem rs) = (T.find key).map (fun q => q.2.sem) by rw [← hr]; exact find_law key T (by rw [hr]; exact HK.out))
    have G2 := gr_0 hg1 hg2
    have s1 := hg1.size
    clear hT hr hq0 e2 hg2 HK
    go_wp2_with fail
    refine e3.mono ?_
    rintro e w_ ⟨rfl, rfl⟩
    clear e3
    obtain ⟨fo, hfo⟩ : ∃ f, T.find key = f := ⟨_, rfl⟩
    rw [hfo]
    have HFO := hid hfo
    clear hfo
    cases fo with
    | none =>
      have HX := hid (show idxFind key (rsem rs) = [] by rw [HE.out, findX, HLaw.out, HFO.out]; rfl)
      clear HE HLaw HFO
      simp only [fptr]
      go_wp2_with fail
      go_ret
      rw [HX.out]
      exact ⟨_, _, _, rfl, Own.empty w2 G2.size, rfl, gr_alloc G2 _⟩
    | some gr =>
      obtain ⟨g, r⟩ := gr
      obtain ⟨lp, tp, hf, hO, hlen, _⟩ := RT.find_at HTT.out HFO.out
      have HX := hid (show idxFind key (rsem rs) = r.xs by rw [HE.out, findX, HLaw.out, HFO.out]; rfl)
      have c1 := hf.cellAt 1 rfl
      have HO := hid (hO.base_le s1)
      have HLen := hid hlen
      obtain ⟨rk, ra, rn, rc, rx⟩ := r
      dsimp only at c1 HX HO HLen
      clear HE HLaw HFO HTT hf hO hlen
      simp only [fptr]
      go_wp2_with fail
      go_ret
      rw [HX.out]
      exact ⟨ra, rn, rc, rfl, HO.out, HLen.out, G2⟩
end Go.Proofs.Ytnegoaaddaofiaa
