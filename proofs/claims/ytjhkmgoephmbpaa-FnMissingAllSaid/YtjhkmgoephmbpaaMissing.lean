/- CheckMissing in impl and in spec; the drawn checkpoint. -/
import Derived.Test.YtjhkmgoephmbpaaMark
import Derived.Test.YtjhkmgoephmbpaaCkDraw
import Derived.Test.YtjhkmgoephmbpaaCkS
namespace Go.Proofs.Ytjhkmgoephmbpaa
open Go.RowKit

def msV (d : Int) (xs : List Int) : List Int := if ckB d xs then missA d xs else []
theorem msV_no {d : Int} {xs : List Int} (h : ckB d xs = false) : msV d xs = [] := by simp [msV, h]
theorem msV_yes {d : Int} {xs : List Int} (h : ckB d xs = true) : msV d xs = missA d xs := by simp [msV, h]
theorem asc_len {lo hi : Int} {l : List Int} (h : asc lo hi l = true) (hl : lo ≤ hi) : (l.length : Int) ≤ hi - lo := by
  induction l generalizing lo with
  | nil => simp; omega
  | cons x l ih =>
    obtain ⟨h1, h2, h3⟩ := asc_head h
    have := ih h3 h2
    simp; omega
theorem miss_len {d : Int} {xs : List Int} (h : asc d 99 xs = true) (h0 : 0 ≤ d) (h1 : d ≤ 100) : (missA d xs).length ≤ 100 := by
  have := asc_len (missA_asc (lo := d - 1) (hi := 99) (d := d) (asc_low h (by omega)) (by omega)) (by omega)
  omega

theorem Chain.full {w : World} {gs : List Nat} {xs : List Int} (h : Chain w gs xs) : ∀ g ∈ gs, ∃ cs, Full w g 48 cs := by
  induction gs generalizing xs with
  | nil => simp
  | cons a gs ih =>
    cases xs with
    | nil => exact h.elim
    | cons x xs =>
      intro g hg
      rcases List.mem_cons.1 hg with rfl | hg
      · exact ⟨_, h.1⟩
      · exact ih h.2 g hg
/-- An append to a slice of ints leaves the nodes alone. -/
theorem Chain.push {w wz : World} {gs : List Nat} {xs : List Int} {base : Nat} {A : Option Addr} {m c : Nat} {l : List Value} {o : Obj} (h : Chain w gs xs) (O : Own w base 3 1 A m c l) (hg : (w.alloc o).grownBy wz (blockOf A)) : Chain wz gs xs := by
  refine h.keep fun g hm => ?_
  obtain ⟨cs, hf⟩ := h.full g hm
  have hlt := hf.lt
  refine (hg.block g (by simp; omega) (fun e => O.ne_full hf (by decide) g e.symm rfl)).trans (heap_alloc_old w o hlt)

/-- What CheckMissing leaves. -/
def MsTo (w : World) (l : List Int) (e : Ending) (w' : World) : Prop :=
  ∃ (A : Option Addr) (m c : Nat), e = .returned (.slice A m c) ∧ Own w' w.heap.size 3 1 A m c (ints l) ∧ l.length = m ∧ w.grownBy w' none

structure CmAt (w : World) (d : Int) (xs : List Int) (k : Nat) (y : Int) (m : Nat) (out : List Int) (A : Option Addr) (c : Nat) (wr : World) : Prop where
  own : Own wr w.heap.size 3 1 A m c (ints out)
  len : out.length = m
  all : out ++ missA y (xs.drop k) = missA d xs
  asc : asc (y - 1) 99 (xs.drop k) = true
  y0 : 0 ≤ y
  y1 : y ≤ 100
  gr : w.grownBy wr none
structure CiAt (w : World) (d : Int) (xs : List Int) (k : Nat) (x y : Int) (m : Nat) (out : List Int) (A : Option Addr) (c : Nat) (wr : World) : Prop where
  own : Own wr w.heap.size 3 1 A m c (ints out)
  len : out.length = m
  all : out ++ (rangeI y x ++ missA (x + 1) (xs.drop (k + 1))) = missA d xs
  y0 : 0 ≤ y
  y1 : y ≤ x
  gr : w.grownBy wr none

set_option maxHeartbeats 2000000 in
theorem ms_any (d : Int) (A : Option Addr) (n c : Nat) (xs : List Int) (w : World) (h : Lies w A (ints xs)) (hn : xs.length = n) (hc : n ≤ c) (hm : c ≤ maxLen) :
    Calls Try.prog 20 #[.agg #[.int .i64 d, .slice A n c]] w (MsTo w (msV d xs)) := by
  have hL := (h.alloc (.cells #[.int .i64 d, .slice A n c] 25)).alloc (.cells #[] 3)
  have F := (Full.new w 25 #[.int .i64 d, .slice A n c]).alloc (.cells #[] 3)
  have O := (Own.empty (base := w.heap.size + 1) (e := 3) (s := 1) (w.alloc (.cells #[.int .i64 d, .slice A n c] 25)) (by simp)).base_le (show w.heap.size ≤ w.heap.size + 1 by omega)
  simp only [World.size_alloc] at O
  have G0 := gr_alloc (gr_alloc (gr_refl w none) (.cells #[.int .i64 d, .slice A n c] 25)) (.cells #[] 3)
  obtain ⟨b1, hb1⟩ : ∃ b, ckB d xs = b := ⟨_, rfl⟩
  have e1 := fun w hL => ckv_is d A n c xs b1 w hL hn hc hm hb1
  have e4 := fun w hL => po_is A n c xs w hL hn hc hm
  have HN := hid hn
  have HB1 := hid hb1
  clear hn hb1
  unfold maxLen at hm
  go_enter Try.func20, Try.ntmps20
  go_wp2_with fail
  refine (e1 _ hL).mono ?_
  rintro e w1 ⟨rfl, hg1⟩
  have F1 := F.grown hg1 (by simp)
  have hL1 := hL.grown0 hg1
  have c0 := F1.cellAt 0 rfl
  have c1 := F1.cellAt 1 rfl
  have G1 := gr_0 G0 hg1
  have O1 := O.kept0 hg1
  clear hg1
  cases b1 with
  | false =>
    have HV := hid (msV_no HB1.out)
    go_wp2_with fail
    go_ret
    exact ⟨_, _, _, rfl, by rw [HV.out]; exact O1, by rw [HV.out]; rfl, G1⟩
  | true =>
    have HV := hid (msV_yes HB1.out)
    obtain ⟨⟨d0, d1⟩, _, hasc⟩ := ckB_parts HB1.out
    have HML := hid (miss_len hasc d0 d1)
    have HAS := hid hasc
    clear hasc
    go_wp2_with fail
    refine (e4 _ hL1).mono ?_
    rintro e w4 ⟨gs, rfl, hch, hnd, _, hg4⟩
    have O4 := O1.kept0 hg4
    have G4 := gr_0 G1 hg4
    have HCh := hid hch
    have HNd := hid hnd
    have HGl := hid (hch.len.trans HN.out)
    have CA : CmAt w d xs 0 d 0 [] (some ⟨w.heap.size + 1, 0, none⟩) 0 w4 := ⟨O4, rfl, by simp, by simpa using asc_low HAS.out (by omega), d0, d1, G4⟩
    have HCA := hid CA
    clear CA hch hnd hg4 O4 G4 O1 G1 hL1 F1 O F hL G0 e1 e4
    go_wp2_with fail
    go_loopw [3, 4, 5] (fun v nx p wr => ∃ (k : Nat) (y : Int) (m : Nat) (out : List Int) (A' : Option Addr) (c' : Nat), p = ptrOf (gs.drop k) ∧ nx = .int .i64 y ∧ v = .slice A' m c' ∧ k ≤ n ∧ Chain wr gs xs ∧ CmAt w d xs k y m out A' c' wr) (fun _ _ p _ => n - posOf gs p)
    case atStart => exact ⟨0, d, 0, [], _, _, rfl, rfl, rfl, by omega, HCh.out, HCA.out⟩
    case round =>
      obtain ⟨k, y, m, out, A', c', rfl, rfl, rfl, hkn, hgw, hat⟩ := hrel
      have HW := hid hgw
      clear hgw
      have HP := hid (posOf_drop HNd.out (show k ≤ gs.length by rw [HGl.out]; exact hkn))
      by_cases hlt : k < n
      · have hkl : k < xs.length := by rw [HN.out]; exact hlt
        have hkg : k < gs.length := by rw [HGl.out]; exact hlt
        have HP2 := hid (posOf_drop HNd.out (show k + 1 ≤ gs.length by rw [HGl.out]; exact hlt))
        have hd := HW.out.drop k
        rw [List.drop_eq_getElem_cons hkl, List.drop_eq_getElem_cons hkg] at hd
        have HE2 := hid (List.drop_eq_getElem_cons hkg)
        have hall := hat.all
        have hasc := hat.asc
        rw [List.drop_eq_getElem_cons hkl] at hall hasc
        obtain ⟨Fk, _⟩ := hd
        obtain ⟨x, hx⟩ : ∃ x, xs[k] = x := ⟨_, rfl⟩
        obtain ⟨g, hg⟩ : ∃ g, gs[k] = g := ⟨_, rfl⟩
        obtain ⟨u, hu⟩ := ptrOf_pointer (gs.drop (k + 1))
        rw [hx, hg, hu] at Fk
        rw [hx] at hall hasc
        obtain ⟨q1, q2, q3⟩ := asc_head hasc
        have HU := hid hu
        have hp : ptrOf (gs.drop k) = .pointer (some ⟨g, 0, none⟩) := by rw [HE2.out, ← hg]; rfl
        have HQ := hid hp
        rw [hp]
        have HQ3 := hid q3
        have CI : CiAt w d xs k x y m out A' c' wr := ⟨hat.own, hat.len, hall, hat.y0, by omega, hat.gr⟩
        have hgk := hg
        have HX := hid hx
        clear hx hg hu hp hall hasc q3 hat
        have HE3 := hid (show gs[k] = g from hgk)
        clear hgk
        have k0 := Fk.cellAt 0 rfl
        have k1 := Fk.cellAt 1 rfl
        have HCI := hid CI
        clear CI
        go_wp2_with fail
        obtain ⟨wo, hwo⟩ : ∃ wo : World, wo = wr := ⟨_, rfl⟩
        rw [← hwo] at HW ⊢ HCI
        clear hwo
        go_loopw [3, 4] (fun v nx wi => ∃ (y : Int) (m : Nat) (out : List Int) (A' : Option Addr) (c' : Nat), nx = .int .i64 y ∧ v = .slice A' m c' ∧ Chain wi gs xs ∧ CiAt w d xs k x y m out A' c' wi) (fun _ nx _ => (x - intOf nx).toNat)
        case atStart => exact ⟨y, m, out, _, _, rfl, rfl, HW.out, HCI.out⟩
        case round =>
          clear HCI
          obtain ⟨y, m, out, A', c', rfl, rfl, hgi, hat⟩ := hrel
          have HI := hid hgi
          have hd := hgi.drop k
          rw [List.drop_eq_getElem_cons hkl, List.drop_eq_getElem_cons hkg, HX.out, HE3.out] at hd
          obtain ⟨Fi, _⟩ := hd
          rw [HU.out] at Fi
          clear hgi
          have y0 := hat.y0
          have y1 := hat.y1
          have O1 := hat.own
          have G1 := hat.gr
          have hml : m ≤ 100 := by
            have := congrArg List.length hat.all
            rw [List.length_append, hat.len] at this
            have := HML.out
            omega
          have k0 := Fi.cellAt 0 rfl
          have k1 := Fi.cellAt 1 rfl
          by_cases hlt2 : y < x
          · have hFne : ∀ b, blockOf A' = some b → b ≠ g := O1.ne_full Fi (by decide)
            go_wp2_with (at_builtin; refine wpList_push _ rfl _ _ 23 rfl w.heap.size 3 Try.underlying23 intInfo rfl (by omega) A' m c' (ints out) rfl (O1.alloc (.cells #[.int .i64 y] 3)) _ 1 #[.int .i64 y] rfl (Full.newAt (by simp)) rfl (by intro u hu; simp at hu; subst hu; rfl) (by omega) (by omega) (Nat.le_trans G1.size (World.grownBy_alloc _ _ none).size) ?_; intro A2 c2 wz hown hgz _)
            have ST : CiAt w d xs k x (y + 1) (m + 1) (out ++ [y]) A2 c2 wz := by
              refine ⟨by rw [ints_app]; exact hown, by simp [hat.len], ?_, by omega, by omega, gr_then (gr_alloc G1 _) hgz (fun b hb => .inr (O1.block hb).1)⟩
              rw [← hat.all, rangeI_cons hlt2]
              simp
            have GW := HI.out.push O1 hgz
            clear hown hgz hat
            go_wp2_with fail
            go_roundw
            case rel => exact ⟨y + 1, m + 1, _, A2, c2, rfl, by go_num, GW, ST⟩
            case measure => simp [intOf]; omega
          · obtain rfl : y = x := by omega
            have ST : CmAt w d xs (k + 1) (y + 1) m out A' c' wr := by
              refine ⟨O1, hat.len, ?_, by rw [show y + 1 - 1 = y by omega]; exact HQ3.out, by omega, by omega, G1⟩
              have := hat.all
              rwa [rangeI_nil (Int.le_refl y), List.nil_append] at this
            clear hat
            go_wp2_with fail
            go_roundw
            case rel => exact ⟨k + 1, y + 1, m, out, A', c', HU.out.symm, rfl, rfl, by omega, HI.out, ST⟩
            case measure => rw [← HU.out, ← HQ.out, HP2.out, HP.out]; omega
      · obtain rfl : k = n := by omega
        have hp : ptrOf (gs.drop k) = .pointer none := by rw [List.drop_of_length_le (by rw [HGl.out]; omega)]; rfl
        rw [hp]
        clear hp
        have hout : out = missA d xs := by
          have := hat.all
          rwa [List.drop_of_length_le (by rw [HN.out]; omega), missA, List.append_nil] at this
        have HO := hid hout
        have O1 := hat.own
        have G1 := hat.gr
        have HLn := hid hat.len
        clear hout hat
        go_wp2_with fail
        go_ret
        exact ⟨A', m, c', rfl, by rw [HV.out, ← HO.out]; exact O1, by rw [HV.out, ← HO.out]; exact HLn.out, G1⟩
end Go.Proofs.Ytjhkmgoephmbpaa
