/- impl's nameSplit, over the sentinel errNoName. -/
import Derived.Test.YtnjbpeojadbclaaDoorCut
namespace Go.Proofs.YtnjbpeojadbclaaDoor
open Go.RowKit

/-- The variable errNoName holds a pointer to an errors.errorString. -/
def Sent (w : World) (a : Addr) : Prop := w.cell? ⟨0, 0, none⟩ = some (.iface 97 (.pointer (some a)))
theorem Sent.grown0 {w w' : World} {a : Addr} (h : Sent w a) (hg : w.grownBy w' none) : Sent w' a := hg.cell h (by simp)
theorem Sent.cell {w : World} {a : Addr} (h : Sent w a) : w.cell? ⟨0, 0, none⟩ = some (.iface 97 (.pointer (some a))) := h

/-- What nameSplit leaves. -/
def nsV (o : Option (ByteArray × Nat)) (a : Addr) : Value :=
  match o with
  | some q => .tuple #[.string q.1, .int .i64 (q.2 : Int), .nilIface]
  | none => .tuple #[.string ⟨#[]⟩, .int .i64 0, .iface 97 (.pointer (some a))]

set_option maxHeartbeats 1000000 in
theorem ns_is (s : ByteArray) (o : Option (ByteArray × Nat)) (a : Addr) (w : World) (hs : s.size ≤ maxLen) (hE : Sent w a) (ho : partsOf s = o) :
    Calls Tryd.prog 42 #[.string s] w fun e w' => e = .returned (nsV o a) ∧ w.grownBy w' none := by
  have e1 := cut_is s w hs
  have HO := hid ho
  have HE := hid hE
  clear ho hE
  cases hk : hyAt s.data.toList with
  | none =>
    have hv : cutV s = .tuple #[.string s, .string ⟨#[]⟩, .bool false] := by rw [cutV, hk]
    rw [hv] at e1
    obtain rfl : o = none := by rw [← HO.out, parts_none hk]
    clear hk hv
    go_enter Tryd.func42, Tryd.ntmps42
    go_wp2_with fail
    refine e1.mono ?_
    rintro e w1 ⟨rfl, hg1⟩
    have ce := (HE.out.grown0 hg1).cell
    clear e1
    go_wp2_with fail
    go_quiet (fail)
    go_wp2_with fail
    go_ret3
    exact ⟨rfl, gr_drewN hg1 _⟩
  | some k =>
    have hv : cutV s = .tuple #[.string (s.extract 0 k), .string (s.extract (k + 1) s.size), .bool true] := by rw [cutV, hk]
    rw [hv] at e1
    obtain ⟨b1, hb1⟩ : ∃ b, wordB (cat s.data.toList k) = b := ⟨_, rfl⟩
    obtain ⟨b2, hb2⟩ : ∃ b, numB (s.data.toList.drop (k + 1)) = b := ⟨_, rfl⟩
    have e2 := fun w => word_is (s.extract 0 k) b1 w (by rw [ex_take]; exact Nat.le_trans (cat_size s k) hs) (by rw [ex_take]; exact hb1)
    have e3 := fun w => nf_is (s.extract (k + 1) s.size) b2 w (Nat.le_trans (drop_size s (k + 1)) hs) (by rw [ex_drop]; exact hb2)
    rw [ex_drop] at e3
    obtain ⟨v, hv2⟩ : ∃ v : Nat, numV (s.data.toList.drop (k + 1)) = v := ⟨_, rfl⟩
    have HK := hid hk
    have HB1 := hid hb1
    have HB2 := hid hb2
    have HV := hid hv2
    clear hk hv hb1 hb2 hv2
    go_enter Tryd.func42, Tryd.ntmps42
    go_wp2_with fail
    refine e1.mono ?_
    rintro e w1 ⟨rfl, hg1⟩
    have ce := (HE.out.grown0 hg1).cell
    clear e1
    go_wp2_with fail
    refine (e2 _).mono ?_
    rintro e w2 ⟨rfl, rfl⟩
    clear e2
    cases b1 with
    | false =>
      obtain rfl : o = none := by rw [← HO.out, parts_word HK.out HB1.out]
      clear e3
      go_wp2_with fail
      go_quiet (fail)
      go_wp2_with fail
      go_ret3
      exact ⟨rfl, gr_drewN hg1 _⟩
    | true =>
      go_wp2_with fail
      refine (e3 _).mono ?_
      rintro e w2 ⟨rfl, rfl⟩
      clear e3
      cases b2 with
      | false =>
        obtain rfl : o = none := by rw [← HO.out, parts_num HK.out HB2.out]
        go_wp2_with fail
        go_quiet (fail)
        go_wp2_with fail
        go_ret3
        exact ⟨rfl, gr_drewN hg1 _⟩
      | true =>
        have HP := hid (parts_some HK.out HB1.out HB2.out)
        have HC := hid (ex_take s k)
        go_wp2_with fail
        go_ret3
        refine ⟨?_, hg1⟩
        rw [← HO.out, HP.out, nsV, ← HC.out]
        rfl
end Go.Proofs.YtnjbpeojadbclaaDoor
