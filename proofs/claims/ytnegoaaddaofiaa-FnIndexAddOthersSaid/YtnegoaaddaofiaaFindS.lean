/- spec.IndexFind, spec.DrawIndexFind. -/
import Derived.Test.YtnegoaaddaofiaaTreeF
import Derived.Test.YtnegoaaddaofiaaRowSV
import Derived.Test.YtnegoaaddaofiaaRowDraw
namespace Go.Proofs.Ytnegoaaddaofiaa
open Go.RowKit

theorem findR_next {key : ByteArray} {rs : List (ByteArray × List Int)} {k : Nat} (hk : k < rs.length) (h : findR key (rs.take k) = none) : (rs[k].1 ≠ key → findR key (rs.take (k + 1)) = none) ∧ (rs[k].1 = key → findR key rs = some rs[k]) := by
  have e1 : findR key (rs.take (k + 1)) = if rs[k].1 = key then some rs[k] else none := by
    rw [List.take_succ_eq_append_getElem hk, findR, List.find?_append]
    change (findR key (rs.take k)).or _ = _
    rw [h, List.find?_cons]
    by_cases e : rs[k].1 = key
    · simp [e]
    · simp [e]
  refine ⟨fun e => by rw [e1, if_neg e], fun e => ?_⟩
  have e2 : rs = rs.take (k + 1) ++ rs.drop (k + 1) := (List.take_append_drop _ _).symm
  have e3 : findR key rs = (findR key (rs.take (k + 1))).or (findR key (rs.drop (k + 1))) := by
    conv => lhs; rw [e2]
    rw [findR, List.find?_append]; rfl
  rw [e3, e1, if_pos e]; rfl

set_option maxHeartbeats 4000000 in
theorem sif_any (A : Option Addr) (n c : Nat) (rs : List RRow) (key : ByteArray) (w : World) (h : RArg w A n c rs) (hn : n ≤ 1000) (hs : (spots (rsem rs)).length ≤ 1000) :
    Calls Try.prog 12 #[.slice A n c, .string key] w (IfEnds w (idxFind key (rsem rs))) := by
  have hc := h.cap
  have hm := h.max
  unfold maxLen at hm
  have HN := hid h.len
  have HA := hid h
  obtain ⟨b, hb⟩ : ∃ b, idxB (rsem rs) = b := ⟨_, rfl⟩
  have HB := hid hb
  have EV := hid (fun w2 (hg : w.grownBy w2 none) => siv_is A n c rs b w2 (h.grown0 hg) hb hs)
  have HS := hid hs
  clear h hb hs
  go_enter Try.func12, Try.ntmps12
  go_wp2_with fail
  go_loopw [5] (fun iv wr => ∃ k : Nat, iv = .int .i64 (k : Int) ∧ k ≤ n ∧ findR key ((rsem rs).take k) = none ∧ w.grownBy wr none) (fun iv _ => n - (intOf iv).toNat)
  case atStart => exact ⟨0, rfl, by omega, by simp [findR], gr_refl _ _⟩
  case round =>
    obtain ⟨k, rfl, hkn, hF, hG⟩ := hrel
    have HF := hid hF
    clear hF
    by_cases hlt : k < n
    · have hkl : k < rs.length := by rw [HN.out]; exact hlt
      have hks : k < (rsem rs).length := by rw [rsem_len]; exact hkl
      have EV1 := EV.out wr hG
      have HNx := hid (findR_next hks HF.out)
      have es := rsem_at rs k hkl
      have hls := len_spots hkl
      have hs1 := HS.out
      have HRA := hid (fun (w' : World) (hg : w.grownBy w' none) => ((HA.out.ats _ (List.getElem_mem hkl)).grown0 hg))
      obtain ⟨g, o, hAe, hgl, hcells⟩ := HA.out.open_ (by omega)
      have cc := hcells k hkl
      clear hcells
      obtain ⟨r, hrr⟩ : ∃ r, rs[k] = r := ⟨_, rfl⟩
      simp only [es, hrr] at HNx cc HRA hls
      obtain ⟨rk, ra, rn, rc, rx⟩ := r
      simp only [RRow.sem] at HNx cc HRA hls
      have ck : ∀ w' : World, w.grownBy w' none → w'.cell? ⟨g, o + k * 2, none⟩ = some (.string rk) := fun w' hg => (cc w' hg).1
      have cp : ∀ w' : World, w.grownBy w' none → w'.cell? ⟨g, o + k * 2 + 1, none⟩ = some (.slice ra rn rc) := fun w' hg => (cc w' hg).2
      have hrl : rx.length = rn := (HRA.out w (gr_refl _ _)).len
      have hrc : rn ≤ rc := (HRA.out w (gr_refl _ _)).cap
      have hrm : rc ≤ maxLen := (HRA.out w (gr_refl _ _)).max
      unfold maxLen at hrm
      have HLI : ∀ w' : World, w.grownBy w' none → Lies w' ra (ints rx) := fun w' hg => (HRA.out w' hg).own.lies
      have HLEN := hid (show (ints rx).length = rn * 1 by rw [ints_len, hrl, Nat.mul_one])
      have hrn : rn ≤ 1000 := by omega
      have HRl := hid hrl
      have b1 : (0 : Int) ≤ (k : Int) := by omega
      have b2 : (k : Int) < (n : Int) := by omega
      subst hAe
      clear cc es hrr hls hs1 hrl hgl HA
      go_wp2_with fail
      refine EV1.mono ?_
      rintro e w1 ⟨rfl, hg1⟩
      clear EV1
      have G1 := gr_0 hG hg1
      have c1 := ck w1 G1
      have c2a := cp (w1.alloc (.cells #[] 3)) (gr_alloc G1 _)
      have l1 := HLI w1 G1
      have sz1 := G1.size
      clear ck cp HLI hg1
      cases b with
      | false =>
        have HE := hid (show idxFind key (rsem rs) = [] by rw [idxFind, if_neg (by rw [HB.out]; simp)])
        clear HB EV HNx HF
        go_wp2_with fail
        go_ret
        rw [HE.out]
        exact ⟨_, _, _, rfl, Own.empty w1 sz1, rfl, gr_alloc G1 _⟩
      | true =>
        have HE := hid (show idxFind key (rsem rs) = findX key (rsem rs) by rw [idxFind, if_pos HB.out])
        clear HB
        by_cases e : rk = key
        · have e2 : (rk.toList == key.toList) = true := by rw [e]; simp
          have HX := hid (show idxFind key (rsem rs) = rx by rw [HE.out, findX, HNx.out.2 e]; rfl)
          clear e HNx HF HE EV
          go_wp2_with (at_builtin; refine wpList_app _ rfl _ _ 29 rfl w1.heap.size 3 Try.underlying29 intInfo rfl (by omega) (some ⟨w1.heap.size, 0, none⟩) 0 0 [] rfl (Own.empty w1 (Nat.le_refl _)) ra rn rc (ints rx) rfl (l1.alloc _) HLEN.out (ints_one _) (by omega) (by omega) (by simp) ?_; intro A5 c5 w5 hown5 hg5 _)
          have K5 : w1.grownBy w5 none := gr_then (World.grownBy_alloc w1 _ none) hg5 (by rintro g hg; injection hg with hg; subst hg; exact .inr (Nat.le_refl _))
          rw [Nat.zero_add, List.nil_append] at hown5
          try rw [Nat.zero_add]
          go_ret
          rw [HX.out]
          exact ⟨A5, rn, c5, rfl, hown5.base_le sz1, HRl.out, gr_0 G1 K5⟩
        · have e0 : rk.toList ≠ key.toList := fun x => e (toList_inj x)
          have e2 : (rk.toList == key.toList) = false := by simpa using e0
          have HX := hid (HNx.out.1 e)
          have hi : k + 1 ≤ 1000 := by omega
          clear e e0 HNx HF HE EV
          go_wp2_with fail
          go_roundw
          case rel => exact ⟨k + 1, by go_num, by omega, HX.out, G1⟩
          case measure => simp [intOf]; omega
    · have HE := hid (show idxFind key (rsem rs) = [] by
        have h1 := HF.out
        rw [List.take_of_length_le (by rw [rsem_len, HN.out]; omega)] at h1
        unfold idxFind
        split
        · rw [findX, h1]; rfl
        · rfl)
      have sz1 := hG.size
      clear HF EV HA
      go_wp2_with fail
      go_ret
      rw [HE.out]
      exact ⟨_, _, _, rfl, Own.empty wr sz1, rfl, gr_alloc hG _⟩

/-- What DrawIndexFind leaves. -/
def DifEnds (w : World) (e : Ending) (w' : World) : Prop :=
  ∃ (A : Option Addr) (n c : Nat) (ors : List RRow) (key : ByteArray), e = .returned (.tuple #[.slice A n c, .string key]) ∧ Own w' w.heap.size 33 2 A n c (rcells ors) ∧ ors.length = n ∧ n ≤ 7 ∧ (∀ r ∈ ors, r.ok w') ∧ (spots (rsem ors)).length ≤ 100 ∧ w.grownBy w' none
set_option maxHeartbeats 1000000 in
theorem dif_any (A : Option Addr) (n c : Nat) (zs : List Int) (w : World) (h : Code w A n c zs) :
    Calls Try.prog 10 #[.slice A n c] w (DifEnds w) := by
  go_enter Try.func10, Try.ntmps10
  go_wp2_with fail
  refine (open_any A n c zs _ h).mono ?_
  rintro e w1 ⟨g, rfl, hr1, hg1⟩
  have hB := hr1.ge
  go_wp2_with fail
  refine (rw92_any _ g 90000 _ (hr1.less (by omega))).mono ?_
  rintro e w2 ⟨A2, n2, c2, ors, rfl, hO, hl, hn7, hok, hsp, hr2, hg2⟩
  have HLn := hid hl
  have HSp := hid hsp
  have G2 := gr_new hg1 hg2 hB
  have s1 := hg1.size
  have s2 := G2.size
  have hO2 := hO.alloc (.cells #[.string ⟨#[111, 112, 101, 110]⟩, .string ⟨#[112, 97, 121]⟩, .string ⟨#[115, 104, 105, 112]⟩, .string ⟨#[120]⟩] 9)
  have hob : ∀ b, blockOf A2 = some b → w1.heap.size ≤ b := fun b hb => (hO.block hb).1
  have hok2 := fun r hr => (hok r hr).alloc (.cells #[.string ⟨#[111, 112, 101, 110]⟩, .string ⟨#[112, 97, 121]⟩, .string ⟨#[115, 104, 105, 112]⟩, .string ⟨#[120]⟩] 9)
  have hlt := hr1.lt
  clear hl hsp hg1 hg2 hO
  go_wp2_with fail
  refine (of_any _ g 4 _ 4 4 [⟨#[111, 112, 101, 110]⟩, ⟨#[112, 97, 121]⟩, ⟨#[115, 104, 105, 112]⟩, ⟨#[120]⟩] _ ((hr2.alloc _).less (by omega)) (Full.new _ _ _) rfl (by omega) (by omega)).mono ?_
  rintro e w3 ⟨s3, hs3, rfl, hr3, hg3⟩
  go_wp2_with fail
  go_ret2
  refine ⟨A2, n2, c2, ors, s3, rfl, (Own.apart hO2 hg3 (fun b hb e => by injection e with e; have := hob b hb; omega)).base_le s1, HLn.out, hn7, oks_past hok2 (hr2.alloc _) hg3, HSp.out, gr_new (gr_alloc G2 _) hg3 hB⟩
end Go.Proofs.Ytnegoaaddaofiaa
