/- spec.l22Add: a further position, in rows of the call's own. -/
import Derived.Test.YtnegoaaddaofiaaRow
import Derived.Test.YtnegoaaddaofiaaApp
import Derived.Deep.RegionHeld3
import Derived.Deep.DeepCutAuto
namespace Go.Proofs.Ytnegoaaddaofiaa
open Go.RowKit

theorem rowInfo : (Try.prog.info? 33).map (fun i => (i.zero, i.size, i.bytes)) = some (some (.agg #[.string ⟨#[]⟩, .slice none 0 0]), 2, 40) := by kernel_rfl
theorem own_empty_at3 {w : World} {base H s : Nat} {e : TypeId} (hH : w.heap.size = H) (hb : base ≤ H) : Own (w.alloc (.cells #[] e)) base e s (some ⟨H, 0, none⟩) 0 0 [] := by
  subst hH
  exact Own.empty w hb
theorem set2r {w : World} {g : Nat} {t : TypeId} {a b : Value} (h : Full w g t #[a, b]) (u v : Value) : Full ((w.setCell ⟨g, 0, none⟩ u).setCell ⟨g, 1, none⟩ v) g t #[u, v] := (h.set 0 u).set 1 v
theorem own_put2r {w : World} {base n c g : Nat} {e t : TypeId} {s : Nat} {A : Option Addr} {xs : List Value} {a b : Value} (h : Own w base e s A n c xs) (f : Full w g t #[a, b]) (hne : e ≠ t) (u v : Value) : Own ((w.setCell ⟨g, 0, none⟩ u).setCell ⟨g, 1, none⟩ v) base e s A n c xs := (h.put f hne 0 u).put (f.set 0 u) hne 1 v
theorem Own.apart {w w' : World} {base : Nat} {e : TypeId} {s n c : Nat} {A : Option Addr} {xs : List Value} (h : Own w base e s A n c xs) {row : Option Nat} (hg : w.grownBy w' row) (hne : ∀ b, blockOf A = some b → some b ≠ row) : Own w' base e s A n c xs := by
  refine World.ownsRow.kept h hg ?_
  rw [own_block]
  cases hA : blockOf A with
  | none => exact .inl rfl
  | some b => exact .inr (hne b hA)
theorem Own.full {w : World} {base : Nat} {e : TypeId} {s n c : Nat} {A : Option Addr} {xs : List Value} (h : Own w base e s A n c xs) {b : Nat} (hb : blockOf A = some b) : ∃ cur, Full w b e cur := by
  rcases h.2 with ⟨hv, _⟩ | ⟨g, cap, cur, hv, h1, h2, _⟩
  · injection hv with h1; subst h1; cases hb
  · injection hv with h1; subst h1; injection hb with hb; subst hb; exact ⟨cur, by assumption⟩

/-- A slice of rows of one's own, all below block B: who writes from B on leaves it. -/
structure RS (w : World) (base B : Nat) (A : Option Addr) (n c : Nat) (ors : List RRow) : Prop where
  own : Own w base 33 2 A n c (rcells ors)
  ok : ∀ r ∈ ors, r.ok w
  ob : ∀ b, blockOf A = some b → b < B
  rb : ∀ r ∈ ors, ∀ b, blockOf r.a = some b → b < B
theorem RS.grown {w w' : World} {base B n c : Nat} {A : Option Addr} {ors : List RRow} (h : RS w base B A n c ors) {row : Option Nat} (hg : w.grownBy w' row) (hr : ∀ g, row = some g → B ≤ g) : RS w' base B A n c ors :=
  ⟨h.own.apart hg (fun b hb e => by have := hr b e.symm; have := h.ob b hb; omega), fun r hm => (h.ok r hm).far hg (fun b hb e => by have := hr b e.symm; have := h.rb r hm b hb; omega), h.ob, h.rb⟩
theorem RS.alloc {w : World} {base B n c : Nat} {A : Option Addr} {ors : List RRow} (h : RS w base B A n c ors) (o : Obj) : RS (w.alloc o) base B A n c ors := h.grown (World.grownBy_alloc w o none) (by simp)
theorem RS.put {w : World} {base B n c : Nat} {A : Option Addr} {ors : List RRow} (h : RS w base B A n c ors) {g : Nat} (hg : B ≤ g) (i : Nat) (u : Value) : RS (w.setCell ⟨g, i, none⟩ u) base B A n c ors :=
  h.grown (row := some g) (gr_set (gr_refl w _) (.inl rfl) u) (fun b e => by injection e with e; omega)
theorem RS.of {w : World} {base n c : Nat} {A : Option Addr} {ors : List RRow} (h : Own w base 33 2 A n c (rcells ors)) (hk : ∀ r ∈ ors, r.ok w) : RS w base w.heap.size A n c ors :=
  ⟨h, hk, fun _ hb => (h.block hb).2, fun r hm _ hb => (hk r hm).below hb⟩
/-- A row more. -/
theorem RS.push {w w' : World} {base B n c : Nat} {A : Option Addr} {ors : List RRow} (h : RS w base B A n c ors) {r : RRow} (hr : r.ok w) (hg : w.grownBy w' (blockOf A)) : ∀ q ∈ ors ++ [r], q.ok w' := by
  have key : ∀ q : RRow, q.ok w → q.ok w' := fun q hq => hq.far hg (fun b hb e => by
    obtain ⟨cur, hf⟩ := h.own.full e.symm
    exact hq.ne_full hf (by decide) b hb rfl)
  intro q hq
  rcases List.mem_append.1 hq with hq | hq
  · exact key q (h.ok q hq)
  · rw [List.mem_singleton.1 hq]; exact key r hr

/- What it computes. -/
def addStep (key : ByteArray) (p : Int) (s : List (ByteArray × List Int) × Bool) (r : ByteArray × List Int) : List (ByteArray × List Int) × Bool :=
  if r.1 = key then (s.1 ++ [(r.1, r.2 ++ [p])], true) else if s.2 = false ∧ sl key r.1 = true then (s.1 ++ [(key, [p]), r], true) else (s.1 ++ [r], s.2)
def addPre (key : ByteArray) (p : Int) (rs : List (ByteArray × List Int)) : List (ByteArray × List Int) × Bool := rs.foldl (addStep key p) ([], false)
def addR (key : ByteArray) (p : Int) (rs : List (ByteArray × List Int)) : List (ByteArray × List Int) :=
  if (addPre key p rs).2 = true then (addPre key p rs).1 else (addPre key p rs).1 ++ [(key, [p])]
theorem addPre_next (key : ByteArray) (p : Int) {rs : List (ByteArray × List Int)} {k : Nat} (hk : k < rs.length) : addPre key p (rs.take (k + 1)) = addStep key p (addPre key p (rs.take k)) rs[k] := by
  rw [List.take_succ_eq_append_getElem hk, addPre, List.foldl_append]; rfl

structure AddAt (w : World) (key : ByteArray) (p : Int) (rs : List RRow) (k : Nat) (A : Option Addr) (n c : Nat) (ors : List RRow) (dn : Bool) (wr : World) : Prop where
  own : Own wr w.heap.size 33 2 A n c (rcells ors)
  len : ors.length = n
  le : n ≤ 2 * k
  ok : ∀ r ∈ ors, r.ok wr
  sem : (rsem ors, dn) = addPre key p ((rsem rs).take k)
  gr : w.grownBy wr none
def AddTo (w : World) (key : ByteArray) (p : Int) (rs : List RRow) (e : Ending) (w' : World) : Prop :=
  ∃ (A : Option Addr) (n c : Nat) (ors : List RRow), e = .returned (.slice A n c) ∧ Own w' w.heap.size 33 2 A n c (rcells ors) ∧ ors.length = n ∧ (∀ r ∈ ors, r.ok w') ∧ rsem ors = addR key p (rsem rs) ∧ w.grownBy w' none

theorem len_spots {rs : List RRow} {k : Nat} (hk : k < rs.length) : rs[k].xs.length ≤ (spots (rsem rs)).length := by
  have hks : k < (rsem rs).length := by rw [rsem_len]; exact hk
  have e1 : rsem rs = (rsem rs).take k ++ ((rsem rs)[k] :: (rsem rs).drop (k + 1)) := by rw [← List.drop_eq_getElem_cons hks, List.take_append_drop]
  rw [e1, rsem_at rs k hk]
  unfold spots
  rw [List.flatMap_append, List.flatMap_cons]
  simp only [List.length_append, RRow.sem]
  omega

theorem sl_other {a b : ByteArray} (h : a ≠ b) : sl a b = !(sl b a) := by
  rcases sl_tri a b with q | q | q
  · rw [q, sl_not q]; rfl
  · exact absurd q h
  · rw [q, sl_not q]; rfl
theorem ints_snoc (xs : List Int) (p : Int) : ints (xs ++ [p]) = ints xs ++ [.int .i64 p] := by simp [ints]
theorem rcells_snoc (ors : List RRow) (r : RRow) : rcells (ors ++ [r]) = rcells ors ++ [.string r.k, .slice r.a r.n r.c] := by rw [rcells_app]; rfl

set_option maxHeartbeats 4000000 in
theorem add_any (A : Option Addr) (n c : Nat) (rs : List RRow) (key : ByteArray) (p : Int) (w : World) (h : RArg w A n c rs) (hkey : key.size ≤ maxLen) (hn : n ≤ 1000) (hs : (spots (rsem rs)).length ≤ 1000) :
    Calls Try.prog 33 #[.slice A n c, .string key, .int .i64 p] w (AddTo w key p rs) := by
  have hc := h.cap
  have hm := h.max
  unfold maxLen at hm
  have HN := hid h.len
  have HA := hid h
  have HS := hid hs
  have HKey := hid hkey
  have HAT := hid (show AddAt w key p rs 0 (some ⟨w.heap.size, 0, none⟩) 0 0 [] false (w.alloc (.cells #[] 33)) from ⟨Own.empty w (Nat.le_refl _), rfl, by omega, by simp, rfl, gr_alloc (gr_refl w _) _⟩)
  clear h hs hkey
  go_enter Try.func33, Try.ntmps33
  go_wp2_with fail
  go_loopw [7, 8, 9] (fun ov dv iv wr => ∃ (k : Nat) (A1 : Option Addr) (n1 c1 : Nat) (ors : List RRow) (dn : Bool), iv = .int .i64 (k : Int) ∧ ov = .slice A1 n1 c1 ∧ dv = .bool dn ∧ k ≤ n ∧ AddAt w key p rs k A1 n1 c1 ors dn wr) (fun _ _ iv _ => n - (intOf iv).toNat)
  case atStart => exact ⟨0, _, _, _, [], false, rfl, rfl, rfl, by omega, HAT.out⟩
  case round =>
    clear HAT
    obtain ⟨k, A1, n1, c1, ors, dn, rfl, rfl, rfl, hkn, hat⟩ := hrel
    have HAt := hid hat
    have hn1 := hat.le
    clear hat
    by_cases hlt : k < n
    · have hkl : k < rs.length := by rw [HN.out]; exact hlt
      have hks : k < (rsem rs).length := by rw [rsem_len]; exact hkl
      have hG := HAt.out.gr
      have HG := hid hG
      have hls := len_spots hkl
      have hs1 := HS.out
      have HSem := hid ((addPre_next key p hks).trans (by rw [← HAt.out.sem]))
      have HRA := hid (fun (w' : World) (hg : wr.grownBy w' none) => ((HA.out.ats _ (List.getElem_mem hkl)).grown0 (gr_0 hG hg)))
      obtain ⟨g, o, hAe, hgl, hcells⟩ := HA.out.open_ (by omega)
      have cc := fun (w' : World) (hg : wr.grownBy w' none) => hcells k hkl w' (gr_0 hG hg)
      clear hcells
      have es := rsem_at rs k hkl
      obtain ⟨r, hrr⟩ : ∃ r, rs[k] = r := ⟨_, rfl⟩
      simp only [es, hrr] at HSem cc HRA hls
      obtain ⟨rk, ra, rn, rc, rx⟩ := r
      simp only [RRow.sem] at HSem cc HRA hls
      have ck : ∀ w' : World, wr.grownBy w' none → w'.cell? ⟨g, o + k * 2, none⟩ = some (.string rk) := fun w' hg => (cc w' hg).1
      have cp : ∀ w' : World, wr.grownBy w' none → w'.cell? ⟨g, o + k * 2 + 1, none⟩ = some (.slice ra rn rc) := fun w' hg => (cc w' hg).2
      have hrl : rx.length = rn := (HRA.out wr (gr_refl _ _)).len
      have hrc : rn ≤ rc := (HRA.out wr (gr_refl _ _)).cap
      have hrm : rc ≤ maxLen := (HRA.out wr (gr_refl _ _)).max
      unfold maxLen at hrm
      have hrk := (HRA.out wr (gr_refl _ _)).key
      have HRK := hid hrk
      have HLI : ∀ w' : World, wr.grownBy w' none → Lies w' ra (ints rx) := fun w' hg => (HRA.out w' hg).own.lies
      have HLEN := hid (show (ints rx).length = rn * 1 by rw [ints_len, hrl, Nat.mul_one])
      have hrn : rn ≤ 1000 := by omega
      have HRl := hid hrl
      have b1 : (0 : Int) ≤ (k : Int) := by omega
      have b2 : (k : Int) < (n : Int) := by omega
      subst hAe
      clear cc es hrr hG hls hs1 hrk hrl hgl
      go_upto_region 6 with (fail)
      go_cut [10] (fun s10 wx => ∃ (gx : Nat) (A2 : Option Addr) (c2 : Nat), s10 = .pointer (some ⟨gx, 0, none⟩) ∧ Full wx gx 33 #[.string rk, .slice A2 rn c2] ∧ wr.heap.size ≤ gx ∧ Own wx wr.heap.size 3 1 A2 rn c2 (ints rx) ∧ wr.grownBy wx none)
      case first =>
        go_region_held3 (fun w' => wr.grownBy w' none) (((repeat (first | (with_reducible assumption) | (with_reducible exact gr_refl _ _) | (with_reducible refine gr_alloc ?_ _) | (with_reducible refine gr_drew ?_) | (with_reducible refine gr_put ?_ (by omega) _))); (first | done | fail "left")))
          ((refine step_app _ rfl (.tmp 23) (.tmp 28) 29 rfl wr.heap.size 3 Try.underlying29 intInfo rfl (by omega) _ 0 0 [] rfl ?o1 ra rn rc (ints rx) rfl ?l1 HLEN.out (ints_one _) (by omega) (by omega) ?b1 ?_
            case o1 => ((repeat (first | (with_reducible assumption) | (with_reducible exact own_empty_at3 (by first | (simp; done) | fail "sz") (by omega)) | (with_reducible refine Own.alloc ?_ _) | (with_reducible refine Own.drew ?_))); (first | done | fail "left"))
            case l1 => exact HLI _ (by ((repeat (first | (with_reducible assumption) | (with_reducible exact gr_refl _ _) | (with_reducible refine gr_alloc ?_ _) | (with_reducible refine gr_drew ?_) | (with_reducible refine gr_put ?_ (by omega) _))); (first | done | fail "left")))
            case b1 => first | omega | (simp; done) | (simp; omega)
            intro A5 c5 w5 hown5 hg5 _
            have K5 : wr.grownBy w5 none := gr_then (by ((repeat (first | (with_reducible assumption) | (with_reducible exact gr_refl _ _) | (with_reducible refine gr_alloc ?_ _) | (with_reducible refine gr_drew ?_) | (with_reducible refine gr_put ?_ (by omega) _))); (first | done | fail "left"))) hg5 (by rintro g hg; injection hg with hg; subst hg; exact .inr (by first | omega | (simp; done) | (simp; omega)))
            have s5 := K5.size
            rw [Nat.zero_add, List.nil_append] at hown5
            have e5 : 0 + rn = rn := Nat.zero_add rn
            try rw [e5]
            clear e5
            try (have Y0 : Full w5 (wr.heap.size) 33 #[.string ⟨#[]⟩, .slice none 0 0] := Full.grown (by ((repeat (first | (with_reducible assumption) | (with_reducible exact Full.newAt (by first | (simp; done) | fail "sz")) | (with_reducible refine Full.alloc ?_ _) | (with_reducible refine Full.drew ?_) | (with_reducible refine Full.set ?_ _ _))); (first | done | fail "left"))) hg5 (by first | (simp [blockOf]; done) | (simp [blockOf]; omega)); have Y0a := Y0.cellAt 0 (v := .string ⟨#[]⟩) rfl; have Y0b := Y0.cellAt 1 (v := .slice none 0 0) rfl; have Y0c := Y0.free 0; have Y0d := Y0.free 1; have Y0n : w5.heap.size ≠ wr.heap.size := World.new_ne w5 _ Y0a; have Y0m := Y0n.symm)
            try (have Y1 : Full w5 (wr.heap.size + 1) 33 #[.string ⟨#[]⟩, .slice none 0 0] := Full.grown (by ((repeat (first | (with_reducible assumption) | (with_reducible exact Full.newAt (by first | (simp; done) | fail "sz")) | (with_reducible refine Full.alloc ?_ _) | (with_reducible refine Full.drew ?_) | (with_reducible refine Full.set ?_ _ _))); (first | done | fail "left"))) hg5 (by first | (simp [blockOf]; done) | (simp [blockOf]; omega)); have Y1a := Y1.cellAt 0 (v := .string ⟨#[]⟩) rfl; have Y1b := Y1.cellAt 1 (v := .slice none 0 0) rfl; have Y1c := Y1.free 0; have Y1d := Y1.free 1; have Y1n : w5.heap.size ≠ wr.heap.size + 1 := World.new_ne w5 _ Y1a; have Y1m := Y1n.symm)
            try (have Y2 : Full w5 (wr.heap.size + 1 + 1) 33 #[.string ⟨#[]⟩, .slice none 0 0] := Full.grown (by ((repeat (first | (with_reducible assumption) | (with_reducible exact Full.newAt (by first | (simp; done) | fail "sz")) | (with_reducible refine Full.alloc ?_ _) | (with_reducible refine Full.drew ?_) | (with_reducible refine Full.set ?_ _ _))); (first | done | fail "left"))) hg5 (by first | (simp [blockOf]; done) | (simp [blockOf]; omega)); have Y2a := Y2.cellAt 0 (v := .string ⟨#[]⟩) rfl; have Y2b := Y2.cellAt 1 (v := .slice none 0 0) rfl; have Y2c := Y2.free 0; have Y2d := Y2.free 1; have Y2n : w5.heap.size ≠ wr.heap.size + 1 + 1 := World.new_ne w5 _ Y2a; have Y2m := Y2n.symm)
            skip))
        all_goals
          go_wp2_with fail
          go_meet
          case rel =>
            refine ⟨_, A5, c5, rfl, ?_, ?_, ?_, ?_⟩
            · repeat (first | (with_reducible assumption) | (with_reducible exact Full.newAt (by first | (simp; done) | fail "sz")) | (with_reducible refine Full.alloc ?_ _) | (with_reducible refine Full.drew ?_) | (with_reducible refine set2r (a := .string ⟨#[]⟩) (b := .slice none 0 0) ?_ _ _))
            · first | omega | (simp; done) | (simp; omega)
            · repeat (first | (with_reducible assumption) | (with_reducible refine Own.alloc ?_ _) | (with_reducible refine Own.drew ?_) | (with_reducible refine own_put2r (t := 33) (a := .string ⟨#[]⟩) (b := .slice none 0 0) ?_ (by ((repeat (first | (with_reducible assumption) | (with_reducible exact Full.newAt (by first | (simp; done) | fail "sz")) | (with_reducible refine Full.alloc ?_ _) | (with_reducible refine Full.drew ?_) | (with_reducible refine Full.set ?_ _ _))); (first | done | fail "left"))) (by decide) _ _))
            · ((repeat (first | (with_reducible assumption) | (with_reducible exact gr_refl _ _) | (with_reducible refine gr_alloc ?_ _) | (with_reducible refine gr_drew ?_) | (with_reducible refine gr_put ?_ (by omega) _))); (first | done | fail "left"))
      case rest =>
        obtain ⟨gx, A2, c2, rfl, FX, hgx, OX, GX⟩ := hcut
        have S0 : RS wr w.heap.size wr.heap.size A1 n1 c1 ors := RS.of HAt.out.own HAt.out.ok
        have HLn := hid HAt.out.len
        have S1 := S0.grown GX (by simp)
        have GW := gr_0 HG.out GX
        have hszr := HG.out.size
        have hszc := GX.size
        have hgxl := FX.lt
        have f0 := FX.cellAt 0 (v := .string rk) rfl
        have f1 := FX.cellAt 1 (v := .slice A2 rn c2) rfl
        have c2m := OX.cap
        have HFX := hid FX
        have HOX := hid OX
        have HS1 := hid S1
        have HGW := hid GW
        have hob : ∀ b, blockOf A1 = some b → w.heap.size ≤ b ∧ b < wr.heap.size := fun b hb => HAt.out.own.block hb
        have HOB := hid hob
        have hxb : ∀ b, blockOf A2 = some b → wr.heap.size ≤ b := fun b hb => (OX.block hb).1
        have HXB := hid hxb
        clear FX OX S0 S1 GW ck cp HLI hob hxb HAt GX
        by_cases hkk : rk = key
        · have e1 : (rk.toList == key.toList) = true := by rw [hkk]; simp
          have HSm := hid (show addPre key p ((rsem rs).take (k + 1)) = (rsem ors ++ [(rk, rx ++ [p])], true) by rw [HSem.out, addStep, if_pos hkk])
          clear hkk HSem
          go_wp2_with (first
            | (at_builtin; refine wpList_push _ rfl _ _ 29 rfl wr.heap.size 3 Try.underlying29 intInfo rfl (by omega) A2 rn c2 (ints rx) rfl (HOX.out.alloc _) _ 1 #[.int .i64 p] rfl (Full.newAt (by simp)) rfl (by intro u hu; simp at hu; subst hu; rfl) (by omega) (by omega) (by simp; omega) ?_
               intro A6 c6 w6 hown6 hg6 _
               have F6 := hid ((HFX.out.alloc (.cells #[.int .i64 p] 3)).grown hg6 (fun e => HOX.out.ne_full HFX.out (by decide) _ e.symm rfl))
               have f60 := F6.out.cellAt 0 (v := .string rk) rfl
               have f61 := F6.out.cellAt 1 (v := .slice A2 rn c2) rfl
               have f6f := F6.out.free 1
               have HO6 := hid hown6
               have HG6 := hid hg6
               have hsz6 := hg6.size
               simp at hsz6
               clear hown6 hg6)
            | (at_builtin; refine wpList_push _ rfl _ _ 23 rfl w.heap.size 33 Try.underlying23 rowInfo rfl (by omega) A1 n1 c1 (rcells ors) rfl ((((HS1.out.alloc _).grown HG6.out HXB.out).put hgx _ _).alloc _).own _ 1 #[.string rk, .slice A6 (rn + 1) c6] rfl (Full.newAt (by simp)) rfl (by intro u hu; simp at hu; rcases hu with rfl | rfl <;> rfl) (by omega) (by omega) (by simp; omega) ?_
               intro A7 c7 w7 hown7 hg7 _
               have ST := hid (((((HS1.out.alloc _).grown HG6.out HXB.out).put hgx _ _).alloc _).push (r := ⟨rk, A6, rn + 1, c6, rx ++ [p]⟩) ⟨by rw [ints_snoc]; exact ((HO6.out.put F6.out (by decide) _ _).alloc _).base_le (Nat.zero_le _), by simp [HRl.out], HRK.out⟩ hg7)
               have HG7 := hid (gr_then (gr_alloc (gr_put (gr_then (gr_alloc HGW.out _) HG6.out (fun b hb => .inr (by have := HXB.out b hb; omega))) (by omega) _) _) hg7 (fun b hb => .inr (HOB.out b hb).1))
               have HO7 := hid hown7))
          go_roundw
          case rel => exact ⟨k + 1, A7, n1 + 1, c7, ors ++ [⟨rk, A6, rn + 1, c6, rx ++ [p]⟩], true, by go_num, by go_num, rfl, by omega, ⟨by rw [rcells_snoc]; exact HO7.out, by rw [List.length_append, HLn.out]; rfl, by omega, ST.out, by rw [HSm.out, rsem_app]; rfl, HG7.out⟩⟩
          case measure => simp [intOf]; omega
        · have e1 : (rk.toList == key.toList) = false := by rw [beq_bytes]; exact decide_eq_false hkk
          obtain ⟨bl, hbl⟩ : ∃ b, sl key rk = b := ⟨_, rfl⟩
          have e2 : Op.bytesLess key.toList rk.toList = bl := hbl
          rcases (show dn = true ∨ (dn = false ∧ bl = false) ∨ (dn = false ∧ bl = true) by cases dn <;> cases bl <;> simp) with q | ⟨q, q'⟩ | ⟨q, q'⟩
          · subst q
            have HSm := hid (show addPre key p ((rsem rs).take (k + 1)) = (rsem ors ++ [(rk, rx)], true) by rw [HSem.out, addStep, if_neg hkk, if_neg (by simp)])
            clear hkk HSem hbl
            go_wp2_with (at_builtin; refine wpList_push _ rfl _ _ 23 rfl w.heap.size 33 Try.underlying23 rowInfo rfl (by omega) A1 n1 c1 (rcells ors) rfl (HS1.out.alloc _).own _ 1 #[.string rk, .slice A2 rn c2] rfl (Full.newAt (by simp)) rfl (by intro u hu; simp at hu; rcases hu with rfl | rfl <;> rfl) (by omega) (by omega) (by simp; omega) ?_
                         intro A7 c7 w7 hown7 hg7 _
                         have ST := hid ((HS1.out.alloc _).push (r := ⟨rk, A2, rn, c2, rx⟩) ⟨(HOX.out.alloc _).base_le (Nat.zero_le _), HRl.out, HRK.out⟩ hg7)
                         have HG7 := hid (gr_then (gr_alloc HGW.out _) hg7 (fun b hb => .inr (HOB.out b hb).1))
                         have HO7 := hid hown7)
            go_roundw
            case rel => exact ⟨k + 1, A7, n1 + 1, c7, ors ++ [⟨rk, A2, rn, c2, rx⟩], true, by go_num, by go_num, rfl, by omega, ⟨by rw [rcells_snoc]; exact HO7.out, by rw [List.length_append, HLn.out]; rfl, by omega, ST.out, by rw [HSm.out, rsem_app]; rfl, HG7.out⟩⟩
            case measure => simp [intOf]; omega
          · subst q q'
            have HSm := hid (show addPre key p ((rsem rs).take (k + 1)) = (rsem ors ++ [(rk, rx)], false) by rw [HSem.out, addStep, if_neg hkk, if_neg (by simp [hbl])])
            have e3 : Op.bytesLess rk.toList key.toList = true := (sl_other hkk).trans (by rw [hbl]; rfl)
            clear hkk HSem hbl
            go_wp2_with (at_builtin; refine wpList_push _ rfl _ _ 23 rfl w.heap.size 33 Try.underlying23 rowInfo rfl (by omega) A1 n1 c1 (rcells ors) rfl (HS1.out.alloc _).own _ 1 #[.string rk, .slice A2 rn c2] rfl (Full.newAt (by simp)) rfl (by intro u hu; simp at hu; rcases hu with rfl | rfl <;> rfl) (by omega) (by omega) (by simp; omega) ?_
                         intro A7 c7 w7 hown7 hg7 _
                         have ST := hid ((HS1.out.alloc _).push (r := ⟨rk, A2, rn, c2, rx⟩) ⟨(HOX.out.alloc _).base_le (Nat.zero_le _), HRl.out, HRK.out⟩ hg7)
                         have HG7 := hid (gr_then (gr_alloc HGW.out _) hg7 (fun b hb => .inr (HOB.out b hb).1))
                         have HO7 := hid hown7)
            go_roundw
            case rel => exact ⟨k + 1, A7, n1 + 1, c7, ors ++ [⟨rk, A2, rn, c2, rx⟩], false, by go_num, by go_num, rfl, by omega, ⟨by rw [rcells_snoc]; exact HO7.out, by rw [List.length_append, HLn.out]; rfl, by omega, ST.out, by rw [HSm.out, rsem_app]; rfl, HG7.out⟩⟩
            case measure => simp [intOf]; omega
          · subst q q'
            have HSm := hid (show addPre key p ((rsem rs).take (k + 1)) = (rsem ors ++ [(key, [p]), (rk, rx)], true) by rw [HSem.out, addStep, if_neg hkk, if_pos ⟨rfl, hbl⟩])
            have e3 : Op.bytesLess rk.toList key.toList = false := (sl_other hkk).trans (by rw [hbl]; rfl)
            clear hkk HSem hbl
            go_wp2_with (first
              | (at_builtin; refine wpList_push _ rfl _ _ 23 rfl w.heap.size 33 Try.underlying23 rowInfo rfl (by omega) A1 n1 c1 (rcells ors) rfl ((HS1.out.alloc _).alloc _).own _ 1 #[.string key, .slice (some ⟨wc.heap.size, 0, none⟩) 1 1] rfl (Full.newAt (by simp)) rfl (by intro u hu; simp at hu; rcases hu with rfl | rfl <;> rfl) (by omega) (by omega) (by simp; omega) ?_
                 intro A6 c6 w6 hown6 hg6 _
                 have ok6 := hid (((HS1.out.alloc (.cells #[.int .i64 p] 3)).alloc _).push (r := ⟨key, some ⟨wc.heap.size, 0, none⟩, 1, 1, [p]⟩) ⟨(Own.lit wc #[.int .i64 p] 1 (Nat.zero_le _) (by simp [maxLen]) rfl).alloc _, rfl, HKey.out⟩ hg6)
                 have F6 := hid (((HFX.out.alloc (.cells #[.int .i64 p] 3)).alloc _).grown hg6 (fun e => by have := (HOB.out _ e.symm).2; omega))
                 have f60 := F6.out.cellAt 0 (v := .string rk) rfl
                 have f61 := F6.out.cellAt 1 (v := .slice A2 rn c2) rfl
                 have HX6 := hid (((HOX.out.alloc (.cells #[.int .i64 p] 3)).alloc _).apart hg6 (fun b hb e => by have := HXB.out b hb; have := (HOB.out b e.symm).2; omega))
                 have HG6 := hid (gr_then (gr_alloc (gr_alloc HGW.out _) _) hg6 (fun b hb => .inr (HOB.out b hb).1))
                 have HO6 := hid hown6
                 have hsz6 := HG6.out.size
                 clear hown6 hg6)
              | (at_builtin; refine wpList_push _ rfl _ _ 23 rfl w.heap.size 33 Try.underlying23 rowInfo rfl (by omega) A6 (n1 + 1) c6 _ rfl (HO6.out.alloc _) _ 1 #[.string rk, .slice A2 rn c2] rfl (Full.newAt (by simp)) rfl (by intro u hu; simp at hu; rcases hu with rfl | rfl <;> rfl) (by omega) (by omega) (by simp; omega) ?_
                 intro A7 c7 w7 hown7 hg7 _
                 have RS6 : RS w6 w.heap.size w6.heap.size A6 (n1 + 1) c6 (ors ++ [⟨key, some ⟨wc.heap.size, 0, none⟩, 1, 1, [p]⟩]) := RS.of (by rw [rcells_snoc]; exact HO6.out) ok6.out
                 have ST := hid ((RS6.alloc _).push (r := ⟨rk, A2, rn, c2, rx⟩) ⟨(HX6.out.alloc _).base_le (Nat.zero_le _), HRl.out, HRK.out⟩ hg7)
                 have HG7 := hid (gr_then (gr_alloc HG6.out _) hg7 (fun b hb => .inr (HO6.out.block hb).1))
                 have HO7 := hid hown7))
            go_roundw
            case rel => exact ⟨k + 1, A7, n1 + 1 + 1, c7, ors ++ [⟨key, some ⟨wc.heap.size, 0, none⟩, 1, 1, [p]⟩] ++ [⟨rk, A2, rn, c2, rx⟩], true, by go_num, by go_num, rfl, by omega, ⟨by rw [rcells_snoc, rcells_snoc]; exact HO7.out, by rw [List.length_append, List.length_append, HLn.out]; rfl, by omega, ST.out, by rw [HSm.out, rsem_app, rsem_app]; simp [rsem, RRow.sem], HG7.out⟩⟩
            case measure => simp [intOf]; omega
    · obtain rfl : k = n := by omega
      have HSem := hid (show (rsem ors, dn) = addPre key p (rsem rs) by
        have := HAt.out.sem
        rwa [List.take_of_length_le (by rw [rsem_len, HN.out]; exact Nat.le_refl _)] at this)
      have HLn := hid HAt.out.len
      have HGW := hid HAt.out.gr
      have S0 : RS wr w.heap.size wr.heap.size A1 n1 c1 ors := RS.of HAt.out.own HAt.out.ok
      have HS1 := hid S0
      have hszr := HGW.out.size
      have HOB := hid (show ∀ b, blockOf A1 = some b → w.heap.size ≤ b ∧ b < wr.heap.size from fun b hb => HAt.out.own.block hb)
      clear HAt S0
      cases dn with
      | true =>
        have HF := hid (show rsem ors = addR key p (rsem rs) by rw [addR, ← HSem.out, if_pos rfl])
        go_wp2_with fail
        go_ret
        exact ⟨A1, n1, c1, ors, rfl, HS1.out.own, HLn.out, HS1.out.ok, HF.out, HGW.out⟩
      | false =>
        have HF := hid (show rsem ors ++ [(key, [p])] = addR key p (rsem rs) by rw [addR, ← HSem.out, if_neg (by simp)])
        go_wp2_with (at_builtin; refine wpList_push _ rfl _ _ 23 rfl w.heap.size 33 Try.underlying23 rowInfo rfl (by omega) A1 n1 c1 (rcells ors) rfl ((HS1.out.alloc _).alloc _).own _ 1 #[.string key, .slice (some ⟨wr.heap.size, 0, none⟩) 1 1] rfl (Full.newAt (by simp)) rfl (by intro u hu; simp at hu; rcases hu with rfl | rfl <;> rfl) (by omega) (by omega) (by simp; omega) ?_
                     intro A6 c6 w6 hown6 hg6 _
                     have ok6 := hid (((HS1.out.alloc (.cells #[.int .i64 p] 3)).alloc _).push (r := ⟨key, some ⟨wr.heap.size, 0, none⟩, 1, 1, [p]⟩) ⟨(Own.lit wr #[.int .i64 p] 1 (Nat.zero_le _) (by simp [maxLen]) rfl).alloc _, rfl, HKey.out⟩ hg6)
                     have HG6 := hid (gr_then (gr_alloc (gr_alloc HGW.out _) _) hg6 (fun b hb => .inr (HOB.out b hb).1))
                     have HO6 := hid hown6
                     clear hown6 hg6)
        go_ret
        exact ⟨A6, n1 + 1, c6, ors ++ [⟨key, some ⟨wr.heap.size, 0, none⟩, 1, 1, [p]⟩], rfl, by rw [rcells_snoc]; exact HO6.out, by rw [List.length_append, HLn.out]; rfl, ok6.out, by rw [rsem_app, ← HF.out]; rfl, HG6.out⟩
end Go.Proofs.Ytnegoaaddaofiaa
