/- impl.rowTree: what it is in memory; rowTreeOf, find. -/
import Derived.Test.YtnegoaaddaofiaaRowAdd
import Derived.Deep.LoopGhost
namespace Go.Proofs.Ytnegoaaddaofiaa
open Go.RowKit

/-- A tree of rows: where each node lies, its row, what is on its left and on its right. -/
inductive RT where
  | nil
  | node (g : Nat) (r : RRow) (l t : RT)
def RT.ptr : RT → Option Addr
  | .nil => none
  | .node g _ _ _ => some ⟨g, 0, none⟩
def RT.rows : RT → List RRow
  | .nil => []
  | .node _ r l t => l.rows ++ r :: t.rows
def RT.size : RT → Nat
  | .nil => 0
  | .node _ _ l t => l.size + t.size + 1
/-- The blocks of a tree: of its nodes and of its rows' positions. -/
def RT.blocks : RT → List Nat
  | .nil => []
  | .node g r l t => g :: ((blockOf r.a).toList ++ (l.blocks ++ t.blocks))
/-- The tree lies in w, from block B on. -/
def RT.At (w : World) (B : Nat) : RT → Prop
  | .nil => True
  | .node g r l t => B ≤ g ∧ Full w g 64 #[.string r.k, .slice r.a r.n r.c, .pointer l.ptr, .pointer t.ptr] ∧ Own w B 3 1 r.a r.n r.c (ints r.xs) ∧ (r.xs.length = r.n ∧ r.k.size ≤ maxLen) ∧ RT.At w B l ∧ RT.At w B t
theorem RT.At.grown0 {w w' : World} {B : Nat} : ∀ {T : RT}, T.At w B → w.grownBy w' none → T.At w' B
  | .nil, _, _ => trivial
  | .node _ _ _ _, ⟨h1, h2, h3, h4, h5, h6⟩, hg => ⟨h1, h2.grown hg (by simp), h3.kept0 hg, h4, h5.grown0 hg, h6.grown0 hg⟩
theorem RT.At.alloc {w : World} {B : Nat} {T : RT} (h : T.At w B) (o : Obj) : T.At (w.alloc o) B := h.grown0 (World.grownBy_alloc w o none)
theorem RT.At.drew {w : World} {B : Nat} {T : RT} (h : T.At w B) : T.At w.drew B := h.grown0 (gr_drew (gr_refl w none))
theorem RT.At.base_le {w : World} {B B' : Nat} (hb : B' ≤ B) : ∀ {T : RT}, T.At w B → T.At w B'
  | .nil, _ => trivial
  | .node _ _ _ _, ⟨h1, h2, h3, h4, h5, h6⟩ => ⟨by omega, h2, h3.base_le hb, h4, h5.base_le hb, h6.base_le hb⟩
theorem RT.At.ok {w : World} {B : Nat} : ∀ {T : RT}, T.At w B → ∀ r ∈ T.rows, r.ok w
  | .nil, _, r, hr => by simp [RT.rows] at hr
  | .node _ _ _ _, ⟨_, _, h3, h4, h5, h6⟩, r, hr => by
    rcases List.mem_append.1 hr with hr | hr
    · exact RT.At.ok h5 r hr
    · rcases List.mem_cons.1 hr with rfl | hr
      · exact ⟨h3.base_le (Nat.zero_le _), h4.1, h4.2⟩
      · exact RT.At.ok h6 r hr

theorem RT.At.block {w : World} {B : Nat} : ∀ {T : RT}, T.At w B → ∀ b ∈ T.blocks, B ≤ b ∧ b < w.heap.size
  | .nil, _, b, hb => by simp [RT.blocks] at hb
  | .node g r l t, ⟨h1, h2, h3, _, h5, h6⟩, b, hb => by
    simp only [RT.blocks, List.mem_cons, List.mem_append, Option.mem_toList] at hb
    rcases hb with rfl | hb | hb | hb
    · exact ⟨h1, h2.lt⟩
    · exact h3.block hb
    · exact RT.At.block h5 b hb
    · exact RT.At.block h6 b hb
theorem nodup_node {g : Nat} {a : Option Nat} {l t : List Nat} (m1 m2 : Nat) (ha : ∀ b, a = some b → b < m1) (hl : ∀ b ∈ l, m1 ≤ b ∧ b < m2) (ht : ∀ b ∈ t, m2 ≤ b ∧ b < g) (h1 : m1 ≤ m2) (h2 : m2 ≤ g) (nl : l.Nodup) (nt : t.Nodup) : (g :: (a.toList ++ (l ++ t))).Nodup := by
  rw [List.nodup_cons, List.nodup_append, List.nodup_append]
  refine ⟨fun hm => ?_, ?_, ⟨nl, nt, fun x hx y hy e => ?_⟩, fun x hx y hy e => ?_⟩
  · rcases List.mem_append.1 hm with hm | hm
    · have := ha g (Option.mem_toList.1 hm); omega
    · rcases List.mem_append.1 hm with hm | hm
      · have := hl g hm; omega
      · have := ht g hm; omega
  · cases a <;> simp
  · have q1 := hl x hx; have q2 := ht y hy; omega
  · have q1 := ha x (Option.mem_toList.1 hx)
    rcases List.mem_append.1 hy with hy | hy
    · have := hl y hy; omega
    · have := ht y hy; omega

theorem RArg.take {w : World} {A : Option Addr} {n c : Nat} {rs : List RRow} (h : RArg w A n c rs) {k : Nat} (hk : k ≤ n) : RArg w A k c (rs.take k) :=
  ⟨by rw [← rcells_take]; exact h.li.take _, by rw [List.length_take, h.len]; omega, by have := h.cap; omega, h.max, fun r hr => h.ats r (List.mem_of_mem_take hr)⟩
theorem RArg.drop {w : World} {A : Option Addr} {n c : Nat} {rs : List RRow} (h : RArg w A n c rs) {k : Nat} (hk : k ≤ n) : RArg w (if c = k then A else Option.map (fun x => x.add (k * 2)) A) (n - k) (c - k) (rs.drop k) :=
  ⟨by rw [← rcells_drop]; exact h.li.cutN (by rw [rcells_len, h.len]) h.cap, by rw [List.length_drop, h.len], by have := h.cap; omega, by have := h.max; omega, fun r hr => h.ats r (List.mem_of_mem_drop hr)⟩

/-- What rowTreeOf leaves. -/
def TreeEnds (w : World) (rs : List (ByteArray × List Int)) (e : Ending) (w' : World) : Prop :=
  ∃ T : RT, e = .returned (.pointer T.ptr) ∧ T.At w' w.heap.size ∧ rsem T.rows = rs ∧ T.blocks.Nodup ∧ w.grownBy w' none

set_option maxHeartbeats 8000000 in
theorem rto_any : ∀ (N : Nat) (A : Option Addr) (n c : Nat) (rs : List RRow) (w : World), n ≤ N → RArg w A n c rs → n ≤ 1000 → (∀ r ∈ rs, r.n ≤ 1000) →
    Calls Try.prog 24 #[.slice A n c] w (TreeEnds w (rsem rs)) := by
  intro N
  induction N with
  | zero =>
    intro A n c rs w hN h _ _
    obtain rfl : n = 0 := by omega
    have hrs : rs = [] := List.eq_nil_of_length_eq_zero h.len
    subst hrs
    have hc := h.cap
    have hm := h.max
    unfold maxLen at hm
    clear h
    go_enter Try.func24, Try.ntmps24
    go_wp2_with fail
    go_ret
    exact ⟨.nil, rfl, trivial, rfl, by simp [RT.blocks], gr_refl _ _⟩
  | succ N IH =>
    intro A n c rs w hN h hn hall
    have hc := h.cap
    have hm := h.max
    unfold maxLen at hm
    by_cases h0 : n = 0
    · subst h0
      have hrs : rs = [] := List.eq_nil_of_length_eq_zero h.len
      subst hrs
      clear h IH
      go_enter Try.func24, Try.ntmps24
      go_wp2_with fail
      go_ret
      exact ⟨.nil, rfl, trivial, rfl, by simp [RT.blocks], gr_refl _ _⟩
    obtain ⟨k, hk⟩ : ∃ k, n / 2 = k := ⟨_, rfl⟩
    have hkn : k < n := by omega
    have hkl : k < rs.length := by rw [h.len]; exact hkn
    have HRA := hid (fun (w' : World) (hg : w.grownBy w' none) => ((h.ats _ (List.getElem_mem hkl)).grown0 hg))
    have hrn := hall _ (List.getElem_mem hkl)
    have hsplit : rsem rs = (rsem rs).take k ++ rs[k].sem :: (rsem rs).drop (k + 1) := by
      have hks : k < (rsem rs).length := by rw [rsem_len]; exact hkl
      rw [← rsem_at rs k hkl, ← List.drop_eq_getElem_cons hks, List.take_append_drop]
    have HIL := hid (fun (W : World) (hg : w.grownBy W none) => IH A k c (rs.take k) W (by omega) ((h.grown0 hg).take (by omega)) (by omega) (fun r hr => hall r (List.mem_of_mem_take hr)))
    have HIR := hid (fun (W : World) (hg : w.grownBy W none) => IH _ (n - (k + 1)) (c - (k + 1)) (rs.drop (k + 1)) W (by omega) ((h.grown0 hg).drop (k := k + 1) (by omega)) (by omega) (fun r hr => hall r (List.mem_of_mem_drop hr)))
    have HAll := hid hall
    obtain ⟨g, o, hAe, hgl, hcells⟩ := h.open_ (by omega)
    have cc := hcells k hkl
    clear hcells
    obtain ⟨r, hrr⟩ : ∃ r, rs[k] = r := ⟨_, rfl⟩
    simp only [hrr] at cc HRA hrn hsplit
    obtain ⟨rk, ra, rn, rc, rx⟩ := r
    simp only [RRow.sem] at cc HRA hrn hsplit
    have ck : ∀ w' : World, w.grownBy w' none → w'.cell? ⟨g, o + k * 2, none⟩ = some (.string rk) := fun w' hg => (cc w' hg).1
    have cp : ∀ w' : World, w.grownBy w' none → w'.cell? ⟨g, o + k * 2 + 1, none⟩ = some (.slice ra rn rc) := fun w' hg => (cc w' hg).2
    have hrl : rx.length = rn := (HRA.out w (gr_refl _ _)).len
    have hrc : rn ≤ rc := (HRA.out w (gr_refl _ _)).cap
    have hrm : rc ≤ maxLen := (HRA.out w (gr_refl _ _)).max
    unfold maxLen at hrm
    have HRK := hid (HRA.out w (gr_refl _ _)).key
    have HLI : ∀ w' : World, w.grownBy w' none → Lies w' ra (ints rx) := fun w' hg => (HRA.out w' hg).own.lies
    have HLEN := hid (show (ints rx).length = rn * 1 by rw [ints_len, hrl, Nat.mul_one])
    have HRl := hid hrl
    have HSp := hid hsplit
    have b0 : ((n : Int) == 0) = false := by simp; omega
    have b1 : (0 : Int) ≤ (k : Int) := by omega
    have b2 : (k : Int) < (n : Int) := by omega
    have q1 : (n : Int) / 2 = (k : Int) := by omega
    have q2 : Int.tdiv (n : Int) 2 = (k : Int) := by rw [Int.tdiv_eq_ediv_of_nonneg (by omega)]; exact q1
    have i4 : IntKind.i64.wrap ((k : Int) + 1) = (k : Int) + 1 := IntWalk.i64_in _ (by omega)
    have i1 : k ≤ c := by omega
    have i2 : k + 1 ≤ c := by omega
    have i3 : k + 1 ≤ n := by omega
    have j1 : (k : Int) + 1 ≤ (n : Int) := by omega
    have j2 : (k : Int) + 1 ≤ (c : Int) := by omega
    have i5 : k ≤ n := by omega
    have i6 : (0 : Int) ≤ (k : Int) + 1 := by omega
    have i7 : ((k : Int) + 1).toNat = k + 1 := by omega
    subst hAe
    obtain ⟨D1, hD1⟩ : ∃ D1, (if c = k + 1 then some (⟨g, o, none⟩ : Addr) else Option.map (fun x => x.add ((k + 1) * 2)) (some (⟨g, o, none⟩ : Addr))) = D1 := ⟨_, rfl⟩
    rw [hD1] at HIR
    have HD1 := hid hD1
    clear cc hrr hrl hgl IH h hall hk hsplit hD1
    go_enter Try.func24, Try.ntmps24
    go_upto_region 4 with (fail)
    go_cut [4] (fun s4 wx => ∃ (gx : Nat) (A2 : Option Addr) (c2 : Nat), s4 = .pointer (some ⟨gx, 0, none⟩) ∧ Full wx gx 33 #[.string rk, .slice A2 rn c2] ∧ w.heap.size ≤ gx ∧ Own wx w.heap.size 3 1 A2 rn c2 (ints rx) ∧ w.grownBy wx none)
    case first =>
      go_region_held3 (fun w' => w.grownBy w' none) (((repeat (first | (with_reducible assumption) | (with_reducible exact gr_refl _ _) | (with_reducible refine gr_alloc ?_ _) | (with_reducible refine gr_drew ?_) | (with_reducible refine gr_put ?_ (by omega) _))); (first | done | fail "left")))
        ((refine step_app _ rfl (.tmp 16) (.tmp 21) 29 rfl w.heap.size 3 Try.underlying29 intInfo rfl (by omega) _ 0 0 [] rfl ?o1 ra rn rc (ints rx) rfl ?l1 HLEN.out (ints_one _) (by omega) (by omega) ?b1 ?_
          case o1 => ((repeat (first | (with_reducible assumption) | (with_reducible exact own_empty_at3 (by first | (simp; done) | fail "sz") (by omega)) | (with_reducible refine Own.alloc ?_ _) | (with_reducible refine Own.drew ?_))); (first | done | fail "left"))
          case l1 => exact HLI _ (by ((repeat (first | (with_reducible assumption) | (with_reducible exact gr_refl _ _) | (with_reducible refine gr_alloc ?_ _) | (with_reducible refine gr_drew ?_) | (with_reducible refine gr_put ?_ (by omega) _))); (first | done | fail "left")))
          case b1 => first | omega | (simp; done) | (simp; omega)
          intro A5 c5 w5 hown5 hg5 _
          have K5 : w.grownBy w5 none := gr_then (by ((repeat (first | (with_reducible assumption) | (with_reducible exact gr_refl _ _) | (with_reducible refine gr_alloc ?_ _) | (with_reducible refine gr_drew ?_) | (with_reducible refine gr_put ?_ (by omega) _))); (first | done | fail "left"))) hg5 (by rintro g hg; injection hg with hg; subst hg; exact .inr (by first | omega | (simp; done) | (simp; omega)))
          have s5 := K5.size
          rw [Nat.zero_add, List.nil_append] at hown5
          have e5 : 0 + rn = rn := Nat.zero_add rn
          try rw [e5]
          clear e5
          try (have Y0 : Full w5 (w.heap.size) 33 #[.string ⟨#[]⟩, .slice none 0 0] := Full.grown (by ((repeat (first | (with_reducible assumption) | (with_reducible exact Full.newAt (by first | (simp; done) | fail "sz")) | (with_reducible refine Full.alloc ?_ _) | (with_reducible refine Full.drew ?_) | (with_reducible refine Full.set ?_ _ _))); (first | done | fail "left"))) hg5 (by first | (simp [blockOf]; done) | (simp [blockOf]; omega)); have Y0a := Y0.cellAt 0 (v := .string ⟨#[]⟩) rfl; have Y0b := Y0.cellAt 1 (v := .slice none 0 0) rfl; have Y0c := Y0.free 0; have Y0d := Y0.free 1; have Y0n : w5.heap.size ≠ w.heap.size := World.new_ne w5 _ Y0a; have Y0m := Y0n.symm)
          try (have Y1 : Full w5 (w.heap.size + 1) 33 #[.string ⟨#[]⟩, .slice none 0 0] := Full.grown (by ((repeat (first | (with_reducible assumption) | (with_reducible exact Full.newAt (by first | (simp; done) | fail "sz")) | (with_reducible refine Full.alloc ?_ _) | (with_reducible refine Full.drew ?_) | (with_reducible refine Full.set ?_ _ _))); (first | done | fail "left"))) hg5 (by first | (simp [blockOf]; done) | (simp [blockOf]; omega)); have Y1a := Y1.cellAt 0 (v := .string ⟨#[]⟩) rfl; have Y1b := Y1.cellAt 1 (v := .slice none 0 0) rfl; have Y1c := Y1.free 0; have Y1d := Y1.free 1; have Y1n : w5.heap.size ≠ w.heap.size + 1 := World.new_ne w5 _ Y1a; have Y1m := Y1n.symm)
          try (have Y2 : Full w5 (w.heap.size + 1 + 1) 33 #[.string ⟨#[]⟩, .slice none 0 0] := Full.grown (by ((repeat (first | (with_reducible assumption) | (with_reducible exact Full.newAt (by first | (simp; done) | fail "sz")) | (with_reducible refine Full.alloc ?_ _) | (with_reducible refine Full.drew ?_) | (with_reducible refine Full.set ?_ _ _))); (first | done | fail "left"))) hg5 (by first | (simp [blockOf]; done) | (simp [blockOf]; omega)); have Y2a := Y2.cellAt 0 (v := .string ⟨#[]⟩) rfl; have Y2b := Y2.cellAt 1 (v := .slice none 0 0) rfl; have Y2c := Y2.free 0; have Y2d := Y2.free 1; have Y2n : w5.heap.size ≠ w.heap.size + 1 + 1 := World.new_ne w5 _ Y2a; have Y2m := Y2n.symm)
          skip))
      all_goals
        go_wp2_with fail
        go_meet
        case rel =>
          refine ⟨_, A5, c5, rfl, ?_, ?_, ?_, ?_⟩
          · repeat (first | (with_reducible assumption) | (with_reducible exact Full.newAt (by first | (simp; done) | fail "sz")) | (with_reducible refine Full.alloc ?_ _) | (with_reducible refine Full.drew ?_) | (with_reducible refine set2r (a := .string ⟨#[]⟩) (b := .slice none 0 0) ?_ _ _))
          · first | omega | (simp; done) | (simp; omega)
          · repeat (first | (with_reducible assumption) | (with_reducible refine Own.alloc ?_ _) | (with_reducible refine Own.drew ?_) | (with_reducible refine own_put2r (t := 33) (a := .string ⟨#[]⟩) (b := .slice none 0 0) ?_ (by ((repeat (first | (with_reducible assumption) | (with_reducible exact Full.newAt (by first | (simp; done) | fail "sz")) | (with_reducible refine Full.alloc ?_ _) | (with_reducible refine Full.drew ?_) | (with_reducible refine Full.set ?_ _ _))); (first | done | fail "left"))) (by decide) _ _))
          · ((repeat (first | (with_reducible assumption) | (with_reducible exact gr_refl _ _) | (with_reducible refine gr_alloc ?_ _) | (with_reducible refine gr_drew ?_) | (with_reducible refine gr_put ?_ (by omega) _))); (first | done | fail "left"))
    case rest =>
      obtain ⟨gx, A2, c2, rfl, FX, hgx, OX, GX⟩ := hcut
      have hszc := GX.size
      have hX0 : ∀ w' : World, wc.grownBy w' none → w'.cell? ⟨gx, 0, none⟩ = some (.string rk) := fun w' hg => hg.cell (FX.cellAt 0 rfl) (by simp)
      have hX1 : ∀ w' : World, wc.grownBy w' none → w'.cell? ⟨gx, 1, none⟩ = some (.slice A2 rn c2) := fun w' hg => hg.cell (FX.cellAt 1 rfl) (by simp)
      have HOX := hid OX
      have CL := hid (show ∀ W : World, wc.grownBy W none → Calls Try.prog 24 #[.slice (some ⟨g, o, none⟩) k c] W fun e w' => ∃ (T : RT) (p : Option Addr), e = .returned (.pointer p) ∧ T.ptr = p ∧ T.At w' w.heap.size ∧ rsem T.rows = (rsem rs).take k ∧ (T.blocks.Nodup ∧ ∀ b ∈ T.blocks, W.heap.size ≤ b ∧ b < w'.heap.size) ∧ W.grownBy w' none from fun W hg => (HIL.out W (gr_0 GX hg)).mono (by
        rintro e w' ⟨T, he, hT, hr, hnd, hgr⟩
        exact ⟨T, _, he, rfl, hT.base_le (gr_0 GX hg).size, by rw [hr, rsem_take], ⟨hnd, hT.block⟩, hgr⟩))
      have CRg := hid (show ∀ (D : Option Addr) (nn cc : Nat), D = D1 → nn = n - (k + 1) → cc = c - (k + 1) → ∀ W : World, wc.grownBy W none → Calls Try.prog 24 #[.slice D nn cc] W fun e w' => ∃ (T : RT) (p : Option Addr), e = .returned (.pointer p) ∧ T.ptr = p ∧ T.At w' w.heap.size ∧ rsem T.rows = (rsem rs).drop (k + 1) ∧ (T.blocks.Nodup ∧ ∀ b ∈ T.blocks, W.heap.size ≤ b ∧ b < w'.heap.size) ∧ W.grownBy w' none from fun D nn cc hD hnn hcc W hg => by
        subst hD hnn hcc
        refine (HIR.out W (gr_0 GX hg)).mono ?_
        rintro e w' ⟨T, he, hT, hr, hnd, hgr⟩
        exact ⟨T, _, he, rfl, hT.base_le (gr_0 GX hg).size, by rw [hr, rsem_drop], ⟨hnd, hT.block⟩, hgr⟩)
      have HGX := hid GX
      clear FX OX ck cp HLI GX HIL HIR
      by_cases hck : c = k + 1
      · have CR := hid (CRg.out (some ⟨g, o, none⟩) 0 0 (by have h := HD1.out; rw [if_pos hck] at h; exact h) (by omega) (by omega))
        subst hck
        obtain rfl : n = k + 1 := by omega
        have m1 : (k : Int) ≤ (k : Int) + 1 := by omega
        have m2 : k ≤ k + 1 := by omega
        have m3 : (k : Int) < (k : Int) + 1 := by omega
        have m4 : k + 1 - (k + 1) = 0 := by omega
        have m5 : (0 : Int) ≤ (k : Int) + 1 - ((k : Int) + 1) := by omega
        clear CRg HD1
        go_upto_region 5 with (fail)
        go_region_held3 (fun w' => wc.grownBy w' none) (((repeat (first | (with_reducible assumption) | (with_reducible exact gr_refl _ _) | (with_reducible refine gr_alloc ?_ _) | (with_reducible refine gr_drew ?_) | (with_reducible refine gr_put ?_ (by omega) _) | (with_reducible refine gr_0 ?_ hg6) | (with_reducible refine gr_0 ?_ hg7))); (first | done | fail "left")))
          (first
            | (go_at_call_of 24 k
               refine (CL.out _ (by ((repeat (first | (with_reducible assumption) | (with_reducible exact gr_refl _ _) | (with_reducible refine gr_alloc ?_ _) | (with_reducible refine gr_drew ?_) | (with_reducible refine gr_put ?_ (by omega) _) | (with_reducible refine gr_0 ?_ hg6) | (with_reducible refine gr_0 ?_ hg7))); (first | done | fail "left")))).mono ?_
               rintro e w6 ⟨T1, p1, rfl, hp1, hT1, hr1, hn1, hg6⟩
               have HR1 := hid hr1
               have HP1 := hid hp1
               have HN1 := hid hn1
               clear hr1 hp1 hn1)
            | (go_at_call 24
               refine (CR.out _ (by ((repeat (first | (with_reducible assumption) | (with_reducible exact gr_refl _ _) | (with_reducible refine gr_alloc ?_ _) | (with_reducible refine gr_drew ?_) | (with_reducible refine gr_put ?_ (by omega) _) | (with_reducible refine gr_0 ?_ hg6) | (with_reducible refine gr_0 ?_ hg7))); (first | done | fail "left")))).mono ?_
               rintro e w7 ⟨T2, p2, rfl, hp2, hT2, hr2, hn2, hg7⟩
               have HR2 := hid hr2
               have HP2 := hid hp2
               have HN2 := hid hn2
               clear hr2 hp2 hn2))
        all_goals
          go_wp2_with fail
          go_ret
          refine ⟨.node _ ⟨rk, A2, rn, c2, rx⟩ T1 T2, rfl, ⟨?_, (by rw [HP1.out, HP2.out]; exact Full.newAt (by first | (simp; done) | rfl)), ?_, ⟨HRl.out, HRK.out⟩, ?_, ?_⟩, ?_, ?_, ?_⟩
          · have s6 : wc.heap.size ≤ w6.heap.size := World.grownBy.size (show wc.grownBy w6 none by ((repeat (first | (with_reducible assumption) | (with_reducible exact gr_refl _ _) | (with_reducible refine gr_alloc ?_ _) | (with_reducible refine gr_drew ?_) | (with_reducible refine gr_put ?_ (by omega) _) | (with_reducible refine gr_0 ?_ hg6) | (with_reducible refine gr_0 ?_ hg7))); (first | done | fail "left")))
            have s7 : wc.heap.size ≤ w7.heap.size := World.grownBy.size (show wc.grownBy w7 none by ((repeat (first | (with_reducible assumption) | (with_reducible exact gr_refl _ _) | (with_reducible refine gr_alloc ?_ _) | (with_reducible refine gr_drew ?_) | (with_reducible refine gr_put ?_ (by omega) _) | (with_reducible refine gr_0 ?_ hg6) | (with_reducible refine gr_0 ?_ hg7))); (first | done | fail "left")))
            first | omega | (simp; omega)
          · exact HOX.out.kept0 (by ((repeat (first | (with_reducible assumption) | (with_reducible exact gr_refl _ _) | (with_reducible refine gr_alloc ?_ _) | (with_reducible refine gr_drew ?_) | (with_reducible refine gr_put ?_ (by omega) _) | (with_reducible refine gr_0 ?_ hg6) | (with_reducible refine gr_0 ?_ hg7))); (first | done | fail "left")))
          · ((repeat (first | (with_reducible assumption) | (with_reducible refine RT.At.alloc ?_ _) | (with_reducible refine RT.At.drew ?_) | (with_reducible refine RT.At.grown0 ?_ hg6) | (with_reducible refine RT.At.grown0 ?_ hg7))); (first | done | fail "left"))
          · ((repeat (first | (with_reducible assumption) | (with_reducible refine RT.At.alloc ?_ _) | (with_reducible refine RT.At.drew ?_) | (with_reducible refine RT.At.grown0 ?_ hg6) | (with_reducible refine RT.At.grown0 ?_ hg7))); (first | done | fail "left"))
          · rw [HSp.out]; simp only [RT.rows, rsem_app]; rw [HR1.out]; simp only [rsem, List.map_cons, RRow.sem]; rw [show List.map RRow.sem T2.rows = _ from HR2.out]; rfl
          · have s6 : wc.heap.size ≤ w6.heap.size := World.grownBy.size (show wc.grownBy w6 none by ((repeat (first | (with_reducible assumption) | (with_reducible exact gr_refl _ _) | (with_reducible refine gr_alloc ?_ _) | (with_reducible refine gr_drew ?_) | (with_reducible refine gr_put ?_ (by omega) _) | (with_reducible refine gr_0 ?_ hg6) | (with_reducible refine gr_0 ?_ hg7))); (first | done | fail "left")))
            have s7 : w6.heap.size ≤ w7.heap.size := hg7.size
            refine nodup_node wc.heap.size w6.heap.size (fun b hb => (HOX.out.block hb).2) (fun b hb => HN1.out.2 b hb) (fun b hb => ?_) s6 (by first | exact s7 | (simp; exact s7) | (simp; omega)) HN1.out.1 HN2.out.1
            have hb2 : w6.heap.size ≤ b ∧ b < w7.heap.size := HN2.out.2 b hb
            first | exact hb2 | (simp; exact hb2) | (simp; omega)
          · exact gr_0 HGX.out (by ((repeat (first | (with_reducible assumption) | (with_reducible exact gr_refl _ _) | (with_reducible refine gr_alloc ?_ _) | (with_reducible refine gr_drew ?_) | (with_reducible refine gr_put ?_ (by omega) _) | (with_reducible refine gr_0 ?_ hg6) | (with_reducible refine gr_0 ?_ hg7))); (first | done | fail "left")))
      · have CR := hid (CRg.out (some ⟨g, o + (k + 1) * 2, none⟩) (n - (k + 1)) (c - (k + 1)) (by have h := HD1.out; rw [if_neg hck] at h; rw [← h]; rfl) rfl rfl)
        clear CRg HD1
        go_upto_region 5 with (fail)
        go_region_held3 (fun w' => wc.grownBy w' none) (((repeat (first | (with_reducible assumption) | (with_reducible exact gr_refl _ _) | (with_reducible refine gr_alloc ?_ _) | (with_reducible refine gr_drew ?_) | (with_reducible refine gr_put ?_ (by omega) _) | (with_reducible refine gr_0 ?_ hg6) | (with_reducible refine gr_0 ?_ hg7))); (first | done | fail "left")))
          (first
            | (go_at_call_of 24 (Value.slice (some ⟨g, o, none⟩) k c)
               refine (CL.out _ (by ((repeat (first | (with_reducible assumption) | (with_reducible exact gr_refl _ _) | (with_reducible refine gr_alloc ?_ _) | (with_reducible refine gr_drew ?_) | (with_reducible refine gr_put ?_ (by omega) _) | (with_reducible refine gr_0 ?_ hg6) | (with_reducible refine gr_0 ?_ hg7))); (first | done | fail "left")))).mono ?_
               rintro e w6 ⟨T1, p1, rfl, hp1, hT1, hr1, hn1, hg6⟩
               have HR1 := hid hr1
               have HP1 := hid hp1
               have HN1 := hid hn1
               clear hr1 hp1 hn1)
            | (go_at_call 24
               refine (CR.out _ (by ((repeat (first | (with_reducible assumption) | (with_reducible exact gr_refl _ _) | (with_reducible refine gr_alloc ?_ _) | (with_reducible refine gr_drew ?_) | (with_reducible refine gr_put ?_ (by omega) _) | (with_reducible refine gr_0 ?_ hg6) | (with_reducible refine gr_0 ?_ hg7))); (first | done | fail "left")))).mono ?_
               rintro e w7 ⟨T2, p2, rfl, hp2, hT2, hr2, hn2, hg7⟩
               have HR2 := hid hr2
               have HP2 := hid hp2
               have HN2 := hid hn2
               clear hr2 hp2 hn2))
        all_goals
          go_wp2_with fail
          go_ret
          refine ⟨.node _ ⟨rk, A2, rn, c2, rx⟩ T1 T2, rfl, ⟨?_, (by rw [HP1.out, HP2.out]; exact Full.newAt (by first | (simp; done) | rfl)), ?_, ⟨HRl.out, HRK.out⟩, ?_, ?_⟩, ?_, ?_, ?_⟩
          · have s6 : wc.heap.size ≤ w6.heap.size := World.grownBy.size (show wc.grownBy w6 none by ((repeat (first | (with_reducible assumption) | (with_reducible exact gr_refl _ _) | (with_reducible refine gr_alloc ?_ _) | (with_reducible refine gr_drew ?_) | (with_reducible refine gr_put ?_ (by omega) _) | (with_reducible refine gr_0 ?_ hg6) | (with_reducible refine gr_0 ?_ hg7))); (first | done | fail "left")))
            have s7 : wc.heap.size ≤ w7.heap.size := World.grownBy.size (show wc.grownBy w7 none by ((repeat (first | (with_reducible assumption) | (with_reducible exact gr_refl _ _) | (with_reducible refine gr_alloc ?_ _) | (with_reducible refine gr_drew ?_) | (with_reducible refine gr_put ?_ (by omega) _) | (with_reducible refine gr_0 ?_ hg6) | (with_reducible refine gr_0 ?_ hg7))); (first | done | fail "left")))
            first | omega | (simp; omega)
          · exact HOX.out.kept0 (by ((repeat (first | (with_reducible assumption) | (with_reducible exact gr_refl _ _) | (with_reducible refine gr_alloc ?_ _) | (with_reducible refine gr_drew ?_) | (with_reducible refine gr_put ?_ (by omega) _) | (with_reducible refine gr_0 ?_ hg6) | (with_reducible refine gr_0 ?_ hg7))); (first | done | fail "left")))
          · ((repeat (first | (with_reducible assumption) | (with_reducible refine RT.At.alloc ?_ _) | (with_reducible refine RT.At.drew ?_) | (with_reducible refine RT.At.grown0 ?_ hg6) | (with_reducible refine RT.At.grown0 ?_ hg7))); (first | done | fail "left"))
          · ((repeat (first | (with_reducible assumption) | (with_reducible refine RT.At.alloc ?_ _) | (with_reducible refine RT.At.drew ?_) | (with_reducible refine RT.At.grown0 ?_ hg6) | (with_reducible refine RT.At.grown0 ?_ hg7))); (first | done | fail "left"))
          · rw [HSp.out]; simp only [RT.rows, rsem_app]; rw [HR1.out]; simp only [rsem, List.map_cons, RRow.sem]; rw [show List.map RRow.sem T2.rows = _ from HR2.out]; rfl
          · have s6 : wc.heap.size ≤ w6.heap.size := World.grownBy.size (show wc.grownBy w6 none by ((repeat (first | (with_reducible assumption) | (with_reducible exact gr_refl _ _) | (with_reducible refine gr_alloc ?_ _) | (with_reducible refine gr_drew ?_) | (with_reducible refine gr_put ?_ (by omega) _) | (with_reducible refine gr_0 ?_ hg6) | (with_reducible refine gr_0 ?_ hg7))); (first | done | fail "left")))
            have s7 : w6.heap.size ≤ w7.heap.size := hg7.size
            refine nodup_node wc.heap.size w6.heap.size (fun b hb => (HOX.out.block hb).2) (fun b hb => HN1.out.2 b hb) (fun b hb => ?_) s6 (by first | exact s7 | (simp; exact s7) | (simp; omega)) HN1.out.1 HN2.out.1
            have hb2 : w6.heap.size ≤ b ∧ b < w7.heap.size := HN2.out.2 b hb
            first | exact hb2 | (simp; exact hb2) | (simp; omega)
          · exact gr_0 HGX.out (by ((repeat (first | (with_reducible assumption) | (with_reducible exact gr_refl _ _) | (with_reducible refine gr_alloc ?_ _) | (with_reducible refine gr_drew ?_) | (with_reducible refine gr_put ?_ (by omega) _) | (with_reducible refine gr_0 ?_ hg6) | (with_reducible refine gr_0 ?_ hg7))); (first | done | fail "left")))
end Go.Proofs.Ytnegoaaddaofiaa
