/- The walk of FnExactFollowRun. -/
import Derived.Test.YtnjbpeojadbclaaDoorCar
namespace Go.Proofs.YtnjbpeojadbclaaDoor
open Go.RowKit

set_option maxHeartbeats 8000000 in
theorem exFollowRun_walk (A B : Option Addr) (n cA m cB : Nat) (xs ys : List En) (k : Int) (a : Addr) (w : World) (h : EArg w A n cA xs) (h2 : EArg w B m cB ys) (hE : Sent w a) :
    Calls Tryd.prog 4 #[.slice A n cA, .slice B m cB, .int .i64 k] w fun e w' => e = .returned (.bool true) ∧ w.grownBy w' none := by
  obtain ⟨q, hq⟩ := comm_ex xs ys
  obtain ⟨ok, hok⟩ : ∃ b, okR xs ys q m k = b := ⟨_, rfl⟩
  obtain ⟨res, hres⟩ : ∃ r, resR ok xs n m k = r := ⟨_, rfl⟩
  have sp := hid (fun w X Y cX cY (hX : EArg w X n cX xs) (hY : EArg w Y m cY ys) (hn : n ≤ 1048576) (hm : m ≤ 1048576) => sfrun_is X Y n cX m cY xs ys q k w ok res hX hY hn hm hq hok hres)
  have im := hid (fun w X Y cX cY (hX : EArg w X n cX xs) (hY : EArg w Y m cY ys) (hE : Sent w a) => frun_is X Y n cX m cY xs ys q k a w ok res hX hY hE hq hok hres)
  have HRo := hid (show ∀ e ∈ res, e.ok by
    intro e he
    rw [← hres, resR] at he
    split at he
    · exact h.ok e (List.mem_of_mem_take he)
    · cases he)
  have HRl := hid (show res.length ≤ n by
    rw [← hres, ← h.len, resR]
    split
    · rw [List.length_take]; omega
    · simp)
  clear hok hres hq
  have tA := hid (fun w (h : EArg w A n cA xs) (hn : n ≤ 1048576) => toes_any A n cA xs w h hn)
  have tB := hid (fun w (h : EArg w B m cB ys) (hn : m ≤ 1048576) => toes_any B m cB ys w h hn)
  have hxo := h.ok
  have hyo := h2.ok
  have HXl := hid h.len
  have HYl := hid h2.len
  have HXo := hid hxo
  have HYo := hid hyo
  have HA := hid h.below
  have HB := hid h2.below
  have hEl := hE.lt
  have HEl := hid hEl
  have e1 := szes_any A n cA xs 1048576 w h (by omega) (by omega)
  clear hxo hyo hEl
  go_enter Tryd.func4, Tryd.ntmps4
  go_wp2_with fail
  refine e1.mono ?_
  rintro e w1 ⟨r1, rfl, p1, p2, p3, hg1⟩
  clear e1
  rcases (by omega : r1 < 0 ∨ 0 ≤ r1) with c | c
  · go_wp2_with fail
    go_ret
    exact ⟨rfl, hg1⟩
  have hn := p3 c
  have p4 : r1 ≤ 1048576 := by omega
  have e2 := szes_any B m cB ys r1 w1 (h2.grown0 hg1) c (by omega)
  clear p1 p2 p3
  go_wp2_with fail
  refine e2.mono ?_
  rintro e w2 ⟨r2, rfl, p1, p2, p3, hg2⟩
  have G2 := gr_0 hg1 hg2
  clear e2 hg1 hg2
  rcases (by omega : r2 < 0 ∨ 0 ≤ r2) with c2 | c2
  · go_wp2_with fail
    go_ret
    exact ⟨rfl, G2⟩
  have hm := p3 c2
  have hn' : n ≤ 1048576 := by omega
  have hm' : m ≤ 1048576 := by omega
  clear p1 p2 p3 p4 hn hm
  have A2 := h.grown0 G2
  have B2 := h2.grown0 G2
  have E2 := hE.grown0 G2
  clear h h2 hE
  -- spec
  go_wp2_with fail
  refine (tA.out _ A2 hn').mono ?_
  rintro e w3 ⟨g3, rfl, hO3, hg3⟩
  have X3 := toto_arg hO3 HXl.out HXo.out
  have G3 := gr_0 G2 hg3
  have A3 := A2.grown0 hg3
  have B3 := B2.grown0 hg3
  have E3 := E2.grown0 hg3
  clear hO3 hg3 A2 B2 E2 G2
  go_wp2_with fail
  refine (tB.out _ B3 hm').mono ?_
  rintro e w4 ⟨g4, rfl, hO4, hg4⟩
  have Y4 := toto_arg hO4 HYl.out HYo.out
  have X4 := X3.grown0 hg4
  have G4 := gr_0 G3 hg4
  have A4 := A3.grown0 hg4
  have B4 := B3.grown0 hg4
  have E4 := E3.grown0 hg4
  clear hO4 hg4 A3 B3 E3 G3 X3
  go_wp2_with fail
  refine (sp.out w4 _ _ _ _ X4 Y4 hn' hm').mono ?_
  rintro e w5 ⟨V, nV, cV, rfl, hV, hVl, hg5⟩
  have HVl := hid hVl
  have hVb := fun b hb => (hV.block (b := b) hb)
  have V5 : EArg w5 V nV cV res := EArg.of_own hV hVl HRo.out
  have G5 := gr_0 G4 hg5
  have s5 := G5.size
  have z5 := s5
  have hnV : nV ≤ 1048576 := by have := HRl.out; omega
  have C5 : Car w5.heap.size w5 A n cA xs B m cB ys V nV cV res a := ⟨A4.grown0 hg5, B4.grown0 hg5, V5, E4.grown0 hg5, fun h0 b hb => Nat.lt_of_lt_of_le (HA.out h0 b hb) s5, fun h0 b hb => Nat.lt_of_lt_of_le (HB.out h0 b hb) s5, fun _ b hb => (hVb b hb).2, Nat.lt_of_lt_of_le HEl.out s5⟩
  clear hV hVl hVb V5 A4 B4 E4 X4 Y4 G4 hg5 s5
  -- the first answer
  go_wp2_with fail
  refine (tA.out _ C5.a1 hn').mono ?_
  rintro e w6 ⟨gx, rfl, hX6, hg6⟩
  have hxb := hX6.block (b := gx) rfl
  have C6 := C5.step0 hg6
  have G6 := gr_0 G5 hg6
  have z6 := hg6.size
  clear hg6 G5 C5
  go_wp2_with fail
  refine (tB.out _ C6.a2 hm').mono ?_
  rintro e w7 ⟨gy, rfl, hY7, hg7⟩
  have hyb := hY7.block (b := gy) rfl
  have C7 := C6.step0 hg7
  have X7 := hX6.kept0 hg7
  have G7 := gr_0 G6 hg7
  have z7 := hg7.size
  have ax := toto_arg X7 HXl.out HXo.out
  have ay := toto_arg hY7 HYl.out HYo.out
  clear hg7 G6 C6 hX6
  go_wp2_with fail
  refine (im.out w7 _ _ _ _ ax ay C7.se).mono ?_
  rintro e w8 ⟨U, nU, cU, rfl, hU, hUl, hg8⟩
  obtain rfl : nV = nU := HVl.out.symm.trans hUl
  have hUb := fun b hb => (hU.block (b := b) hb)
  have HUb := hid hUb
  have HcU := hid hU.cap
  have HmU := hid hU.max
  have C8 := C7.step0 hg8
  have X8 := X7.kept0 hg8
  have Y8 := hY7.kept0 hg8
  have G8 := gr_0 G7 hg8
  have u8 : EArg w8 U nV cU res := EArg.of_own hU hUl HRo.out
  have e8 := eqs_same U V nV cU nV cV res w8 u8 C8.a3
  have ef := hid (fun b : Bool => (by simp : (b != b) = false))
  have qb := ef.out ok
  clear hUb hg8 C7 X7 hY7 G7 ax ay u8
  go_wp2_with fail
  refine e8.mono ?_
  rintro e w9 ⟨rfl, hg9⟩
  have C9 := C8.step0 hg9
  have X9 := X8.kept0 hg9
  have Y9 := Y8.kept0 hg9
  have U9 := hU.kept0 hg9
  have G9 := gr_0 G8 hg9
  clear e8 hg9 C8 X8 Y8 G8 hU
  -- the arguments of the first answer are as they were
  go_wp2_with fail
  refine (tA.out _ C9.a1 hn').mono ?_
  rintro e wa ⟨ga, rfl, hOa, hga⟩
  have Ca := C9.step0 hga
  have Xa := X9.kept0 hga
  have Ya := Y9.kept0 hga
  have Ua := U9.kept0 hga
  have Ga := gr_0 G9 hga
  have ea := eqs_same _ _ n n n n xs wa (toto_arg (w := w5) (Xa.base_le (Nat.le_refl _)) HXl.out HXo.out) (toto_arg hOa HXl.out HXo.out)
  clear hga hOa C9 X9 Y9 U9 G9
  go_wp2_with fail
  refine ea.mono ?_
  rintro e wb ⟨rfl, hgb⟩
  have Cb := Ca.step0 hgb
  have Xb := Xa.kept0 hgb
  have Yb := Ya.kept0 hgb
  have Ub := Ua.kept0 hgb
  have Gb := gr_0 Ga hgb
  clear ea hgb Ca Xa Ya Ua Ga
  go_wp2_with fail
  refine (tB.out _ Cb.a2 hm').mono ?_
  rintro e wc ⟨gc, rfl, hOc, hgc⟩
  have Cc := Cb.step0 hgc
  have Xc := Xb.kept0 hgc
  have Yc := Yb.kept0 hgc
  have Uc := Ub.kept0 hgc
  have Gc := gr_0 Gb hgc
  have ec := eqs_same _ _ m m m m ys wc (toto_arg (w := w6) (Yc.base_le (Nat.le_refl _)) HYl.out HYo.out) (toto_arg hOc HYl.out HYo.out)
  clear hgc hOc Cb Xb Yb Ub Gb
  go_wp2_with fail
  refine ec.mono ?_
  rintro e wd ⟨rfl, hgd⟩
  have Cd := Cc.step0 hgd
  have Xd := Xc.kept0 hgd
  have Yd := Yc.kept0 hgd
  have Ud := Uc.kept0 hgd
  have Gd := gr_0 Gc hgd
  clear ec hgd Cc Xc Yc Uc Gc
  -- marks into the arguments of the first answer
  have ed := marks_any _ (some ⟨gx, 0, none⟩) n n 1 _ wd Xd (by omega) (by omega)
  go_wp2_with fail
  refine ed.mono ?_
  rintro e wf ⟨rfl, _, hgf⟩
  change wd.grownBy wf (some gx) at hgf
  have Cf := Cd.step hgf (fun g hg => by injection hg with hg; omega)
  have Yf := Yd.kept hgf (fun g hg => by injection hg with hg; omega)
  have Uf := Ud.kept hgf (fun g hg => by injection hg with hg; omega)
  have Gf := gr_new Gd hgf (by omega)
  obtain ⟨K1, hK1⟩ : ∃ K, 1 + 4 * n = K := ⟨_, rfl⟩
  have hK1b : K1 ≤ 5000000 := by omega
  rw [hK1]
  have ef' := marks_any _ (some ⟨gy, 0, none⟩) m m K1 _ wf Yf (by omega) (by omega)
  clear ed hgf Cd Xd Yd Ud Gd hK1
  go_wp2_with fail
  refine ef'.mono ?_
  rintro e wg ⟨rfl, _, hgg⟩
  change wf.grownBy wg (some gy) at hgg
  have Cg := Cf.step hgg (fun g hg => by injection hg with hg; omega)
  have Ug := Uf.kept hgg (fun g hg => by injection hg with hg; omega)
  have Gg := gr_new Gf hgg (by omega)
  obtain ⟨K2, hK2⟩ : ∃ K, K1 + 4 * m = K := ⟨_, rfl⟩
  have hK2b : K2 ≤ 10000000 := by omega
  rw [hK2]
  have eg := eqs_same U V nV cU nV cV res wg (EArg.of_own Ug HVl.out HRo.out) Cg.a3
  have dk : decide ((K2 : Int) < 0) = false := by simp
  have dk2 : (0 : Int) ≤ (K2 : Int) := by omega
  clear ef' hgg Cf Yf Uf Gf hK1b hK2 hK2b
  go_wp2_with fail
  refine eg.mono ?_
  rintro e wh ⟨rfl, hgh⟩
  have Ch := Cg.step0 hgh
  have Uh := Ug.kept0 hgh
  have Gh := gr_0 Gg hgh
  clear eg hgh Cg Ug Gg dk dk2
  -- marks into the first answer
  have eh := marks_any _ U nV cU 1 _ wh Uh (by omega) (by omega)
  go_wp2_with fail
  refine eh.mono ?_
  rintro e wi ⟨rfl, Ui, hgi⟩
  have Ci := Ch.step hgi (fun g hg => by have := HUb.out g hg; omega)
  have Gi := gr_then Gh hgi (fun g hg => .inr (by have := HUb.out g hg; omega))
  obtain ⟨K3, hK3⟩ : ∃ K, 1 + 4 * nV = K := ⟨_, rfl⟩
  rw [hK3]
  have ei := hid (fun w (h : Lies w U (ecells (marksE 1 nV))) => helds_any U nV cU 1 w h HcU.out HmU.out (by omega) (by omega))
  rw [hK3] at ei
  have Li := marks_li Ui
  have dm : decide ((K3 : Int) < 0) = false := by simp
  have dm2 : (0 : Int) ≤ (K3 : Int) := by omega
  have dm3 : ((K3 : Int) != (K3 : Int)) = false := by simp
  clear eh hgi Ch Uh Gh Ui hK3
  go_wp2_with fail
  refine (ei.out _ Li).mono ?_
  rintro e wj ⟨rfl, hgj⟩
  have Cj := Ci.step0 hgj
  have Lj := Li.grown0 hgj
  have Gj := gr_0 Gi hgj
  clear hgj Ci Li Gi
  -- the second answer
  go_wp2_with fail
  refine (tA.out _ Cj.a1 hn').mono ?_
  rintro e wk ⟨gk, rfl, hOk, hgk⟩
  have Ck := Cj.step0 hgk
  have Lk := Lj.grown0 hgk
  have Gk := gr_0 Gj hgk
  have xk := toto_arg hOk HXl.out HXo.out
  clear hgk Cj Lj Gj hOk
  go_wp2_with fail
  refine (tB.out _ Ck.a2 hm').mono ?_
  rintro e wl ⟨gl, rfl, hOl, hgl⟩
  have Cl := Ck.step0 hgl
  have Ll := Lk.grown0 hgl
  have Gl := gr_0 Gk hgl
  have xl := xk.grown0 hgl
  have yl := toto_arg hOl HYl.out HYo.out
  clear hgl Ck Lk Gk hOl xk
  go_wp2_with fail
  refine (im.out wl _ _ _ _ xl yl Cl.se).mono ?_
  rintro e wm ⟨Z, nZ, cZ, rfl, hZ, hZl, hgm⟩
  obtain rfl : nV = nZ := HVl.out.symm.trans hZl
  have Cm := Cl.step0 hgm
  have Lm := Ll.grown0 hgm
  have Gm := gr_0 Gl hgm
  have em := eqs_same Z V nV cZ nV cV res wm (EArg.of_own hZ hZl HRo.out) Cm.a3
  clear hgm Cl Ll Gl xl yl hZ hZl
  go_wp2_with fail
  refine em.mono ?_
  rintro e wn ⟨rfl, hgn⟩
  have Ln := Lm.grown0 hgn
  have Gn := gr_0 Gm hgn
  clear em hgn Cm Lm Gm
  go_wp2_with fail
  refine (ei.out _ Ln).mono ?_
  rintro e wo ⟨rfl, hgo⟩
  have Go' := gr_0 Gn hgo
  clear Gn hgo Ln
  go_wp2_with fail
  go_ret
  exact ⟨rfl, Go'⟩
end Go.Proofs.YtnjbpeojadbclaaDoor
