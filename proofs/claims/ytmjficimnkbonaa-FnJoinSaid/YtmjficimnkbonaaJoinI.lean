/- GroupJoin in spec and in impl. -/
import Derived.Test.YtmjficimnkbonaaJoinS
import Derived.Laws.OwnMore
namespace Go.Proofs.Ytmjficimnkbonaa
open Go.RowKit

theorem set2j {w : World} {g : Nat} {t : TypeId} (h : Full w g t #[.int .i64 0, .slice none 0 0]) (u v : Value) : Full ((w.setCell ⟨g, 0, none⟩ u).setCell ⟨g, 1, none⟩ v) g t #[u, v] := (h.set 0 u).set 1 v
theorem own_put2j {w : World} {base n c g : Nat} {e t : TypeId} {s : Nat} {A : Option Addr} {xs : List Value} {cs : Array Value} (h : Own w base e s A n c xs) (f : Full w g t cs) (hne : e ≠ t) (u v : Value) : Own ((w.setCell ⟨g, 0, none⟩ u).setCell ⟨g, 1, none⟩ v) base e s A n c xs := (h.put f hne 0 u).put (f.set 0 u) hne 1 v
theorem lies_put2j {w : World} {A : Option Addr} {xs : List Value} {g : Nat} (h : Lies w A xs) (hne : ∀ b, blockOf A = some b → b ≠ g) (u v : Value) : Lies ((w.setCell ⟨g, 0, none⟩ u).setCell ⟨g, 1, none⟩ v) A xs := (h.setCell (p := ⟨g, 0, none⟩) hne u).setCell (p := ⟨g, 1, none⟩) hne v

def madeS (n : Nat) : Array Value := madeCells (Value.string ⟨#[]⟩).cells (n + 1)
theorem run_madeS (n : Nat) (hn : n ≤ 1000) : ∀ w : World, (Instr.makeSlice 23 (.int .i64 0) (.int .i64 ((n : Int) + 1))).run Try.prog w = .ok (.slice (some ⟨w.heap.size, 0, none⟩) 0 (n + 1)) (w.alloc (.cells (madeS n) 9)) := fun w => by
  obtain ⟨i0, hi, hz0, hz1, hz2⟩ := info_parts strInfo
  have hmk := run_make (P := Try.prog) w 23 9 i0 _ Try.underlying23 hi hz0 .i64 .i64 0 ((n : Int) + 1) (by omega) (by omega) (by rw [hz2]; omega) (by omega)
  rw [hz1] at hmk
  have e : ((n : Int) + 1).toNat = n + 1 := by omega
  rw [e, Nat.mul_one] at hmk
  exact hmk
theorem own_made (w : World) (n base H : Nat) (hH : w.heap.size = H) (hb : base ≤ H) (hn : n ≤ 1000) : Own (w.alloc (.cells (madeS n) 9)) base 9 1 (some ⟨H, 0, none⟩) 0 (n + 1) [] := by
  subst hH
  refine ⟨rfl, .inr ⟨w.heap.size, n + 1, madeCells (Value.string ⟨#[]⟩).cells (n + 1), rfl, hb, heap_alloc_new w _, by omega, by simp only [maxLen]; omega, by rw [Nat.mul_one]; exact size_madeCells (Value.string ⟨#[]⟩).cells (n + 1), by simp⟩⟩
/-- 'append(s, x...)' where s has room: in place. -/
theorem step_fits {P : Program} (w : World) {ops : Array Oper} {o : Oper} {a : Act} {K : Act → World → Prop} {Q : Exit → Act → World → Prop} {E : Prop} (hgd : o.guard = none) (s x : Operand) (t : TypeId)
    (ho : o.op = .call { callee := .builtin .append, args := #[s, x], argTypes := #[t, t] })
    (base : Nat) (e : TypeId) {z : Value} {size bytes : Nat} (ht : P.underlying t = some (.slice e)) (hi : (P.info? e).map (fun i => (i.zero, i.size, i.bytes)) = some (some z, size, bytes))
    (g n cap : Nat) (xs : List Value) (hs : a.eval s = .slice (some ⟨g, 0, none⟩) n cap) (hown : Own w base e size (some ⟨g, 0, none⟩) n cap xs)
    (gB oB m d : Nat) (news : List Value) (hx : a.eval x = .slice (some ⟨gB, oB, none⟩) m d) (hl : ∀ j u, news[j]? = some u → w.cell? ⟨gB, oB + j, none⟩ = some u) (hlen : news.length = m * size) (h1 : ∀ u ∈ news, u.oneCell' = true) (hroom : n + m ≤ cap)
    (h : ∀ w', Own w' base e size (some ⟨g, 0, none⟩) (n + m) cap (xs ++ news) → w.grownBy w' (some g) → K (a.put o.dst (.slice (some ⟨g, 0, none⟩) (n + m) cap)) w') :
    if Region.wanted o (yielded ops a.tmps) = true then Oper.wp P o a w K Q else E := by
  have hw : Region.wanted o (yielded ops a.tmps) = true := by simp [Region.wanted, hgd]
  rw [if_pos hw]
  obtain ⟨i, hi0, hz, hz1, hz2⟩ := info_parts hi
  obtain ⟨w', hrun, h2, h3⟩ := run_append_fits (P := P) w base t o.type e i size ht hi0 hz1 g n cap xs hown ⟨gB, oB, none⟩ m d news hlen (fun j u hu => by
    have ha : (⟨gB, oB, none⟩ : Addr).add j = ⟨gB, oB + j, none⟩ := by
      unfold Addr.add
      split
      · subst_vars; rfl
      · rfl
    rw [ha]
    exact hl j u hu) h1 hroom
  unfold Oper.wp execOp
  simp only [ho, resolve, invoke, builtin, Sem.run_bind, Sem.run_pure, Result.andThen_ok, List.map_toArray, List.map_cons, List.map_nil, hs, hx, hrun]
  exact h w' h2 h3

set_option maxHeartbeats 4000000 in
theorem sgj_any (s : Int) (A : Option Addr) (n c : Nat) (ms : List ByteArray) (x : ByteArray) (w : World) (h : SArg w A n c ms) (hx : x.size ≤ maxLen) :
    Calls Try.prog 16 #[.agg #[.int .i64 s, .slice A n c], .string x] w (GlTo w (joinN s ms x) (joinL s ms x) (joinB s ms x)) := by
  have E0 := (Full.new w 25 #[.int .i64 s, .slice A n c]).alloc (.cells #[.int .i64 0, .slice none 0 0] 25)
  have R0 := Full.newAt (w := w.alloc (.cells #[.int .i64 s, .slice A n c] 25)) (t := 25) (cs := #[.int .i64 0, .slice none 0 0]) (H := w.heap.size + 1) (by simp)
  have h0 := (h.alloc (.cells #[.int .i64 s, .slice A n c] 25)).alloc (.cells #[.int .i64 0, .slice none 0 0] 25)
  have G0 := gr_alloc (gr_alloc (gr_refl w none) (.cells #[.int .i64 s, .slice A n c] 25)) (.cells #[.int .i64 0, .slice none 0 0] 25)
  obtain ⟨b, hb⟩ : ∃ b, grpB s ms = b := ⟨_, rfl⟩
  obtain ⟨bw, hbw⟩ : ∃ b, wordB x = b := ⟨_, rfl⟩
  obtain ⟨bh, hbh⟩ : ∃ b, hasB x ms = b := ⟨_, rfl⟩
  obtain ⟨br, hbr⟩ : ∃ b, grpB s (putIn x ms) = b := ⟨_, rfl⟩
  have e1 := sgv_is s A n c ms b _ h0 hb
  have HB := hid hb
  have HBw := hid hbw
  have HBh := hid hbh
  have HBr := hid hbr
  have HT := hid (show joinB s ms x = (b && (bw && (!bh && br))) by rw [joinB, hb, hbw, hbh, hbr])
  have c0 := E0.cellAt 0 (v := .int .i64 s) rfl
  have c1 := E0.cellAt 1 (v := .slice A n c) rfl
  have HXz := hid hx
  clear h hb hbw hbh hbr hx
  obtain ⟨rb, hrb⟩ : ∃ rb, w.heap.size + 1 = rb := ⟨_, rfl⟩
  rw [hrb] at R0
  have hrb1 : w.heap.size < rb := by omega
  go_enter Try.func16, Try.ntmps16
  go_wp2_with fail
  clear hrb
  refine e1.mono ?_
  rintro e w1 ⟨rfl, hg1⟩
  have h1 := h0.grown0 hg1
  have E1 := E0.grown hg1 (by simp)
  have R1 := R0.grown hg1 (by simp)
  have G1 := gr_0 G0 hg1
  have hs1 := G1.size
  clear e1 h0 E0 R0 G0 hg1 c0 c1
  cases b with
  | false =>
    have HF := hid (show joinB s ms x = false by rw [HT.out]; rfl)
    have r0 := R1.cellAt 0 (v := .int .i64 0) rfl
    have r1 := R1.cellAt 1 (v := .slice none 0 0) rfl
    have f0 := R1.free 0
    have f1 := R1.free 1
    have NO := hid (show joinB s ms x = false → GlTo w (joinN s ms x) (joinL s ms x) (joinB s ms x) (.returned (.tuple #[.agg #[.int .i64 0, .slice none 0 0], .bool false])) ((w1.setCell ⟨rb, 0, none⟩ (.int .i64 0)).setCell ⟨rb, 1, none⟩ (.slice none 0 0)) from fun hT => by
      obtain ⟨a1, a2⟩ := join_no hT
      rw [a1, a2, hT]
      exact ⟨none, 0, 0, rfl, Own.nil _, rfl, gr_put (gr_put G1 (by omega) _) (by omega) _⟩)
    go_wp2_with fail
    refine bodyPost_ret (v := .tuple #[.agg #[.int .i64 0, .slice none 0 0], .bool false]) ?_ rfl (NO.out HF.out)
    simp [results, Try.results16, go_sem, r0, r1]
  | true =>
    have ew := fun w => sword_q' x bw w HXz.out HBw.out
    go_wp2_with fail
    refine (ew _).mono ?_
    rintro e w_ ⟨rfl, rfl⟩
    clear ew
    cases bw with
    | false =>
      have HF := hid (show joinB s ms x = false by rw [HT.out]; rfl)
      have r0 := R1.cellAt 0 (v := .int .i64 0) rfl
      have r1 := R1.cellAt 1 (v := .slice none 0 0) rfl
      have f0 := R1.free 0
      have f1 := R1.free 1
      have NO := hid (show joinB s ms x = false → GlTo w (joinN s ms x) (joinL s ms x) (joinB s ms x) (.returned (.tuple #[.agg #[.int .i64 0, .slice none 0 0], .bool false])) ((w_.setCell ⟨rb, 0, none⟩ (.int .i64 0)).setCell ⟨rb, 1, none⟩ (.slice none 0 0)) from fun hT => by
        obtain ⟨a1, a2⟩ := join_no hT
        rw [a1, a2, hT]
        exact ⟨none, 0, 0, rfl, Own.nil _, rfl, gr_put (gr_put G1 (by omega) _) (by omega) _⟩)
      go_wp2_with fail
      refine bodyPost_ret (v := .tuple #[.agg #[.int .i64 0, .slice none 0 0], .bool false]) ?_ rfl (NO.out HF.out)
      simp [results, Try.results16, go_sem, r0, r1]
    | true =>
      obtain ⟨⟨hs1', hs8⟩, ⟨hn1, hn6⟩, _, hasc⟩ := grpB_iff.1 HB.out
      have hNl := h1.len
      have hn6' : n ≤ 6 := by omega
      have hn1' : 0 < n := by omega
      have e2 := l33h_is s A n c ms x bh _ h1 HBh.out
      have c0 := E1.cellAt 0 (v := .int .i64 s) rfl
      have c1 := E1.cellAt 1 (v := .slice A n c) rfl
      go_wp2_with fail
      refine e2.mono ?_
      rintro e w2 ⟨rfl, hg2⟩
      have h2 := h1.grown0 hg2
      have E2 := E1.grown hg2 (by simp)
      have R2 := R1.grown hg2 (by simp)
      have G2 := gr_0 G1 hg2
      clear e2 h1 E1 R1 G1 hg2 c0 c1
      cases bh with
      | true =>
        have HF := hid (show joinB s ms x = false by rw [HT.out]; rfl)
        have r0 := R2.cellAt 0 (v := .int .i64 0) rfl
        have r1 := R2.cellAt 1 (v := .slice none 0 0) rfl
        have f0 := R2.free 0
        have f1 := R2.free 1
        have NO := hid (show joinB s ms x = false → GlTo w (joinN s ms x) (joinL s ms x) (joinB s ms x) (.returned (.tuple #[.agg #[.int .i64 0, .slice none 0 0], .bool false])) ((w2.setCell ⟨rb, 0, none⟩ (.int .i64 0)).setCell ⟨rb, 1, none⟩ (.slice none 0 0)) from fun hT => by
          obtain ⟨a1, a2⟩ := join_no hT
          rw [a1, a2, hT]
          exact ⟨none, 0, 0, rfl, Own.nil _, rfl, gr_put (gr_put G2 (by omega) _) (by omega) _⟩)
        go_wp2_with fail
        refine bodyPost_ret (v := .tuple #[.agg #[.int .i64 0, .slice none 0 0], .bool false]) ?_ rfl (NO.out HF.out)
        simp [results, Try.results16, go_sem, r0, r1]
      | false =>
        go_upto_region 3 with (fail)
        have c0 := E2.cellAt 0 (v := .int .i64 s) rfl
        have c1 := E2.cellAt 1 (v := .slice A n c) rfl
        have hC0 : ∀ w' : World, w2.grownBy w' none → w'.cell? ⟨w.heap.size, 0, none⟩ = some (.int .i64 s) := fun w' h => h.cell c0 (by simp)
        have hC1 : ∀ w' : World, w2.grownBy w' none → w'.cell? ⟨w.heap.size, 1, none⟩ = some (.slice A n c) := fun w' h => h.cell c1 (by simp)
        have HA2 := hid h2
        have HR2 := hid R2
        have HAsc := hid hasc
        have hs2 := G2.size
        have hRl := R2.lt
        have HSzs := hid (show ∀ y ∈ putIn x ms, y.size ≤ maxLen from fun y hy => by
          rcases putIn_mem hy with rfl | hy
          · exact HXz.out
          · exact h2.sz y hy)
        clear c0 c1 h2 E2 R2 hasc
        go_cut [6] (fun s6 wx => ∃ (gx : Nat) (A' : Option Addr) (q c' : Nat), s6 = .pointer (some ⟨gx, 0, none⟩) ∧ Full wx gx 25 #[.int .i64 s, .slice A' q c'] ∧ w2.heap.size ≤ gx ∧ Own wx w2.heap.size 9 1 A' q c' (strs (putIn x ms)) ∧ (putIn x ms).length = q ∧ w2.grownBy wx none)
        case first =>
          go_region_held3 (fun w' => w2.grownBy w' none) (((repeat (first | (with_reducible assumption) | (with_reducible exact gr_refl _ _) | (with_reducible refine gr_alloc ?_ _) | (with_reducible refine gr_drew ?_) | (with_reducible refine gr_put ?_ (by omega) _) | (with_reducible refine gr_0 ?_ hg5))); (first | done | fail "left")))
            ((go_at_call 50
              refine (l4_any A n c ms x _ (HA2.out.grown0 (by ((repeat (first | (with_reducible assumption) | (with_reducible exact gr_refl _ _) | (with_reducible refine gr_alloc ?_ _) | (with_reducible refine gr_drew ?_) | (with_reducible refine gr_put ?_ (by omega) _))); (first | done | fail "left")))) hn1' (by omega) HAsc.out HBh.out).mono ?_
              rintro e w5 ⟨L, nL, cL, rfl, hO5, hl5, hg5⟩
              have s5 := hg5.size
              try simp at s5
              have O5 := hO5.base_le (show w2.heap.size ≤ _ by first | omega | (simp; done) | (simp; omega))
              have HL5 := hid hl5
              try (have Y0 : Full w5 (w2.heap.size) 25 #[.int .i64 0, .slice none 0 0] := Full.grown (by ((repeat (first | (with_reducible assumption) | (with_reducible exact Full.newAt (by first | (simp; done) | fail "sz")) | (with_reducible refine Full.alloc ?_ _) | (with_reducible refine Full.drew ?_) | (with_reducible refine Full.set ?_ _ _))); (first | done | fail "left"))) hg5 (by simp); have Y0a := Y0.cellAt 0 (v := .int .i64 0) rfl; have Y0b := Y0.cellAt 1 (v := .slice none 0 0) rfl; have Y0c := Y0.free 0; have Y0d := Y0.free 1)
              clear hl5 hO5
              skip))
          all_goals
            go_wp2_with fail
            go_meet
            case rel =>
              refine ⟨_, L, nL, cL, rfl, ?_, ?_, ?_, HL5.out, ?_⟩
              · repeat (first | (with_reducible assumption) | (with_reducible exact Full.newAt (by first | (simp; done) | fail "sz")) | (with_reducible refine Full.alloc ?_ _) | (with_reducible refine Full.drew ?_) | (with_reducible refine set2j ?_ _ _))
              · first | omega | (simp; done) | (simp; omega)
              · repeat (first | (with_reducible assumption) | (with_reducible refine Own.alloc ?_ _) | (with_reducible refine Own.drew ?_) | (with_reducible refine own_put2j (t := 25) (cs := #[.int .i64 0, .slice none 0 0]) ?_ (by ((repeat (first | (with_reducible assumption) | (with_reducible exact Full.newAt (by first | (simp; done) | fail "sz")) | (with_reducible refine Full.alloc ?_ _) | (with_reducible refine Full.drew ?_) | (with_reducible refine Full.set ?_ _ _))); (first | done | fail "left"))) (by decide) _ _))
              · ((repeat (first | (with_reducible assumption) | (with_reducible exact gr_refl _ _) | (with_reducible refine gr_alloc ?_ _) | (with_reducible refine gr_drew ?_) | (with_reducible refine gr_put ?_ (by omega) _) | (with_reducible refine gr_0 ?_ hg5))); (first | done | fail "left"))
        case rest =>
          obtain ⟨gx, L, nL, cL, rfl, FX, hgx, OX, hlX, GX⟩ := hcut
          have R4 := HR2.out.grown GX (by simp)
          have G4 := gr_0 G2 GX
          have HLX := hid hlX
          have SX := SArg.of_own OX HLX.out HSzs.out
          have e3 := sgv_is s L nL cL (putIn x ms) br _ SX HBr.out
          have x0 := FX.cellAt 0 (v := .int .i64 s) rfl
          have x1 := FX.cellAt 1 (v := .slice L nL cL) rfl
          clear hC0 hC1 HA2 HR2 GX hlX SX
          go_wp2_with fail
          refine e3.mono ?_
          rintro e w5 ⟨rfl, hg5⟩
          have X5 := FX.grown hg5 (by simp)
          have R5 := R4.grown hg5 (by simp)
          have O5 := OX.kept0 hg5
          have G5 := gr_0 G4 hg5
          clear e3 FX R4 OX G4 hg5 x0 x1
          cases br with
          | false =>
            have HF := hid (show joinB s ms x = false by rw [HT.out]; rfl)
            have r0 := R5.cellAt 0 (v := .int .i64 0) rfl
            have r1 := R5.cellAt 1 (v := .slice none 0 0) rfl
            have f0 := R5.free 0
            have f1 := R5.free 1
            have NO := hid (show joinB s ms x = false → GlTo w (joinN s ms x) (joinL s ms x) (joinB s ms x) (.returned (.tuple #[.agg #[.int .i64 0, .slice none 0 0], .bool false])) ((w5.setCell ⟨rb, 0, none⟩ (.int .i64 0)).setCell ⟨rb, 1, none⟩ (.slice none 0 0)) from fun hT => by
              obtain ⟨a1, a2⟩ := join_no hT
              rw [a1, a2, hT]
              exact ⟨none, 0, 0, rfl, Own.nil _, rfl, gr_put (gr_put G5 (by omega) _) (by omega) _⟩)
            go_wp2_with fail
            refine bodyPost_ret (v := .tuple #[.agg #[.int .i64 0, .slice none 0 0], .bool false]) ?_ rfl (NO.out HF.out)
            simp [results, Try.results16, go_sem, r0, r1]
          | true =>
            have HF := hid (show joinB s ms x = true by rw [HT.out]; rfl)
            have r0 := R5.cellAt 0 (v := .int .i64 0) rfl
            have r1 := R5.cellAt 1 (v := .slice none 0 0) rfl
            have f0 := R5.free 0
            have f1 := R5.free 1
            have x0 := X5.cellAt 0 (v := .int .i64 s) rfl
            have x1 := X5.cellAt 1 (v := .slice L nL cL) rfl
            have O6 := ((O5.put R5 (by decide) 0 (.int .i64 s)).put (R5.set 0 _) (by decide) 1 (.slice L nL cL)).base_le (show w.heap.size ≤ w2.heap.size by omega)
            have HO6 := hid O6
            clear O5 O6
            go_wp2_with fail
            refine bodyPost_ret (v := .tuple #[.agg #[.int .i64 s, .slice L nL cL], .bool true]) ?_ rfl ?_
            · simp [results, Try.results16, go_sem, r0, r1]
            · obtain ⟨y1, y2⟩ := join_yes HF.out
              rw [y1, y2, HF.out]
              exact ⟨L, nL, cL, rfl, HO6.out, HLX.out, gr_put (gr_put G5 (by omega) _) (by omega) _⟩

/-- What GroupJoin leaves. -/
def GjTo (w : World) (s : Int) (l : List ByteArray) (b : Bool) (e : Ending) (w' : World) : Prop :=
  ∃ (A : Option Addr) (n c : Nat), e = .returned (.tuple #[.agg #[.int .i64 s, .slice A n c], .bool b]) ∧ SArg w' A n c l ∧ w.grownBy w' none
theorem sarg_none (w : World) : SArg w none 0 0 [] := ⟨.inl rfl, rfl, Nat.le_refl _, by simp [maxLen], by simp⟩
theorem insp_any (base b n vb p : Nat) (ms : List ByteArray) (x : ByteArray) (w : World) (h : Own w base 9 1 (some ⟨b, 0, none⟩) n (n + 1) (strs ms)) (hv : Full w vb 9 #[.string x]) (hne : vb ≠ b) (hn : n ≤ 1000) (hp : posOf x ms = p) :
    Calls Try.prog 47 #[.slice (some ⟨b, 0, none⟩) n (n + 1), .int .i64 (p : Int), .slice (some ⟨vb, 0, none⟩) 1 1] w fun e w' =>
      e = .returned (.slice (some ⟨b, 0, none⟩) (n + 1) (n + 1)) ∧ Lies w' (some ⟨b, 0, none⟩) (strs (putIn x ms)) ∧ w.grownBy w' (some b) := by
  subst hp
  exact ins_any base b n vb ms x w h hv hne hn

set_option maxHeartbeats 4000000 in
theorem gj_any (s : Int) (A : Option Addr) (n c : Nat) (ms : List ByteArray) (x : ByteArray) (w : World) (h : SArg w A n c ms) (hx : x.size ≤ maxLen) :
    Calls Try.prog 15 #[.agg #[.int .i64 s, .slice A n c], .string x] w (GjTo w (joinN s ms x) (joinL s ms x) (joinB s ms x)) := by
  have E0 := (Full.new w 25 #[.int .i64 s, .slice A n c]).alloc (.cells #[.int .i64 0, .slice none 0 0] 25)
  have R0 := Full.newAt (w := w.alloc (.cells #[.int .i64 s, .slice A n c] 25)) (t := 25) (cs := #[.int .i64 0, .slice none 0 0]) (H := w.heap.size + 1) (by simp)
  have h0 := (h.alloc (.cells #[.int .i64 s, .slice A n c] 25)).alloc (.cells #[.int .i64 0, .slice none 0 0] 25)
  have G0 := gr_alloc (gr_alloc (gr_refl w none) (.cells #[.int .i64 s, .slice A n c] 25)) (.cells #[.int .i64 0, .slice none 0 0] 25)
  obtain ⟨b, hb⟩ : ∃ b, grpB s ms = b := ⟨_, rfl⟩
  obtain ⟨bw, hbw⟩ : ∃ b, wordB x = b := ⟨_, rfl⟩
  obtain ⟨bh, hbh⟩ : ∃ b, hasB x ms = b := ⟨_, rfl⟩
  obtain ⟨br, hbr⟩ : ∃ b, grpB s (putIn x ms) = b := ⟨_, rfl⟩
  have e1 := gv_is s A n c ms b _ h0 hb
  have HB := hid hb
  have HBw := hid hbw
  have HBh := hid hbh
  have HBr := hid hbr
  have HT := hid (show joinB s ms x = (b && (bw && (!bh && br))) by rw [joinB, hb, hbw, hbh, hbr])
  have c0 := E0.cellAt 0 (v := .int .i64 s) rfl
  have c1 := E0.cellAt 1 (v := .slice A n c) rfl
  have HXz := hid hx
  clear h hb hbw hbh hbr hx
  obtain ⟨rb, hrb⟩ : ∃ rb, w.heap.size + 1 = rb := ⟨_, rfl⟩
  rw [hrb] at R0
  have hrb1 : w.heap.size < rb := by omega
  go_enter Try.func15, Try.ntmps15
  go_wp2_with fail
  clear hrb
  refine e1.mono ?_
  rintro e w1 ⟨rfl, hg1⟩
  have h1 := h0.grown0 hg1
  have E1 := E0.grown hg1 (by simp)
  have R1 := R0.grown hg1 (by simp)
  have G1 := gr_0 G0 hg1
  have hs1 := G1.size
  clear e1 h0 E0 R0 G0 hg1 c0 c1
  cases b with
  | false =>
    have HF := hid (show joinB s ms x = false by rw [HT.out]; rfl)
    have r0 := R1.cellAt 0 (v := .int .i64 0) rfl
    have r1 := R1.cellAt 1 (v := .slice none 0 0) rfl
    have f0 := R1.free 0
    have f1 := R1.free 1
    have NO := hid (show joinB s ms x = false → GjTo w (joinN s ms x) (joinL s ms x) (joinB s ms x) (.returned (.tuple #[.agg #[.int .i64 0, .slice none 0 0], .bool false])) ((w1.setCell ⟨rb, 0, none⟩ (.int .i64 0)).setCell ⟨rb, 1, none⟩ (.slice none 0 0)) from fun hT => by
      obtain ⟨a1, a2⟩ := join_no hT
      rw [a1, a2, hT]
      exact ⟨none, 0, 0, rfl, sarg_none _, gr_put (gr_put G1 (by omega) _) (by omega) _⟩)
    go_wp2_with fail
    refine bodyPost_ret (v := .tuple #[.agg #[.int .i64 0, .slice none 0 0], .bool false]) ?_ rfl (NO.out HF.out)
    simp [results, Try.results15, go_sem, r0, r1]
  | true =>
    have ew := fun w => word_is x bw w HXz.out HBw.out
    go_wp2_with fail
    refine (ew _).mono ?_
    rintro e w_ ⟨rfl, rfl⟩
    clear ew
    cases bw with
    | false =>
      have HF := hid (show joinB s ms x = false by rw [HT.out]; rfl)
      have r0 := R1.cellAt 0 (v := .int .i64 0) rfl
      have r1 := R1.cellAt 1 (v := .slice none 0 0) rfl
      have f0 := R1.free 0
      have f1 := R1.free 1
      have NO := hid (show joinB s ms x = false → GjTo w (joinN s ms x) (joinL s ms x) (joinB s ms x) (.returned (.tuple #[.agg #[.int .i64 0, .slice none 0 0], .bool false])) ((w1.setCell ⟨rb, 0, none⟩ (.int .i64 0)).setCell ⟨rb, 1, none⟩ (.slice none 0 0)) from fun hT => by
        obtain ⟨a1, a2⟩ := join_no hT
        rw [a1, a2, hT]
        exact ⟨none, 0, 0, rfl, sarg_none _, gr_put (gr_put G1 (by omega) _) (by omega) _⟩)
      go_wp2_with fail
      refine bodyPost_ret (v := .tuple #[.agg #[.int .i64 0, .slice none 0 0], .bool false]) ?_ rfl (NO.out HF.out)
      simp [results, Try.results15, go_sem, r0, r1]
    | true =>
      obtain ⟨⟨hs1', hs8⟩, ⟨hn1, hn6⟩, _, hasc⟩ := grpB_iff.1 HB.out
      have hNl := h1.len
      have hn6' : n ≤ 6 := by omega
      have hn1' : 0 < n := by omega
      have e2 := bs_any A n c ms x _ h1 hn1' (by omega) hasc
      rw [HBh.out] at e2
      have c1 := E1.cellAt 1 (v := .slice A n c) rfl
      have hple := pos_le x ms
      obtain ⟨p, hp⟩ : ∃ p, posOf x ms = p := ⟨_, rfl⟩
      rw [hp] at e2 hple
      have HP := hid hp
      go_wp2_with fail
      refine e2.mono ?_
      rintro e w2 ⟨rfl, hg2⟩
      have h2 := h1.grown0 hg2
      have E2 := E1.grown hg2 (by simp)
      have R2 := R1.grown hg2 (by simp)
      have G2 := gr_0 G1 hg2
      clear e2 h1 E1 R1 G1 hg2 c1 hp
      cases bh with
      | true =>
        have HF := hid (show joinB s ms x = false by rw [HT.out]; rfl)
        have r0 := R2.cellAt 0 (v := .int .i64 0) rfl
        have r1 := R2.cellAt 1 (v := .slice none 0 0) rfl
        have f0 := R2.free 0
        have f1 := R2.free 1
        have NO := hid (show joinB s ms x = false → GjTo w (joinN s ms x) (joinL s ms x) (joinB s ms x) (.returned (.tuple #[.agg #[.int .i64 0, .slice none 0 0], .bool false])) ((w2.setCell ⟨rb, 0, none⟩ (.int .i64 0)).setCell ⟨rb, 1, none⟩ (.slice none 0 0)) from fun hT => by
          obtain ⟨a1, a2⟩ := join_no hT
          rw [a1, a2, hT]
          exact ⟨none, 0, 0, rfl, sarg_none _, gr_put (gr_put G2 (by omega) _) (by omega) _⟩)
        go_wp2_with fail
        refine bodyPost_ret (v := .tuple #[.agg #[.int .i64 0, .slice none 0 0], .bool false]) ?_ rfl (NO.out HF.out)
        simp [results, Try.results15, go_sem, r0, r1]
      | false =>
        go_upto_region 6 with (fail)
        have c0 := E2.cellAt 0 (v := .int .i64 s) rfl
        have c1 := E2.cellAt 1 (v := .slice A n c) rfl
        have hC1 : ∀ w' : World, w2.grownBy w' none → w'.cell? ⟨w.heap.size, 1, none⟩ = some (.slice A n c) := fun w' h => h.cell c1 (by simp)
        obtain ⟨gA, oA, hAe, hgA, hcell⟩ := h2.li.open_ (by rw [strs_len, h2.len]; exact hn1')
        subst hAe
        have HCell := hid (fun (w' : World) (h : w2.grownBy w' none) (j : Nat) (u : Value) (hu : (strs ms)[j]? = some u) => h.cell (a := ⟨gA, oA + j, none⟩) (hcell j u hu) (by simp))
        have HLEN := hid (show (strs ms).length = n * 1 by rw [strs_len, h2.len, Nat.mul_one])
        have HN := hid h2.len
        have hmk := run_madeS n (by omega)
        have HE2 := hid E2
        have HR2 := hid R2
        have HAsc := hid hasc
        have hs2 := G2.size
        have hRl := R2.lt
        have hEl := E2.lt
        have HSzs := hid (show ∀ y ∈ putIn x ms, y.size ≤ maxLen from fun y hy => by
          rcases putIn_mem hy with rfl | hy
          · exact HXz.out
          · exact h2.sz y hy)
        have i1 : IntKind.i64.wrap ((n : Int) + 1) = (n : Int) + 1 := IntWalk.i64_in _ (by omega)
        clear c0 c1 h2 E2 R2 hasc hcell
        go_cut [8] (fun s8 wx => s8 = .slice (some ⟨w2.heap.size, 0, none⟩) n (n + 1) ∧ Own wx w2.heap.size 9 1 (some ⟨w2.heap.size, 0, none⟩) n (n + 1) (strs ms) ∧ w2.grownBy wx none)
        case first =>
          go_region_held3 (fun w' => w2.grownBy w' none) (((repeat (first | (with_reducible assumption) | (with_reducible exact gr_refl _ _) | (with_reducible refine gr_alloc ?_ _) | (with_reducible refine gr_drew ?_) | (with_reducible refine gr_put ?_ (by omega) _))); (first | done | fail "left")))
            ((refine step_fits _ rfl (.tmp 32) (.tmp 34) 23 rfl w2.heap.size 9 Try.underlying23 strInfo w2.heap.size 0 (n + 1) [] (by rfl) ?o1 gA oA n c (strs ms) (by rfl) ?l1 HLEN.out (strs_one _) (by omega) ?_
              case o1 => repeat (first | (with_reducible assumption) | (with_reducible exact own_made _ n _ _ (by first | rfl | simp) (Nat.le_refl _) (by omega)) | (with_reducible refine Own.alloc ?_ _) | (with_reducible refine Own.drew ?_))
              case l1 => exact fun j u hu => HCell.out _ (by ((repeat (first | (with_reducible assumption) | (with_reducible exact gr_refl _ _) | (with_reducible refine gr_alloc ?_ _) | (with_reducible refine gr_drew ?_) | (with_reducible refine gr_put ?_ (by omega) _))); (first | done | fail "left"))) j u hu
              intro w5 hown5 hg5
              rw [Nat.zero_add, List.nil_append] at hown5
              have K5 : w2.grownBy w5 none := gr_then (by ((repeat (first | (with_reducible assumption) | (with_reducible exact gr_refl _ _) | (with_reducible refine gr_alloc ?_ _) | (with_reducible refine gr_drew ?_) | (with_reducible refine gr_put ?_ (by omega) _))); (first | done | fail "left"))) hg5 (by rintro g hg; injection hg with hg; subst hg; exact .inr (Nat.le_refl _))
              have e5 : 0 + n = n := Nat.zero_add n
              try rw [e5]
              clear e5 hg5
              skip))
          all_goals
            go_wp2_with fail
            go_meet
            case rel => exact ⟨by first | rfl | simp, hown5, K5⟩
        case rest =>
          obtain ⟨rfl, OX, GX⟩ := hcut
          have E4 := HE2.out.grown GX (by simp)
          have R4 := HR2.out.grown GX (by simp)
          have G4 := gr_0 G2 GX
          have hwc : w2.heap.size < wc.heap.size := (OX.block (b := w2.heap.size) rfl).2
          have HOX := hid OX
          have c0 := E4.cellAt 0 (v := .int .i64 s) rfl
          have HR4 := hid R4
          obtain ⟨hm, hhm⟩ : ∃ q, w2.heap.size = q := ⟨_, rfl⟩
          rw [hhm] at hwc HOX hs2 hRl hEl
          have hC0 : ∀ w' : World, wc.grownBy w' (some hm) → w'.cell? ⟨w.heap.size, 0, none⟩ = some (.int .i64 s) := fun w' h => h.cell c0 (by simp; omega)
          clear hC1 HCell hmk HE2 HR2 GX E4 R4 OX c0
          rw [hhm]
          clear hhm
          obtain ⟨wd, hwd⟩ : ∃ wd, wd = wc := ⟨_, rfl⟩
          subst hwd
          have hne0 : ∀ b, blockOf (some (⟨hm, 0, none⟩ : Addr)) = some b → b ≠ wd.heap.size := fun b hb => by injection hb with hb; simp at hb; omega
          have hne1 : ∀ b, blockOf (some (⟨hm, 0, none⟩ : Addr)) = some b → b ≠ wd.heap.size + 1 := fun b hb => by injection hb with hb; simp at hb; omega
          go_wp2_with fail
          go_cut [9] (fun s9 wx => ∃ gx : Nat, s9 = .pointer (some ⟨gx, 0, none⟩) ∧ Full wx gx 25 #[.int .i64 s, .slice (some ⟨hm, 0, none⟩) (n + 1) (n + 1)] ∧ wd.heap.size ≤ gx ∧ Lies wx (some ⟨hm, 0, none⟩) (strs (putIn x ms)) ∧ wd.grownBy wx (some hm))
          case first =>
            go_region_held3 (fun w' => wd.grownBy w' (some hm)) (((repeat (first | (with_reducible assumption) | (with_reducible exact gr_refl _ _) | (with_reducible refine gr_alloc ?_ _) | (with_reducible refine gr_drew ?_) | (with_reducible refine gr_put ?_ (by omega) _) | (with_reducible refine gr_trans ?_ hg5))); (first | done | fail "left")))
              (first
                | (go_at_call_of 47 (Value.slice (some ⟨wd.heap.size, 0, none⟩) 1 1)
                   refine (insp_any hm hm n (wd.heap.size) p ms x _ ?o1 ?f1 (by omega) (by omega) HP.out).mono ?_
                   case o1 => repeat (first | (with_reducible exact HOX.out) | (with_reducible assumption) | (with_reducible refine Own.alloc ?_ _) | (with_reducible refine Own.drew ?_))
                   case f1 => ((repeat (first | (with_reducible assumption) | (with_reducible exact Full.newAt (by first | (simp; done) | fail "sz")) | (with_reducible refine Full.alloc ?_ _) | (with_reducible refine Full.drew ?_) | (with_reducible refine Full.set ?_ _ _))); (first | done | fail "left"))
                   rintro e w5 ⟨rfl, hL5, hg5⟩
                   have s5 := hg5.size
                   try simp at s5
                   try (have Y0 : Full w5 (wd.heap.size) 25 #[.int .i64 0, .slice none 0 0] := Full.grown (by ((repeat (first | (with_reducible assumption) | (with_reducible exact Full.newAt (by first | (simp; done) | fail "sz")) | (with_reducible refine Full.alloc ?_ _) | (with_reducible refine Full.drew ?_) | (with_reducible refine Full.set ?_ _ _))); (first | done | fail "left"))) hg5 (by simp; omega); have Y0a := Y0.cellAt 0 (v := .int .i64 0) rfl; have Y0b := Y0.cellAt 1 (v := .slice none 0 0) rfl; have Y0c := Y0.free 0; have Y0d := Y0.free 1)
                   try (have Y1 : Full w5 (wd.heap.size + 1) 25 #[.int .i64 0, .slice none 0 0] := Full.grown (by ((repeat (first | (with_reducible assumption) | (with_reducible exact Full.newAt (by first | (simp; done) | fail "sz")) | (with_reducible refine Full.alloc ?_ _) | (with_reducible refine Full.drew ?_) | (with_reducible refine Full.set ?_ _ _))); (first | done | fail "left"))) hg5 (by simp; omega); have Y1a := Y1.cellAt 0 (v := .int .i64 0) rfl; have Y1b := Y1.cellAt 1 (v := .slice none 0 0) rfl; have Y1c := Y1.free 0; have Y1d := Y1.free 1)
                   skip)
                | (go_at_call 47
                   refine (insp_any hm hm n (wd.heap.size + 1) p ms x _ ?o1 ?f1 (by omega) (by omega) HP.out).mono ?_
                   case o1 => repeat (first | (with_reducible exact HOX.out) | (with_reducible assumption) | (with_reducible refine Own.alloc ?_ _) | (with_reducible refine Own.drew ?_))
                   case f1 => ((repeat (first | (with_reducible assumption) | (with_reducible exact Full.newAt (by first | (simp; done) | fail "sz")) | (with_reducible refine Full.alloc ?_ _) | (with_reducible refine Full.drew ?_) | (with_reducible refine Full.set ?_ _ _))); (first | done | fail "left"))
                   rintro e w5 ⟨rfl, hL5, hg5⟩
                   have s5 := hg5.size
                   try simp at s5
                   try (have Y0 : Full w5 (wd.heap.size) 25 #[.int .i64 0, .slice none 0 0] := Full.grown (by ((repeat (first | (with_reducible assumption) | (with_reducible exact Full.newAt (by first | (simp; done) | fail "sz")) | (with_reducible refine Full.alloc ?_ _) | (with_reducible refine Full.drew ?_) | (with_reducible refine Full.set ?_ _ _))); (first | done | fail "left"))) hg5 (by simp; omega); have Y0a := Y0.cellAt 0 (v := .int .i64 0) rfl; have Y0b := Y0.cellAt 1 (v := .slice none 0 0) rfl; have Y0c := Y0.free 0; have Y0d := Y0.free 1)
                   try (have Y1 : Full w5 (wd.heap.size + 1) 25 #[.int .i64 0, .slice none 0 0] := Full.grown (by ((repeat (first | (with_reducible assumption) | (with_reducible exact Full.newAt (by first | (simp; done) | fail "sz")) | (with_reducible refine Full.alloc ?_ _) | (with_reducible refine Full.drew ?_) | (with_reducible refine Full.set ?_ _ _))); (first | done | fail "left"))) hg5 (by simp; omega); have Y1a := Y1.cellAt 0 (v := .int .i64 0) rfl; have Y1b := Y1.cellAt 1 (v := .slice none 0 0) rfl; have Y1c := Y1.free 0; have Y1d := Y1.free 1)
                   skip))
            all_goals
              go_wp2_with fail
              go_meet
              case rel =>
                refine ⟨_, rfl, ?_, ?_, ?_, ?_⟩
                · repeat (first | (with_reducible assumption) | (with_reducible exact Full.newAt (by first | (simp; done) | fail "sz")) | (with_reducible refine Full.alloc ?_ _) | (with_reducible refine Full.drew ?_) | (with_reducible refine set2j ?_ _ _))
                · first | omega | (simp; done) | (simp; omega)
                · repeat (first | (with_reducible assumption) | (with_reducible refine Lies.alloc ?_ _) | (with_reducible refine Lies.drew ?_) | (with_reducible refine lies_put2j ?_ hne0 _ _) | (with_reducible refine lies_put2j ?_ hne1 _ _))
                · ((repeat (first | (with_reducible assumption) | (with_reducible exact gr_refl _ _) | (with_reducible refine gr_alloc ?_ _) | (with_reducible refine gr_drew ?_) | (with_reducible refine gr_put ?_ (by omega) _) | (with_reducible refine gr_trans ?_ hg5))); (first | done | fail "left"))
          case rest =>
            obtain ⟨gx, rfl, FX, hgx, LX, GX⟩ := hcut
            have R5 := HR4.out.grown GX (by intro e; injection e with e; omega)
            have G5 := gr_new G4 GX (by omega)
            have HLp := hid (show (putIn x ms).length = n + 1 by rw [putIn_len, HN.out])
            have SX : SArg wc (some ⟨hm, 0, none⟩) (n + 1) (n + 1) (putIn x ms) := ⟨LX, HLp.out, Nat.le_refl _, by simp only [maxLen]; omega, HSzs.out⟩
            have e3 := gv_is s (some ⟨hm, 0, none⟩) (n + 1) (n + 1) (putIn x ms) br _ SX HBr.out
            have x0 := FX.cellAt 0 (v := .int .i64 s) rfl
            have x1 := FX.cellAt 1 (v := .slice (some ⟨hm, 0, none⟩) (n + 1) (n + 1)) rfl
            clear hC0 HOX HR4 GX SX
            go_wp2_with fail
            refine e3.mono ?_
            rintro e w6 ⟨rfl, hg6⟩
            have X6 := FX.grown hg6 (by simp)
            have R6 := R5.grown hg6 (by simp)
            have L6 := LX.grown0 hg6
            have G6 := gr_0 G5 hg6
            clear e3 FX R5 LX G5 hg6 x0 x1
            cases br with
            | false =>
              have HF := hid (show joinB s ms x = false by rw [HT.out]; rfl)
              have r0 := R6.cellAt 0 (v := .int .i64 0) rfl
              have r1 := R6.cellAt 1 (v := .slice none 0 0) rfl
              have f0 := R6.free 0
              have f1 := R6.free 1
              have NO := hid (show joinB s ms x = false → GjTo w (joinN s ms x) (joinL s ms x) (joinB s ms x) (.returned (.tuple #[.agg #[.int .i64 0, .slice none 0 0], .bool false])) ((w6.setCell ⟨rb, 0, none⟩ (.int .i64 0)).setCell ⟨rb, 1, none⟩ (.slice none 0 0)) from fun hT => by
                obtain ⟨a1, a2⟩ := join_no hT
                rw [a1, a2, hT]
                exact ⟨none, 0, 0, rfl, sarg_none _, gr_put (gr_put G6 (by omega) _) (by omega) _⟩)
              go_wp2_with fail
              refine bodyPost_ret (v := .tuple #[.agg #[.int .i64 0, .slice none 0 0], .bool false]) ?_ rfl (NO.out HF.out)
              simp [results, Try.results15, go_sem, r0, r1]
            | true =>
              have HF := hid (show joinB s ms x = true by rw [HT.out]; rfl)
              have r0 := R6.cellAt 0 (v := .int .i64 0) rfl
              have r1 := R6.cellAt 1 (v := .slice none 0 0) rfl
              have f0 := R6.free 0
              have f1 := R6.free 1
              have x0 := X6.cellAt 0 (v := .int .i64 s) rfl
              have x1 := X6.cellAt 1 (v := .slice (some ⟨hm, 0, none⟩) (n + 1) (n + 1)) rfl
              have L7 := lies_put2j (g := rb) L6 (fun b hb => by injection hb with hb; simp at hb; omega) (.int .i64 s) (.slice (some ⟨hm, 0, none⟩) (n + 1) (n + 1))
              have HL7 := hid L7
              clear L6 L7
              go_wp2_with fail
              refine bodyPost_ret (v := .tuple #[.agg #[.int .i64 s, .slice (some ⟨hm, 0, none⟩) (n + 1) (n + 1)], .bool true]) ?_ rfl ?_
              · simp [results, Try.results15, go_sem, r0, r1]
              · obtain ⟨y1, y2⟩ := join_yes HF.out
                rw [y1, y2, HF.out]
                exact ⟨some ⟨hm, 0, none⟩, n + 1, n + 1, rfl, ⟨HL7.out, HLp.out, Nat.le_refl _, by simp only [maxLen]; omega, HSzs.out⟩, gr_put (gr_put G6 (by omega) _) (by omega) _⟩
end Go.Proofs.Ytmjficimnkbonaa
